/- The laws' own functions on kept traffic and power buffers: eq. -/
import Derived.Test.YtbfbjkcmehalhaaKTl
import Derived.Test.YtbfbjkcmehalhaaSSe
import Derived.Test.YtbfbjkcmehalhaaHeld
namespace Go.Proofs.Ytbfbjkcmehalhaa
open Go.RowKit
set_option linter.unusedVariables false
set_option linter.unusedSimpArgs false

set_option maxHeartbeats 1000000 in
theorem eqKT_any {T1 T2 : Nat → Prop} {s1 s2 : Int} {a1 a2 : Bool} {l1 l2 : Int} {x y : List (List Int)} {b : Bool} (hb : (s1 == s2 && (a1 == a2 && (x == y && l1 == l2))) = b) (A B : Option Addr) (c1 c2 : Nat) (w : World) (hx : Sl false 1 (EB false) w T1 A x) (hy : Sl false 1 (EB false) w T2 B y) (hm : x.length ≤ 1000000000000) (hm2 : y.length ≤ 1000000000000)
    (hmx : ∀ f ∈ x, f.length ≤ 1000000000000) (hmy : ∀ f ∈ y, f.length ≤ 1000000000000) :
    Calls Try.prog 52 #[.agg #[.int .i64 s1, .bool a1, .slice A x.length c1, .int .i64 l1], .agg #[.int .i64 s2, .bool a2, .slice B y.length c2, .int .i64 l2]] w fun e w' => e = .returned (.bool b) ∧ Below w.heap.size w w' := by
  have HX := Lib.hid hx
  have HY := Lib.hid hy
  have HMX := Lib.hid hmx
  have HMY := Lib.hid hmy
  clear hx hy hmx hmy
  by_cases hs : s1 = s2
  · subst hs
    by_cases ha : a1 = a2
    · subst ha
      have HB : Hid ((x == y && l1 == l2) = b) := Lib.hid (by simpa using hb)
      clear hb
      have haa : (a1 != a1) = false := by simp
      cases hxy : (x == y)
      · have hbf : b = false := by rw [← HB.out, hxy]; rfl
        subst hbf
        have XY := Lib.hid hxy
        clear hxy HB
        go_enter Try.func52, Try.ntmps52
        go_wp2_with fail
        refine (eqByteSS_q A B c1 c2 x y _ (Sl.below (R := EB false) EB.framed HX.out (by repeat (first | (with_reducible exact Below.refl _ _) | (with_reducible refine Below.ext ?_ (by go_size) _ _) | (with_reducible refine Below.alloc ?_ (by go_size) _) | (with_reducible refine Below.setCell ?_ (by go_size) _) | (with_reducible refine Below.drew ?_) | (with_reducible refine Below.drewN_ ?_ _)))) (Sl.below (R := EB false) EB.framed HY.out (by repeat (first | (with_reducible exact Below.refl _ _) | (with_reducible refine Below.ext ?_ (by go_size) _ _) | (with_reducible refine Below.alloc ?_ (by go_size) _) | (with_reducible refine Below.setCell ?_ (by go_size) _) | (with_reducible refine Below.drew ?_) | (with_reducible refine Below.drewN_ ?_ _)))) hm hm2 HMX.out HMY.out).mono ?_
        rw [XY.out]
        rintro e w1 ⟨rfl, hd⟩
        have hb1 := hd.below
        obtain ⟨X, d, rfl⟩ := Below.ext_ hb1
        clear hd hb1
        go_wp2
        go_ret
        exact ⟨rfl, (by repeat (first | (with_reducible exact Below.refl _ _) | (with_reducible refine Below.ext ?_ (by go_size) _ _) | (with_reducible refine Below.alloc ?_ (by go_size) _) | (with_reducible refine Below.setCell ?_ (by go_size) _) | (with_reducible refine Below.drew ?_) | (with_reducible refine Below.drewN_ ?_ _)))⟩
      · have XY := Lib.hid hxy
        have HB2 : Hid ((l1 == l2) = b) := Lib.hid (by rw [← HB.out, hxy]; rfl)
        clear hxy HB
        by_cases hl : l1 = l2
        · subst hl
          obtain rfl : b = true := by rw [← HB2.out]; simp
          go_enter Try.func52, Try.ntmps52
          go_wp2_with fail
          refine (eqByteSS_q A B c1 c2 x y _ (Sl.below (R := EB false) EB.framed HX.out (by repeat (first | (with_reducible exact Below.refl _ _) | (with_reducible refine Below.ext ?_ (by go_size) _ _) | (with_reducible refine Below.alloc ?_ (by go_size) _) | (with_reducible refine Below.setCell ?_ (by go_size) _) | (with_reducible refine Below.drew ?_) | (with_reducible refine Below.drewN_ ?_ _)))) (Sl.below (R := EB false) EB.framed HY.out (by repeat (first | (with_reducible exact Below.refl _ _) | (with_reducible refine Below.ext ?_ (by go_size) _ _) | (with_reducible refine Below.alloc ?_ (by go_size) _) | (with_reducible refine Below.setCell ?_ (by go_size) _) | (with_reducible refine Below.drew ?_) | (with_reducible refine Below.drewN_ ?_ _)))) hm hm2 HMX.out HMY.out).mono ?_
          rw [XY.out]
          rintro e w1 ⟨rfl, hd⟩
          have hb1 := hd.below
          obtain ⟨X, d, rfl⟩ := Below.ext_ hb1
          clear hd hb1
          go_wp2
          go_ret
          exact ⟨rfl, (by repeat (first | (with_reducible exact Below.refl _ _) | (with_reducible refine Below.ext ?_ (by go_size) _ _) | (with_reducible refine Below.alloc ?_ (by go_size) _) | (with_reducible refine Below.setCell ?_ (by go_size) _) | (with_reducible refine Below.drew ?_) | (with_reducible refine Below.drewN_ ?_ _)))⟩
        · obtain rfl : b = false := by rw [← HB2.out]; simp [hl]
          have hne : (l1 != l2) = true := by simp [hl]
          go_enter Try.func52, Try.ntmps52
          go_wp2_with fail
          refine (eqByteSS_q A B c1 c2 x y _ (Sl.below (R := EB false) EB.framed HX.out (by repeat (first | (with_reducible exact Below.refl _ _) | (with_reducible refine Below.ext ?_ (by go_size) _ _) | (with_reducible refine Below.alloc ?_ (by go_size) _) | (with_reducible refine Below.setCell ?_ (by go_size) _) | (with_reducible refine Below.drew ?_) | (with_reducible refine Below.drewN_ ?_ _)))) (Sl.below (R := EB false) EB.framed HY.out (by repeat (first | (with_reducible exact Below.refl _ _) | (with_reducible refine Below.ext ?_ (by go_size) _ _) | (with_reducible refine Below.alloc ?_ (by go_size) _) | (with_reducible refine Below.setCell ?_ (by go_size) _) | (with_reducible refine Below.drew ?_) | (with_reducible refine Below.drewN_ ?_ _)))) hm hm2 HMX.out HMY.out).mono ?_
          rw [XY.out]
          rintro e w1 ⟨rfl, hd⟩
          have hb1 := hd.below
          obtain ⟨X, d, rfl⟩ := Below.ext_ hb1
          clear hd hb1
          go_wp2
          go_ret
          exact ⟨rfl, (by repeat (first | (with_reducible exact Below.refl _ _) | (with_reducible refine Below.ext ?_ (by go_size) _ _) | (with_reducible refine Below.alloc ?_ (by go_size) _) | (with_reducible refine Below.setCell ?_ (by go_size) _) | (with_reducible refine Below.drew ?_) | (with_reducible refine Below.drewN_ ?_ _)))⟩
    · have hb2 : b = false := by rw [← hb]; simp [ha]
      subst hb2
      have hne : (a1 == a2) = false := by simpa using ha
      clear hb
      go_enter Try.func52, Try.ntmps52
      go_wp2
      go_ret
      exact ⟨rfl, (by repeat (first | (with_reducible exact Below.refl _ _) | (with_reducible refine Below.ext ?_ (by go_size) _ _) | (with_reducible refine Below.alloc ?_ (by go_size) _) | (with_reducible refine Below.setCell ?_ (by go_size) _) | (with_reducible refine Below.drew ?_) | (with_reducible refine Below.drewN_ ?_ _)))⟩
  · have hb2 : b = false := by rw [← hb]; simp [hs]
    subst hb2
    have hne : (s1 != s2) = true := by simp [hs]
    clear hb
    go_enter Try.func52, Try.ntmps52
    go_wp2
    go_ret
    exact ⟨rfl, (by repeat (first | (with_reducible exact Below.refl _ _) | (with_reducible refine Below.ext ?_ (by go_size) _ _) | (with_reducible refine Below.alloc ?_ (by go_size) _) | (with_reducible refine Below.setCell ?_ (by go_size) _) | (with_reducible refine Below.drew ?_) | (with_reducible refine Below.drewN_ ?_ _)))⟩
theorem kt_eq (s1 s2 : Int) (a1 a2 : Bool) (l1 l2 : Int) (x y : List (List Int)) : ((⟨s1, a1, x, l1⟩ : KT) = ⟨s2, a2, y, l2⟩) ↔ (s1 == s2 && (a1 == a2 && (x == y && l1 == l2))) = true := by
  simp only [KT.mk.injEq, Bool.and_eq_true, beq_iff_eq]

set_option maxHeartbeats 4000000 in
theorem eqKTS_any {T1 T2 : Nat → Prop} (A B : Option Addr) (c1 c2 : Nat) (xs ys : List KT) (w : World) (hx : Sl false 4 (EK false) w T1 A xs) (hy : Sl false 4 (EK false) w T2 B ys) (hm : xs.length ≤ 1000000000000) (hm2 : ys.length ≤ 1000000000000)
    (hmx : ∀ x ∈ xs, x.fr.length ≤ 1000000000000 ∧ ∀ f ∈ x.fr, f.length ≤ 1000000000000) (hmy : ∀ x ∈ ys, x.fr.length ≤ 1000000000000 ∧ ∀ f ∈ x.fr, f.length ≤ 1000000000000) :
    Calls Try.prog 37 #[.slice A xs.length c1, .slice B ys.length c2] w fun e w' => e = .returned (.bool (decide (xs = ys))) ∧ Below w.heap.size w w' := by
  have HMX := Lib.hid hmx
  have HMY := Lib.hid hmy
  clear hmx hmy
  by_cases hl : xs.length = ys.length
  · have hl2 : ((xs.length : Int) != (ys.length : Int)) = false := by simp; omega
    have hlle : ys.length ≤ xs.length ∧ xs.length ≤ ys.length := by omega
    obtain ⟨hl3, hl4⟩ := hlle
    have HL := Lib.hid hl
    have HX := Lib.hid hx
    have HY := Lib.hid hy
    clear hl hx hy
    go_enter Try.func37, Try.ntmps37
    go_wp2
    go_loopw [5] (fun i wr => ∃ k : Nat, k ≤ xs.length ∧ i = .int .i64 (k : Int) ∧ Hid (Below w.heap.size w wr) ∧ Hid (∀ j, j < k → xs[j]? = ys[j]?)) (fun i _ => xs.length - (intOf i).toNat)
    case atStart => exact ⟨0, Nat.zero_le _, rfl, Lib.hid (Below.refl _ _), Lib.hid (fun j hj => absurd hj (by omega))⟩
    case round =>
      obtain ⟨k, hk, rfl, HB, heq⟩ := hrel
      have hws := HB.out.size
      by_cases hlt : k < xs.length
      · have hlty : k < ys.length := by omega
        obtain ⟨g1, o1, F1, rfl, hg1, ⟨hc01, hc11, hc31, _, ⟨B1, d1, hc21, _, hr1⟩⟩, _, _⟩ := HX.out.at_ k hlt
        obtain ⟨g2, o2, F2, rfl, hg2, ⟨hc02, hc12, hc32, _, ⟨B2, d2, hc22, _, hr2⟩⟩, _, _⟩ := HY.out.at_ k hlty
        have hgw1 : g1 < wr.heap.size := by omega
        have hgw2 : g2 < wr.heap.size := by omega
        have R1 := Lib.hid (Sl.below (R := EB false) EB.framed hr1 HB.out)
        have R2 := Lib.hid (Sl.below (R := EB false) EB.framed hr2 HB.out)
        have L1 := (HMX.out _ (List.getElem_mem hlt)).1
        have L2 := (HMY.out _ (List.getElem_mem hlty)).1
        have LL1 := Lib.hid (HMX.out _ (List.getElem_mem hlt)).2
        have LL2 := Lib.hid (HMY.out _ (List.getElem_mem hlty)).2
        have e1 : xs[k]? = some xs[k] := List.getElem?_eq_getElem hlt
        have e2 : ys[k]? = some ys[k] := List.getElem?_eq_getElem hlty
        have hlt2 : (k : Int) < (xs.length : Int) := by omega
        have hlt3 : (k : Int) < (ys.length : Int) := by omega
        clear hr1 hr2
        generalize xs[k] = p at *
        generalize ys[k] = q at *
        obtain ⟨s1, a1, f1, l1⟩ := p
        obtain ⟨s2, a2, f2, l2⟩ := q
        simp only at hc01 hc11 hc21 hc31 hc02 hc12 hc22 hc32 R1 R2 L1 L2 LL1 LL2
        replace hc01 := (HB.out.cell (p := ⟨g1, o1 + k * 4, none⟩) hg1).trans hc01
        replace hc11 := (HB.out.cell (p := ⟨g1, o1 + k * 4 + 1, none⟩) hg1).trans hc11
        replace hc21 := (HB.out.cell (p := ⟨g1, o1 + k * 4 + 2, none⟩) hg1).trans hc21
        replace hc31 := (HB.out.cell (p := ⟨g1, o1 + k * 4 + 3, none⟩) hg1).trans hc31
        replace hc02 := (HB.out.cell (p := ⟨g2, o2 + k * 4, none⟩) hg2).trans hc02
        replace hc12 := (HB.out.cell (p := ⟨g2, o2 + k * 4 + 1, none⟩) hg2).trans hc12
        replace hc22 := (HB.out.cell (p := ⟨g2, o2 + k * 4 + 2, none⟩) hg2).trans hc22
        replace hc32 := (HB.out.cell (p := ⟨g2, o2 + k * 4 + 3, none⟩) hg2).trans hc32
        have E1 := Lib.hid e1
        have E2 := Lib.hid e2
        clear e1 e2
        cases hxy : (s1 == s2 && (a1 == a2 && (f1 == f2 && l1 == l2)))
        · have XY := Lib.hid hxy
          clear hxy
          go_wp2
          refine wp_region_held_drew (S := (fun w' => w'.cell? ⟨g1, o1 + k * 4, none⟩ = some (.int .i64 s1) ∧ w'.cell? ⟨g1, o1 + k * 4 + 1, none⟩ = some (.bool a1) ∧ w'.cell? ⟨g1, o1 + k * 4 + 2, none⟩ = some (.slice B1 f1.length d1) ∧ w'.cell? ⟨g1, o1 + k * 4 + 3, none⟩ = some (.int .i64 l1) ∧ w'.cell? ⟨g2, o2 + k * 4, none⟩ = some (.int .i64 s2) ∧ w'.cell? ⟨g2, o2 + k * 4 + 1, none⟩ = some (.bool a2) ∧ w'.cell? ⟨g2, o2 + k * 4 + 2, none⟩ = some (.slice B2 f2.length d2) ∧ w'.cell? ⟨g2, o2 + k * 4 + 3, none⟩ = some (.int .i64 l2))) (by kernel_rfl) ?_ (fun hHeld => ?_)
          · first | exact ⟨hc01, hc11, hc21, hc31, hc02, hc12, hc22, hc32⟩ | exact ⟨kc01, kc11, kc21, kc31, kc02, kc12, kc22, kc32⟩ | (simp [go_sem, *]; done)
          refine wpAnyH_takeW (i := 0) (d := some 17) (v := ?_) (by simp only [List.getElem?_toArray, List.getElem?_cons_succ, List.getElem?_cons_zero]; rfl) (by rfl) (by kernel_rfl) (by kernel_rfl) (by kernel_rfl) (by intro _ _ _ h; exact h) (by rfl) ?_ (by assumption) ?_
          rotate_left 1
          · (intro w hSw; (try dsimp only at hSw); go_simp; try (with_reducible rfl))
          (try simp only [Act.put, List.setIfInBounds_toArray, List.set_cons_zero, List.set_cons_succ])
          refine wpAnyH_takeW (i := 1) (d := some 18) (v := ?_) (by simp only [List.getElem?_toArray, List.getElem?_cons_succ, List.getElem?_cons_zero]; rfl) (by rfl) (by kernel_rfl) (by kernel_rfl) (by kernel_rfl) (by intro _ _ _ h; exact h) (by rfl) ?_ (by assumption) ?_
          rotate_left 1
          · (intro w hSw; (try dsimp only at hSw); go_simp; try (with_reducible rfl))
          (try simp only [Act.put, List.setIfInBounds_toArray, List.set_cons_zero, List.set_cons_succ])
          refine wpAnyH_takeW (i := 2) (d := some 19) (v := ?_) (by simp only [List.getElem?_toArray, List.getElem?_cons_succ, List.getElem?_cons_zero]; rfl) (by rfl) (by kernel_rfl) (by kernel_rfl) (by kernel_rfl) (by intro _ _ _ h; exact h) (by rfl) ?_ (by assumption) ?_
          rotate_left 1
          · (intro w hSw; (try dsimp only at hSw); go_simp; try (with_reducible rfl))
          (try simp only [Act.put, List.setIfInBounds_toArray, List.set_cons_zero, List.set_cons_succ])
          refine wpAnyH_takeW (i := 3) (d := some 20) (v := ?_) (by simp only [List.getElem?_toArray, List.getElem?_cons_succ, List.getElem?_cons_zero]; rfl) (by rfl) (by kernel_rfl) (by kernel_rfl) (by kernel_rfl) (by intro _ _ _ h; exact h) (by rfl) ?_ (by assumption) ?_
          rotate_left 1
          · (intro w hSw; (try dsimp only at hSw); go_simp; try (with_reducible rfl))
          (try simp only [Act.put, List.setIfInBounds_toArray, List.set_cons_zero, List.set_cons_succ])
          refine wpAnyH_takeW (i := 4) (d := some 21) (v := ?_) (by simp only [List.getElem?_toArray, List.getElem?_cons_succ, List.getElem?_cons_zero]; rfl) (by rfl) (by kernel_rfl) (by kernel_rfl) (by kernel_rfl) (by intro _ _ _ h; exact h) (by rfl) ?_ (by assumption) ?_
          rotate_left 1
          · (intro w hSw; (try dsimp only at hSw); go_simp; try (with_reducible rfl))
          (try simp only [Act.put, List.setIfInBounds_toArray, List.set_cons_zero, List.set_cons_succ])
          refine wpAnyH_takeW (i := 5) (d := some 22) (v := ?_) (by simp only [List.getElem?_toArray, List.getElem?_cons_succ, List.getElem?_cons_zero]; rfl) (by rfl) (by kernel_rfl) (by kernel_rfl) (by kernel_rfl) (by intro _ _ _ h; exact h) (by rfl) ?_ (by assumption) ?_
          rotate_left 1
          · (intro w hSw; (try dsimp only at hSw); go_simp; try (with_reducible rfl))
          (try simp only [Act.put, List.setIfInBounds_toArray, List.set_cons_zero, List.set_cons_succ])
          refine wpAnyH_takeW (i := 6) (d := some 23) (v := ?_) (by simp only [List.getElem?_toArray, List.getElem?_cons_succ, List.getElem?_cons_zero]; rfl) (by rfl) (by kernel_rfl) (by kernel_rfl) (by kernel_rfl) (by intro _ _ _ h; exact h) (by rfl) ?_ (by assumption) ?_
          rotate_left 1
          · (intro w hSw; (try dsimp only at hSw); go_simp; try (with_reducible rfl))
          (try simp only [Act.put, List.setIfInBounds_toArray, List.set_cons_zero, List.set_cons_succ])
          refine wpAnyH_takeW (i := 7) (d := some 24) (v := ?_) (by simp only [List.getElem?_toArray, List.getElem?_cons_succ, List.getElem?_cons_zero]; rfl) (by rfl) (by kernel_rfl) (by kernel_rfl) (by kernel_rfl) (by intro _ _ _ h; exact h) (by rfl) ?_ (by assumption) ?_
          rotate_left 1
          · (intro w hSw; (try dsimp only at hSw); go_simp; try (with_reducible rfl))
          (try simp only [Act.put, List.setIfInBounds_toArray, List.set_cons_zero, List.set_cons_succ])
          refine wpAnyH_ready (rs := [8]) (by kernel_rfl) (by simp) ?_
          refine AllReadyH.cons (i := 8) (by simp only [List.getElem?_toArray, List.getElem?_cons_succ, List.getElem?_cons_zero]; rfl) (fun K hK => ?_) AllReadyH.nil
          go_simp
          (go_at_call 52; refine (eqKT_any XY.out _ _ _ _ _ (Sl.below (R := EB false) EB.framed R1.out (Below.drew (Below.refl _ _))) (Sl.below (R := EB false) EB.framed R2.out (Below.drew (Below.refl _ _))) L1 L2 LL1.out LL2.out).mono ?_)
          rintro e w2 ⟨rfl, hb2⟩
          have HB2 : Hid (Below w.heap.size w w2) := Lib.hid (HB.out.trans ((Below.trans (Below.drew (Below.refl _ _)) hb2).mono hws))
          have kc01 := (hb2.cell (p := ⟨g1, o1 + k * 4, none⟩) hgw1).trans hc01
          have kc11 := (hb2.cell (p := ⟨g1, o1 + k * 4 + 1, none⟩) hgw1).trans hc11
          have kc21 := (hb2.cell (p := ⟨g1, o1 + k * 4 + 2, none⟩) hgw1).trans hc21
          have kc31 := (hb2.cell (p := ⟨g1, o1 + k * 4 + 3, none⟩) hgw1).trans hc31
          have kc02 := (hb2.cell (p := ⟨g2, o2 + k * 4, none⟩) hgw2).trans hc02
          have kc12 := (hb2.cell (p := ⟨g2, o2 + k * 4 + 1, none⟩) hgw2).trans hc12
          have kc22 := (hb2.cell (p := ⟨g2, o2 + k * 4 + 2, none⟩) hgw2).trans hc22
          have kc32 := (hb2.cell (p := ⟨g2, o2 + k * 4 + 3, none⟩) hgw2).trans hc32
          clear hb2 hc01 hc11 hc21 hc31 hc02 hc12 hc22 hc32
          go_wp2_with fail
          refine hK.out _ _ ?_ (fun hHeld => ?_)
          · ((try dsimp only); first | exact ⟨hc01, hc11, hc21, hc31, hc02, hc12, hc22, hc32⟩ | exact ⟨kc01, kc11, kc21, kc31, kc02, kc12, kc22, kc32⟩ | (simp [go_sem, *]; done))
          clear hK K
          (try simp only [Act.put, List.setIfInBounds_toArray, List.set_cons_zero, List.set_cons_succ])
          refine wpAnyH_takeW (i := 9) (d := some 26) (v := ?_) (by simp only [List.getElem?_toArray, List.getElem?_cons_succ, List.getElem?_cons_zero]; rfl) (by rfl) (by kernel_rfl) (by kernel_rfl) (by kernel_rfl) (by intro _ _ _ h; exact h) (by rfl) ?_ (by assumption) ?_
          rotate_left 1
          · (intro w hSw; (try dsimp only at hSw); go_simp; try (with_reducible rfl))
          (try simp only [Act.put, List.setIfInBounds_toArray, List.set_cons_zero, List.set_cons_succ])
          refine wpAnyH_done (by kernel_rfl) ?_ _
          go_wp2
          go_ret
          have hf : ¬ xs = ys := by
            intro h
            rw [h, E2.out] at E1
            have h1 := (kt_eq _ _ _ _ _ _ _ _).1 (Option.some.inj E1.out).symm
            rw [XY.out] at h1
            cases h1
          exact ⟨by simp [hf], HB2.out⟩
        · have XY := Lib.hid hxy
          clear hxy
          go_wp2
          refine wp_region_held_drew (S := (fun w' => w'.cell? ⟨g1, o1 + k * 4, none⟩ = some (.int .i64 s1) ∧ w'.cell? ⟨g1, o1 + k * 4 + 1, none⟩ = some (.bool a1) ∧ w'.cell? ⟨g1, o1 + k * 4 + 2, none⟩ = some (.slice B1 f1.length d1) ∧ w'.cell? ⟨g1, o1 + k * 4 + 3, none⟩ = some (.int .i64 l1) ∧ w'.cell? ⟨g2, o2 + k * 4, none⟩ = some (.int .i64 s2) ∧ w'.cell? ⟨g2, o2 + k * 4 + 1, none⟩ = some (.bool a2) ∧ w'.cell? ⟨g2, o2 + k * 4 + 2, none⟩ = some (.slice B2 f2.length d2) ∧ w'.cell? ⟨g2, o2 + k * 4 + 3, none⟩ = some (.int .i64 l2))) (by kernel_rfl) ?_ (fun hHeld => ?_)
          · first | exact ⟨hc01, hc11, hc21, hc31, hc02, hc12, hc22, hc32⟩ | exact ⟨kc01, kc11, kc21, kc31, kc02, kc12, kc22, kc32⟩ | (simp [go_sem, *]; done)
          refine wpAnyH_takeW (i := 0) (d := some 17) (v := ?_) (by simp only [List.getElem?_toArray, List.getElem?_cons_succ, List.getElem?_cons_zero]; rfl) (by rfl) (by kernel_rfl) (by kernel_rfl) (by kernel_rfl) (by intro _ _ _ h; exact h) (by rfl) ?_ (by assumption) ?_
          rotate_left 1
          · (intro w hSw; (try dsimp only at hSw); go_simp; try (with_reducible rfl))
          (try simp only [Act.put, List.setIfInBounds_toArray, List.set_cons_zero, List.set_cons_succ])
          refine wpAnyH_takeW (i := 1) (d := some 18) (v := ?_) (by simp only [List.getElem?_toArray, List.getElem?_cons_succ, List.getElem?_cons_zero]; rfl) (by rfl) (by kernel_rfl) (by kernel_rfl) (by kernel_rfl) (by intro _ _ _ h; exact h) (by rfl) ?_ (by assumption) ?_
          rotate_left 1
          · (intro w hSw; (try dsimp only at hSw); go_simp; try (with_reducible rfl))
          (try simp only [Act.put, List.setIfInBounds_toArray, List.set_cons_zero, List.set_cons_succ])
          refine wpAnyH_takeW (i := 2) (d := some 19) (v := ?_) (by simp only [List.getElem?_toArray, List.getElem?_cons_succ, List.getElem?_cons_zero]; rfl) (by rfl) (by kernel_rfl) (by kernel_rfl) (by kernel_rfl) (by intro _ _ _ h; exact h) (by rfl) ?_ (by assumption) ?_
          rotate_left 1
          · (intro w hSw; (try dsimp only at hSw); go_simp; try (with_reducible rfl))
          (try simp only [Act.put, List.setIfInBounds_toArray, List.set_cons_zero, List.set_cons_succ])
          refine wpAnyH_takeW (i := 3) (d := some 20) (v := ?_) (by simp only [List.getElem?_toArray, List.getElem?_cons_succ, List.getElem?_cons_zero]; rfl) (by rfl) (by kernel_rfl) (by kernel_rfl) (by kernel_rfl) (by intro _ _ _ h; exact h) (by rfl) ?_ (by assumption) ?_
          rotate_left 1
          · (intro w hSw; (try dsimp only at hSw); go_simp; try (with_reducible rfl))
          (try simp only [Act.put, List.setIfInBounds_toArray, List.set_cons_zero, List.set_cons_succ])
          refine wpAnyH_takeW (i := 4) (d := some 21) (v := ?_) (by simp only [List.getElem?_toArray, List.getElem?_cons_succ, List.getElem?_cons_zero]; rfl) (by rfl) (by kernel_rfl) (by kernel_rfl) (by kernel_rfl) (by intro _ _ _ h; exact h) (by rfl) ?_ (by assumption) ?_
          rotate_left 1
          · (intro w hSw; (try dsimp only at hSw); go_simp; try (with_reducible rfl))
          (try simp only [Act.put, List.setIfInBounds_toArray, List.set_cons_zero, List.set_cons_succ])
          refine wpAnyH_takeW (i := 5) (d := some 22) (v := ?_) (by simp only [List.getElem?_toArray, List.getElem?_cons_succ, List.getElem?_cons_zero]; rfl) (by rfl) (by kernel_rfl) (by kernel_rfl) (by kernel_rfl) (by intro _ _ _ h; exact h) (by rfl) ?_ (by assumption) ?_
          rotate_left 1
          · (intro w hSw; (try dsimp only at hSw); go_simp; try (with_reducible rfl))
          (try simp only [Act.put, List.setIfInBounds_toArray, List.set_cons_zero, List.set_cons_succ])
          refine wpAnyH_takeW (i := 6) (d := some 23) (v := ?_) (by simp only [List.getElem?_toArray, List.getElem?_cons_succ, List.getElem?_cons_zero]; rfl) (by rfl) (by kernel_rfl) (by kernel_rfl) (by kernel_rfl) (by intro _ _ _ h; exact h) (by rfl) ?_ (by assumption) ?_
          rotate_left 1
          · (intro w hSw; (try dsimp only at hSw); go_simp; try (with_reducible rfl))
          (try simp only [Act.put, List.setIfInBounds_toArray, List.set_cons_zero, List.set_cons_succ])
          refine wpAnyH_takeW (i := 7) (d := some 24) (v := ?_) (by simp only [List.getElem?_toArray, List.getElem?_cons_succ, List.getElem?_cons_zero]; rfl) (by rfl) (by kernel_rfl) (by kernel_rfl) (by kernel_rfl) (by intro _ _ _ h; exact h) (by rfl) ?_ (by assumption) ?_
          rotate_left 1
          · (intro w hSw; (try dsimp only at hSw); go_simp; try (with_reducible rfl))
          (try simp only [Act.put, List.setIfInBounds_toArray, List.set_cons_zero, List.set_cons_succ])
          refine wpAnyH_ready (rs := [8]) (by kernel_rfl) (by simp) ?_
          refine AllReadyH.cons (i := 8) (by simp only [List.getElem?_toArray, List.getElem?_cons_succ, List.getElem?_cons_zero]; rfl) (fun K hK => ?_) AllReadyH.nil
          go_simp
          (go_at_call 52; refine (eqKT_any XY.out _ _ _ _ _ (Sl.below (R := EB false) EB.framed R1.out (Below.drew (Below.refl _ _))) (Sl.below (R := EB false) EB.framed R2.out (Below.drew (Below.refl _ _))) L1 L2 LL1.out LL2.out).mono ?_)
          rintro e w2 ⟨rfl, hb2⟩
          have HB2 : Hid (Below w.heap.size w w2) := Lib.hid (HB.out.trans ((Below.trans (Below.drew (Below.refl _ _)) hb2).mono hws))
          have kc01 := (hb2.cell (p := ⟨g1, o1 + k * 4, none⟩) hgw1).trans hc01
          have kc11 := (hb2.cell (p := ⟨g1, o1 + k * 4 + 1, none⟩) hgw1).trans hc11
          have kc21 := (hb2.cell (p := ⟨g1, o1 + k * 4 + 2, none⟩) hgw1).trans hc21
          have kc31 := (hb2.cell (p := ⟨g1, o1 + k * 4 + 3, none⟩) hgw1).trans hc31
          have kc02 := (hb2.cell (p := ⟨g2, o2 + k * 4, none⟩) hgw2).trans hc02
          have kc12 := (hb2.cell (p := ⟨g2, o2 + k * 4 + 1, none⟩) hgw2).trans hc12
          have kc22 := (hb2.cell (p := ⟨g2, o2 + k * 4 + 2, none⟩) hgw2).trans hc22
          have kc32 := (hb2.cell (p := ⟨g2, o2 + k * 4 + 3, none⟩) hgw2).trans hc32
          clear hb2 hc01 hc11 hc21 hc31 hc02 hc12 hc22 hc32
          go_wp2_with fail
          refine hK.out _ _ ?_ (fun hHeld => ?_)
          · ((try dsimp only); first | exact ⟨hc01, hc11, hc21, hc31, hc02, hc12, hc22, hc32⟩ | exact ⟨kc01, kc11, kc21, kc31, kc02, kc12, kc22, kc32⟩ | (simp [go_sem, *]; done))
          clear hK K
          (try simp only [Act.put, List.setIfInBounds_toArray, List.set_cons_zero, List.set_cons_succ])
          refine wpAnyH_takeW (i := 9) (d := some 26) (v := ?_) (by simp only [List.getElem?_toArray, List.getElem?_cons_succ, List.getElem?_cons_zero]; rfl) (by rfl) (by kernel_rfl) (by kernel_rfl) (by kernel_rfl) (by intro _ _ _ h; exact h) (by rfl) ?_ (by assumption) ?_
          rotate_left 1
          · (intro w hSw; (try dsimp only at hSw); go_simp; try (with_reducible rfl))
          (try simp only [Act.put, List.setIfInBounds_toArray, List.set_cons_zero, List.set_cons_succ])
          refine wpAnyH_done (by kernel_rfl) ?_ _
          go_wp2
          go_roundw
          case rel => exact ⟨k + 1, by omega, by go_num, HB2, Lib.hid (fun j hj => by
            rcases Nat.lt_or_ge j k with h | h
            · exact heq.out j h
            · obtain rfl : j = k := by omega
              rw [E1.out, E2.out, (kt_eq _ _ _ _ _ _ _ _).2 XY.out])⟩
          case measure => simp [intOf]; omega
      · obtain rfl : k = xs.length := by omega
        go_wp2
        go_ret
        have ht : xs = ys := by
          apply List.ext_getElem?
          intro j
          rcases Nat.lt_or_ge j xs.length with h | h
          · exact heq.out j h
          · rw [List.getElem?_eq_none h, List.getElem?_eq_none (by omega)]
        exact ⟨by simp [ht], HB.out⟩
  · have hl2 : ((xs.length : Int) != (ys.length : Int)) = true := by simp; omega
    have hf : Hid (decide (xs = ys) = false) := Lib.hid (by
      simp only [decide_eq_false_iff_not]
      rintro rfl
      exact hl rfl)
    clear hx hy
    have HL := Lib.hid hl
    clear hl
    go_enter Try.func37, Try.ntmps37
    go_wp2
    go_ret
    exact ⟨by rw [hf.out]; rfl, Below.refl _ _⟩
theorem eqPB_any {T1 T2 : Nat → Prop} {xs ys : List KT} {b : Bool} (hb : decide (xs = ys) = b) (A B : Option Addr) (c1 c2 : Nat) (w : World) (hx : Sl false 4 (EK false) w T1 A xs) (hy : Sl false 4 (EK false) w T2 B ys) (hm : xs.length ≤ 1000000000000) (hm2 : ys.length ≤ 1000000000000)
    (hmx : ∀ x ∈ xs, x.fr.length ≤ 1000000000000 ∧ ∀ f ∈ x.fr, f.length ≤ 1000000000000) (hmy : ∀ x ∈ ys, x.fr.length ≤ 1000000000000 ∧ ∀ f ∈ x.fr, f.length ≤ 1000000000000) :
    Calls Try.prog 14 #[.agg #[.slice A xs.length c1], .agg #[.slice B ys.length c2]] w fun e w' => e = .returned (.bool b) ∧ Below w.heap.size w w' := by
  have HX := Lib.hid hx
  have HY := Lib.hid hy
  have HMX := Lib.hid hmx
  have HMY := Lib.hid hmy
  have HB := Lib.hid hb
  clear hx hy hmx hmy hb
  cases b
  all_goals
    go_enter Try.func14, Try.ntmps14
    go_wp2_with fail
    refine (eqKTS_any _ _ _ _ xs ys _ (Sl.below (R := EK false) EK.framed HX.out (by repeat (first | (with_reducible exact Below.refl _ _) | (with_reducible refine Below.ext ?_ (by go_size) _ _) | (with_reducible refine Below.alloc ?_ (by go_size) _) | (with_reducible refine Below.setCell ?_ (by go_size) _) | (with_reducible refine Below.drew ?_) | (with_reducible refine Below.drewN_ ?_ _)))) (Sl.below (R := EK false) EK.framed HY.out (by repeat (first | (with_reducible exact Below.refl _ _) | (with_reducible refine Below.ext ?_ (by go_size) _ _) | (with_reducible refine Below.alloc ?_ (by go_size) _) | (with_reducible refine Below.setCell ?_ (by go_size) _) | (with_reducible refine Below.drew ?_) | (with_reducible refine Below.drewN_ ?_ _)))) hm hm2 HMX.out HMY.out).mono ?_
    rw [HB.out]
    rintro e w1 ⟨rfl, hb1⟩
    obtain ⟨X, d, rfl⟩ := Below.ext_ hb1
    clear hb1
    go_wp2
    go_ret
    exact ⟨rfl, (by repeat (first | (with_reducible exact Below.refl _ _) | (with_reducible refine Below.ext ?_ (by go_size) _ _) | (with_reducible refine Below.alloc ?_ (by go_size) _) | (with_reducible refine Below.setCell ?_ (by go_size) _) | (with_reducible refine Below.drew ?_) | (with_reducible refine Below.drewN_ ?_ _)))⟩

end Go.Proofs.Ytbfbjkcmehalhaa
