/- The laws' own functions on numbered frames and reorder buffers: eq, mark, held. -/
import Derived.Test.YtnfgdgmmbddmgaaNFl
namespace Go.Proofs.Ytnfgdgmmbddmgaa
open Go.RowKit
set_option linter.unusedVariables false
set_option linter.unusedSimpArgs false

set_option maxHeartbeats 1000000 in
theorem eqNF_any {u1 u2 : Bool} {T1 T2 : Nat → Prop} {s1 s2 : Int} {x y : List Int} {b : Bool} (hb : (s1 == s2 && x == y) = b) (A B : Option Addr) (c1 c2 : Nat) (w : World) (hx : Rw u1 .u8 w T1 A x) (hy : Rw u2 .u8 w T2 B y) (hm : x.length ≤ 1000000000000) (hm2 : y.length ≤ 1000000000000) :
    Calls Try.prog 86 #[.agg #[.int .i64 s1, .slice A x.length c1], .agg #[.int .i64 s2, .slice B y.length c2]] w fun e w' => e = .returned (.bool b) ∧ Below w.heap.size w w' := by
  have HX := Lib.hid hx
  have HY := Lib.hid hy
  clear hx hy
  by_cases hs : s1 = s2
  · subst hs
    have HB : Hid ((x == y) = b) := Lib.hid (by simpa using hb)
    clear hb
    cases b
    all_goals
      go_enter Try.func86, Try.ntmps86
      go_wp2_with fail
      refine (eqByteS_qb HB.out _ _ _ _ _ (HX.out.below (by repeat (first | (with_reducible exact Below.refl _ _) | (with_reducible refine Below.ext ?_ (by go_size) _ _) | (with_reducible refine Below.alloc ?_ (by go_size) _) | (with_reducible refine Below.setCell ?_ (by go_size) _) | (with_reducible refine Below.drew ?_) | (with_reducible refine Below.drewN_ ?_ _)))) (HY.out.below (by repeat (first | (with_reducible exact Below.refl _ _) | (with_reducible refine Below.ext ?_ (by go_size) _ _) | (with_reducible refine Below.alloc ?_ (by go_size) _) | (with_reducible refine Below.setCell ?_ (by go_size) _) | (with_reducible refine Below.drew ?_) | (with_reducible refine Below.drewN_ ?_ _)))) hm hm2).mono ?_
      rintro e w1 ⟨rfl, hd⟩
      have hb1 := hd.below
      obtain ⟨X, d, rfl⟩ := Below.ext_ hb1
      clear hd hb1
      go_wp2
      go_ret
      exact ⟨rfl, (by repeat (first | (with_reducible exact Below.refl _ _) | (with_reducible refine Below.ext ?_ (by go_size) _ _) | (with_reducible refine Below.alloc ?_ (by go_size) _) | (with_reducible refine Below.setCell ?_ (by go_size) _) | (with_reducible refine Below.drew ?_) | (with_reducible refine Below.drewN_ ?_ _)))⟩
  · have hb2 : b = false := by rw [← hb]; simp [hs]
    subst hb2
    have hne : (s1 != s2) = true := by simp [hs]
    clear hb
    go_enter Try.func86, Try.ntmps86
    go_wp2
    go_ret
    exact ⟨rfl, (by repeat (first | (with_reducible exact Below.refl _ _) | (with_reducible refine Below.ext ?_ (by go_size) _ _) | (with_reducible refine Below.alloc ?_ (by go_size) _) | (with_reducible refine Below.setCell ?_ (by go_size) _) | (with_reducible refine Below.drew ?_) | (with_reducible refine Below.drewN_ ?_ _)))⟩
set_option maxHeartbeats 2000000 in
theorem eqNFS_any {T1 T2 : Nat → Prop} (A B : Option Addr) (c1 c2 : Nat) (xs ys : List NF) (w : World) (hx : Sl false 2 (EN false) w T1 A xs) (hy : Sl false 2 (EN false) w T2 B ys) (hm : xs.length ≤ 1000000000000) (hm2 : ys.length ≤ 1000000000000)
    (hmx : ∀ x ∈ xs, x.2.length ≤ 1000000000000) (hmy : ∀ x ∈ ys, x.2.length ≤ 1000000000000) :
    Calls Try.prog 62 #[.slice A xs.length c1, .slice B ys.length c2] w fun e w' => e = .returned (.bool (decide (xs = ys))) ∧ Below w.heap.size w w' := by
  have HMX := Lib.hid hmx
  have HMY := Lib.hid hmy
  clear hmx hmy
  by_cases hl : xs.length = ys.length
  · have hl2 : ((xs.length : Int) != (ys.length : Int)) = false := by simp; omega
    have hlle : ys.length ≤ xs.length ∧ xs.length ≤ ys.length := by omega
    obtain ⟨hl3, hl4⟩ := hlle
    have HL := Lib.hid hl
    have HX := Lib.hid hx
    have HY := Lib.hid hy
    clear hl hx hy
    go_enter Try.func62, Try.ntmps62
    go_wp2
    go_loopw [5] (fun i wr => ∃ k : Nat, k ≤ xs.length ∧ i = .int .i64 (k : Int) ∧ Hid (Below w.heap.size w wr) ∧ Hid (∀ j, j < k → xs[j]? = ys[j]?)) (fun i _ => xs.length - (intOf i).toNat)
    case atStart => exact ⟨0, Nat.zero_le _, rfl, Lib.hid (Below.refl _ _), Lib.hid (fun j hj => absurd hj (by omega))⟩
    case round =>
      obtain ⟨k, hk, rfl, HB, heq⟩ := hrel
      have hws := HB.out.size
      by_cases hlt : k < xs.length
      · have hlty : k < ys.length := by omega
        obtain ⟨g1, o1, F1, rfl, hg1, ⟨hc1, _, ⟨B1, d1, hc2, _, hr1⟩⟩, _, _⟩ := HX.out.at_ k hlt
        obtain ⟨g2, o2, F2, rfl, hg2, ⟨hc3, _, ⟨B2, d2, hc4, _, hr2⟩⟩, _, _⟩ := HY.out.at_ k hlty
        replace hc1 := (HB.out.cell (p := ⟨g1, o1 + k * 2, none⟩) hg1).trans hc1
        replace hc2 := (HB.out.cell (p := ⟨g1, o1 + k * 2 + 1, none⟩) hg1).trans hc2
        replace hc3 := (HB.out.cell (p := ⟨g2, o2 + k * 2, none⟩) hg2).trans hc3
        replace hc4 := (HB.out.cell (p := ⟨g2, o2 + k * 2 + 1, none⟩) hg2).trans hc4
        have hgw1 : g1 < wr.heap.size := by omega
        have hgw2 : g2 < wr.heap.size := by omega
        have R1 := Lib.hid (hr1.below HB.out)
        have R2 := Lib.hid (hr2.below HB.out)
        have L1 := HMX.out _ (List.getElem_mem hlt)
        have L2 := HMY.out _ (List.getElem_mem hlty)
        have e1 : xs[k]? = some xs[k] := List.getElem?_eq_getElem hlt
        have e2 : ys[k]? = some ys[k] := List.getElem?_eq_getElem hlty
        have hlt2 : (k : Int) < (xs.length : Int) := by omega
        have hlt3 : (k : Int) < (ys.length : Int) := by omega
        clear hr1 hr2
        generalize xs[k] = p at *
        generalize ys[k] = q at *
        obtain ⟨s1, x⟩ := p
        obtain ⟨s2, y⟩ := q
        simp only at hc1 hc2 hc3 hc4 R1 R2 L1 L2
        have E1 := Lib.hid e1
        have E2 := Lib.hid e2
        clear e1 e2
        cases hxy : (s1 == s2 && x == y)
        · have XY := Lib.hid hxy
          clear hxy
          go_wp2
          refine wp_region_held_drew (S := (fun w' => w'.cell? ⟨g1, o1 + k * 2, none⟩ = some (.int .i64 s1) ∧ w'.cell? ⟨g1, o1 + k * 2 + 1, none⟩ = some (.slice B1 x.length d1) ∧ w'.cell? ⟨g2, o2 + k * 2, none⟩ = some (.int .i64 s2) ∧ w'.cell? ⟨g2, o2 + k * 2 + 1, none⟩ = some (.slice B2 y.length d2))) (by kernel_rfl) ?_ (fun hHeld => ?_)
          · first | exact ⟨hc1, hc2, hc3, hc4⟩ | exact ⟨k1, k2, k3, k4⟩ | (simp [go_sem, *]; done)
          refine wpAnyH_takeW (i := 0) (d := some 17) (v := ?_) (by simp only [List.getElem?_toArray, List.getElem?_cons_succ, List.getElem?_cons_zero]; rfl) (by rfl) (by kernel_rfl) (by kernel_rfl) (by kernel_rfl) (by intro _ _ _ h; exact h) (by rfl) ?_ (by assumption) ?_
          rotate_left 1
          · (intro w hSw; (try dsimp only at hSw); go_simp; try (with_reducible rfl))
          (try simp only [Act.put, List.setIfInBounds_toArray, List.set_cons_zero, List.set_cons_succ])
          refine wpAnyH_takeW (i := 1) (d := some 18) (v := ?_) (by simp only [List.getElem?_toArray, List.getElem?_cons_succ, List.getElem?_cons_zero]; rfl) (by rfl) (by kernel_rfl) (by kernel_rfl) (by kernel_rfl) (by intro _ _ _ h; exact h) (by rfl) ?_ (by assumption) ?_
          rotate_left 1
          · (intro w hSw; (try dsimp only at hSw); go_simp; try (with_reducible rfl))
          (try simp only [Act.put, List.setIfInBounds_toArray, List.set_cons_zero, List.set_cons_succ])
          refine wpAnyH_takeW (i := 2) (d := some 19) (v := ?_) (by simp only [List.getElem?_toArray, List.getElem?_cons_succ, List.getElem?_cons_zero]; rfl) (by rfl) (by kernel_rfl) (by kernel_rfl) (by kernel_rfl) (by intro _ _ _ h; exact h) (by rfl) ?_ (by assumption) ?_
          rotate_left 1
          · (intro w hSw; (try dsimp only at hSw); go_simp; try (with_reducible rfl))
          (try simp only [Act.put, List.setIfInBounds_toArray, List.set_cons_zero, List.set_cons_succ])
          refine wpAnyH_takeW (i := 3) (d := some 20) (v := ?_) (by simp only [List.getElem?_toArray, List.getElem?_cons_succ, List.getElem?_cons_zero]; rfl) (by rfl) (by kernel_rfl) (by kernel_rfl) (by kernel_rfl) (by intro _ _ _ h; exact h) (by rfl) ?_ (by assumption) ?_
          rotate_left 1
          · (intro w hSw; (try dsimp only at hSw); go_simp; try (with_reducible rfl))
          (try simp only [Act.put, List.setIfInBounds_toArray, List.set_cons_zero, List.set_cons_succ])
          refine wpAnyH_takeW (i := 4) (d := some 21) (v := ?_) (by simp only [List.getElem?_toArray, List.getElem?_cons_succ, List.getElem?_cons_zero]; rfl) (by rfl) (by kernel_rfl) (by kernel_rfl) (by kernel_rfl) (by intro _ _ _ h; exact h) (by rfl) ?_ (by assumption) ?_
          rotate_left 1
          · (intro w hSw; (try dsimp only at hSw); go_simp; try (with_reducible rfl))
          (try simp only [Act.put, List.setIfInBounds_toArray, List.set_cons_zero, List.set_cons_succ])
          refine wpAnyH_takeW (i := 5) (d := some 22) (v := ?_) (by simp only [List.getElem?_toArray, List.getElem?_cons_succ, List.getElem?_cons_zero]; rfl) (by rfl) (by kernel_rfl) (by kernel_rfl) (by kernel_rfl) (by intro _ _ _ h; exact h) (by rfl) ?_ (by assumption) ?_
          rotate_left 1
          · (intro w hSw; (try dsimp only at hSw); go_simp; try (with_reducible rfl))
          (try simp only [Act.put, List.setIfInBounds_toArray, List.set_cons_zero, List.set_cons_succ])
          refine wpAnyH_takeW (i := 6) (d := some 23) (v := ?_) (by simp only [List.getElem?_toArray, List.getElem?_cons_succ, List.getElem?_cons_zero]; rfl) (by rfl) (by kernel_rfl) (by kernel_rfl) (by kernel_rfl) (by intro _ _ _ h; exact h) (by rfl) ?_ (by assumption) ?_
          rotate_left 1
          · (intro w hSw; (try dsimp only at hSw); go_simp; try (with_reducible rfl))
          (try simp only [Act.put, List.setIfInBounds_toArray, List.set_cons_zero, List.set_cons_succ])
          refine wpAnyH_takeW (i := 7) (d := some 24) (v := ?_) (by simp only [List.getElem?_toArray, List.getElem?_cons_succ, List.getElem?_cons_zero]; rfl) (by rfl) (by kernel_rfl) (by kernel_rfl) (by kernel_rfl) (by intro _ _ _ h; exact h) (by rfl) ?_ (by assumption) ?_
          rotate_left 1
          · (intro w hSw; (try dsimp only at hSw); go_simp; try (with_reducible rfl))
          (try simp only [Act.put, List.setIfInBounds_toArray, List.set_cons_zero, List.set_cons_succ])
          refine wpAnyH_ready (rs := [8]) (by kernel_rfl) (by simp) ?_
          refine AllReadyH.cons (i := 8) (by simp only [List.getElem?_toArray, List.getElem?_cons_succ, List.getElem?_cons_zero]; rfl) (fun K hK => ?_) AllReadyH.nil
          go_simp
          (go_at_call 86; refine (eqNF_any XY.out _ _ _ _ _ (R1.out.below (Below.drew (Below.refl _ _))) (R2.out.below (Below.drew (Below.refl _ _))) L1 L2).mono ?_)
          rintro e w2 ⟨rfl, hb2⟩
          have HB2 : Hid (Below w.heap.size w w2) := Lib.hid (HB.out.trans ((Below.trans (Below.drew (Below.refl _ _)) hb2).mono hws))
          have k1 := (hb2.cell (p := ⟨g1, o1 + k * 2, none⟩) hgw1).trans hc1
          have k2 := (hb2.cell (p := ⟨g1, o1 + k * 2 + 1, none⟩) hgw1).trans hc2
          have k3 := (hb2.cell (p := ⟨g2, o2 + k * 2, none⟩) hgw2).trans hc3
          have k4 := (hb2.cell (p := ⟨g2, o2 + k * 2 + 1, none⟩) hgw2).trans hc4
          clear hb2 hc1 hc2 hc3 hc4
          go_wp2_with fail
          refine hK.out _ _ ?_ (fun hHeld => ?_)
          · ((try dsimp only); first | exact ⟨hc1, hc2, hc3, hc4⟩ | exact ⟨k1, k2, k3, k4⟩ | (simp [go_sem, *]; done))
          clear hK K
          (try simp only [Act.put, List.setIfInBounds_toArray, List.set_cons_zero, List.set_cons_succ])
          refine wpAnyH_takeW (i := 9) (d := some 26) (v := ?_) (by simp only [List.getElem?_toArray, List.getElem?_cons_succ, List.getElem?_cons_zero]; rfl) (by rfl) (by kernel_rfl) (by kernel_rfl) (by kernel_rfl) (by intro _ _ _ h; exact h) (by rfl) ?_ (by assumption) ?_
          rotate_left 1
          · (intro w hSw; (try dsimp only at hSw); go_simp; try (with_reducible rfl))
          (try simp only [Act.put, List.setIfInBounds_toArray, List.set_cons_zero, List.set_cons_succ])
          refine wpAnyH_done (by kernel_rfl) ?_ _
          go_wp2
          go_ret
          have hf : ¬ xs = ys := by
            intro h
            rw [h, E2.out] at E1
            have h1 := E1.out
            simp only [Option.some.injEq, Prod.mk.injEq] at h1
            obtain ⟨h2, h3⟩ := h1
            have h4 := XY.out
            subst h2 h3
            simp at h4
          exact ⟨by simp [hf], HB2.out⟩
        · have XY := Lib.hid hxy
          clear hxy
          go_wp2
          refine wp_region_held_drew (S := (fun w' => w'.cell? ⟨g1, o1 + k * 2, none⟩ = some (.int .i64 s1) ∧ w'.cell? ⟨g1, o1 + k * 2 + 1, none⟩ = some (.slice B1 x.length d1) ∧ w'.cell? ⟨g2, o2 + k * 2, none⟩ = some (.int .i64 s2) ∧ w'.cell? ⟨g2, o2 + k * 2 + 1, none⟩ = some (.slice B2 y.length d2))) (by kernel_rfl) ?_ (fun hHeld => ?_)
          · first | exact ⟨hc1, hc2, hc3, hc4⟩ | exact ⟨k1, k2, k3, k4⟩ | (simp [go_sem, *]; done)
          refine wpAnyH_takeW (i := 0) (d := some 17) (v := ?_) (by simp only [List.getElem?_toArray, List.getElem?_cons_succ, List.getElem?_cons_zero]; rfl) (by rfl) (by kernel_rfl) (by kernel_rfl) (by kernel_rfl) (by intro _ _ _ h; exact h) (by rfl) ?_ (by assumption) ?_
          rotate_left 1
          · (intro w hSw; (try dsimp only at hSw); go_simp; try (with_reducible rfl))
          (try simp only [Act.put, List.setIfInBounds_toArray, List.set_cons_zero, List.set_cons_succ])
          refine wpAnyH_takeW (i := 1) (d := some 18) (v := ?_) (by simp only [List.getElem?_toArray, List.getElem?_cons_succ, List.getElem?_cons_zero]; rfl) (by rfl) (by kernel_rfl) (by kernel_rfl) (by kernel_rfl) (by intro _ _ _ h; exact h) (by rfl) ?_ (by assumption) ?_
          rotate_left 1
          · (intro w hSw; (try dsimp only at hSw); go_simp; try (with_reducible rfl))
          (try simp only [Act.put, List.setIfInBounds_toArray, List.set_cons_zero, List.set_cons_succ])
          refine wpAnyH_takeW (i := 2) (d := some 19) (v := ?_) (by simp only [List.getElem?_toArray, List.getElem?_cons_succ, List.getElem?_cons_zero]; rfl) (by rfl) (by kernel_rfl) (by kernel_rfl) (by kernel_rfl) (by intro _ _ _ h; exact h) (by rfl) ?_ (by assumption) ?_
          rotate_left 1
          · (intro w hSw; (try dsimp only at hSw); go_simp; try (with_reducible rfl))
          (try simp only [Act.put, List.setIfInBounds_toArray, List.set_cons_zero, List.set_cons_succ])
          refine wpAnyH_takeW (i := 3) (d := some 20) (v := ?_) (by simp only [List.getElem?_toArray, List.getElem?_cons_succ, List.getElem?_cons_zero]; rfl) (by rfl) (by kernel_rfl) (by kernel_rfl) (by kernel_rfl) (by intro _ _ _ h; exact h) (by rfl) ?_ (by assumption) ?_
          rotate_left 1
          · (intro w hSw; (try dsimp only at hSw); go_simp; try (with_reducible rfl))
          (try simp only [Act.put, List.setIfInBounds_toArray, List.set_cons_zero, List.set_cons_succ])
          refine wpAnyH_takeW (i := 4) (d := some 21) (v := ?_) (by simp only [List.getElem?_toArray, List.getElem?_cons_succ, List.getElem?_cons_zero]; rfl) (by rfl) (by kernel_rfl) (by kernel_rfl) (by kernel_rfl) (by intro _ _ _ h; exact h) (by rfl) ?_ (by assumption) ?_
          rotate_left 1
          · (intro w hSw; (try dsimp only at hSw); go_simp; try (with_reducible rfl))
          (try simp only [Act.put, List.setIfInBounds_toArray, List.set_cons_zero, List.set_cons_succ])
          refine wpAnyH_takeW (i := 5) (d := some 22) (v := ?_) (by simp only [List.getElem?_toArray, List.getElem?_cons_succ, List.getElem?_cons_zero]; rfl) (by rfl) (by kernel_rfl) (by kernel_rfl) (by kernel_rfl) (by intro _ _ _ h; exact h) (by rfl) ?_ (by assumption) ?_
          rotate_left 1
          · (intro w hSw; (try dsimp only at hSw); go_simp; try (with_reducible rfl))
          (try simp only [Act.put, List.setIfInBounds_toArray, List.set_cons_zero, List.set_cons_succ])
          refine wpAnyH_takeW (i := 6) (d := some 23) (v := ?_) (by simp only [List.getElem?_toArray, List.getElem?_cons_succ, List.getElem?_cons_zero]; rfl) (by rfl) (by kernel_rfl) (by kernel_rfl) (by kernel_rfl) (by intro _ _ _ h; exact h) (by rfl) ?_ (by assumption) ?_
          rotate_left 1
          · (intro w hSw; (try dsimp only at hSw); go_simp; try (with_reducible rfl))
          (try simp only [Act.put, List.setIfInBounds_toArray, List.set_cons_zero, List.set_cons_succ])
          refine wpAnyH_takeW (i := 7) (d := some 24) (v := ?_) (by simp only [List.getElem?_toArray, List.getElem?_cons_succ, List.getElem?_cons_zero]; rfl) (by rfl) (by kernel_rfl) (by kernel_rfl) (by kernel_rfl) (by intro _ _ _ h; exact h) (by rfl) ?_ (by assumption) ?_
          rotate_left 1
          · (intro w hSw; (try dsimp only at hSw); go_simp; try (with_reducible rfl))
          (try simp only [Act.put, List.setIfInBounds_toArray, List.set_cons_zero, List.set_cons_succ])
          refine wpAnyH_ready (rs := [8]) (by kernel_rfl) (by simp) ?_
          refine AllReadyH.cons (i := 8) (by simp only [List.getElem?_toArray, List.getElem?_cons_succ, List.getElem?_cons_zero]; rfl) (fun K hK => ?_) AllReadyH.nil
          go_simp
          (go_at_call 86; refine (eqNF_any XY.out _ _ _ _ _ (R1.out.below (Below.drew (Below.refl _ _))) (R2.out.below (Below.drew (Below.refl _ _))) L1 L2).mono ?_)
          rintro e w2 ⟨rfl, hb2⟩
          have HB2 : Hid (Below w.heap.size w w2) := Lib.hid (HB.out.trans ((Below.trans (Below.drew (Below.refl _ _)) hb2).mono hws))
          have k1 := (hb2.cell (p := ⟨g1, o1 + k * 2, none⟩) hgw1).trans hc1
          have k2 := (hb2.cell (p := ⟨g1, o1 + k * 2 + 1, none⟩) hgw1).trans hc2
          have k3 := (hb2.cell (p := ⟨g2, o2 + k * 2, none⟩) hgw2).trans hc3
          have k4 := (hb2.cell (p := ⟨g2, o2 + k * 2 + 1, none⟩) hgw2).trans hc4
          clear hb2 hc1 hc2 hc3 hc4
          go_wp2_with fail
          refine hK.out _ _ ?_ (fun hHeld => ?_)
          · ((try dsimp only); first | exact ⟨hc1, hc2, hc3, hc4⟩ | exact ⟨k1, k2, k3, k4⟩ | (simp [go_sem, *]; done))
          clear hK K
          (try simp only [Act.put, List.setIfInBounds_toArray, List.set_cons_zero, List.set_cons_succ])
          refine wpAnyH_takeW (i := 9) (d := some 26) (v := ?_) (by simp only [List.getElem?_toArray, List.getElem?_cons_succ, List.getElem?_cons_zero]; rfl) (by rfl) (by kernel_rfl) (by kernel_rfl) (by kernel_rfl) (by intro _ _ _ h; exact h) (by rfl) ?_ (by assumption) ?_
          rotate_left 1
          · (intro w hSw; (try dsimp only at hSw); go_simp; try (with_reducible rfl))
          (try simp only [Act.put, List.setIfInBounds_toArray, List.set_cons_zero, List.set_cons_succ])
          refine wpAnyH_done (by kernel_rfl) ?_ _
          go_wp2
          go_roundw
          case rel => exact ⟨k + 1, by omega, by go_num, HB2, Lib.hid (fun j hj => by
            rcases Nat.lt_or_ge j k with h | h
            · exact heq.out j h
            · obtain rfl : j = k := by omega
              have h4 := XY.out
              simp only [Bool.and_eq_true, beq_iff_eq] at h4
              rw [E1.out, E2.out, h4.1, h4.2])⟩
          case measure => simp [intOf]; omega
      · obtain rfl : k = xs.length := by omega
        go_wp2
        go_ret
        have ht : xs = ys := by
          apply List.ext_getElem?
          intro j
          rcases Nat.lt_or_ge j xs.length with h | h
          · exact heq.out j h
          · rw [List.getElem?_eq_none h, List.getElem?_eq_none (by omega)]
        exact ⟨by simp [ht], HB.out⟩
  · have hl2 : ((xs.length : Int) != (ys.length : Int)) = true := by simp; omega
    have hf : Hid (decide (xs = ys) = false) := Lib.hid (by
      simp only [decide_eq_false_iff_not]
      rintro rfl
      exact hl rfl)
    clear hx hy
    have HL := Lib.hid hl
    clear hl
    go_enter Try.func62, Try.ntmps62
    go_wp2
    go_ret
    exact ⟨by rw [hf.out]; rfl, Below.refl _ _⟩
theorem eqROB_any {T1 T2 : Nat → Prop} {s1 s2 : Int} {xs ys : List NF} {b : Bool} (hb : (s1 == s2 && decide (xs = ys)) = b) (A B : Option Addr) (c1 c2 : Nat) (w : World) (hx : Sl false 2 (EN false) w T1 A xs) (hy : Sl false 2 (EN false) w T2 B ys) (hm : xs.length ≤ 1000000000000) (hm2 : ys.length ≤ 1000000000000)
    (hmx : ∀ x ∈ xs, x.2.length ≤ 1000000000000) (hmy : ∀ x ∈ ys, x.2.length ≤ 1000000000000) :
    Calls Try.prog 16 #[.agg #[.int .i64 s1, .slice A xs.length c1], .agg #[.int .i64 s2, .slice B ys.length c2]] w fun e w' => e = .returned (.bool b) ∧ Below w.heap.size w w' := by
  have HX := Lib.hid hx
  have HY := Lib.hid hy
  have HMX := Lib.hid hmx
  have HMY := Lib.hid hmy
  clear hx hy hmx hmy
  by_cases hs : s1 = s2
  · subst hs
    have HB : Hid (decide (xs = ys) = b) := Lib.hid (by simpa using hb)
    clear hb
    cases b
    all_goals
      go_enter Try.func16, Try.ntmps16
      go_wp2_with fail
      refine (eqNFS_any _ _ _ _ xs ys _ (Sl.below (R := EN false) EN.framed HX.out (by repeat (first | (with_reducible exact Below.refl _ _) | (with_reducible refine Below.ext ?_ (by go_size) _ _) | (with_reducible refine Below.alloc ?_ (by go_size) _) | (with_reducible refine Below.setCell ?_ (by go_size) _) | (with_reducible refine Below.drew ?_) | (with_reducible refine Below.drewN_ ?_ _)))) (Sl.below (R := EN false) EN.framed HY.out (by repeat (first | (with_reducible exact Below.refl _ _) | (with_reducible refine Below.ext ?_ (by go_size) _ _) | (with_reducible refine Below.alloc ?_ (by go_size) _) | (with_reducible refine Below.setCell ?_ (by go_size) _) | (with_reducible refine Below.drew ?_) | (with_reducible refine Below.drewN_ ?_ _)))) hm hm2 HMX.out HMY.out).mono ?_
      rw [HB.out]
      rintro e w1 ⟨rfl, hb1⟩
      obtain ⟨X, d, rfl⟩ := Below.ext_ hb1
      clear hb1
      go_wp2
      go_ret
      exact ⟨rfl, (by repeat (first | (with_reducible exact Below.refl _ _) | (with_reducible refine Below.ext ?_ (by go_size) _ _) | (with_reducible refine Below.alloc ?_ (by go_size) _) | (with_reducible refine Below.setCell ?_ (by go_size) _) | (with_reducible refine Below.drew ?_) | (with_reducible refine Below.drewN_ ?_ _)))⟩
  · have hb2 : b = false := by rw [← hb]; simp [hs]
    subst hb2
    have hne : (s1 != s2) = true := by simp [hs]
    clear hb
    go_enter Try.func16, Try.ntmps16
    go_wp2
    go_ret
    exact ⟨rfl, (by repeat (first | (with_reducible exact Below.refl _ _) | (with_reducible refine Below.ext ?_ (by go_size) _ _) | (with_reducible refine Below.alloc ?_ (by go_size) _) | (with_reducible refine Below.setCell ?_ (by go_size) _) | (with_reducible refine Below.drew ?_) | (with_reducible refine Below.drewN_ ?_ _)))⟩

end Go.Proofs.Ytnfgdgmmbddmgaa
