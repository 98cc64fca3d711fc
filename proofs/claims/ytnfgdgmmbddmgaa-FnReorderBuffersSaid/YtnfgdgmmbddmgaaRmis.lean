/- MissingNumbers of the program and of the reference. -/
import Derived.Test.YtnfgdgmmbddmgaaRmisP
import Derived.Test.YtnfgdgmmbddmgaaApp
import Derived.Test.YtnfgdgmmbddmgaaHeld
namespace Go.Proofs.Ytnfgdgmmbddmgaa
open Go.RowKit
set_option linter.unusedVariables false
set_option linter.unusedSimpArgs false

theorem infoI : (Try.prog.info? 3).map (fun i => (i.zero, i.size, i.bytes)) = some (some (.int .i64 0), 1, 8) := by kernel_rfl
theorem rwF_alloc1 {α : Type} {f : α → Value} {w : World} {t : TypeId} {v : α} {b : Nat} (hb : b = w.heap.size) : RwF f true (w.alloc (.cells #[f v] t)) (fun k => k = b) (some ⟨b, 0, none⟩) [v] := by
  subst hb
  exact RwF.of_alloc w t #[f v] [v] (fun k hk => by
    match k, hk with
    | 0, _ => rfl)
theorem below_chg1 {B g : Nat} {a w w' : World} (h : Below B a w) (hc : Chg (fun b => b = g) w w') (hB : B ≤ w.heap.size) (hg : B ≤ g) : Below B a w' :=
  h.trans (hc.below hB (fun k hk => by omega))
def NewI (w : World) (xs : List Int) (e : Ending) (w' : World) : Prop := ∃ g c, e = .returned (.slice (some ⟨g, 0, none⟩) xs.length c) ∧ Below w.heap.size w w' ∧ OwR (Value.int .i64) 3 w' w.heap.size g c xs

set_option maxHeartbeats 4000000 in
theorem implMis_any {T : Nat → Prop} (st : Int) (A : Option Addr) (c : Nat) (xs : List NF) (w : World) (hx : Sl false 2 (EN false) w T A xs) (hm : xs.length ≤ 1000000000) (hmx : ∀ x ∈ xs, x.2.length ≤ 1000000000) :
    Calls Try.prog 46 #[.agg #[.int .i64 st, .slice A xs.length c]] w fun e w' => NewI w (missB st xs) e w' := by
  obtain ⟨i0, hi, hz0, hz1, hz2⟩ := info_parts infoI
  have HX := Lib.hid hx
  have HMX := Lib.hid hmx
  clear hx hmx
  cases hv : vROB st xs
  · have hE : Hid (missB st xs = []) := Lib.hid (by unfold missB; rw [if_neg (by rw [hv]; simp)])
    have HV := Lib.hid hv
    clear hv
    go_enter Try.func46, Try.ntmps46
    go_wp2_with fail
    refine (implVR_any st A c xs _ (Sl.below (R := EN false) EN.framed HX.out (by repeat (first | (with_reducible exact Below.refl _ _) | (with_reducible refine Below.ext ?_ (by go_size) _ _) | (with_reducible refine Below.alloc ?_ (by go_size) _) | (with_reducible refine Below.setCell ?_ (by go_size) _) | (with_reducible refine Below.drew ?_) | (with_reducible refine Below.drewN_ ?_ _)))) hm HMX.out).mono ?_
    rw [HV.out]
    rintro e w1 ⟨rfl, hb⟩
    have hO : OwR (Value.int .i64) 3 w1 w.heap.size (w.heap.size + 1) 0 [] := OwR.below (OwR.new (by omega) (World.heap_new _ _ _ (by simp))) hb
    have HO := Lib.hid hO
    have HB : Hid (Below w.heap.size w w1) := Lib.hid (Below.trans (b := (w.alloc _).alloc _) (by repeat (first | (with_reducible exact Below.refl _ _) | (with_reducible refine Below.ext ?_ (by go_size) _ _) | (with_reducible refine Below.alloc ?_ (by go_size) _) | (with_reducible refine Below.setCell ?_ (by go_size) _) | (with_reducible refine Below.drew ?_) | (with_reducible refine Below.drewN_ ?_ _))) (hb.mono (by simp; try omega)))
    clear hb hO
    go_wp2
    go_ret
    rw [hE.out]
    exact ⟨_, 0, rfl, HB.out, HO.out⟩
  by_cases hn : xs = []
  · subst hn
    have hE : Hid (missB st [] = []) := Lib.hid (by unfold missB; rw [if_neg (by simp)])
    have HV := Lib.hid hv
    clear hv
    go_enter Try.func46, Try.ntmps46
    go_wp2_with fail
    refine (implVR_any st A c [] _ (Sl.nil (T := T)) (by simp) (by simp)).mono ?_
    rw [HV.out]
    rintro e w1 ⟨rfl, hb⟩
    have hO : OwR (Value.int .i64) 3 w1 w.heap.size (w.heap.size + 1) 0 [] := OwR.below (OwR.new (by omega) (World.heap_new _ _ _ (by simp))) hb
    have HO := Lib.hid hO
    have HB : Hid (Below w.heap.size w w1) := Lib.hid (Below.trans (b := (w.alloc _).alloc _) (by repeat (first | (with_reducible exact Below.refl _ _) | (with_reducible refine Below.ext ?_ (by go_size) _ _) | (with_reducible refine Below.alloc ?_ (by go_size) _) | (with_reducible refine Below.setCell ?_ (by go_size) _) | (with_reducible refine Below.drew ?_) | (with_reducible refine Below.drewN_ ?_ _))) (hb.mono (by simp; try omega)))
    have hc0 : w1.cell? ⟨w.heap.size, 1, none⟩ = some (.slice A 0 c) := (hb.cell (p := ⟨w.heap.size, 1, none⟩) (by simp; try omega)).trans (by simp [go_sem])
    clear hb hO
    go_wp2
    go_ret
    rw [hE.out]
    exact ⟨_, 0, rfl, HB.out, HO.out⟩
  have hpos : 0 < xs.length := List.length_pos_iff.2 hn
  obtain ⟨m, hm1⟩ : ∃ m, xs.length = m + 1 := ⟨xs.length - 1, by omega⟩
  have hE : Hid (missB st xs = missK st xs (dst st xs m)) := Lib.hid (by unfold missB; rw [if_pos ⟨hv, hn⟩, hm1]; rfl)
  obtain ⟨⟨hst0, hst1⟩, _⟩ := vROB_mem hv
  have hidx := vChain_idx (Int.le_refl 0) (by simp only [vROB, Bool.and_eq_true] at hv; exact hv.2)
  have hlast := hidx.1 m (by omega)
  obtain ⟨g1, o1, F, hA, hg1, ⟨hk0, _, ⟨B1, e1, hk1, _, _⟩⟩, _, _⟩ := HX.out.at_ m (by omega)
  subst hA
  have hls : (xs.getD m (0, [])).1 = xs[m].1 := by simp [List.getD, List.getElem?_eq_getElem (show m < xs.length by omega)]
  have hD : seqD st xs[m].1 = (dst st xs m : Int) := by
    have h1 := hlast.1
    unfold dst at h1 ⊢
    rw [hls] at h1 ⊢
    omega
  generalize xs[m]'(by omega) = z at *
  obtain ⟨ls, z⟩ := z
  simp only at hk0 hD
  have hD15 := hlast.2.1
  have HPI : Hid (∀ k, k ≤ 20 → (pendB xs (sqn st k) = true ↔ ∃ j, j < xs.length ∧ dst st xs j = k)) := Lib.hid (fun k hk => pend_iff hv k hk)
  have HV := Lib.hid hv
  have HD := Lib.hid hD
  have hn1 : (xs.length : Int) - 1 = (m : Int) := by omega
  have hne : ((xs.length : Int) == 0) = false := beq_eq_false_iff_ne.2 (by omega)
  have hml : (m : Int) < (xs.length : Int) := by omega
  have HM1 := Lib.hid hm1
  generalize dst st xs m = D at *
  clear hv hidx hlast hls hD hm1
  go_enter Try.func46, Try.ntmps46
  go_wp2_with fail
  refine (implVR_any st _ c xs _ (Sl.below (R := EN false) EN.framed HX.out (by repeat (first | (with_reducible exact Below.refl _ _) | (with_reducible refine Below.ext ?_ (by go_size) _ _) | (with_reducible refine Below.alloc ?_ (by go_size) _) | (with_reducible refine Below.setCell ?_ (by go_size) _) | (with_reducible refine Below.drew ?_) | (with_reducible refine Below.drewN_ ?_ _)))) hm HMX.out).mono ?_
  rw [HV.out]
  rintro e w1 ⟨rfl, hb⟩
  have hO : OwR (Value.int .i64) 3 w1 w.heap.size (w.heap.size + 1) 0 [] := OwR.below (OwR.new (by omega) (World.heap_new _ _ _ (by simp))) hb
  have HO := Lib.hid hO
  have HB : Hid (Below w.heap.size w w1) := Lib.hid (Below.trans (b := (w.alloc _).alloc _) (by repeat (first | (with_reducible exact Below.refl _ _) | (with_reducible refine Below.ext ?_ (by go_size) _ _) | (with_reducible refine Below.alloc ?_ (by go_size) _) | (with_reducible refine Below.setCell ?_ (by go_size) _) | (with_reducible refine Below.drew ?_) | (with_reducible refine Below.drewN_ ?_ _))) (hb.mono (by simp; try omega)))
  have hc0 : w1.cell? ⟨w.heap.size, 0, none⟩ = some (.int .i64 st) := (hb.cell (p := ⟨w.heap.size, 0, none⟩) (by simp; try omega)).trans (by simp [go_sem])
  have hc1 : w1.cell? ⟨w.heap.size, 1, none⟩ = some (.slice (some ⟨g1, o1, none⟩) xs.length c) := (hb.cell (p := ⟨w.heap.size, 1, none⟩) (by simp; try omega)).trans (by simp [go_sem])
  have hws : w.heap.size < w1.heap.size := by have := hb.size; simp at this; omega
  have hkl : w1.cell? ⟨g1, o1 + m * 2, none⟩ = some (.int .i64 ls) := (HB.out.cell (p := ⟨g1, o1 + m * 2, none⟩) hg1).trans hk0
  clear hb hO hk0 hk1
  go_wp2
  go_loopw [3, 5] (fun v p wr => ∃ (i g c3 : Nat) (q : List Int), i ≤ D ∧ p = .int .i64 (i : Int) ∧ v = .slice (some ⟨g, 0, none⟩) q.length c3 ∧ Hid (q = missK st xs i) ∧ Hid (Below w.heap.size w wr) ∧ Hid (OwR (Value.int .i64) 3 wr w.heap.size g c3 q) ∧ w.heap.size < wr.heap.size ∧ w.heap.size < g ∧ wr.cell? ⟨w.heap.size, 0, none⟩ = some (.int .i64 st) ∧ wr.cell? ⟨w.heap.size, 1, none⟩ = some (.slice (some ⟨g1, o1, none⟩) xs.length c)) (fun _ p _ => D - (intOf p).toNat)
  case atStart => exact ⟨0, w.heap.size + 1, 0, [], Nat.zero_le _, rfl, rfl, Lib.hid rfl, HB, HO, hws, by omega, hc0, hc1⟩
  case round =>
    clear HB HO hc0 hc1 hws hkl
    obtain ⟨i, g, c3, q, hiD, rfl, rfl, HQ, HB, HO, hws, hgw, hc0, hc1⟩ := hrel
    have hql : q.length ≤ 15 := by rw [HQ.out]; have := missK_len st xs i; omega
    have hge := HO.out.ge
    by_cases hlt : i < D
    · have hlt2 : (i : Int) < (D : Int) := by omega
      have hsq : (st + (i : Int)) % 4096 = sqn st i := rfl
      have HSQ := Lib.hid hsq
      clear hsq
      have HXr := Lib.hid (Sl.below (R := EN false) EN.framed HX.out HB.out)
      cases hpd : pendB xs (sqn st i)
      · have HN := Lib.hid (missK_no hpd)
        have HPD := Lib.hid hpd
        clear hpd
        go_wp2_with (go_at_call 59; refine (implDist_any _ _ _).mono ?_; rw [HD.out]; rintro e w' ⟨rfl, rfl⟩)
        refine wp_region_held_drew (S := (fun w' => w'.cell? ⟨w.heap.size, 0, none⟩ = some (.int .i64 st) ∧ w'.cell? ⟨w.heap.size, 1, none⟩ = some (.slice (some ⟨g1, o1, none⟩) xs.length c))) (by kernel_rfl) ?_ (fun hHeld => ?_)
        · first | exact ⟨hc0, hc1⟩ | exact ⟨c0, c1⟩ | (simp [go_sem, *]; done)
        refine wpAnyH_takeW (i := 0) (d := some 34) (v := ?_) (by simp only [List.getElem?_toArray, List.getElem?_cons_succ, List.getElem?_cons_zero]; rfl) (by rfl) (by kernel_rfl) (by kernel_rfl) (by kernel_rfl) (by intro _ _ _ h; exact h) (by rfl) ?_ (by assumption) ?_
        rotate_left 1
        · (intro w hSw; (try dsimp only at hSw); go_simp; try (with_reducible rfl))
        (try simp only [Act.put, List.setIfInBounds_toArray, List.set_cons_zero, List.set_cons_succ])
        refine wpAnyH_takeW (i := 1) (d := some 35) (v := ?_) (by simp only [List.getElem?_toArray, List.getElem?_cons_succ, List.getElem?_cons_zero]; rfl) (by rfl) (by kernel_rfl) (by kernel_rfl) (by kernel_rfl) (by intro _ _ _ h; exact h) (by rfl) ?_ (by assumption) ?_
        rotate_left 1
        · (intro w hSw; (try dsimp only at hSw); go_simp; try (with_reducible rfl))
        (try simp only [Act.put, List.setIfInBounds_toArray, List.set_cons_zero, List.set_cons_succ])
        refine wpAnyH_takeW (i := 2) (d := some 36) (v := ?_) (by simp only [List.getElem?_toArray, List.getElem?_cons_succ, List.getElem?_cons_zero]; rfl) (by rfl) (by kernel_rfl) (by kernel_rfl) (by kernel_rfl) (by intro _ _ _ h; exact h) (by rfl) ?_ (by assumption) ?_
        rotate_left 1
        · (intro w hSw; (try dsimp only at hSw); go_simp; try (with_reducible rfl))
        (try simp only [Act.put, List.setIfInBounds_toArray, List.set_cons_zero, List.set_cons_succ])
        refine wpAnyH_takeW (i := 3) (d := some 37) (v := ?_) (by simp only [List.getElem?_toArray, List.getElem?_cons_succ, List.getElem?_cons_zero]; rfl) (by rfl) (by kernel_rfl) (by kernel_rfl) (by kernel_rfl) (by intro _ _ _ h; exact h) (by rfl) ?_ (by assumption) ?_
        rotate_left 1
        · (intro w hSw; (try dsimp only at hSw); go_simp; try (with_reducible rfl))
        (try simp only [Act.put, List.setIfInBounds_toArray, List.set_cons_zero, List.set_cons_succ])
        refine wpAnyH_ready (rs := [4]) (by kernel_rfl) (by simp) ?_
        refine AllReadyH.cons (i := 4) (by simp only [List.getElem?_toArray, List.getElem?_cons_succ, List.getElem?_cons_zero]; rfl) (fun K hK => ?_) AllReadyH.nil
        go_simp
        (go_at_call 67; refine (implAdd_any _ _ (by omega) (by omega) _).mono ?_)
        rw [HSQ.out]
        rintro e w' ⟨rfl, rfl⟩
        go_wp2_with fail
        refine hK.out _ _ ?_ (fun hHeld => ?_)
        · ((try dsimp only); first | exact ⟨hc0, hc1⟩ | exact ⟨c0, c1⟩ | (simp [go_sem, *]; done))
        clear hK K
        (try simp only [Act.put, List.setIfInBounds_toArray, List.set_cons_zero, List.set_cons_succ])
        refine wpAnyH_ready (rs := [5]) (by kernel_rfl) (by simp) ?_
        refine AllReadyH.cons (i := 5) (by simp only [List.getElem?_toArray, List.getElem?_cons_succ, List.getElem?_cons_zero]; rfl) (fun K hK => ?_) AllReadyH.nil
        go_simp
        (go_at_call 66; refine (isPending_any st (some ⟨g1, o1, none⟩) c xs (sqn st i) _ (Sl.below (R := EN false) EN.framed HXr.out (Below.drew (Below.refl _ _))) hm).mono ?_)
        rw [HPD.out]
        rintro e w2 ⟨rfl, hb2⟩
        have hb3 : Below wr.heap.size wr w2 := Below.trans (Below.drew (Below.refl _ _)) hb2
        have HB2 := Lib.hid (HB.out.trans (hb3.mono (by omega)))
        have HO2 := Lib.hid (HO.out.below hb3)
        have c0 := (hb3.cell (p := ⟨w.heap.size, 0, none⟩) hws).trans hc0
        have c1 := (hb3.cell (p := ⟨w.heap.size, 1, none⟩) hws).trans hc1
        have hs2 := hb3.size
        clear hb2 hb3
        go_wp2_with fail
        refine hK.out _ _ ?_ (fun hHeld => ?_)
        · ((try dsimp only); first | exact ⟨hc0, hc1⟩ | exact ⟨c0, c1⟩ | (simp [go_sem, *]; done))
        clear hK K
        (try simp only [Act.put, List.setIfInBounds_toArray, List.set_cons_zero, List.set_cons_succ])
        refine wpAnyH_takeW (i := 6) (d := some 40) (v := ?_) (by simp only [List.getElem?_toArray, List.getElem?_cons_succ, List.getElem?_cons_zero]; rfl) (by rfl) (by kernel_rfl) (by kernel_rfl) (by kernel_rfl) (by intro _ _ _ h; exact h) (by rfl) ?_ (by assumption) ?_
        rotate_left 1
        · (intro w hSw; (try dsimp only at hSw); go_simp; try (with_reducible rfl))
        (try simp only [Act.put, List.setIfInBounds_toArray, List.set_cons_zero, List.set_cons_succ])
        refine wpAnyH_done (by kernel_rfl) ?_ _
        go_wp2_with fail
        refine (implAdd_any _ _ (by omega) (by omega) _).mono ?_
        rw [HSQ.out]
        rintro e w' ⟨rfl, rfl⟩
        go_wp2_with (at_builtin; refine wpList_appR rfl (.tmp 41) (.tmp 46) 54 rfl 3 i0 (.int .i64 0) 8 Try.underlying54 hi hz0 hz1 hz2 rfl w.heap.size _ _ _ rfl (HO2.out.below ((Below.refl _ _).alloc (Nat.le_refl _) _)) _ [sqn st i] _ (fun _ _ => rfl) rfl (rwF_alloc1 (f := Value.int .i64) (by simp)) (by first | omega | (simp; done) | (simp; omega)) (by decide) (by first | omega | (simp; done) | (simp; omega)) ?_)
        intro g4 c4 w4 q4 HQ4 HO4 HG4 HC4
        have HB4 := Lib.hid (below_chg1 (Below.alloc HB2.out (by omega) _) HC4.out (by simp; omega) hge)
        have d0 : w4.cell? ⟨w.heap.size, 0, none⟩ = some (.int .i64 st) := (HC4.out.cell (p := ⟨w.heap.size, 0, none⟩) (by simp; omega) (by simp; omega)).trans ((World.cell?_alloc_lt _ _ ⟨w.heap.size, 0, none⟩ (show w.heap.size < w2.heap.size by omega)).trans c0)
        have d1 : w4.cell? ⟨w.heap.size, 1, none⟩ = some (.slice (some ⟨g1, o1, none⟩) xs.length c) := (HC4.out.cell (p := ⟨w.heap.size, 1, none⟩) (by simp; omega) (by simp; omega)).trans ((World.cell?_alloc_lt _ _ ⟨w.heap.size, 1, none⟩ (show w.heap.size < w2.heap.size by omega)).trans c1)
        have hs4 : w.heap.size < w4.heap.size := by have := HC4.out.size; simp at this; omega
        have hg4 : w.heap.size < g4 := by rcases HG4.out with h | h <;> (try simp at h) <;> omega
        have HQ5 : Hid (q4 = missK st xs (i + 1)) := Lib.hid (by rw [HQ4.out, HN.out, HQ.out])
        clear HQ4 HG4 HC4 HO2 HB2 c0 c1
        go_wp2
        go_roundw
        case rel => exact ⟨i + 1, g4, c4, q4, by omega, by go_num, rfl, HQ5, HB4, HO4, hs4, hg4, d0, d1⟩
        case measure => simp [intOf]; omega
      · have HN := Lib.hid (missK_yes hpd)
        have HPD := Lib.hid hpd
        clear hpd
        go_wp2_with (go_at_call 59; refine (implDist_any _ _ _).mono ?_; rw [HD.out]; rintro e w' ⟨rfl, rfl⟩)
        refine wp_region_held_drew (S := (fun w' => w'.cell? ⟨w.heap.size, 0, none⟩ = some (.int .i64 st) ∧ w'.cell? ⟨w.heap.size, 1, none⟩ = some (.slice (some ⟨g1, o1, none⟩) xs.length c))) (by kernel_rfl) ?_ (fun hHeld => ?_)
        · first | exact ⟨hc0, hc1⟩ | exact ⟨c0, c1⟩ | (simp [go_sem, *]; done)
        refine wpAnyH_takeW (i := 0) (d := some 34) (v := ?_) (by simp only [List.getElem?_toArray, List.getElem?_cons_succ, List.getElem?_cons_zero]; rfl) (by rfl) (by kernel_rfl) (by kernel_rfl) (by kernel_rfl) (by intro _ _ _ h; exact h) (by rfl) ?_ (by assumption) ?_
        rotate_left 1
        · (intro w hSw; (try dsimp only at hSw); go_simp; try (with_reducible rfl))
        (try simp only [Act.put, List.setIfInBounds_toArray, List.set_cons_zero, List.set_cons_succ])
        refine wpAnyH_takeW (i := 1) (d := some 35) (v := ?_) (by simp only [List.getElem?_toArray, List.getElem?_cons_succ, List.getElem?_cons_zero]; rfl) (by rfl) (by kernel_rfl) (by kernel_rfl) (by kernel_rfl) (by intro _ _ _ h; exact h) (by rfl) ?_ (by assumption) ?_
        rotate_left 1
        · (intro w hSw; (try dsimp only at hSw); go_simp; try (with_reducible rfl))
        (try simp only [Act.put, List.setIfInBounds_toArray, List.set_cons_zero, List.set_cons_succ])
        refine wpAnyH_takeW (i := 2) (d := some 36) (v := ?_) (by simp only [List.getElem?_toArray, List.getElem?_cons_succ, List.getElem?_cons_zero]; rfl) (by rfl) (by kernel_rfl) (by kernel_rfl) (by kernel_rfl) (by intro _ _ _ h; exact h) (by rfl) ?_ (by assumption) ?_
        rotate_left 1
        · (intro w hSw; (try dsimp only at hSw); go_simp; try (with_reducible rfl))
        (try simp only [Act.put, List.setIfInBounds_toArray, List.set_cons_zero, List.set_cons_succ])
        refine wpAnyH_takeW (i := 3) (d := some 37) (v := ?_) (by simp only [List.getElem?_toArray, List.getElem?_cons_succ, List.getElem?_cons_zero]; rfl) (by rfl) (by kernel_rfl) (by kernel_rfl) (by kernel_rfl) (by intro _ _ _ h; exact h) (by rfl) ?_ (by assumption) ?_
        rotate_left 1
        · (intro w hSw; (try dsimp only at hSw); go_simp; try (with_reducible rfl))
        (try simp only [Act.put, List.setIfInBounds_toArray, List.set_cons_zero, List.set_cons_succ])
        refine wpAnyH_ready (rs := [4]) (by kernel_rfl) (by simp) ?_
        refine AllReadyH.cons (i := 4) (by simp only [List.getElem?_toArray, List.getElem?_cons_succ, List.getElem?_cons_zero]; rfl) (fun K hK => ?_) AllReadyH.nil
        go_simp
        (go_at_call 67; refine (implAdd_any _ _ (by omega) (by omega) _).mono ?_)
        rw [HSQ.out]
        rintro e w' ⟨rfl, rfl⟩
        go_wp2_with fail
        refine hK.out _ _ ?_ (fun hHeld => ?_)
        · ((try dsimp only); first | exact ⟨hc0, hc1⟩ | exact ⟨c0, c1⟩ | (simp [go_sem, *]; done))
        clear hK K
        (try simp only [Act.put, List.setIfInBounds_toArray, List.set_cons_zero, List.set_cons_succ])
        refine wpAnyH_ready (rs := [5]) (by kernel_rfl) (by simp) ?_
        refine AllReadyH.cons (i := 5) (by simp only [List.getElem?_toArray, List.getElem?_cons_succ, List.getElem?_cons_zero]; rfl) (fun K hK => ?_) AllReadyH.nil
        go_simp
        (go_at_call 66; refine (isPending_any st (some ⟨g1, o1, none⟩) c xs (sqn st i) _ (Sl.below (R := EN false) EN.framed HXr.out (Below.drew (Below.refl _ _))) hm).mono ?_)
        rw [HPD.out]
        rintro e w2 ⟨rfl, hb2⟩
        have hb3 : Below wr.heap.size wr w2 := Below.trans (Below.drew (Below.refl _ _)) hb2
        have HB2 := Lib.hid (HB.out.trans (hb3.mono (by omega)))
        have HO2 := Lib.hid (HO.out.below hb3)
        have c0 := (hb3.cell (p := ⟨w.heap.size, 0, none⟩) hws).trans hc0
        have c1 := (hb3.cell (p := ⟨w.heap.size, 1, none⟩) hws).trans hc1
        have hs2 := hb3.size
        clear hb2 hb3
        go_wp2_with fail
        refine hK.out _ _ ?_ (fun hHeld => ?_)
        · ((try dsimp only); first | exact ⟨hc0, hc1⟩ | exact ⟨c0, c1⟩ | (simp [go_sem, *]; done))
        clear hK K
        (try simp only [Act.put, List.setIfInBounds_toArray, List.set_cons_zero, List.set_cons_succ])
        refine wpAnyH_takeW (i := 6) (d := some 40) (v := ?_) (by simp only [List.getElem?_toArray, List.getElem?_cons_succ, List.getElem?_cons_zero]; rfl) (by rfl) (by kernel_rfl) (by kernel_rfl) (by kernel_rfl) (by intro _ _ _ h; exact h) (by rfl) ?_ (by assumption) ?_
        rotate_left 1
        · (intro w hSw; (try dsimp only at hSw); go_simp; try (with_reducible rfl))
        (try simp only [Act.put, List.setIfInBounds_toArray, List.set_cons_zero, List.set_cons_succ])
        refine wpAnyH_done (by kernel_rfl) ?_ _
        go_wp2
        go_roundw
        case rel => exact ⟨i + 1, g, c3, q, by omega, by go_num, rfl, Lib.hid (by rw [HN.out]; exact HQ.out), HB2, HO2, by omega, hgw, c0, c1⟩
        case measure => simp [intOf]; omega
    · obtain rfl : i = D := by omega
      go_wp2_with (go_at_call 59; refine (implDist_any _ _ _).mono ?_; rw [HD.out]; rintro e w' ⟨rfl, rfl⟩)
      go_ret
      rw [hE.out, ← HQ.out]
      exact ⟨g, c3, rfl, HB.out, HO.out⟩

def kAt (st : Int) (xs : List NF) : Nat → Nat
  | 0 => 0
  | j + 1 => dst st xs j + 1
set_option maxHeartbeats 4000000 in
theorem specMis_any {T : Nat → Prop} (st : Int) (A : Option Addr) (c : Nat) (xs : List NF) (w : World) (hx : Sl false 2 (EN false) w T A xs) (hm : xs.length ≤ 1000000000) (hmx : ∀ x ∈ xs, x.2.length ≤ 1000000000) :
    Calls Try.prog 45 #[.agg #[.int .i64 st, .slice A xs.length c]] w fun e w' => NewI w (missB st xs) e w' := by
  obtain ⟨i0, hi, hz0, hz1, hz2⟩ := info_parts infoI
  have HX := Lib.hid hx
  have HMX := Lib.hid hmx
  clear hx hmx
  cases hv : vROB st xs
  · have hE : Hid (missB st xs = []) := Lib.hid (by unfold missB; rw [if_neg (by rw [hv]; simp)])
    have HV := Lib.hid hv
    clear hv
    go_enter Try.func45, Try.ntmps45
    go_wp2_with fail
    refine (specVR_any st A c xs _ (Sl.below (R := EN false) EN.framed HX.out (by repeat (first | (with_reducible exact Below.refl _ _) | (with_reducible refine Below.ext ?_ (by go_size) _ _) | (with_reducible refine Below.alloc ?_ (by go_size) _) | (with_reducible refine Below.setCell ?_ (by go_size) _) | (with_reducible refine Below.drew ?_) | (with_reducible refine Below.drewN_ ?_ _)))) hm HMX.out).mono ?_
    rw [HV.out]
    rintro e w1 ⟨rfl, hb⟩
    have hO : OwR (Value.int .i64) 3 w1 w.heap.size (w.heap.size + 1) 0 [] := OwR.below (OwR.new (by omega) (World.heap_new _ _ _ (by simp))) hb
    have HO := Lib.hid hO
    have HB : Hid (Below w.heap.size w w1) := Lib.hid (Below.trans (b := (w.alloc _).alloc _) (by repeat (first | (with_reducible exact Below.refl _ _) | (with_reducible refine Below.ext ?_ (by go_size) _ _) | (with_reducible refine Below.alloc ?_ (by go_size) _) | (with_reducible refine Below.setCell ?_ (by go_size) _) | (with_reducible refine Below.drew ?_) | (with_reducible refine Below.drewN_ ?_ _))) (hb.mono (by simp; try omega)))
    clear hb hO
    go_wp2
    go_ret
    rw [hE.out]
    exact ⟨_, 0, rfl, HB.out, HO.out⟩
  obtain ⟨⟨hst0, hst1⟩, _⟩ := vROB_mem hv
  have hidx := vChain_idx (Int.le_refl 0) (by simp only [vROB, Bool.and_eq_true] at hv; exact hv.2)
  have HID := Lib.hid hidx
  have hE : Hid (missB st xs = missK st xs (kAt st xs xs.length)) := Lib.hid (by
    unfold missB
    by_cases hn : xs = []
    · subst hn; rw [if_neg (by simp)]; rfl
    · rw [if_pos ⟨hv, hn⟩]
      have hpos : 0 < xs.length := List.length_pos_iff.2 hn
      obtain ⟨m, hm1⟩ : ∃ m, xs.length = m + 1 := ⟨xs.length - 1, by omega⟩
      rw [hm1]
      show missK st xs (dst st xs m) = missK st xs (dst st xs m + 1)
      rw [missK_yes ((pend_iff hv _ (by have := (hidx.1 m (by omega)).2.1; omega)).2 ⟨m, by omega, rfl⟩)])
  have HPI : Hid (∀ k, k ≤ 20 → (pendB xs (sqn st k) = true ↔ ∃ j, j < xs.length ∧ dst st xs j = k)) := Lib.hid (fun k hk => pend_iff hv k hk)
  have HKA : Hid (∀ j, j ≤ xs.length → kAt st xs j ≤ 16) := Lib.hid (fun j hj => by
    cases j with
    | zero => simp [kAt]
    | succ j => have := (hidx.1 j (by omega)).2.1; simp only [kAt]; omega)
  have HV := Lib.hid hv
  have HS0 : Hid (sqn st 0 = st) := Lib.hid (by unfold sqn; omega)
  clear hv hidx
  go_enter Try.func45, Try.ntmps45
  go_wp2_with fail
  refine (specVR_any st _ c xs _ (Sl.below (R := EN false) EN.framed HX.out (by repeat (first | (with_reducible exact Below.refl _ _) | (with_reducible refine Below.ext ?_ (by go_size) _ _) | (with_reducible refine Below.alloc ?_ (by go_size) _) | (with_reducible refine Below.setCell ?_ (by go_size) _) | (with_reducible refine Below.drew ?_) | (with_reducible refine Below.drewN_ ?_ _)))) hm HMX.out).mono ?_
  rw [HV.out]
  rintro e w1 ⟨rfl, hb⟩
  have hO : OwR (Value.int .i64) 3 w1 w.heap.size (w.heap.size + 1) 0 [] := OwR.below (OwR.new (by omega) (World.heap_new _ _ _ (by simp))) hb
  have HO := Lib.hid hO
  have HB : Hid (Below w.heap.size w w1) := Lib.hid (Below.trans (b := (w.alloc _).alloc _) (by repeat (first | (with_reducible exact Below.refl _ _) | (with_reducible refine Below.ext ?_ (by go_size) _ _) | (with_reducible refine Below.alloc ?_ (by go_size) _) | (with_reducible refine Below.setCell ?_ (by go_size) _) | (with_reducible refine Below.drew ?_) | (with_reducible refine Below.drewN_ ?_ _))) (hb.mono (by simp; try omega)))
  have hc0 : w1.cell? ⟨w.heap.size, 0, none⟩ = some (.int .i64 st) := (hb.cell (p := ⟨w.heap.size, 0, none⟩) (by simp; try omega)).trans (by simp [go_sem])
  have hc1 : w1.cell? ⟨w.heap.size, 1, none⟩ = some (.slice A xs.length c) := (hb.cell (p := ⟨w.heap.size, 1, none⟩) (by simp; try omega)).trans (by simp [go_sem])
  have hws : w.heap.size < w1.heap.size := by have := hb.size; simp at this; omega
  clear hb hO
  go_wp2
  go_loopw [3, 4, 5] (fun v x p wr => ∃ (j g c3 : Nat) (q : List Int), j ≤ xs.length ∧ p = .int .i64 (j : Int) ∧ x = .int .i64 (sqn st (kAt st xs j)) ∧ v = .slice (some ⟨g, 0, none⟩) q.length c3 ∧ Hid (q = missK st xs (kAt st xs j)) ∧ Hid (Below w.heap.size w wr) ∧ Hid (OwR (Value.int .i64) 3 wr w.heap.size g c3 q) ∧ w.heap.size < wr.heap.size ∧ w.heap.size < g ∧ wr.cell? ⟨w.heap.size, 1, none⟩ = some (.slice A xs.length c)) (fun _ _ p _ => xs.length - (intOf p).toNat)
  case atStart => exact ⟨0, w.heap.size + 1, 0, [], Nat.zero_le _, rfl, by show _ = Value.int .i64 (sqn st 0); rw [HS0.out], rfl, Lib.hid rfl, HB, HO, hws, by omega, hc1⟩
  case round =>
    clear HB HO hc0 hc1 hws
    obtain ⟨j, g, c3, q, hj, rfl, rfl, rfl, HQ, HB, HO, hws, hgw, hc1⟩ := hrel
    by_cases hlt : j < xs.length
    · have hlt2 : (j : Int) < (xs.length : Int) := by omega
      obtain ⟨g1, o1, F, rfl, hg1, ⟨hk0, _, _⟩, _, _⟩ := HX.out.at_ j hlt
      have hls : (xs.getD j (0, [])).1 = xs[j].1 := by simp [List.getD, List.getElem?_eq_getElem hlt]
      have hjx := HID.out.1 j hlt
      rw [hls] at hjx
      obtain ⟨hj1, hj2, hj3⟩ := hjx
      rw [hj3] at hk0
      have hkD : kAt st xs j ≤ dst st xs j := by
        cases j with
        | zero => simp [kAt]
        | succ j => have := HID.out.2 j (j + 1) (by omega) hlt; simp only [kAt]; omega
      have hpD : pendB xs (sqn st (dst st xs j)) = true := (HPI.out _ (by omega)).2 ⟨j, hlt, rfl⟩
      have HPN : Hid (∀ k, kAt st xs j ≤ k → k < dst st xs j → pendB xs (sqn st k) = false) := Lib.hid (fun k h1 h2 => by
        cases h : pendB xs (sqn st k)
        · rfl
        · obtain ⟨i, hi, hd⟩ := (HPI.out k (by omega)).1 h
          exfalso
          rcases Nat.lt_trichotomy i j with hij | rfl | hij
          · cases j with
            | zero => omega
            | succ m =>
              simp only [kAt] at h1
              rcases Nat.lt_or_ge i m with him | him
              · have := HID.out.2 i m him (by omega); omega
              · obtain rfl : i = m := by omega
                omega
          · omega
          · have := HID.out.2 j i hij hi; omega)
      have HND : Hid (missK st xs (dst st xs j + 1) = missK st xs (dst st xs j)) := Lib.hid (missK_yes hpD)
      have HK1 : Hid (kAt st xs (j + 1) = dst st xs j + 1) := Lib.hid rfl
      have HSU := Lib.hid (fun k => sqn_succ ⟨hst0, hst1⟩ k)
      generalize dst st xs j = D at *
      generalize kAt st xs j = K at *
      clear hls hj1 hj3 hpD
      obtain ⟨wa, rfl⟩ : ∃ wa : World, wa = wr := ⟨_, rfl⟩
      go_wp2
      go_loopw [3, 4] (fun v x wr => ∃ (k g c3 : Nat) (q : List Int), K ≤ k ∧ k ≤ D ∧ x = .int .i64 (sqn st k) ∧ v = .slice (some ⟨g, 0, none⟩) q.length c3 ∧ Hid (q = missK st xs k) ∧ Hid (Below w.heap.size w wr) ∧ Hid (OwR (Value.int .i64) 3 wr w.heap.size g c3 q) ∧ w.heap.size < wr.heap.size ∧ w.heap.size < g ∧ wr.cell? ⟨w.heap.size, 1, none⟩ = some (.slice (some ⟨g1, o1, none⟩) xs.length c)) (fun v x _ => (D + 1 - ((intOf x - st) % 4096).toNat))
      case atStart => exact ⟨K, g, c3, q, Nat.le_refl _, hkD, rfl, rfl, HQ, HB, HO, hws, hgw, hc1⟩
      case round =>
        clear HQ HB HO hws hgw hc1
        obtain ⟨k, g, c3, q, hKk, hkD2, rfl, rfl, HQ, HB, HO, hws, hgw, hc1⟩ := hrel
        have hkl : wr.cell? ⟨g1, o1 + j * 2, none⟩ = some (.int .i64 (sqn st D)) := (HB.out.cell (p := ⟨g1, o1 + j * 2, none⟩) hg1).trans hk0
        have hql : q.length ≤ 15 := by rw [HQ.out]; have := missK_len st xs k; omega
        have hge := HO.out.ge
        have hmeas : ∀ n : Nat, n ≤ 20 → ((sqn st n - st) % 4096).toNat = n := by intro n hn; unfold sqn; omega
        have HMEAS := Lib.hid hmeas
        clear hmeas
        by_cases hkd : k = D
        · have HKD := Lib.hid hkd
          have heq : ((sqn st k) != (sqn st D)) = false := by rw [hkd]; simp
          have HSK := Lib.hid (HSU.out k)
          have heq2 : sqn st k = sqn st D := by rw [hkd]
          have HEQ2 := Lib.hid heq2
          clear hkd heq2
          generalize hsk : sqn st k = sk at *
          generalize hsD : sqn st D = sD at *
          have H1 := Lib.hid hsk
          have H2 := Lib.hid hsD
          clear hsk hsD
          have hss : sk = sD := HEQ2.out
          subst hss
          go_wp2_with (go_at_call 77; refine (specNext_any _ _).mono ?_; rintro e w' ⟨rfl, rfl⟩)
          go_roundw
          case rel => exact ⟨j + 1, g, c3, q, by omega, by go_num, by rw [HK1.out, HSK.out, HKD.out], rfl, Lib.hid (by rw [HK1.out, HND.out, HQ.out, HKD.out]), HB, HO, hws, hgw, hc1⟩
          case measure => simp [intOf]; omega
        · have hkD3 : k < D := by omega
          have hne : ¬ sqn st k = sqn st D := fun h => hkd (sqn_inj (by omega) (by omega) h)
          have hne2 : ((sqn st k) != (sqn st D)) = true := by simp [hne]
          have HN := Lib.hid (missK_no (HPN.out k hKk hkD3))
          have HSK := Lib.hid (HSU.out k)
          have hbd := sqn_bd st k
          have hM1 := HMEAS.out k (by omega)
          have hM2 := HMEAS.out (k + 1) (by omega)
          have HM1 := Lib.hid hM1
          have HM2 := Lib.hid hM2
          clear hM1 hM2
          generalize hsk : sqn st k = sk at *
          generalize hsD : sqn st D = sD at *
          have H1 := Lib.hid hsk
          have H2 := Lib.hid hsD
          clear hsk hsD hkd
          go_wp2_with (at_builtin; refine wpList_appR rfl (.tmp 28) (.tmp 30) 54 rfl 3 i0 (.int .i64 0) 8 Try.underlying54 hi hz0 hz1 hz2 rfl w.heap.size _ _ _ rfl (HO.out.below ((Below.refl _ _).alloc (Nat.le_refl _) _)) _ [sk] _ (fun _ _ => rfl) rfl (rwF_alloc1 (f := Value.int .i64) (by simp)) (by first | omega | (simp; done) | (simp; omega)) (by decide) (by first | omega | (simp; done) | (simp; omega)) ?_)
          intro g4 c4 w4 q4 HQ4 HO4 HG4 HC4
          have HB4 := Lib.hid (below_chg1 (Below.alloc HB.out (by omega) _) HC4.out (by simp; omega) hge)
          have d1 : w4.cell? ⟨w.heap.size, 1, none⟩ = some (.slice (some ⟨g1, o1, none⟩) xs.length c) := (HC4.out.cell (p := ⟨w.heap.size, 1, none⟩) (by simp; omega) (by simp; omega)).trans ((World.cell?_alloc_lt _ _ ⟨w.heap.size, 1, none⟩ (show w.heap.size < wr.heap.size by omega)).trans hc1)
          have hs4 : w.heap.size < w4.heap.size := by have := HC4.out.size; simp at this; omega
          have hg4 : w.heap.size < g4 := by rcases HG4.out with h | h <;> (try simp at h) <;> omega
          have HQ5 : Hid (q4 = missK st xs (k + 1)) := Lib.hid (by rw [HQ4.out, HN.out, HQ.out])
          clear HQ4 HG4 HC4
          go_wp2_with (go_at_call 77; refine (specNext_any _ _).mono ?_; rw [HSK.out]; rintro e w' ⟨rfl, rfl⟩)
          go_roundw
          case rel => exact ⟨k + 1, g4, c4, q4, by omega, by omega, rfl, rfl, HQ5, HB4, HO4, hs4, hg4, d1⟩
          case measure => simp only [intOf]; rw [HM1.out, HM2.out]; omega
    · obtain rfl : j = xs.length := by omega
      go_wp2
      go_ret
      rw [hE.out, ← HQ.out]
      exact ⟨g, c3, rfl, HB.out, HO.out⟩

end Go.Proofs.Ytnfgdgmmbddmgaa
