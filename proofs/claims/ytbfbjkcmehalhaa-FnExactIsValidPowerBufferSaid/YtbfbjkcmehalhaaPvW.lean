/- The walk of FnExactIsValidPowerBuffer. -/
import Derived.Test.YtbfbjkcmehalhaaKTe
import Derived.Test.YtbfbjkcmehalhaaPval
namespace Go.Proofs.Ytbfbjkcmehalhaa
open Go.RowKit
set_option linter.unusedVariables false
set_option linter.unusedSimpArgs false

set_option maxHeartbeats 4000000 in
theorem isValidPowerBuffer_walk (A : Option Addr) (c : Nat) (xs : List KT) (w : World) (hx : Sl false 4 (EK false) w (fun g => g < w.heap.size) A xs) (hlen : xs.length ≤ 9223372036854775807) (hb : ∀ x ∈ xs, KTok x) :
    Calls Try.prog 5 #[.agg #[.slice A xs.length c]] w fun e w' => e = .returned (.bool true) ∧ Below w.heap.size w w' := by
  have X := Lib.hid hx
  have HZ := Lib.hid hb
  clear hx hb
  by_cases hbig : 1048576 < szK xs
  · have hz : Hid (szO (szK xs) 1048576 = -1) := Lib.hid (if_neg (by omega))
    go_enter Try.func5, Try.ntmps5
    go_wp2_with fail
    refine (szPB_any A c xs 1048576 _ (Sl.below (R := EK false) EK.framed X.out (by repeat (first | (with_reducible exact Below.refl _ _) | (with_reducible refine Below.ext ?_ (by go_size) _ _) | (with_reducible refine Below.alloc ?_ (by go_size) _) | (with_reducible refine Below.setCell ?_ (by go_size) _) | (with_reducible refine Below.drew ?_) | (with_reducible refine Below.drewN_ ?_ _)))) hlen HZ.out (by omega) (by omega)).mono ?_
    rw [hz.out]
    rintro e w' ⟨rfl, hb⟩
    obtain ⟨X', d', rfl⟩ := Below.ext_ hb
    clear hb
    go_wp2
    go_ret
    exact ⟨rfl, (by repeat (first | (with_reducible exact Below.refl _ _) | (with_reducible refine Below.ext ?_ (by go_size) _ _) | (with_reducible refine Below.alloc ?_ (by go_size) _) | (with_reducible refine Below.setCell ?_ (by go_size) _) | (with_reducible refine Below.drew ?_) | (with_reducible refine Below.drewN_ ?_ _)))⟩
  have hz : Hid (szO (szK xs) 1048576 = 1048576 - (szK xs : Int)) := Lib.hid (if_pos (by omega))
  have hz0 : ¬ 1048576 - (szK xs : Int) < 0 := by omega
  have hz1 : xs.length ≤ 1000000000 := by unfold szK at hbig; omega
  have HS : Hid (∀ x ∈ xs, szSS x.fr ≤ 1048576) := Lib.hid (fun x h => by have := sumK_mem h; unfold szK at hbig; omega)
  have HM : Hid (∀ x ∈ xs, x.fr.length ≤ 1000000000000 ∧ ∀ f ∈ x.fr, f.length ≤ 1000000000000) := Lib.hid (fun x h => by
    have h1 := HS.out x h
    unfold szSS at h1
    exact ⟨by omega, fun f hf => by have := sumL_mem hf; omega⟩)
  have HM9 : Hid (∀ x ∈ xs, x.fr.length ≤ 1000000000 ∧ ∀ f ∈ x.fr, f.length ≤ 1000000000) := Lib.hid (fun x h => by
    have h1 := HS.out x h
    unfold szSS at h1
    exact ⟨by omega, fun f hf => by have := sumL_mem hf; omega⟩)
  have HS20 : Hid (szK xs ≤ 1048576) := Lib.hid (by omega)
  clear hbig
  go_enter Try.func5, Try.ntmps5
  have HBw : Hid (Below w.heap.size w w) := Lib.hid (Below.refl _ _)
  go_wp2_with fail
  refine (szPB_any A c xs 1048576 _ (Sl.below (R := EK false) EK.framed X.out (by repeat (first | (with_reducible exact Below.refl _ _) | (with_reducible refine Below.ext ?_ (by go_size) _ _) | (with_reducible refine Below.alloc ?_ (by go_size) _) | (with_reducible refine Below.setCell ?_ (by go_size) _) | (with_reducible refine Below.drew ?_) | (with_reducible refine Below.drewN_ ?_ _)))) hlen HZ.out (by omega) (by omega)).mono ?_
  rw [hz.out]
  rintro e w1 ⟨rfl, hb⟩
  have hbb : Below w.heap.size w w1 := by
    refine Below.trans ?_ (Below.mono hb ?_)
    · exact (by repeat (first | (with_reducible exact Below.refl _ _) | (with_reducible refine Below.ext ?_ (by go_size) _ _) | (with_reducible refine Below.alloc ?_ (by go_size) _) | (with_reducible refine Below.setCell ?_ (by go_size) _) | (with_reducible refine Below.drew ?_) | (with_reducible refine Below.drewN_ ?_ _)))
    · (simp; try omega)
  have hsw1 := hbb.size
  replace X := Lib.hid (Sl.below (R := EK false) EK.framed X.out hbb)
  have ca0 : w1.cell? ⟨w.heap.size, 0, none⟩ = some (.slice A xs.length c) := (hb.cell (p := ⟨w.heap.size, 0, none⟩) (by simp; try omega)).trans (by simp [go_sem])
  have la : w.heap.size < w1.heap.size := by have := hb.size; simp at this; omega
  have pa := la
  have HBw1 : Hid (Below w.heap.size w w1) := Lib.hid (HBw.out.trans (hbb.mono HBw.out.size))
  clear hbb HBw
  clear hb
  go_wp2_with fail
  refine (toPB_any A c xs _ X.out hz1 HM.out).mono ?_
  rintro e w2 ⟨b1, rfl, hb, hb0, hb1, y⟩
  have hbb := hb
  have hsw2 := hbb.size
  replace X := Lib.hid (Sl.below (R := EK false) EK.framed X.out hbb)
  replace ca0 := (hbb.cell (p := ⟨w.heap.size, 0, none⟩) la).trans ca0
  replace la : w.heap.size < w2.heap.size := Nat.lt_of_lt_of_le la hsw2
  have HBw2 : Hid (Below w.heap.size w w2) := Lib.hid (HBw1.out.trans (hbb.mono HBw1.out.size))
  clear hbb HBw1
  clear hb
  have Y := Lib.hid y
  clear y
  clear hb0 hb1
  go_wp2_with fail
  refine (specVP_any _ _ xs _ (SlK.read Y.out) hz1 HM9.out).mono ?_
  rintro e w3 ⟨rfl, hb⟩
  have hbb := hb
  have hsw3 := hbb.size
  replace X := Lib.hid (Sl.below (R := EK false) EK.framed X.out hbb)
  replace Y := Lib.hid (Sl.below (R := EK true) EK.framed Y.out hbb)
  replace ca0 := (hbb.cell (p := ⟨w.heap.size, 0, none⟩) la).trans ca0
  replace la : w.heap.size < w3.heap.size := Nat.lt_of_lt_of_le la hsw3
  have HBw3 : Hid (Below w.heap.size w w3) := Lib.hid (HBw2.out.trans (hbb.mono HBw2.out.size))
  clear hbb HBw2
  clear hb
  clear Y
  go_wp2_with fail
  refine (toPB_any A c xs _ X.out hz1 HM.out).mono ?_
  rintro e w4 ⟨b2, rfl, hb, hb0, hb1, y⟩
  have hbb := hb
  have hsw4 := hbb.size
  replace X := Lib.hid (Sl.below (R := EK false) EK.framed X.out hbb)
  replace ca0 := (hbb.cell (p := ⟨w.heap.size, 0, none⟩) la).trans ca0
  replace la : w.heap.size < w4.heap.size := Nat.lt_of_lt_of_le la hsw4
  have HBw4 : Hid (Below w.heap.size w w4) := Lib.hid (HBw3.out.trans (hbb.mono HBw3.out.size))
  clear hbb HBw3
  clear hb
  have Y := Lib.hid y
  clear y
  clear hb0 hb1
  go_wp2_with fail
  refine (implVP_any _ _ xs _ (SlK.read (Sl.below (R := EK true) EK.framed Y.out (by repeat (first | (with_reducible exact Below.refl _ _) | (with_reducible refine Below.ext ?_ (by go_size) _ _) | (with_reducible refine Below.alloc ?_ (by go_size) _) | (with_reducible refine Below.setCell ?_ (by go_size) _) | (with_reducible refine Below.drew ?_) | (with_reducible refine Below.drewN_ ?_ _))))) hz1 HM9.out).mono ?_
  rintro e w5 ⟨rfl, hb⟩
  have hbb : Below w4.heap.size w4 w5 := by
    refine Below.trans ?_ (Below.mono hb ?_)
    · exact (by repeat (first | (with_reducible exact Below.refl _ _) | (with_reducible refine Below.ext ?_ (by go_size) _ _) | (with_reducible refine Below.alloc ?_ (by go_size) _) | (with_reducible refine Below.setCell ?_ (by go_size) _) | (with_reducible refine Below.drew ?_) | (with_reducible refine Below.drewN_ ?_ _)))
    · (simp; try omega)
  have hsw5 := hbb.size
  replace X := Lib.hid (Sl.below (R := EK false) EK.framed X.out hbb)
  replace Y := Lib.hid (Sl.below (R := EK true) EK.framed Y.out hbb)
  replace ca0 := (hbb.cell (p := ⟨w.heap.size, 0, none⟩) la).trans ca0
  replace la : w.heap.size < w5.heap.size := Nat.lt_of_lt_of_le la hsw5
  have cx0 : w5.cell? ⟨w4.heap.size, 0, none⟩ = some (.slice (some ⟨b2, 0, none⟩) xs.length xs.length) := (hb.cell (p := ⟨w4.heap.size, 0, none⟩) (by simp; try omega)).trans (by simp [go_sem])
  have lx : w4.heap.size < w5.heap.size := by have := hb.size; simp at this; omega
  have px := lx
  have HBw5 : Hid (Below w.heap.size w w5) := Lib.hid (HBw4.out.trans (hbb.mono HBw4.out.size))
  clear hbb HBw4
  clear hb
  go_wp2
  refine wp_region_held_drew (S := (fun w' => w'.cell? ⟨w4.heap.size, 0, none⟩ = some (.slice (some ⟨b2, 0, none⟩) xs.length xs.length) ∧ w'.cell? ⟨w.heap.size, 0, none⟩ = some (.slice A xs.length c))) (by kernel_rfl) ?_ (fun hHeld => ?_)
  · first | exact ⟨cx0, ca0⟩ | (simp [go_sem, *]; done)
  refine wpAnyH_takeW (i := 0) (d := some 22) (v := ?_) (by simp only [List.getElem?_toArray, List.getElem?_cons_succ, List.getElem?_cons_zero]; rfl) (by rfl) (by kernel_rfl) (by kernel_rfl) (by kernel_rfl) (by intro _ _ _ h; exact h) (by rfl) ?_ (by assumption) ?_
  rotate_left 1
  · (intro w hSw; (try dsimp only at hSw); go_simp; try (with_reducible rfl))
  (try simp only [Act.put, List.setIfInBounds_toArray, List.set_cons_zero, List.set_cons_succ])
  refine wpAnyH_takeW (i := 1) (d := some 23) (v := ?_) (by simp only [List.getElem?_toArray, List.getElem?_cons_succ, List.getElem?_cons_zero]; rfl) (by rfl) (by kernel_rfl) (by kernel_rfl) (by kernel_rfl) (by intro _ _ _ h; exact h) (by rfl) ?_ (by assumption) ?_
  rotate_left 1
  · (intro w hSw; (try dsimp only at hSw); go_simp; try (with_reducible rfl))
  (try simp only [Act.put, List.setIfInBounds_toArray, List.set_cons_zero, List.set_cons_succ])
  refine wpAnyH_ready (rs := [2]) (by kernel_rfl) (by simp) ?_
  refine AllReadyH.cons (i := 2) (by simp only [List.getElem?_toArray, List.getElem?_cons_succ, List.getElem?_cons_zero]; rfl) (fun K hK => ?_) AllReadyH.nil
  go_simp
  refine (toPB_any A c xs _ (Sl.below (R := EK false) EK.framed X.out (by repeat (first | (with_reducible exact Below.refl _ _) | (with_reducible refine Below.ext ?_ (by go_size) _ _) | (with_reducible refine Below.alloc ?_ (by go_size) _) | (with_reducible refine Below.setCell ?_ (by go_size) _) | (with_reducible refine Below.drew ?_) | (with_reducible refine Below.drewN_ ?_ _)))) hz1 HM.out).mono ?_
  rintro e w6 ⟨b3, rfl, hb, hb0, hb1, y⟩
  have hbb : Below w5.heap.size w5 w6 := by
    refine Below.trans ?_ (Below.mono hb ?_)
    · exact (by repeat (first | (with_reducible exact Below.refl _ _) | (with_reducible refine Below.ext ?_ (by go_size) _ _) | (with_reducible refine Below.alloc ?_ (by go_size) _) | (with_reducible refine Below.setCell ?_ (by go_size) _) | (with_reducible refine Below.drew ?_) | (with_reducible refine Below.drewN_ ?_ _)))
    · (simp; try omega)
  have hsw6 := hbb.size
  replace X := Lib.hid (Sl.below (R := EK false) EK.framed X.out hbb)
  replace Y := Lib.hid (Sl.below (R := EK true) EK.framed Y.out hbb)
  replace ca0 := (hbb.cell (p := ⟨w.heap.size, 0, none⟩) la).trans ca0
  replace la : w.heap.size < w6.heap.size := Nat.lt_of_lt_of_le la hsw6
  replace cx0 := (hbb.cell (p := ⟨w4.heap.size, 0, none⟩) lx).trans cx0
  replace lx : w4.heap.size < w6.heap.size := Nat.lt_of_lt_of_le lx hsw6
  have HBw6 : Hid (Below w.heap.size w w6) := Lib.hid (HBw5.out.trans (hbb.mono HBw5.out.size))
  clear hbb HBw5
  clear hb
  have Z := Lib.hid y
  clear y
  clear hb0 hb1
  go_wp2_with fail
  refine hK.out _ _ ?_ (fun hHeld => ?_)
  · ((try dsimp only); first | exact ⟨cx0, ca0⟩ | (simp [go_sem, *]; done))
  clear hK K
  (try simp only [Act.put, List.setIfInBounds_toArray, List.set_cons_zero, List.set_cons_succ])
  refine wpAnyH_ready (rs := [3]) (by kernel_rfl) (by simp) ?_
  refine AllReadyH.cons (i := 3) (by simp only [List.getElem?_toArray, List.getElem?_cons_succ, List.getElem?_cons_zero]; rfl) (fun K hK => ?_) AllReadyH.nil
  go_simp
  refine (eqPB_any (b := true) (by simp) _ _ _ _ _ (SlK.read Y.out) (SlK.read Z.out) (by omega) (by omega) HM.out HM.out).mono ?_
  rintro e w7 ⟨rfl, hb⟩
  have hbb := hb
  have hsw7 := hbb.size
  replace X := Lib.hid (Sl.below (R := EK false) EK.framed X.out hbb)
  replace Y := Lib.hid (Sl.below (R := EK true) EK.framed Y.out hbb)
  replace Z := Lib.hid (Sl.below (R := EK true) EK.framed Z.out hbb)
  replace ca0 := (hbb.cell (p := ⟨w.heap.size, 0, none⟩) la).trans ca0
  replace la : w.heap.size < w7.heap.size := Nat.lt_of_lt_of_le la hsw7
  replace cx0 := (hbb.cell (p := ⟨w4.heap.size, 0, none⟩) lx).trans cx0
  replace lx : w4.heap.size < w7.heap.size := Nat.lt_of_lt_of_le lx hsw7
  have HBw7 : Hid (Below w.heap.size w w7) := Lib.hid (HBw6.out.trans (hbb.mono HBw6.out.size))
  clear hbb HBw6
  clear hb
  go_wp2_with fail
  refine hK.out _ _ ?_ (fun hHeld => ?_)
  · ((try dsimp only); first | exact ⟨cx0, ca0⟩ | (simp [go_sem, *]; done))
  clear hK K
  (try simp only [Act.put, List.setIfInBounds_toArray, List.set_cons_zero, List.set_cons_succ])
  refine wpAnyH_takeW (i := 4) (d := some 26) (v := ?_) (by simp only [List.getElem?_toArray, List.getElem?_cons_succ, List.getElem?_cons_zero]; rfl) (by rfl) (by kernel_rfl) (by kernel_rfl) (by kernel_rfl) (by intro _ _ _ h; exact h) (by rfl) ?_ (by assumption) ?_
  rotate_left 1
  · (intro w hSw; (try dsimp only at hSw); go_simp; try (with_reducible rfl))
  (try simp only [Act.put, List.setIfInBounds_toArray, List.set_cons_zero, List.set_cons_succ])
  refine wpAnyH_done (by kernel_rfl) ?_ _
  go_wp2
  go_ret
  exact ⟨rfl, HBw7.out⟩

end Go.Proofs.Ytbfbjkcmehalhaa
