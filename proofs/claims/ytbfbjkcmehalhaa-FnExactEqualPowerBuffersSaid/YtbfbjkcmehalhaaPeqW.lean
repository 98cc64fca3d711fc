/- The walk of FnExactEqualPowerBuffers. -/
import Derived.Test.YtbfbjkcmehalhaaPeqI
import Derived.Test.YtbfbjkcmehalhaaPeqS
import Derived.Test.YtbfbjkcmehalhaaPk
namespace Go.Proofs.Ytbfbjkcmehalhaa
open Go.RowKit
set_option linter.unusedVariables false
set_option linter.unusedSimpArgs false

set_option maxHeartbeats 8000000 in
theorem equalPowerBuffers_walk (A : Option Addr) (c1 : Nat) (xs : List KT) (B : Option Addr) (c2 : Nat) (ys : List KT) (w : World)
    (hx : Sl false 4 (EK false) w (fun g => g < w.heap.size) A xs) (hlx : xs.length ≤ 9223372036854775807) (hbx : ∀ x ∈ xs, KTok x)
    (hy : Sl false 4 (EK false) w (fun g => g < w.heap.size) B ys) (hly : ys.length ≤ 9223372036854775807) (hby : ∀ x ∈ ys, KTok x) :
    Calls Try.prog 6 #[.agg #[.slice A xs.length c1], .agg #[.slice B ys.length c2]] w fun e w' => e = .returned (.bool true) ∧ Below w.heap.size w w' := by
  have X := Lib.hid hx
  have V := Lib.hid hy
  have HZX := Lib.hid hbx
  have HZY := Lib.hid hby
  have HBX0 := Lib.hid hbx
  have HBY0 := Lib.hid hby
  clear hx hbx hy hby
  by_cases hbig : 1048576 < szK xs
  · have hz : Hid (szO (szK xs) 1048576 = -1) := Lib.hid (if_neg (by omega))
    go_enter Try.func6, Try.ntmps6
    go_wp2_with fail
    refine (szPB_any A c1 xs 1048576 _ (Sl.below (R := EK false) EK.framed X.out (by repeat (first | (with_reducible exact Below.refl _ _) | (with_reducible refine Below.ext ?_ (by go_size) _ _) | (with_reducible refine Below.alloc ?_ (by go_size) _) | (with_reducible refine Below.setCell ?_ (by go_size) _) | (with_reducible refine Below.drew ?_) | (with_reducible refine Below.drewN_ ?_ _)))) hlx HZX.out (by omega) (by omega)).mono ?_
    rw [hz.out]
    rintro e w' ⟨rfl, hb⟩
    obtain ⟨X', d', rfl⟩ := Below.ext_ hb
    clear hb
    go_wp2
    go_ret
    exact ⟨rfl, (by repeat (first | (with_reducible exact Below.refl _ _) | (with_reducible refine Below.ext ?_ (by go_size) _ _) | (with_reducible refine Below.alloc ?_ (by go_size) _) | (with_reducible refine Below.setCell ?_ (by go_size) _) | (with_reducible refine Below.drew ?_) | (with_reducible refine Below.drewN_ ?_ _)))⟩
  have hzx : Hid (szO (szK xs) 1048576 = 1048576 - (szK xs : Int)) := Lib.hid (if_pos (by omega))
  have hz0 : ¬ 1048576 - (szK xs : Int) < 0 := by omega
  by_cases hbig2 : 1048576 < szK xs + szK ys
  · have hz : Hid (szO (szK ys) (1048576 - (szK xs : Int)) = -1) := Lib.hid (if_neg (by omega))
    go_enter Try.func6, Try.ntmps6
    go_wp2_with fail
    refine (szPB_any A c1 xs 1048576 _ (Sl.below (R := EK false) EK.framed X.out (by repeat (first | (with_reducible exact Below.refl _ _) | (with_reducible refine Below.ext ?_ (by go_size) _ _) | (with_reducible refine Below.alloc ?_ (by go_size) _) | (with_reducible refine Below.setCell ?_ (by go_size) _) | (with_reducible refine Below.drew ?_) | (with_reducible refine Below.drewN_ ?_ _)))) hlx HZX.out (by omega) (by omega)).mono ?_
    rw [hzx.out]
    rintro e w' ⟨rfl, hb⟩
    obtain ⟨X', d', rfl⟩ := Below.ext_ hb
    clear hb
    go_wp2_with fail
    refine (szPB_any B c2 ys (1048576 - (szK xs : Int)) _ (Sl.below (R := EK false) EK.framed V.out (by repeat (first | (with_reducible exact Below.refl _ _) | (with_reducible refine Below.ext ?_ (by go_size) _ _) | (with_reducible refine Below.alloc ?_ (by go_size) _) | (with_reducible refine Below.setCell ?_ (by go_size) _) | (with_reducible refine Below.drew ?_) | (with_reducible refine Below.drewN_ ?_ _)))) hly HZY.out (by omega) (by omega)).mono ?_
    rw [hz.out]
    rintro e w' ⟨rfl, hb⟩
    obtain ⟨X2, d2, rfl⟩ := Below.ext_ hb
    clear hb
    go_wp2
    go_ret
    exact ⟨rfl, (by repeat (first | (with_reducible exact Below.refl _ _) | (with_reducible refine Below.ext ?_ (by go_size) _ _) | (with_reducible refine Below.alloc ?_ (by go_size) _) | (with_reducible refine Below.setCell ?_ (by go_size) _) | (with_reducible refine Below.drew ?_) | (with_reducible refine Below.drewN_ ?_ _)))⟩
  have hzy : Hid (szO (szK ys) (1048576 - (szK xs : Int)) = 1048576 - (szK xs : Int) - (szK ys : Int)) := Lib.hid (if_pos (by omega))
  have hz2 : ¬ 1048576 - (szK xs : Int) - (szK ys : Int) < 0 := by omega
  have hx9 : xs.length ≤ 1000000000 := by unfold szK at hbig; omega
  have hy9 : ys.length ≤ 1000000000 := by unfold szK at hbig2; omega
  have HMX : Hid (∀ x ∈ xs, x.fr.length ≤ 1000000000000 ∧ ∀ f ∈ x.fr, f.length ≤ 1000000000000) := Lib.hid (fun x h => by
    have h1 := sumK_mem h
    have h2 : szSS x.fr ≤ 1048576 := by unfold szK at hbig2; omega
    unfold szSS at h2
    exact ⟨by omega, fun f hf => by have := sumL_mem hf; omega⟩)
  have HMY : Hid (∀ x ∈ ys, x.fr.length ≤ 1000000000000 ∧ ∀ f ∈ x.fr, f.length ≤ 1000000000000) := Lib.hid (fun x h => by
    have h1 := sumK_mem h
    have h2 : szSS x.fr ≤ 1048576 := by unfold szK at hbig2; omega
    unfold szSS at h2
    exact ⟨by omega, fun f hf => by have := sumL_mem hf; omega⟩)
  have HBX : Hid (∀ x ∈ xs, x.fr.length ≤ 1000000000000 ∧ ∀ f ∈ x.fr, f.length ≤ 1000000000000 ∧ ∀ z ∈ f, 0 ≤ z ∧ z ≤ 255) := Lib.hid (fun x h => ⟨(HMX.out x h).1, fun f hf => ⟨(HMX.out x h).2 f hf, ((HBX0.out x h).2.2.2 f hf).2⟩⟩)
  have HBY : Hid (∀ x ∈ ys, x.fr.length ≤ 1000000000000 ∧ ∀ f ∈ x.fr, f.length ≤ 1000000000000 ∧ ∀ z ∈ f, 0 ≤ z ∧ z ≤ 255) := Lib.hid (fun x h => ⟨(HMY.out x h).1, fun f hf => ⟨(HMY.out x h).2 f hf, ((HBY0.out x h).2.2.2 f hf).2⟩⟩)
  obtain ⟨bb, hbb0⟩ : ∃ b, decide (xs = ys) = b := ⟨_, rfl⟩
  have HBB := Lib.hid hbb0
  clear hbig hbig2 hbb0
  go_enter Try.func6, Try.ntmps6
  have HBw : Hid (Below w.heap.size w w) := Lib.hid (Below.refl _ _)
  go_wp2_with fail
  refine (szPB_any A c1 xs 1048576 _ (Sl.below (R := EK false) EK.framed X.out (by repeat (first | (with_reducible exact Below.refl _ _) | (with_reducible refine Below.ext ?_ (by go_size) _ _) | (with_reducible refine Below.alloc ?_ (by go_size) _) | (with_reducible refine Below.setCell ?_ (by go_size) _) | (with_reducible refine Below.drew ?_) | (with_reducible refine Below.drewN_ ?_ _)))) hlx HZX.out (by omega) (by omega)).mono ?_
  rw [hzx.out]
  rintro e w1 ⟨rfl, hb⟩
  have hbb : Below w.heap.size w w1 := by
    refine Below.trans ?_ (Below.mono hb ?_)
    · exact (by repeat (first | (with_reducible exact Below.refl _ _) | (with_reducible refine Below.ext ?_ (by go_size) _ _) | (with_reducible refine Below.alloc ?_ (by go_size) _) | (with_reducible refine Below.setCell ?_ (by go_size) _) | (with_reducible refine Below.drew ?_) | (with_reducible refine Below.drewN_ ?_ _)))
    · (simp; try omega)
  have hsw1 := hbb.size
  replace X := Lib.hid (Sl.below (R := EK false) EK.framed X.out hbb)
  replace V := Lib.hid (Sl.below (R := EK false) EK.framed V.out hbb)
  have ca0 : w1.cell? ⟨w.heap.size, 0, none⟩ = some (.slice A xs.length c1) := (hb.cell (p := ⟨w.heap.size, 0, none⟩) (by simp; try omega)).trans (by simp [go_sem])
  have la : w.heap.size < w1.heap.size := by have := hb.size; simp at this; omega
  have pa := la
  have cb0 : w1.cell? ⟨w.heap.size + 1, 0, none⟩ = some (.slice B ys.length c2) := (hb.cell (p := ⟨w.heap.size + 1, 0, none⟩) (by simp; try omega)).trans (by simp [go_sem])
  have lb : w.heap.size + 1 < w1.heap.size := by have := hb.size; simp at this; omega
  have pb := lb
  have HBw1 : Hid (Below w.heap.size w w1) := Lib.hid (HBw.out.trans (hbb.mono HBw.out.size))
  clear hbb HBw
  clear hb
  go_wp2_with fail
  refine (szPB_any B c2 ys (1048576 - (szK xs : Int)) _ V.out hly HZY.out (by omega) (by omega)).mono ?_
  rw [hzy.out]
  rintro e w2 ⟨rfl, hb⟩
  have hbb := hb
  have hsw2 := hbb.size
  replace X := Lib.hid (Sl.below (R := EK false) EK.framed X.out hbb)
  replace V := Lib.hid (Sl.below (R := EK false) EK.framed V.out hbb)
  replace ca0 := (hbb.cell (p := ⟨w.heap.size, 0, none⟩) la).trans ca0
  replace la : w.heap.size < w2.heap.size := Nat.lt_of_lt_of_le la hsw2
  replace cb0 := (hbb.cell (p := ⟨w.heap.size + 1, 0, none⟩) lb).trans cb0
  replace lb : w.heap.size + 1 < w2.heap.size := Nat.lt_of_lt_of_le lb hsw2
  have HBw2 : Hid (Below w.heap.size w w2) := Lib.hid (HBw1.out.trans (hbb.mono HBw1.out.size))
  clear hbb HBw1
  clear hb
  go_wp2
  refine wp_region_held_drew (S := (fun w' => w'.cell? ⟨w.heap.size, 0, none⟩ = some (.slice A xs.length c1) ∧ w'.cell? ⟨w.heap.size + 1, 0, none⟩ = some (.slice B ys.length c2))) (by kernel_rfl) ?_ (fun hHeld => ?_)
  · first | exact ⟨ca0, cb0⟩ | (simp [go_sem, *]; done)
  refine wpAnyH_takeW (i := 0) (d := some 20) (v := ?_) (by simp only [List.getElem?_toArray, List.getElem?_cons_succ, List.getElem?_cons_zero]; rfl) (by rfl) (by kernel_rfl) (by kernel_rfl) (by kernel_rfl) (by intro _ _ _ h; exact h) (by rfl) ?_ (by assumption) ?_
  rotate_left 1
  · (intro w hSw; (try dsimp only at hSw); go_simp; try (with_reducible rfl))
  (try simp only [Act.put, List.setIfInBounds_toArray, List.set_cons_zero, List.set_cons_succ])
  refine wpAnyH_takeW (i := 2) (d := some 22) (v := ?_) (by simp only [List.getElem?_toArray, List.getElem?_cons_succ, List.getElem?_cons_zero]; rfl) (by rfl) (by kernel_rfl) (by kernel_rfl) (by kernel_rfl) (by intro _ _ _ h; exact h) (by rfl) ?_ (by assumption) ?_
  rotate_left 1
  · (intro w hSw; (try dsimp only at hSw); go_simp; try (with_reducible rfl))
  (try simp only [Act.put, List.setIfInBounds_toArray, List.set_cons_zero, List.set_cons_succ])
  refine wpAnyH_ready (rs := [1]) (by kernel_rfl) (by simp) ?_
  refine AllReadyH.cons (i := 1) (by simp only [List.getElem?_toArray, List.getElem?_cons_succ, List.getElem?_cons_zero]; rfl) (fun K hK => ?_) AllReadyH.nil
  go_simp
  refine (toPB_any A c1 xs _ (Sl.below (R := EK false) EK.framed X.out (by repeat (first | (with_reducible exact Below.refl _ _) | (with_reducible refine Below.ext ?_ (by go_size) _ _) | (with_reducible refine Below.alloc ?_ (by go_size) _) | (with_reducible refine Below.setCell ?_ (by go_size) _) | (with_reducible refine Below.drew ?_) | (with_reducible refine Below.drewN_ ?_ _)))) hx9 HMX.out).mono ?_
  rintro e w3 ⟨b1, rfl, hb, hb0, hb1, y⟩
  have hbb : Below w2.heap.size w2 w3 := by
    refine Below.trans ?_ (Below.mono hb ?_)
    · exact (by repeat (first | (with_reducible exact Below.refl _ _) | (with_reducible refine Below.ext ?_ (by go_size) _ _) | (with_reducible refine Below.alloc ?_ (by go_size) _) | (with_reducible refine Below.setCell ?_ (by go_size) _) | (with_reducible refine Below.drew ?_) | (with_reducible refine Below.drewN_ ?_ _)))
    · (simp; try omega)
  have hsw3 := hbb.size
  replace X := Lib.hid (Sl.below (R := EK false) EK.framed X.out hbb)
  replace V := Lib.hid (Sl.below (R := EK false) EK.framed V.out hbb)
  replace ca0 := (hbb.cell (p := ⟨w.heap.size, 0, none⟩) la).trans ca0
  replace la : w.heap.size < w3.heap.size := Nat.lt_of_lt_of_le la hsw3
  replace cb0 := (hbb.cell (p := ⟨w.heap.size + 1, 0, none⟩) lb).trans cb0
  replace lb : w.heap.size + 1 < w3.heap.size := Nat.lt_of_lt_of_le lb hsw3
  have HBw3 : Hid (Below w.heap.size w w3) := Lib.hid (HBw2.out.trans (hbb.mono HBw2.out.size))
  clear hbb HBw2
  clear hb
  have P := Lib.hid y
  clear y
  clear hb0 hb1
  go_wp2_with fail
  refine hK.out _ _ ?_ (fun hHeld => ?_)
  · ((try dsimp only); first | exact ⟨ca0, cb0⟩ | (simp [go_sem, *]; done))
  clear hK K
  (try simp only [Act.put, List.setIfInBounds_toArray, List.set_cons_zero, List.set_cons_succ])
  refine wpAnyH_ready (rs := [3]) (by kernel_rfl) (by simp) ?_
  refine AllReadyH.cons (i := 3) (by simp only [List.getElem?_toArray, List.getElem?_cons_succ, List.getElem?_cons_zero]; rfl) (fun K hK => ?_) AllReadyH.nil
  go_simp
  refine (toPB_any B c2 ys _ V.out hy9 HMY.out).mono ?_
  rintro e w4 ⟨b2, rfl, hb, hb0, hb1, y⟩
  have hbb := hb
  have hsw4 := hbb.size
  replace X := Lib.hid (Sl.below (R := EK false) EK.framed X.out hbb)
  replace V := Lib.hid (Sl.below (R := EK false) EK.framed V.out hbb)
  replace P := Lib.hid (Sl.below (R := EK true) EK.framed P.out hbb)
  replace ca0 := (hbb.cell (p := ⟨w.heap.size, 0, none⟩) la).trans ca0
  replace la : w.heap.size < w4.heap.size := Nat.lt_of_lt_of_le la hsw4
  replace cb0 := (hbb.cell (p := ⟨w.heap.size + 1, 0, none⟩) lb).trans cb0
  replace lb : w.heap.size + 1 < w4.heap.size := Nat.lt_of_lt_of_le lb hsw4
  have HBw4 : Hid (Below w.heap.size w w4) := Lib.hid (HBw3.out.trans (hbb.mono HBw3.out.size))
  clear hbb HBw3
  clear hb
  have Q := Lib.hid y
  clear y
  clear hb0 hb1
  go_wp2_with fail
  refine hK.out _ _ ?_ (fun hHeld => ?_)
  · ((try dsimp only); first | exact ⟨ca0, cb0⟩ | (simp [go_sem, *]; done))
  clear hK K
  (try simp only [Act.put, List.setIfInBounds_toArray, List.set_cons_zero, List.set_cons_succ])
  refine wpAnyH_ready (rs := [4]) (by kernel_rfl) (by simp) ?_
  refine AllReadyH.cons (i := 4) (by simp only [List.getElem?_toArray, List.getElem?_cons_succ, List.getElem?_cons_zero]; rfl) (fun K hK => ?_) AllReadyH.nil
  go_simp
  refine (specEqP_any HBB.out _ _ _ _ _ (SlK.read P.out) (SlK.read Q.out) hx9 hy9 HBX.out HBY.out).mono ?_
  rintro e w5 ⟨rfl, hb⟩
  have hbb := hb
  have hsw5 := hbb.size
  replace X := Lib.hid (Sl.below (R := EK false) EK.framed X.out hbb)
  replace V := Lib.hid (Sl.below (R := EK false) EK.framed V.out hbb)
  replace P := Lib.hid (Sl.below (R := EK true) EK.framed P.out hbb)
  replace Q := Lib.hid (Sl.below (R := EK true) EK.framed Q.out hbb)
  replace ca0 := (hbb.cell (p := ⟨w.heap.size, 0, none⟩) la).trans ca0
  replace la : w.heap.size < w5.heap.size := Nat.lt_of_lt_of_le la hsw5
  replace cb0 := (hbb.cell (p := ⟨w.heap.size + 1, 0, none⟩) lb).trans cb0
  replace lb : w.heap.size + 1 < w5.heap.size := Nat.lt_of_lt_of_le lb hsw5
  have HBw5 : Hid (Below w.heap.size w w5) := Lib.hid (HBw4.out.trans (hbb.mono HBw4.out.size))
  clear hbb HBw4
  clear hb
  go_wp2_with fail
  refine hK.out _ _ ?_ (fun hHeld => ?_)
  · ((try dsimp only); first | exact ⟨ca0, cb0⟩ | (simp [go_sem, *]; done))
  clear hK K
  (try simp only [Act.put, List.setIfInBounds_toArray, List.set_cons_zero, List.set_cons_succ])
  refine wpAnyH_takeW (i := 5) (d := some 6) (v := ?_) (by simp only [List.getElem?_toArray, List.getElem?_cons_succ, List.getElem?_cons_zero]; rfl) (by rfl) (by kernel_rfl) (by kernel_rfl) (by kernel_rfl) (by intro _ _ _ h; exact h) (by rfl) ?_ (by assumption) ?_
  rotate_left 1
  · (intro w hSw; (try dsimp only at hSw); go_simp; try (with_reducible rfl))
  (try simp only [Act.put, List.setIfInBounds_toArray, List.set_cons_zero, List.set_cons_succ])
  refine wpAnyH_done (by kernel_rfl) ?_ _
  clear P
  clear Q
  go_wp2_with fail
  refine (toPB_any A c1 xs _ X.out hx9 HMX.out).mono ?_
  rintro e w6 ⟨b3, rfl, hb, hb0, hb1, y⟩
  have hbb := hb
  have hsw6 := hbb.size
  replace X := Lib.hid (Sl.below (R := EK false) EK.framed X.out hbb)
  replace V := Lib.hid (Sl.below (R := EK false) EK.framed V.out hbb)
  replace ca0 := (hbb.cell (p := ⟨w.heap.size, 0, none⟩) la).trans ca0
  replace la : w.heap.size < w6.heap.size := Nat.lt_of_lt_of_le la hsw6
  replace cb0 := (hbb.cell (p := ⟨w.heap.size + 1, 0, none⟩) lb).trans cb0
  replace lb : w.heap.size + 1 < w6.heap.size := Nat.lt_of_lt_of_le lb hsw6
  have HBw6 : Hid (Below w.heap.size w w6) := Lib.hid (HBw5.out.trans (hbb.mono HBw5.out.size))
  clear hbb HBw5
  clear hb
  have P := Lib.hid y
  clear y
  clear hb0 hb1
  go_wp2_with fail
  refine (toPB_any B c2 ys _ (Sl.below (R := EK false) EK.framed V.out (by repeat (first | (with_reducible exact Below.refl _ _) | (with_reducible refine Below.ext ?_ (by go_size) _ _) | (with_reducible refine Below.alloc ?_ (by go_size) _) | (with_reducible refine Below.setCell ?_ (by go_size) _) | (with_reducible refine Below.drew ?_) | (with_reducible refine Below.drewN_ ?_ _)))) hy9 HMY.out).mono ?_
  rintro e w7 ⟨b4, rfl, hb, hb0, hb1, y⟩
  have hbb : Below w6.heap.size w6 w7 := by
    refine Below.trans ?_ (Below.mono hb ?_)
    · exact (by repeat (first | (with_reducible exact Below.refl _ _) | (with_reducible refine Below.ext ?_ (by go_size) _ _) | (with_reducible refine Below.alloc ?_ (by go_size) _) | (with_reducible refine Below.setCell ?_ (by go_size) _) | (with_reducible refine Below.drew ?_) | (with_reducible refine Below.drewN_ ?_ _)))
    · (simp; try omega)
  have hsw7 := hbb.size
  replace X := Lib.hid (Sl.below (R := EK false) EK.framed X.out hbb)
  replace V := Lib.hid (Sl.below (R := EK false) EK.framed V.out hbb)
  replace P := Lib.hid (Sl.below (R := EK true) EK.framed P.out hbb)
  replace ca0 := (hbb.cell (p := ⟨w.heap.size, 0, none⟩) la).trans ca0
  replace la : w.heap.size < w7.heap.size := Nat.lt_of_lt_of_le la hsw7
  replace cb0 := (hbb.cell (p := ⟨w.heap.size + 1, 0, none⟩) lb).trans cb0
  replace lb : w.heap.size + 1 < w7.heap.size := Nat.lt_of_lt_of_le lb hsw7
  have cx0 : w7.cell? ⟨w6.heap.size, 0, none⟩ = some (.slice (some ⟨b3, 0, none⟩) xs.length xs.length) := (hb.cell (p := ⟨w6.heap.size, 0, none⟩) (by simp; try omega)).trans (by simp [go_sem])
  have lx : w6.heap.size < w7.heap.size := by have := hb.size; simp at this; omega
  have px := lx
  have HBw7 : Hid (Below w.heap.size w w7) := Lib.hid (HBw6.out.trans (hbb.mono HBw6.out.size))
  clear hbb HBw6
  clear hb
  have Q := Lib.hid y
  clear y
  clear hb0 hb1
  go_wp2_with fail
  refine (implEqP_any HBB.out _ _ _ _ _ (SlK.read (Sl.below (R := EK true) EK.framed P.out (by repeat (first | (with_reducible exact Below.refl _ _) | (with_reducible refine Below.ext ?_ (by go_size) _ _) | (with_reducible refine Below.alloc ?_ (by go_size) _) | (with_reducible refine Below.setCell ?_ (by go_size) _) | (with_reducible refine Below.drew ?_) | (with_reducible refine Below.drewN_ ?_ _))))) (SlK.read (Sl.below (R := EK true) EK.framed Q.out (by repeat (first | (with_reducible exact Below.refl _ _) | (with_reducible refine Below.ext ?_ (by go_size) _ _) | (with_reducible refine Below.alloc ?_ (by go_size) _) | (with_reducible refine Below.setCell ?_ (by go_size) _) | (with_reducible refine Below.drew ?_) | (with_reducible refine Below.drewN_ ?_ _))))) hx9 hy9 HBX.out HBY.out).mono ?_
  rintro e w8 ⟨rfl, hb⟩
  have hbb : Below w7.heap.size w7 w8 := by
    refine Below.trans ?_ (Below.mono hb ?_)
    · exact (by repeat (first | (with_reducible exact Below.refl _ _) | (with_reducible refine Below.ext ?_ (by go_size) _ _) | (with_reducible refine Below.alloc ?_ (by go_size) _) | (with_reducible refine Below.setCell ?_ (by go_size) _) | (with_reducible refine Below.drew ?_) | (with_reducible refine Below.drewN_ ?_ _)))
    · (simp; try omega)
  have hsw8 := hbb.size
  replace X := Lib.hid (Sl.below (R := EK false) EK.framed X.out hbb)
  replace V := Lib.hid (Sl.below (R := EK false) EK.framed V.out hbb)
  replace P := Lib.hid (Sl.below (R := EK true) EK.framed P.out hbb)
  replace Q := Lib.hid (Sl.below (R := EK true) EK.framed Q.out hbb)
  replace ca0 := (hbb.cell (p := ⟨w.heap.size, 0, none⟩) la).trans ca0
  replace la : w.heap.size < w8.heap.size := Nat.lt_of_lt_of_le la hsw8
  replace cb0 := (hbb.cell (p := ⟨w.heap.size + 1, 0, none⟩) lb).trans cb0
  replace lb : w.heap.size + 1 < w8.heap.size := Nat.lt_of_lt_of_le lb hsw8
  replace cx0 := (hbb.cell (p := ⟨w6.heap.size, 0, none⟩) lx).trans cx0
  replace lx : w6.heap.size < w8.heap.size := Nat.lt_of_lt_of_le lx hsw8
  have cy0 : w8.cell? ⟨w7.heap.size, 0, none⟩ = some (.slice (some ⟨b4, 0, none⟩) ys.length ys.length) := (hb.cell (p := ⟨w7.heap.size, 0, none⟩) (by simp; try omega)).trans (by simp [go_sem])
  have ly : w7.heap.size < w8.heap.size := by have := hb.size; simp at this; omega
  have py := ly
  have HBw8 : Hid (Below w.heap.size w w8) := Lib.hid (HBw7.out.trans (hbb.mono HBw7.out.size))
  clear hbb HBw7
  clear hb
  go_wp2
  refine wp_region_held_drew (S := (fun w' => w'.cell? ⟨w6.heap.size, 0, none⟩ = some (.slice (some ⟨b3, 0, none⟩) xs.length xs.length) ∧ w'.cell? ⟨w.heap.size, 0, none⟩ = some (.slice A xs.length c1))) (by kernel_rfl) ?_ (fun hHeld => ?_)
  · first | exact ⟨cx0, ca0⟩ | (simp [go_sem, *]; done)
  refine wpAnyH_takeW (i := 0) (d := some 35) (v := ?_) (by simp only [List.getElem?_toArray, List.getElem?_cons_succ, List.getElem?_cons_zero]; rfl) (by rfl) (by kernel_rfl) (by kernel_rfl) (by kernel_rfl) (by intro _ _ _ h; exact h) (by rfl) ?_ (by assumption) ?_
  rotate_left 1
  · (intro w hSw; (try dsimp only at hSw); go_simp; try (with_reducible rfl))
  (try simp only [Act.put, List.setIfInBounds_toArray, List.set_cons_zero, List.set_cons_succ])
  refine wpAnyH_takeW (i := 1) (d := some 36) (v := ?_) (by simp only [List.getElem?_toArray, List.getElem?_cons_succ, List.getElem?_cons_zero]; rfl) (by rfl) (by kernel_rfl) (by kernel_rfl) (by kernel_rfl) (by intro _ _ _ h; exact h) (by rfl) ?_ (by assumption) ?_
  rotate_left 1
  · (intro w hSw; (try dsimp only at hSw); go_simp; try (with_reducible rfl))
  (try simp only [Act.put, List.setIfInBounds_toArray, List.set_cons_zero, List.set_cons_succ])
  refine wpAnyH_ready (rs := [2]) (by kernel_rfl) (by simp) ?_
  refine AllReadyH.cons (i := 2) (by simp only [List.getElem?_toArray, List.getElem?_cons_succ, List.getElem?_cons_zero]; rfl) (fun K hK => ?_) AllReadyH.nil
  go_simp
  refine (toPB_any A c1 xs _ (Sl.below (R := EK false) EK.framed X.out (by repeat (first | (with_reducible exact Below.refl _ _) | (with_reducible refine Below.ext ?_ (by go_size) _ _) | (with_reducible refine Below.alloc ?_ (by go_size) _) | (with_reducible refine Below.setCell ?_ (by go_size) _) | (with_reducible refine Below.drew ?_) | (with_reducible refine Below.drewN_ ?_ _)))) hx9 HMX.out).mono ?_
  rintro e w9 ⟨b5, rfl, hb, hb0, hb1, y⟩
  have hbb : Below w8.heap.size w8 w9 := by
    refine Below.trans ?_ (Below.mono hb ?_)
    · exact (by repeat (first | (with_reducible exact Below.refl _ _) | (with_reducible refine Below.ext ?_ (by go_size) _ _) | (with_reducible refine Below.alloc ?_ (by go_size) _) | (with_reducible refine Below.setCell ?_ (by go_size) _) | (with_reducible refine Below.drew ?_) | (with_reducible refine Below.drewN_ ?_ _)))
    · (simp; try omega)
  have hsw9 := hbb.size
  replace X := Lib.hid (Sl.below (R := EK false) EK.framed X.out hbb)
  replace V := Lib.hid (Sl.below (R := EK false) EK.framed V.out hbb)
  replace P := Lib.hid (Sl.below (R := EK true) EK.framed P.out hbb)
  replace Q := Lib.hid (Sl.below (R := EK true) EK.framed Q.out hbb)
  replace ca0 := (hbb.cell (p := ⟨w.heap.size, 0, none⟩) la).trans ca0
  replace la : w.heap.size < w9.heap.size := Nat.lt_of_lt_of_le la hsw9
  replace cb0 := (hbb.cell (p := ⟨w.heap.size + 1, 0, none⟩) lb).trans cb0
  replace lb : w.heap.size + 1 < w9.heap.size := Nat.lt_of_lt_of_le lb hsw9
  replace cx0 := (hbb.cell (p := ⟨w6.heap.size, 0, none⟩) lx).trans cx0
  replace lx : w6.heap.size < w9.heap.size := Nat.lt_of_lt_of_le lx hsw9
  replace cy0 := (hbb.cell (p := ⟨w7.heap.size, 0, none⟩) ly).trans cy0
  replace ly : w7.heap.size < w9.heap.size := Nat.lt_of_lt_of_le ly hsw9
  have HBw9 : Hid (Below w.heap.size w w9) := Lib.hid (HBw8.out.trans (hbb.mono HBw8.out.size))
  clear hbb HBw8
  clear hb
  have Z := Lib.hid y
  clear y
  clear hb0 hb1
  go_wp2_with fail
  refine hK.out _ _ ?_ (fun hHeld => ?_)
  · ((try dsimp only); first | exact ⟨cx0, ca0⟩ | (simp [go_sem, *]; done))
  clear hK K
  (try simp only [Act.put, List.setIfInBounds_toArray, List.set_cons_zero, List.set_cons_succ])
  refine wpAnyH_ready (rs := [3]) (by kernel_rfl) (by simp) ?_
  refine AllReadyH.cons (i := 3) (by simp only [List.getElem?_toArray, List.getElem?_cons_succ, List.getElem?_cons_zero]; rfl) (fun K hK => ?_) AllReadyH.nil
  go_simp
  refine (eqPB_any (b := true) (by simp) _ _ _ _ _ (SlK.read P.out) (SlK.read Z.out) (by omega) (by omega) HMX.out HMX.out).mono ?_
  rintro e w10 ⟨rfl, hb⟩
  have hbb := hb
  have hsw10 := hbb.size
  replace X := Lib.hid (Sl.below (R := EK false) EK.framed X.out hbb)
  replace V := Lib.hid (Sl.below (R := EK false) EK.framed V.out hbb)
  replace P := Lib.hid (Sl.below (R := EK true) EK.framed P.out hbb)
  replace Q := Lib.hid (Sl.below (R := EK true) EK.framed Q.out hbb)
  replace Z := Lib.hid (Sl.below (R := EK true) EK.framed Z.out hbb)
  replace ca0 := (hbb.cell (p := ⟨w.heap.size, 0, none⟩) la).trans ca0
  replace la : w.heap.size < w10.heap.size := Nat.lt_of_lt_of_le la hsw10
  replace cb0 := (hbb.cell (p := ⟨w.heap.size + 1, 0, none⟩) lb).trans cb0
  replace lb : w.heap.size + 1 < w10.heap.size := Nat.lt_of_lt_of_le lb hsw10
  replace cx0 := (hbb.cell (p := ⟨w6.heap.size, 0, none⟩) lx).trans cx0
  replace lx : w6.heap.size < w10.heap.size := Nat.lt_of_lt_of_le lx hsw10
  replace cy0 := (hbb.cell (p := ⟨w7.heap.size, 0, none⟩) ly).trans cy0
  replace ly : w7.heap.size < w10.heap.size := Nat.lt_of_lt_of_le ly hsw10
  have HBw10 : Hid (Below w.heap.size w w10) := Lib.hid (HBw9.out.trans (hbb.mono HBw9.out.size))
  clear hbb HBw9
  clear hb
  go_wp2_with fail
  refine hK.out _ _ ?_ (fun hHeld => ?_)
  · ((try dsimp only); first | exact ⟨cx0, ca0⟩ | (simp [go_sem, *]; done))
  clear hK K
  (try simp only [Act.put, List.setIfInBounds_toArray, List.set_cons_zero, List.set_cons_succ])
  refine wpAnyH_takeW (i := 4) (d := some 39) (v := ?_) (by simp only [List.getElem?_toArray, List.getElem?_cons_succ, List.getElem?_cons_zero]; rfl) (by rfl) (by kernel_rfl) (by kernel_rfl) (by kernel_rfl) (by intro _ _ _ h; exact h) (by rfl) ?_ (by assumption) ?_
  rotate_left 1
  · (intro w hSw; (try dsimp only at hSw); go_simp; try (with_reducible rfl))
  (try simp only [Act.put, List.setIfInBounds_toArray, List.set_cons_zero, List.set_cons_succ])
  refine wpAnyH_done (by kernel_rfl) ?_ _
  clear Z
  go_wp2
  refine wp_region_held_drew (S := (fun w' => w'.cell? ⟨w7.heap.size, 0, none⟩ = some (.slice (some ⟨b4, 0, none⟩) ys.length ys.length) ∧ w'.cell? ⟨w.heap.size + 1, 0, none⟩ = some (.slice B ys.length c2))) (by kernel_rfl) ?_ (fun hHeld => ?_)
  · first | exact ⟨cy0, cb0⟩ | (simp [go_sem, *]; done)
  refine wpAnyH_takeW (i := 0) (d := some 40) (v := ?_) (by simp only [List.getElem?_toArray, List.getElem?_cons_succ, List.getElem?_cons_zero]; rfl) (by rfl) (by kernel_rfl) (by kernel_rfl) (by kernel_rfl) (by intro _ _ _ h; exact h) (by rfl) ?_ (by assumption) ?_
  rotate_left 1
  · (intro w hSw; (try dsimp only at hSw); go_simp; try (with_reducible rfl))
  (try simp only [Act.put, List.setIfInBounds_toArray, List.set_cons_zero, List.set_cons_succ])
  refine wpAnyH_takeW (i := 1) (d := some 41) (v := ?_) (by simp only [List.getElem?_toArray, List.getElem?_cons_succ, List.getElem?_cons_zero]; rfl) (by rfl) (by kernel_rfl) (by kernel_rfl) (by kernel_rfl) (by intro _ _ _ h; exact h) (by rfl) ?_ (by assumption) ?_
  rotate_left 1
  · (intro w hSw; (try dsimp only at hSw); go_simp; try (with_reducible rfl))
  (try simp only [Act.put, List.setIfInBounds_toArray, List.set_cons_zero, List.set_cons_succ])
  refine wpAnyH_ready (rs := [2]) (by kernel_rfl) (by simp) ?_
  refine AllReadyH.cons (i := 2) (by simp only [List.getElem?_toArray, List.getElem?_cons_succ, List.getElem?_cons_zero]; rfl) (fun K hK => ?_) AllReadyH.nil
  go_simp
  refine (toPB_any B c2 ys _ (Sl.below (R := EK false) EK.framed V.out (by repeat (first | (with_reducible exact Below.refl _ _) | (with_reducible refine Below.ext ?_ (by go_size) _ _) | (with_reducible refine Below.alloc ?_ (by go_size) _) | (with_reducible refine Below.setCell ?_ (by go_size) _) | (with_reducible refine Below.drew ?_) | (with_reducible refine Below.drewN_ ?_ _)))) hy9 HMY.out).mono ?_
  rintro e w11 ⟨b6, rfl, hb, hb0, hb1, y⟩
  have hbb : Below w10.heap.size w10 w11 := by
    refine Below.trans ?_ (Below.mono hb ?_)
    · exact (by repeat (first | (with_reducible exact Below.refl _ _) | (with_reducible refine Below.ext ?_ (by go_size) _ _) | (with_reducible refine Below.alloc ?_ (by go_size) _) | (with_reducible refine Below.setCell ?_ (by go_size) _) | (with_reducible refine Below.drew ?_) | (with_reducible refine Below.drewN_ ?_ _)))
    · (simp; try omega)
  have hsw11 := hbb.size
  replace X := Lib.hid (Sl.below (R := EK false) EK.framed X.out hbb)
  replace V := Lib.hid (Sl.below (R := EK false) EK.framed V.out hbb)
  replace P := Lib.hid (Sl.below (R := EK true) EK.framed P.out hbb)
  replace Q := Lib.hid (Sl.below (R := EK true) EK.framed Q.out hbb)
  replace ca0 := (hbb.cell (p := ⟨w.heap.size, 0, none⟩) la).trans ca0
  replace la : w.heap.size < w11.heap.size := Nat.lt_of_lt_of_le la hsw11
  replace cb0 := (hbb.cell (p := ⟨w.heap.size + 1, 0, none⟩) lb).trans cb0
  replace lb : w.heap.size + 1 < w11.heap.size := Nat.lt_of_lt_of_le lb hsw11
  replace cx0 := (hbb.cell (p := ⟨w6.heap.size, 0, none⟩) lx).trans cx0
  replace lx : w6.heap.size < w11.heap.size := Nat.lt_of_lt_of_le lx hsw11
  replace cy0 := (hbb.cell (p := ⟨w7.heap.size, 0, none⟩) ly).trans cy0
  replace ly : w7.heap.size < w11.heap.size := Nat.lt_of_lt_of_le ly hsw11
  have HBw11 : Hid (Below w.heap.size w w11) := Lib.hid (HBw10.out.trans (hbb.mono HBw10.out.size))
  clear hbb HBw10
  clear hb
  have Z := Lib.hid y
  clear y
  clear hb0 hb1
  go_wp2_with fail
  refine hK.out _ _ ?_ (fun hHeld => ?_)
  · ((try dsimp only); first | exact ⟨cy0, cb0⟩ | (simp [go_sem, *]; done))
  clear hK K
  (try simp only [Act.put, List.setIfInBounds_toArray, List.set_cons_zero, List.set_cons_succ])
  refine wpAnyH_ready (rs := [3]) (by kernel_rfl) (by simp) ?_
  refine AllReadyH.cons (i := 3) (by simp only [List.getElem?_toArray, List.getElem?_cons_succ, List.getElem?_cons_zero]; rfl) (fun K hK => ?_) AllReadyH.nil
  go_simp
  refine (eqPB_any (b := true) (by simp) _ _ _ _ _ (SlK.read Q.out) (SlK.read Z.out) (by omega) (by omega) HMY.out HMY.out).mono ?_
  rintro e w12 ⟨rfl, hb⟩
  have hbb := hb
  have hsw12 := hbb.size
  replace X := Lib.hid (Sl.below (R := EK false) EK.framed X.out hbb)
  replace V := Lib.hid (Sl.below (R := EK false) EK.framed V.out hbb)
  replace P := Lib.hid (Sl.below (R := EK true) EK.framed P.out hbb)
  replace Q := Lib.hid (Sl.below (R := EK true) EK.framed Q.out hbb)
  replace Z := Lib.hid (Sl.below (R := EK true) EK.framed Z.out hbb)
  replace ca0 := (hbb.cell (p := ⟨w.heap.size, 0, none⟩) la).trans ca0
  replace la : w.heap.size < w12.heap.size := Nat.lt_of_lt_of_le la hsw12
  replace cb0 := (hbb.cell (p := ⟨w.heap.size + 1, 0, none⟩) lb).trans cb0
  replace lb : w.heap.size + 1 < w12.heap.size := Nat.lt_of_lt_of_le lb hsw12
  replace cx0 := (hbb.cell (p := ⟨w6.heap.size, 0, none⟩) lx).trans cx0
  replace lx : w6.heap.size < w12.heap.size := Nat.lt_of_lt_of_le lx hsw12
  replace cy0 := (hbb.cell (p := ⟨w7.heap.size, 0, none⟩) ly).trans cy0
  replace ly : w7.heap.size < w12.heap.size := Nat.lt_of_lt_of_le ly hsw12
  have HBw12 : Hid (Below w.heap.size w w12) := Lib.hid (HBw11.out.trans (hbb.mono HBw11.out.size))
  clear hbb HBw11
  clear hb
  go_wp2_with fail
  refine hK.out _ _ ?_ (fun hHeld => ?_)
  · ((try dsimp only); first | exact ⟨cy0, cb0⟩ | (simp [go_sem, *]; done))
  clear hK K
  (try simp only [Act.put, List.setIfInBounds_toArray, List.set_cons_zero, List.set_cons_succ])
  refine wpAnyH_takeW (i := 4) (d := some 44) (v := ?_) (by simp only [List.getElem?_toArray, List.getElem?_cons_succ, List.getElem?_cons_zero]; rfl) (by rfl) (by kernel_rfl) (by kernel_rfl) (by kernel_rfl) (by intro _ _ _ h; exact h) (by rfl) ?_ (by assumption) ?_
  rotate_left 1
  · (intro w hSw; (try dsimp only at hSw); go_simp; try (with_reducible rfl))
  (try simp only [Act.put, List.setIfInBounds_toArray, List.set_cons_zero, List.set_cons_succ])
  refine wpAnyH_done (by kernel_rfl) ?_ _
  go_wp2
  go_ret
  exact ⟨rfl, HBw12.out⟩

end Go.Proofs.Ytbfbjkcmehalhaa
