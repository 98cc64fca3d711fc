/- The walk of FnExactDropStation. -/
import Derived.Test.YtbfbjkcmehalhaaKTe
import Derived.Test.YtbfbjkcmehalhaaKTm
import Derived.Test.YtbfbjkcmehalhaaPdr
import Derived.Test.YtbfbjkcmehalhaaPk
namespace Go.Proofs.Ytbfbjkcmehalhaa
open Go.RowKit
set_option linter.unusedVariables false
set_option linter.unusedSimpArgs false

def dropK (s : Int) (xs : List KT) : List KT := xs.filter fun x => x.st != s
theorem dropK_len (s : Int) (xs : List KT) : (dropK s xs).length ≤ xs.length := List.length_filter_le _ _
theorem dropK_mem {s : Int} {xs : List KT} {x : KT} (h : x ∈ dropK s xs) : x ∈ xs := (List.mem_filter.1 h).1
theorem dropK_sum (s : Int) : ∀ xs : List KT, sumK (dropK s xs) ≤ sumK xs
  | [] => by simp [dropK]
  | x :: xs => by
    have := dropK_sum s xs
    simp only [dropK, List.filter_cons] at this ⊢
    split
    · simp only [sumK, List.map_cons, List.sum_cons] at this ⊢; omega
    · simp only [sumK, List.map_cons, List.sum_cons] at this ⊢; omega
theorem dropK_sz (s : Int) (xs : List KT) : szK (dropK s xs) ≤ szK xs := by
  have h1 := dropK_len s xs
  have h2 := dropK_sum s xs
  unfold szK; omega
theorem specDropK {T : Nat → Prop} (st0 : Int) (A : Option Addr) (c : Nat) (xs : List KT) (w : World) (hx : Sl false 4 (EK false) w T A xs) (hm : xs.length ≤ 1000000000) (hlx : ∀ x ∈ xs, x.fr.length ≤ 1000000000 ∧ ∀ f ∈ x.fr, f.length ≤ 1000000000) :
    Calls Try.prog 21 #[.agg #[.slice A xs.length c], .int .i64 st0] w fun e w' => CpF w (dropK st0 xs) e w' := specDrop_any st0 A c xs w hx hm hlx
theorem implDropK {T : Nat → Prop} (st0 : Int) (A : Option Addr) (c : Nat) (xs : List KT) (w : World) (hx : Sl false 4 (EK false) w T A xs) (hm : xs.length ≤ 1000000000) (hlx : ∀ x ∈ xs, x.fr.length ≤ 1000000000 ∧ ∀ f ∈ x.fr, f.length ≤ 1000000000) :
    Calls Try.prog 22 #[.agg #[.slice A xs.length c], .int .i64 st0] w fun e w' => CpPB w (dropK st0 xs) e w' := implDrop_any st0 A c xs w hx hm hlx

set_option maxHeartbeats 4000000 in
theorem dropStation_walk (A : Option Addr) (c : Nat) (xs : List KT) (s : Int) (hs : I64 s) (w : World) (hx : Sl false 4 (EK false) w (fun g => g < w.heap.size) A xs) (hlen : xs.length ≤ 9223372036854775807) (hb : ∀ x ∈ xs, KTok x) :
    Calls Try.prog 7 #[.agg #[.slice A xs.length c], .int .i64 s] w fun e w' => e = .returned (.bool true) ∧ Below w.heap.size w w' := by
  have X := Lib.hid hx
  have HZ := Lib.hid hb
  clear hx hb
  by_cases hbig : 1048576 < szK xs
  · have hz : Hid (szO (szK xs) 1048576 = -1) := Lib.hid (if_neg (by omega))
    go_enter Try.func7, Try.ntmps7
    go_wp2_with fail
    refine (szPB_any A c xs 1048576 _ (Sl.below (R := EK false) EK.framed X.out (by repeat (first | (with_reducible exact Below.refl _ _) | (with_reducible refine Below.ext ?_ (by go_size) _ _) | (with_reducible refine Below.alloc ?_ (by go_size) _) | (with_reducible refine Below.setCell ?_ (by go_size) _) | (with_reducible refine Below.drew ?_) | (with_reducible refine Below.drewN_ ?_ _)))) hlen HZ.out (by omega) (by omega)).mono ?_
    rw [hz.out]
    rintro e w' ⟨rfl, hb⟩
    obtain ⟨X', d', rfl⟩ := Below.ext_ hb
    clear hb
    go_wp2
    go_ret
    exact ⟨rfl, (by repeat (first | (with_reducible exact Below.refl _ _) | (with_reducible refine Below.ext ?_ (by go_size) _ _) | (with_reducible refine Below.alloc ?_ (by go_size) _) | (with_reducible refine Below.setCell ?_ (by go_size) _) | (with_reducible refine Below.drew ?_) | (with_reducible refine Below.drewN_ ?_ _)))⟩
  have hz : Hid (szO (szK xs) 1048576 = 1048576 - (szK xs : Int)) := Lib.hid (if_pos (by omega))
  have hz0 : ¬ 1048576 - (szK xs : Int) < 0 := by omega
  have hz1 : xs.length ≤ 1000000000 := by unfold szK at hbig; omega
  have HS : Hid (∀ x ∈ xs, szSS x.fr ≤ 1048576) := Lib.hid (fun x h => by have := sumK_mem h; unfold szK at hbig; omega)
  have HM : Hid (∀ x ∈ xs, x.fr.length ≤ 1000000000000 ∧ ∀ f ∈ x.fr, f.length ≤ 1000000000000) := Lib.hid (fun x h => by
    have h1 := HS.out x h
    unfold szSS at h1
    exact ⟨by omega, fun f hf => by have := sumL_mem hf; omega⟩)
  have HM9 : Hid (∀ x ∈ xs, x.fr.length ≤ 1000000000 ∧ ∀ f ∈ x.fr, f.length ≤ 1000000000) := Lib.hid (fun x h => by
    have h1 := HS.out x h
    unfold szSS at h1
    exact ⟨by omega, fun f hf => by have := sumL_mem hf; omega⟩)
  have HS20 : Hid (szK xs ≤ 1048576) := Lib.hid (by omega)
  have hyl := dropK_len s xs
  have hys := dropK_sz s xs
  have HYL : Hid ((dropK s xs).length ≤ 1000000000000) := Lib.hid (by omega)
  have HYL9 : Hid ((dropK s xs).length ≤ 1000000000) := Lib.hid (by omega)
  have HYS : Hid (szK (dropK s xs) ≤ 1000000000) := Lib.hid (by omega)
  have HYM : Hid (∀ x ∈ dropK s xs, x.fr.length ≤ 1000000000000 ∧ ∀ f ∈ x.fr, f.length ≤ 1000000000000) := Lib.hid (fun x h => HM.out x (dropK_mem h))
  clear hyl hys
  clear hbig
  go_enter Try.func7, Try.ntmps7
  have HBw : Hid (Below w.heap.size w w) := Lib.hid (Below.refl _ _)
  go_wp2_with fail
  refine (szPB_any A c xs 1048576 _ (Sl.below (R := EK false) EK.framed X.out (by repeat (first | (with_reducible exact Below.refl _ _) | (with_reducible refine Below.ext ?_ (by go_size) _ _) | (with_reducible refine Below.alloc ?_ (by go_size) _) | (with_reducible refine Below.setCell ?_ (by go_size) _) | (with_reducible refine Below.drew ?_) | (with_reducible refine Below.drewN_ ?_ _)))) hlen HZ.out (by omega) (by omega)).mono ?_
  rw [hz.out]
  rintro e w1 ⟨rfl, hb⟩
  have hbb : Below w.heap.size w w1 := by
    refine Below.trans ?_ (Below.mono hb ?_)
    · exact (by repeat (first | (with_reducible exact Below.refl _ _) | (with_reducible refine Below.ext ?_ (by go_size) _ _) | (with_reducible refine Below.alloc ?_ (by go_size) _) | (with_reducible refine Below.setCell ?_ (by go_size) _) | (with_reducible refine Below.drew ?_) | (with_reducible refine Below.drewN_ ?_ _)))
    · (simp; try omega)
  have hsw1 := hbb.size
  replace X := Lib.hid (Sl.below (R := EK false) EK.framed X.out hbb)
  have ca0 : w1.cell? ⟨w.heap.size, 0, none⟩ = some (.slice A xs.length c) := (hb.cell (p := ⟨w.heap.size, 0, none⟩) (by simp; try omega)).trans (by simp [go_sem])
  have la : w.heap.size < w1.heap.size := by have := hb.size; simp at this; omega
  have pa := la
  have HBw1 : Hid (Below w.heap.size w w1) := Lib.hid (HBw.out.trans (hbb.mono HBw.out.size))
  clear hbb HBw
  clear hb
  go_wp2_with fail
  refine (toPB_any A c xs _ X.out hz1 HM.out).mono ?_
  rintro e w2 ⟨b1, rfl, hb, hb0, hb1, y⟩
  have hbb := hb
  have hsw2 := hbb.size
  replace X := Lib.hid (Sl.below (R := EK false) EK.framed X.out hbb)
  replace ca0 := (hbb.cell (p := ⟨w.heap.size, 0, none⟩) la).trans ca0
  replace la : w.heap.size < w2.heap.size := Nat.lt_of_lt_of_le la hsw2
  have HBw2 : Hid (Below w.heap.size w w2) := Lib.hid (HBw1.out.trans (hbb.mono HBw1.out.size))
  clear hbb HBw1
  clear hb
  (try simp only [World.size_alloc, World.size_ext] at y hb0)
  have Y := Lib.hid y
  clear y
  clear hb0 hb1
  go_wp2_with fail
  refine (specDropK s _ _ xs _ (SlK.read Y.out) hz1 HM9.out).mono ?_
  rintro e w3 ⟨Aw, cw, rfl, hb, y⟩
  have hbb := hb
  have hsw3 := hbb.size
  replace X := Lib.hid (Sl.below (R := EK false) EK.framed X.out hbb)
  replace Y := Lib.hid (Sl.below (R := EK true) EK.framed Y.out hbb)
  replace ca0 := (hbb.cell (p := ⟨w.heap.size, 0, none⟩) la).trans ca0
  replace la : w.heap.size < w3.heap.size := Nat.lt_of_lt_of_le la hsw3
  have HBw3 : Hid (Below w.heap.size w w3) := Lib.hid (HBw2.out.trans (hbb.mono HBw2.out.size))
  clear hbb HBw2
  clear hb
  clear Y
  (try simp only [World.size_alloc, World.size_ext] at y)
  have W0 := Lib.hid y
  clear y
  go_wp2_with fail
  refine (toPB_any A c xs _ (Sl.below (R := EK false) EK.framed X.out (by repeat (first | (with_reducible exact Below.refl _ _) | (with_reducible refine Below.ext ?_ (by go_size) _ _) | (with_reducible refine Below.alloc ?_ (by go_size) _) | (with_reducible refine Below.setCell ?_ (by go_size) _) | (with_reducible refine Below.drew ?_) | (with_reducible refine Below.drewN_ ?_ _)))) hz1 HM.out).mono ?_
  rintro e w4 ⟨b2, rfl, hb, hb0, hb1, y⟩
  have hbb : Below w3.heap.size w3 w4 := by
    refine Below.trans ?_ (Below.mono hb ?_)
    · exact (by repeat (first | (with_reducible exact Below.refl _ _) | (with_reducible refine Below.ext ?_ (by go_size) _ _) | (with_reducible refine Below.alloc ?_ (by go_size) _) | (with_reducible refine Below.setCell ?_ (by go_size) _) | (with_reducible refine Below.drew ?_) | (with_reducible refine Below.drewN_ ?_ _)))
    · (simp; try omega)
  have hsw4 := hbb.size
  replace X := Lib.hid (Sl.below (R := EK false) EK.framed X.out hbb)
  replace W0 := Lib.hid (Sl.below (R := EK false) EK.framed W0.out hbb)
  replace ca0 := (hbb.cell (p := ⟨w.heap.size, 0, none⟩) la).trans ca0
  replace la : w.heap.size < w4.heap.size := Nat.lt_of_lt_of_le la hsw4
  have cw0 : w4.cell? ⟨w3.heap.size, 0, none⟩ = some (.slice Aw (dropK s xs).length cw) := (hb.cell (p := ⟨w3.heap.size, 0, none⟩) (by simp; try omega)).trans (by simp [go_sem])
  have lw : w3.heap.size < w4.heap.size := by have := hb.size; simp at this; omega
  have pw := lw
  have HBw4 : Hid (Below w.heap.size w w4) := Lib.hid (HBw3.out.trans (hbb.mono HBw3.out.size))
  clear hbb HBw3
  clear hb
  (try simp only [World.size_alloc, World.size_ext] at y hb0)
  have Y := Lib.hid y
  clear y
  clear hb0 hb1
  go_wp2_with fail
  refine (implDropK s _ _ xs _ (SlK.read (Sl.below (R := EK true) EK.framed Y.out (by repeat (first | (with_reducible exact Below.refl _ _) | (with_reducible refine Below.ext ?_ (by go_size) _ _) | (with_reducible refine Below.alloc ?_ (by go_size) _) | (with_reducible refine Below.setCell ?_ (by go_size) _) | (with_reducible refine Below.drew ?_) | (with_reducible refine Below.drewN_ ?_ _))))) hz1 HM9.out).mono ?_
  rintro e w5 ⟨Ag, cg, rfl, hb, y⟩
  have hbb : Below w4.heap.size w4 w5 := by
    refine Below.trans ?_ (Below.mono hb ?_)
    · exact (by repeat (first | (with_reducible exact Below.refl _ _) | (with_reducible refine Below.ext ?_ (by go_size) _ _) | (with_reducible refine Below.alloc ?_ (by go_size) _) | (with_reducible refine Below.setCell ?_ (by go_size) _) | (with_reducible refine Below.drew ?_) | (with_reducible refine Below.drewN_ ?_ _)))
    · (simp; try omega)
  have hsw5 := hbb.size
  replace X := Lib.hid (Sl.below (R := EK false) EK.framed X.out hbb)
  replace W0 := Lib.hid (Sl.below (R := EK false) EK.framed W0.out hbb)
  replace Y := Lib.hid (Sl.below (R := EK true) EK.framed Y.out hbb)
  replace ca0 := (hbb.cell (p := ⟨w.heap.size, 0, none⟩) la).trans ca0
  replace la : w.heap.size < w5.heap.size := Nat.lt_of_lt_of_le la hsw5
  replace cw0 := (hbb.cell (p := ⟨w3.heap.size, 0, none⟩) lw).trans cw0
  replace lw : w3.heap.size < w5.heap.size := Nat.lt_of_lt_of_le lw hsw5
  have cx0 : w5.cell? ⟨w4.heap.size, 0, none⟩ = some (.slice (some ⟨b2, 0, none⟩) xs.length xs.length) := (hb.cell (p := ⟨w4.heap.size, 0, none⟩) (by simp; try omega)).trans (by simp [go_sem])
  have lx : w4.heap.size < w5.heap.size := by have := hb.size; simp at this; omega
  have px := lx
  have HBw5 : Hid (Below w.heap.size w w5) := Lib.hid (HBw4.out.trans (hbb.mono HBw4.out.size))
  clear hbb HBw4
  clear hb
  (try simp only [World.size_alloc, World.size_ext] at y)
  have G0 := Lib.hid y
  clear y
  go_wp2_with fail
  refine (eqPB_any (xs := (dropK s xs)) (ys := (dropK s xs)) (b := true) (by simp) _ _ _ _ _ (SlK.read (Sl.below (R := EK true) EK.framed G0.out (by repeat (first | (with_reducible exact Below.refl _ _) | (with_reducible refine Below.ext ?_ (by go_size) _ _) | (with_reducible refine Below.alloc ?_ (by go_size) _) | (with_reducible refine Below.setCell ?_ (by go_size) _) | (with_reducible refine Below.drew ?_) | (with_reducible refine Below.drewN_ ?_ _))))) (Sl.below (R := EK false) EK.framed W0.out (by repeat (first | (with_reducible exact Below.refl _ _) | (with_reducible refine Below.ext ?_ (by go_size) _ _) | (with_reducible refine Below.alloc ?_ (by go_size) _) | (with_reducible refine Below.setCell ?_ (by go_size) _) | (with_reducible refine Below.drew ?_) | (with_reducible refine Below.drewN_ ?_ _)))) HYL.out HYL.out HYM.out HYM.out).mono ?_
  rintro e w6 ⟨rfl, hb⟩
  have hbb : Below w5.heap.size w5 w6 := by
    refine Below.trans ?_ (Below.mono hb ?_)
    · exact (by repeat (first | (with_reducible exact Below.refl _ _) | (with_reducible refine Below.ext ?_ (by go_size) _ _) | (with_reducible refine Below.alloc ?_ (by go_size) _) | (with_reducible refine Below.setCell ?_ (by go_size) _) | (with_reducible refine Below.drew ?_) | (with_reducible refine Below.drewN_ ?_ _)))
    · (simp; try omega)
  have hsw6 := hbb.size
  replace X := Lib.hid (Sl.below (R := EK false) EK.framed X.out hbb)
  replace W0 := Lib.hid (Sl.below (R := EK false) EK.framed W0.out hbb)
  replace Y := Lib.hid (Sl.below (R := EK true) EK.framed Y.out hbb)
  replace G0 := Lib.hid (Sl.below (R := EK true) EK.framed G0.out hbb)
  replace ca0 := (hbb.cell (p := ⟨w.heap.size, 0, none⟩) la).trans ca0
  replace la : w.heap.size < w6.heap.size := Nat.lt_of_lt_of_le la hsw6
  replace cw0 := (hbb.cell (p := ⟨w3.heap.size, 0, none⟩) lw).trans cw0
  replace lw : w3.heap.size < w6.heap.size := Nat.lt_of_lt_of_le lw hsw6
  replace cx0 := (hbb.cell (p := ⟨w4.heap.size, 0, none⟩) lx).trans cx0
  replace lx : w4.heap.size < w6.heap.size := Nat.lt_of_lt_of_le lx hsw6
  have cg0 : w6.cell? ⟨w5.heap.size, 0, none⟩ = some (.slice Ag (dropK s xs).length cg) := (hb.cell (p := ⟨w5.heap.size, 0, none⟩) (by simp; try omega)).trans (by simp [go_sem])
  have lg : w5.heap.size < w6.heap.size := by have := hb.size; simp at this; omega
  have pg := lg
  have HBw6 : Hid (Below w.heap.size w w6) := Lib.hid (HBw5.out.trans (hbb.mono HBw5.out.size))
  clear hbb HBw5
  clear hb
  go_wp2
  refine wp_region_held_drew (S := (fun w' => w'.cell? ⟨w4.heap.size, 0, none⟩ = some (.slice (some ⟨b2, 0, none⟩) xs.length xs.length) ∧ w'.cell? ⟨w.heap.size, 0, none⟩ = some (.slice A xs.length c))) (by kernel_rfl) ?_ (fun hHeld => ?_)
  · first | exact ⟨cx0, ca0⟩ | (simp [go_sem, *]; done)
  refine wpAnyH_takeW (i := 0) (d := some 31) (v := ?_) (by simp only [List.getElem?_toArray, List.getElem?_cons_succ, List.getElem?_cons_zero]; rfl) (by rfl) (by kernel_rfl) (by kernel_rfl) (by kernel_rfl) (by intro _ _ _ h; exact h) (by rfl) ?_ (by assumption) ?_
  rotate_left 1
  · (intro w hSw; (try dsimp only at hSw); go_simp; try (with_reducible rfl))
  (try simp only [Act.put, List.setIfInBounds_toArray, List.set_cons_zero, List.set_cons_succ])
  refine wpAnyH_takeW (i := 1) (d := some 32) (v := ?_) (by simp only [List.getElem?_toArray, List.getElem?_cons_succ, List.getElem?_cons_zero]; rfl) (by rfl) (by kernel_rfl) (by kernel_rfl) (by kernel_rfl) (by intro _ _ _ h; exact h) (by rfl) ?_ (by assumption) ?_
  rotate_left 1
  · (intro w hSw; (try dsimp only at hSw); go_simp; try (with_reducible rfl))
  (try simp only [Act.put, List.setIfInBounds_toArray, List.set_cons_zero, List.set_cons_succ])
  refine wpAnyH_ready (rs := [2]) (by kernel_rfl) (by simp) ?_
  refine AllReadyH.cons (i := 2) (by simp only [List.getElem?_toArray, List.getElem?_cons_succ, List.getElem?_cons_zero]; rfl) (fun K hK => ?_) AllReadyH.nil
  go_simp
  refine (toPB_any A c xs _ (Sl.below (R := EK false) EK.framed X.out (by repeat (first | (with_reducible exact Below.refl _ _) | (with_reducible refine Below.ext ?_ (by go_size) _ _) | (with_reducible refine Below.alloc ?_ (by go_size) _) | (with_reducible refine Below.setCell ?_ (by go_size) _) | (with_reducible refine Below.drew ?_) | (with_reducible refine Below.drewN_ ?_ _)))) hz1 HM.out).mono ?_
  rintro e w7 ⟨b3, rfl, hb, hb0, hb1, y⟩
  have hbb : Below w6.heap.size w6 w7 := by
    refine Below.trans ?_ (Below.mono hb ?_)
    · exact (by repeat (first | (with_reducible exact Below.refl _ _) | (with_reducible refine Below.ext ?_ (by go_size) _ _) | (with_reducible refine Below.alloc ?_ (by go_size) _) | (with_reducible refine Below.setCell ?_ (by go_size) _) | (with_reducible refine Below.drew ?_) | (with_reducible refine Below.drewN_ ?_ _)))
    · (simp; try omega)
  have hsw7 := hbb.size
  replace X := Lib.hid (Sl.below (R := EK false) EK.framed X.out hbb)
  replace W0 := Lib.hid (Sl.below (R := EK false) EK.framed W0.out hbb)
  replace Y := Lib.hid (Sl.below (R := EK true) EK.framed Y.out hbb)
  replace G0 := Lib.hid (Sl.below (R := EK true) EK.framed G0.out hbb)
  replace ca0 := (hbb.cell (p := ⟨w.heap.size, 0, none⟩) la).trans ca0
  replace la : w.heap.size < w7.heap.size := Nat.lt_of_lt_of_le la hsw7
  replace cw0 := (hbb.cell (p := ⟨w3.heap.size, 0, none⟩) lw).trans cw0
  replace lw : w3.heap.size < w7.heap.size := Nat.lt_of_lt_of_le lw hsw7
  replace cx0 := (hbb.cell (p := ⟨w4.heap.size, 0, none⟩) lx).trans cx0
  replace lx : w4.heap.size < w7.heap.size := Nat.lt_of_lt_of_le lx hsw7
  replace cg0 := (hbb.cell (p := ⟨w5.heap.size, 0, none⟩) lg).trans cg0
  replace lg : w5.heap.size < w7.heap.size := Nat.lt_of_lt_of_le lg hsw7
  have HBw7 : Hid (Below w.heap.size w w7) := Lib.hid (HBw6.out.trans (hbb.mono HBw6.out.size))
  clear hbb HBw6
  clear hb
  have Z := Lib.hid y
  clear y
  clear hb0 hb1
  go_wp2_with fail
  refine hK.out _ _ ?_ (fun hHeld => ?_)
  · ((try dsimp only); first | exact ⟨cx0, ca0⟩ | (simp [go_sem, *]; done))
  clear hK K
  (try simp only [Act.put, List.setIfInBounds_toArray, List.set_cons_zero, List.set_cons_succ])
  refine wpAnyH_ready (rs := [3]) (by kernel_rfl) (by simp) ?_
  refine AllReadyH.cons (i := 3) (by simp only [List.getElem?_toArray, List.getElem?_cons_succ, List.getElem?_cons_zero]; rfl) (fun K hK => ?_) AllReadyH.nil
  go_simp
  refine (eqPB_any (b := true) (by simp) _ _ _ _ _ (SlK.read Y.out) (SlK.read Z.out) (by omega) (by omega) HM.out HM.out).mono ?_
  rintro e w8 ⟨rfl, hb⟩
  have hbb := hb
  have hsw8 := hbb.size
  replace X := Lib.hid (Sl.below (R := EK false) EK.framed X.out hbb)
  replace W0 := Lib.hid (Sl.below (R := EK false) EK.framed W0.out hbb)
  replace Y := Lib.hid (Sl.below (R := EK true) EK.framed Y.out hbb)
  replace G0 := Lib.hid (Sl.below (R := EK true) EK.framed G0.out hbb)
  replace Z := Lib.hid (Sl.below (R := EK true) EK.framed Z.out hbb)
  replace ca0 := (hbb.cell (p := ⟨w.heap.size, 0, none⟩) la).trans ca0
  replace la : w.heap.size < w8.heap.size := Nat.lt_of_lt_of_le la hsw8
  replace cw0 := (hbb.cell (p := ⟨w3.heap.size, 0, none⟩) lw).trans cw0
  replace lw : w3.heap.size < w8.heap.size := Nat.lt_of_lt_of_le lw hsw8
  replace cx0 := (hbb.cell (p := ⟨w4.heap.size, 0, none⟩) lx).trans cx0
  replace lx : w4.heap.size < w8.heap.size := Nat.lt_of_lt_of_le lx hsw8
  replace cg0 := (hbb.cell (p := ⟨w5.heap.size, 0, none⟩) lg).trans cg0
  replace lg : w5.heap.size < w8.heap.size := Nat.lt_of_lt_of_le lg hsw8
  have HBw8 : Hid (Below w.heap.size w w8) := Lib.hid (HBw7.out.trans (hbb.mono HBw7.out.size))
  clear hbb HBw7
  clear hb
  go_wp2_with fail
  refine hK.out _ _ ?_ (fun hHeld => ?_)
  · ((try dsimp only); first | exact ⟨cx0, ca0⟩ | (simp [go_sem, *]; done))
  clear hK K
  (try simp only [Act.put, List.setIfInBounds_toArray, List.set_cons_zero, List.set_cons_succ])
  refine wpAnyH_takeW (i := 4) (d := some 35) (v := ?_) (by simp only [List.getElem?_toArray, List.getElem?_cons_succ, List.getElem?_cons_zero]; rfl) (by rfl) (by kernel_rfl) (by kernel_rfl) (by kernel_rfl) (by intro _ _ _ h; exact h) (by rfl) ?_ (by assumption) ?_
  rotate_left 1
  · (intro w hSw; (try dsimp only at hSw); go_simp; try (with_reducible rfl))
  (try simp only [Act.put, List.setIfInBounds_toArray, List.set_cons_zero, List.set_cons_succ])
  refine wpAnyH_done (by kernel_rfl) ?_ _
  clear Z
  go_wp2_with fail
  refine (markPB_any _ _ xs 1 _ Y.out (fun b h => by omega) hz1 (by have := HS20.out; omega) (by omega) (by omega)).mono ?_
  rintro e w9 ⟨rfl, hc, _⟩
  have hsw9 := hc.size
  replace X := Lib.hid (Sl.frame (R := EK false) EK.framed X.out hc (fun b h1 h2 => by omega))
  replace W0 := Lib.hid (Sl.frame (R := EK false) EK.framed W0.out hc (fun b h1 h2 => by omega))
  clear Y
  replace G0 := Lib.hid (Sl.frame (R := EK true) EK.framed G0.out hc (fun b h1 h2 => by omega))
  replace ca0 := (hc.cell (p := ⟨w.heap.size, 0, none⟩) la (by first | omega | (simp; done) | (simp; omega))).trans ca0
  replace la : w.heap.size < w9.heap.size := Nat.lt_of_lt_of_le la hsw9
  replace cw0 := (hc.cell (p := ⟨w3.heap.size, 0, none⟩) lw (by first | omega | (simp; done) | (simp; omega))).trans cw0
  replace lw : w3.heap.size < w9.heap.size := Nat.lt_of_lt_of_le lw hsw9
  replace cx0 := (hc.cell (p := ⟨w4.heap.size, 0, none⟩) lx (by first | omega | (simp; done) | (simp; omega))).trans cx0
  replace lx : w4.heap.size < w9.heap.size := Nat.lt_of_lt_of_le lx hsw9
  replace cg0 := (hc.cell (p := ⟨w5.heap.size, 0, none⟩) lg (by first | omega | (simp; done) | (simp; omega))).trans cg0
  replace lg : w5.heap.size < w9.heap.size := Nat.lt_of_lt_of_le lg hsw9
  have HBw9 : Hid (Below w.heap.size w w9) := Lib.hid (HBw8.out.trans (hc.below HBw8.out.size (fun b h => by omega)))
  clear hc HBw8
  have hk0 : ¬ (1 : Int) + (mkN xs : Int) < 0 := by omega
  go_wp2_with fail
  refine (eqPB_any (xs := (dropK s xs)) (ys := (dropK s xs)) (b := true) (by simp) _ _ _ _ _ (SlK.read G0.out) W0.out HYL.out HYL.out HYM.out HYM.out).mono ?_
  rintro e w10 ⟨rfl, hb⟩
  have hbb := hb
  have hsw10 := hbb.size
  replace X := Lib.hid (Sl.below (R := EK false) EK.framed X.out hbb)
  replace W0 := Lib.hid (Sl.below (R := EK false) EK.framed W0.out hbb)
  replace G0 := Lib.hid (Sl.below (R := EK true) EK.framed G0.out hbb)
  replace ca0 := (hbb.cell (p := ⟨w.heap.size, 0, none⟩) la).trans ca0
  replace la : w.heap.size < w10.heap.size := Nat.lt_of_lt_of_le la hsw10
  replace cw0 := (hbb.cell (p := ⟨w3.heap.size, 0, none⟩) lw).trans cw0
  replace lw : w3.heap.size < w10.heap.size := Nat.lt_of_lt_of_le lw hsw10
  replace cx0 := (hbb.cell (p := ⟨w4.heap.size, 0, none⟩) lx).trans cx0
  replace lx : w4.heap.size < w10.heap.size := Nat.lt_of_lt_of_le lx hsw10
  replace cg0 := (hbb.cell (p := ⟨w5.heap.size, 0, none⟩) lg).trans cg0
  replace lg : w5.heap.size < w10.heap.size := Nat.lt_of_lt_of_le lg hsw10
  have HBw10 : Hid (Below w.heap.size w w10) := Lib.hid (HBw9.out.trans (hbb.mono HBw9.out.size))
  clear hbb HBw9
  clear hb
  go_wp2_with fail
  refine (markPB_any _ _ (dropK s xs) 1 _ G0.out (fun b h => by omega) HYL9.out HYS.out (by omega) (by omega)).mono ?_
  rintro e w11 ⟨rfl, hc, gm⟩
  have hsw11 := hc.size
  replace X := Lib.hid (Sl.frame (R := EK false) EK.framed X.out hc (fun b h1 h2 => by omega))
  replace W0 := Lib.hid (Sl.frame (R := EK false) EK.framed W0.out hc (fun b h1 h2 => by omega))
  clear G0
  replace ca0 := (hc.cell (p := ⟨w.heap.size, 0, none⟩) la (by first | omega | (simp; done) | (simp; omega))).trans ca0
  replace la : w.heap.size < w11.heap.size := Nat.lt_of_lt_of_le la hsw11
  replace cw0 := (hc.cell (p := ⟨w3.heap.size, 0, none⟩) lw (by first | omega | (simp; done) | (simp; omega))).trans cw0
  replace lw : w3.heap.size < w11.heap.size := Nat.lt_of_lt_of_le lw hsw11
  replace cx0 := (hc.cell (p := ⟨w4.heap.size, 0, none⟩) lx (by first | omega | (simp; done) | (simp; omega))).trans cx0
  replace lx : w4.heap.size < w11.heap.size := Nat.lt_of_lt_of_le lx hsw11
  replace cg0 := (hc.cell (p := ⟨w5.heap.size, 0, none⟩) lg (by first | omega | (simp; done) | (simp; omega))).trans cg0
  replace lg : w5.heap.size < w11.heap.size := Nat.lt_of_lt_of_le lg hsw11
  have HBw11 : Hid (Below w.heap.size w w11) := Lib.hid (HBw10.out.trans (hc.below HBw10.out.size (fun b h => by omega)))
  clear hc HBw10
  have GM := Lib.hid gm
  clear gm
  have hk1 : ¬ (1 : Int) + (mkN (dropK s xs) : Int) < 0 := by omega
  go_wp2_with fail
  refine (heldPB_any _ (dropK s xs).length _ (dropK s xs) 1 _ rfl (SlK.read GM.out) HYL9.out HYS.out (by omega) (by omega)).mono ?_
  rintro e w12 ⟨rfl, hb⟩
  have hbb := hb
  have hsw12 := hbb.size
  replace X := Lib.hid (Sl.below (R := EK false) EK.framed X.out hbb)
  replace W0 := Lib.hid (Sl.below (R := EK false) EK.framed W0.out hbb)
  replace GM := Lib.hid (Sl.below (R := EK true) EK.framed GM.out hbb)
  replace ca0 := (hbb.cell (p := ⟨w.heap.size, 0, none⟩) la).trans ca0
  replace la : w.heap.size < w12.heap.size := Nat.lt_of_lt_of_le la hsw12
  replace cw0 := (hbb.cell (p := ⟨w3.heap.size, 0, none⟩) lw).trans cw0
  replace lw : w3.heap.size < w12.heap.size := Nat.lt_of_lt_of_le lw hsw12
  replace cx0 := (hbb.cell (p := ⟨w4.heap.size, 0, none⟩) lx).trans cx0
  replace lx : w4.heap.size < w12.heap.size := Nat.lt_of_lt_of_le lx hsw12
  replace cg0 := (hbb.cell (p := ⟨w5.heap.size, 0, none⟩) lg).trans cg0
  replace lg : w5.heap.size < w12.heap.size := Nat.lt_of_lt_of_le lg hsw12
  have HBw12 : Hid (Below w.heap.size w w12) := Lib.hid (HBw11.out.trans (hbb.mono HBw11.out.size))
  clear hbb HBw11
  clear hb
  go_wp2_with fail
  refine (toPB_any A c xs _ X.out hz1 HM.out).mono ?_
  rintro e w13 ⟨b4, rfl, hb, hb0, hb1, y⟩
  have hbb := hb
  have hsw13 := hbb.size
  replace X := Lib.hid (Sl.below (R := EK false) EK.framed X.out hbb)
  replace W0 := Lib.hid (Sl.below (R := EK false) EK.framed W0.out hbb)
  replace GM := Lib.hid (Sl.below (R := EK true) EK.framed GM.out hbb)
  replace ca0 := (hbb.cell (p := ⟨w.heap.size, 0, none⟩) la).trans ca0
  replace la : w.heap.size < w13.heap.size := Nat.lt_of_lt_of_le la hsw13
  replace cw0 := (hbb.cell (p := ⟨w3.heap.size, 0, none⟩) lw).trans cw0
  replace lw : w3.heap.size < w13.heap.size := Nat.lt_of_lt_of_le lw hsw13
  replace cx0 := (hbb.cell (p := ⟨w4.heap.size, 0, none⟩) lx).trans cx0
  replace lx : w4.heap.size < w13.heap.size := Nat.lt_of_lt_of_le lx hsw13
  replace cg0 := (hbb.cell (p := ⟨w5.heap.size, 0, none⟩) lg).trans cg0
  replace lg : w5.heap.size < w13.heap.size := Nat.lt_of_lt_of_le lg hsw13
  have HBw13 : Hid (Below w.heap.size w w13) := Lib.hid (HBw12.out.trans (hbb.mono HBw12.out.size))
  clear hbb HBw12
  clear hb
  (try simp only [World.size_alloc, World.size_ext] at y hb0)
  have Z := Lib.hid y
  clear y
  clear hb0 hb1
  go_wp2_with fail
  refine (implDropK s _ _ xs _ (SlK.read Z.out) hz1 HM9.out).mono ?_
  rintro e w14 ⟨Ah, ch, rfl, hb, y⟩
  have hbb := hb
  have hsw14 := hbb.size
  replace X := Lib.hid (Sl.below (R := EK false) EK.framed X.out hbb)
  replace W0 := Lib.hid (Sl.below (R := EK false) EK.framed W0.out hbb)
  replace GM := Lib.hid (Sl.below (R := EK true) EK.framed GM.out hbb)
  replace Z := Lib.hid (Sl.below (R := EK true) EK.framed Z.out hbb)
  replace ca0 := (hbb.cell (p := ⟨w.heap.size, 0, none⟩) la).trans ca0
  replace la : w.heap.size < w14.heap.size := Nat.lt_of_lt_of_le la hsw14
  replace cw0 := (hbb.cell (p := ⟨w3.heap.size, 0, none⟩) lw).trans cw0
  replace lw : w3.heap.size < w14.heap.size := Nat.lt_of_lt_of_le lw hsw14
  replace cx0 := (hbb.cell (p := ⟨w4.heap.size, 0, none⟩) lx).trans cx0
  replace lx : w4.heap.size < w14.heap.size := Nat.lt_of_lt_of_le lx hsw14
  replace cg0 := (hbb.cell (p := ⟨w5.heap.size, 0, none⟩) lg).trans cg0
  replace lg : w5.heap.size < w14.heap.size := Nat.lt_of_lt_of_le lg hsw14
  have HBw14 : Hid (Below w.heap.size w w14) := Lib.hid (HBw13.out.trans (hbb.mono HBw13.out.size))
  clear hbb HBw13
  clear hb
  clear Z
  have H0 := Lib.hid y
  clear y
  go_wp2_with fail
  refine (eqPB_any (xs := (dropK s xs)) (ys := (dropK s xs)) (b := true) (by simp) _ _ _ _ _ (SlK.read (Sl.below (R := EK true) EK.framed H0.out (by repeat (first | (with_reducible exact Below.refl _ _) | (with_reducible refine Below.ext ?_ (by go_size) _ _) | (with_reducible refine Below.alloc ?_ (by go_size) _) | (with_reducible refine Below.setCell ?_ (by go_size) _) | (with_reducible refine Below.drew ?_) | (with_reducible refine Below.drewN_ ?_ _))))) (Sl.below (R := EK false) EK.framed W0.out (by repeat (first | (with_reducible exact Below.refl _ _) | (with_reducible refine Below.ext ?_ (by go_size) _ _) | (with_reducible refine Below.alloc ?_ (by go_size) _) | (with_reducible refine Below.setCell ?_ (by go_size) _) | (with_reducible refine Below.drew ?_) | (with_reducible refine Below.drewN_ ?_ _)))) HYL.out HYL.out HYM.out HYM.out).mono ?_
  rintro e w15 ⟨rfl, hb⟩
  have hbb : Below w14.heap.size w14 w15 := by
    refine Below.trans ?_ (Below.mono hb ?_)
    · exact (by repeat (first | (with_reducible exact Below.refl _ _) | (with_reducible refine Below.ext ?_ (by go_size) _ _) | (with_reducible refine Below.alloc ?_ (by go_size) _) | (with_reducible refine Below.setCell ?_ (by go_size) _) | (with_reducible refine Below.drew ?_) | (with_reducible refine Below.drewN_ ?_ _)))
    · (simp; try omega)
  have hsw15 := hbb.size
  replace X := Lib.hid (Sl.below (R := EK false) EK.framed X.out hbb)
  replace W0 := Lib.hid (Sl.below (R := EK false) EK.framed W0.out hbb)
  replace GM := Lib.hid (Sl.below (R := EK true) EK.framed GM.out hbb)
  replace H0 := Lib.hid (Sl.below (R := EK true) EK.framed H0.out hbb)
  replace ca0 := (hbb.cell (p := ⟨w.heap.size, 0, none⟩) la).trans ca0
  replace la : w.heap.size < w15.heap.size := Nat.lt_of_lt_of_le la hsw15
  replace cw0 := (hbb.cell (p := ⟨w3.heap.size, 0, none⟩) lw).trans cw0
  replace lw : w3.heap.size < w15.heap.size := Nat.lt_of_lt_of_le lw hsw15
  replace cx0 := (hbb.cell (p := ⟨w4.heap.size, 0, none⟩) lx).trans cx0
  replace lx : w4.heap.size < w15.heap.size := Nat.lt_of_lt_of_le lx hsw15
  replace cg0 := (hbb.cell (p := ⟨w5.heap.size, 0, none⟩) lg).trans cg0
  replace lg : w5.heap.size < w15.heap.size := Nat.lt_of_lt_of_le lg hsw15
  have ch0 : w15.cell? ⟨w14.heap.size, 0, none⟩ = some (.slice Ah (dropK s xs).length ch) := (hb.cell (p := ⟨w14.heap.size, 0, none⟩) (by simp; try omega)).trans (by simp [go_sem])
  have lh : w14.heap.size < w15.heap.size := by have := hb.size; simp at this; omega
  have ph := lh
  have HBw15 : Hid (Below w.heap.size w w15) := Lib.hid (HBw14.out.trans (hbb.mono HBw14.out.size))
  clear hbb HBw14
  clear hb
  go_wp2_with fail
  refine (heldPB_any _ (dropK s xs).length _ (dropK s xs) 1 _ rfl (SlK.read GM.out) HYL9.out HYS.out (by omega) (by omega)).mono ?_
  rintro e w16 ⟨rfl, hb⟩
  have hbb := hb
  have hsw16 := hbb.size
  replace X := Lib.hid (Sl.below (R := EK false) EK.framed X.out hbb)
  replace W0 := Lib.hid (Sl.below (R := EK false) EK.framed W0.out hbb)
  replace GM := Lib.hid (Sl.below (R := EK true) EK.framed GM.out hbb)
  replace H0 := Lib.hid (Sl.below (R := EK true) EK.framed H0.out hbb)
  replace ca0 := (hbb.cell (p := ⟨w.heap.size, 0, none⟩) la).trans ca0
  replace la : w.heap.size < w16.heap.size := Nat.lt_of_lt_of_le la hsw16
  replace cw0 := (hbb.cell (p := ⟨w3.heap.size, 0, none⟩) lw).trans cw0
  replace lw : w3.heap.size < w16.heap.size := Nat.lt_of_lt_of_le lw hsw16
  replace cx0 := (hbb.cell (p := ⟨w4.heap.size, 0, none⟩) lx).trans cx0
  replace lx : w4.heap.size < w16.heap.size := Nat.lt_of_lt_of_le lx hsw16
  replace cg0 := (hbb.cell (p := ⟨w5.heap.size, 0, none⟩) lg).trans cg0
  replace lg : w5.heap.size < w16.heap.size := Nat.lt_of_lt_of_le lg hsw16
  replace ch0 := (hbb.cell (p := ⟨w14.heap.size, 0, none⟩) lh).trans ch0
  replace lh : w14.heap.size < w16.heap.size := Nat.lt_of_lt_of_le lh hsw16
  have HBw16 : Hid (Below w.heap.size w w16) := Lib.hid (HBw15.out.trans (hbb.mono HBw15.out.size))
  clear hbb HBw15
  clear hb
  go_wp2
  go_ret
  exact ⟨rfl, HBw16.out⟩

end Go.Proofs.Ytbfbjkcmehalhaa
