/- The walk of FnExactMissingNumbers. -/
import Derived.Test.YtnfgdgmmbddmgaaNFe
import Derived.Test.YtnfgdgmmbddmgaaNFm
import Derived.Test.YtnfgdgmmbddmgaaRmis
import Derived.Test.YtnfgdgmmbddmgaaIntS
namespace Go.Proofs.Ytnfgdgmmbddmgaa
open Go.RowKit
set_option linter.unusedVariables false
set_option linter.unusedSimpArgs false

set_option maxHeartbeats 4000000 in
theorem missingNumbers_walk (st : Int) (A : Option Addr) (c : Nat) (xs : List NF) (hst : I64 st) (w : World) (hx : Sl false 2 (EN false) w (fun g => g < w.heap.size) A xs) (hlen : xs.length ≤ 9223372036854775807) (hb : ∀ x ∈ xs, I64 x.1 ∧ x.2.length ≤ 9223372036854775807 ∧ ∀ z ∈ x.2, 0 ≤ z ∧ z ≤ 255) :
    Calls Try.prog 10 #[.agg #[.int .i64 st, .slice A xs.length c]] w fun e w' => e = .returned (.bool true) ∧ Below w.heap.size w w' := by
  have X := Lib.hid hx
  have HZ := Lib.hid (fun x h => (hb x h).2.1)
  have HBY := Lib.hid hb
  clear hx hb
  by_cases hbig : 1048576 < szN xs
  · have hz : Hid (szO (szN xs) 1048576 = -1) := Lib.hid (if_neg (by omega))
    go_enter Try.func10, Try.ntmps10
    go_wp2_with fail
    refine (szROB_any st A c xs 1048576 _ (Sl.below (R := EN false) EN.framed X.out (by repeat (first | (with_reducible exact Below.refl _ _) | (with_reducible refine Below.ext ?_ (by go_size) _ _) | (with_reducible refine Below.alloc ?_ (by go_size) _) | (with_reducible refine Below.setCell ?_ (by go_size) _) | (with_reducible refine Below.drew ?_) | (with_reducible refine Below.drewN_ ?_ _)))) hlen HZ.out (by omega) (by omega)).mono ?_
    rw [hz.out]
    rintro e w' ⟨rfl, hb⟩
    obtain ⟨X', d', rfl⟩ := Below.ext_ hb
    clear hb
    go_wp2
    go_ret
    exact ⟨rfl, (by repeat (first | (with_reducible exact Below.refl _ _) | (with_reducible refine Below.ext ?_ (by go_size) _ _) | (with_reducible refine Below.alloc ?_ (by go_size) _) | (with_reducible refine Below.setCell ?_ (by go_size) _) | (with_reducible refine Below.drew ?_) | (with_reducible refine Below.drewN_ ?_ _)))⟩
  have hz : Hid (szO (szN xs) 1048576 = 1048576 - (szN xs : Int)) := Lib.hid (if_pos (by omega))
  have hz0 : ¬ 1048576 - (szN xs : Int) < 0 := by omega
  have hz1 : xs.length ≤ 1000000000 := by unfold szN at hbig; omega
  have HM : Hid (∀ x ∈ xs, x.2.length ≤ 1000000000000) := Lib.hid (fun x h => by have := sumN_mem h; unfold szN at hbig; omega)
  have HM9 : Hid (∀ x ∈ xs, x.2.length ≤ 1000000000) := Lib.hid (fun x h => by have := sumN_mem h; unfold szN at hbig; omega)
  have HS20 : Hid (szN xs ≤ 1048576) := Lib.hid (by omega)
  have HML : Hid ((missB st xs).length ≤ 1000000000000) := Lib.hid (by have := missB_len st xs; omega)
  clear hbig hst
  go_enter Try.func10, Try.ntmps10
  have HBw : Hid (Below w.heap.size w w) := Lib.hid (Below.refl _ _)
  go_wp2_with fail
  refine (szROB_any st A c xs 1048576 _ (Sl.below (R := EN false) EN.framed X.out (by repeat (first | (with_reducible exact Below.refl _ _) | (with_reducible refine Below.ext ?_ (by go_size) _ _) | (with_reducible refine Below.alloc ?_ (by go_size) _) | (with_reducible refine Below.setCell ?_ (by go_size) _) | (with_reducible refine Below.drew ?_) | (with_reducible refine Below.drewN_ ?_ _)))) hlen HZ.out (by omega) (by omega)).mono ?_
  rw [hz.out]
  rintro e w1 ⟨rfl, hb⟩
  have hbb : Below w.heap.size w w1 := by
    refine Below.trans ?_ (Below.mono hb ?_)
    · exact (by repeat (first | (with_reducible exact Below.refl _ _) | (with_reducible refine Below.ext ?_ (by go_size) _ _) | (with_reducible refine Below.alloc ?_ (by go_size) _) | (with_reducible refine Below.setCell ?_ (by go_size) _) | (with_reducible refine Below.drew ?_) | (with_reducible refine Below.drewN_ ?_ _)))
    · simp
  have hsw1 := hbb.size
  replace X := Lib.hid (Sl.below (R := EN false) EN.framed X.out hbb)
  have ca0 : w1.cell? ⟨w.heap.size, 0, none⟩ = some (.int .i64 st) := (hb.cell (p := ⟨w.heap.size, 0, none⟩) (by simp; try omega)).trans (by simp [go_sem])
  have ca1 : w1.cell? ⟨w.heap.size, 1, none⟩ = some (.slice A xs.length c) := (hb.cell (p := ⟨w.heap.size, 1, none⟩) (by simp; try omega)).trans (by simp [go_sem])
  have la : w.heap.size < w1.heap.size := by have := hb.size; simp at this; omega
  have pa := la
  have HBw1 : Hid (Below w.heap.size w w1) := Lib.hid (HBw.out.trans (hbb.mono HBw.out.size))
  clear hbb HBw
  clear hb
  go_wp2_with fail
  refine (toROB_any st A c xs _ X.out hz1 HM.out).mono ?_
  rintro e w2 ⟨b1, rfl, hb, hb0, hb1, y⟩
  have hbb := hb
  have hsw2 := hbb.size
  replace X := Lib.hid (Sl.below (R := EN false) EN.framed X.out hbb)
  replace ca0 := (hbb.cell (p := ⟨w.heap.size, 0, none⟩) la).trans ca0
  replace ca1 := (hbb.cell (p := ⟨w.heap.size, 1, none⟩) la).trans ca1
  replace la : w.heap.size < w2.heap.size := Nat.lt_of_lt_of_le la hsw2
  have HBw2 : Hid (Below w.heap.size w w2) := Lib.hid (HBw1.out.trans (hbb.mono HBw1.out.size))
  clear hbb HBw1
  clear hb
  (try simp only [World.size_alloc, World.size_ext] at y hb0)
  have Y := Lib.hid y
  clear y
  clear hb0 hb1
  go_wp2_with fail
  refine (specMis_any _ _ _ xs _ (SlN.read Y.out) hz1 HM9.out).mono ?_
  rintro e w3 ⟨gw, cw, rfl, hb, ow⟩
  have hbb := hb
  have hsw3 := hbb.size
  replace X := Lib.hid (Sl.below (R := EN false) EN.framed X.out hbb)
  replace Y := Lib.hid (Sl.below (R := EN true) EN.framed Y.out hbb)
  replace ca0 := (hbb.cell (p := ⟨w.heap.size, 0, none⟩) la).trans ca0
  replace ca1 := (hbb.cell (p := ⟨w.heap.size, 1, none⟩) la).trans ca1
  replace la : w.heap.size < w3.heap.size := Nat.lt_of_lt_of_le la hsw3
  have HBw3 : Hid (Below w.heap.size w w3) := Lib.hid (HBw2.out.trans (hbb.mono HBw2.out.size))
  clear hbb HBw2
  clear hb
  clear Y
  have W0 := Lib.hid ow.rwF.rw
  have hgw := ow.lt
  clear ow
  go_wp2_with fail
  refine (toROB_any st A c xs _ X.out hz1 HM.out).mono ?_
  rintro e w4 ⟨b2, rfl, hb, hb0, hb1, y⟩
  have hbb := hb
  have hsw4 := hbb.size
  replace X := Lib.hid (Sl.below (R := EN false) EN.framed X.out hbb)
  replace W0 := Lib.hid (W0.out.below hbb)
  replace ca0 := (hbb.cell (p := ⟨w.heap.size, 0, none⟩) la).trans ca0
  replace ca1 := (hbb.cell (p := ⟨w.heap.size, 1, none⟩) la).trans ca1
  replace la : w.heap.size < w4.heap.size := Nat.lt_of_lt_of_le la hsw4
  have HBw4 : Hid (Below w.heap.size w w4) := Lib.hid (HBw3.out.trans (hbb.mono HBw3.out.size))
  clear hbb HBw3
  clear hb
  (try simp only [World.size_alloc, World.size_ext] at y hb0)
  have Y := Lib.hid y
  clear y
  clear hb0 hb1
  go_wp2_with fail
  refine (implMis_any _ _ _ xs _ (SlN.read (Sl.below (R := EN true) EN.framed Y.out (by repeat (first | (with_reducible exact Below.refl _ _) | (with_reducible refine Below.ext ?_ (by go_size) _ _) | (with_reducible refine Below.alloc ?_ (by go_size) _) | (with_reducible refine Below.setCell ?_ (by go_size) _) | (with_reducible refine Below.drew ?_) | (with_reducible refine Below.drewN_ ?_ _))))) hz1 HM9.out).mono ?_
  rintro e w5 ⟨g0, c0, rfl, hb, og⟩
  have hbb : Below w4.heap.size w4 w5 := by
    refine Below.trans ?_ (Below.mono hb ?_)
    · exact (by repeat (first | (with_reducible exact Below.refl _ _) | (with_reducible refine Below.ext ?_ (by go_size) _ _) | (with_reducible refine Below.alloc ?_ (by go_size) _) | (with_reducible refine Below.setCell ?_ (by go_size) _) | (with_reducible refine Below.drew ?_) | (with_reducible refine Below.drewN_ ?_ _)))
    · simp
  have hsw5 := hbb.size
  replace X := Lib.hid (Sl.below (R := EN false) EN.framed X.out hbb)
  replace W0 := Lib.hid (W0.out.below hbb)
  replace Y := Lib.hid (Sl.below (R := EN true) EN.framed Y.out hbb)
  replace ca0 := (hbb.cell (p := ⟨w.heap.size, 0, none⟩) la).trans ca0
  replace ca1 := (hbb.cell (p := ⟨w.heap.size, 1, none⟩) la).trans ca1
  replace la : w.heap.size < w5.heap.size := Nat.lt_of_lt_of_le la hsw5
  have cx0 : w5.cell? ⟨w4.heap.size, 0, none⟩ = some (.int .i64 st) := (hb.cell (p := ⟨w4.heap.size, 0, none⟩) (by simp; try omega)).trans (by simp [go_sem])
  have cx1 : w5.cell? ⟨w4.heap.size, 1, none⟩ = some (.slice (some ⟨b2, 0, none⟩) xs.length xs.length) := (hb.cell (p := ⟨w4.heap.size, 1, none⟩) (by simp; try omega)).trans (by simp [go_sem])
  have lx : w4.heap.size < w5.heap.size := by have := hb.size; simp at this; omega
  have px := lx
  have HBw5 : Hid (Below w.heap.size w w5) := Lib.hid (HBw4.out.trans (hbb.mono HBw4.out.size))
  clear hbb HBw4
  clear hb
  have G0 := Lib.hid og.rwF.rw
  have hg0 := og.lt
  have hg0b := og.ge
  (try simp only [World.size_alloc, World.size_ext] at hg0b)
  clear og
  go_wp2_with fail
  refine (eqIntS_any _ _ _ _ (missB st xs) (missB st xs) _ G0.out W0.out HML.out HML.out).mono ?_
  rintro e w6 ⟨rfl, hb⟩
  have hbb := hb
  have hsw6 := hbb.size
  replace X := Lib.hid (Sl.below (R := EN false) EN.framed X.out hbb)
  replace W0 := Lib.hid (W0.out.below hbb)
  replace Y := Lib.hid (Sl.below (R := EN true) EN.framed Y.out hbb)
  replace G0 := Lib.hid (G0.out.below hbb)
  replace ca0 := (hbb.cell (p := ⟨w.heap.size, 0, none⟩) la).trans ca0
  replace ca1 := (hbb.cell (p := ⟨w.heap.size, 1, none⟩) la).trans ca1
  replace la : w.heap.size < w6.heap.size := Nat.lt_of_lt_of_le la hsw6
  replace cx0 := (hbb.cell (p := ⟨w4.heap.size, 0, none⟩) lx).trans cx0
  replace cx1 := (hbb.cell (p := ⟨w4.heap.size, 1, none⟩) lx).trans cx1
  replace lx : w4.heap.size < w6.heap.size := Nat.lt_of_lt_of_le lx hsw6
  have HBw6 : Hid (Below w.heap.size w w6) := Lib.hid (HBw5.out.trans (hbb.mono HBw5.out.size))
  clear hbb HBw5
  clear hb
  go_wp2
  refine wp_region_held_drew (S := (fun w' => w'.cell? ⟨w4.heap.size, 0, none⟩ = some (.int .i64 st) ∧ w'.cell? ⟨w4.heap.size, 1, none⟩ = some (.slice (some ⟨b2, 0, none⟩) xs.length xs.length) ∧ w'.cell? ⟨w.heap.size, 0, none⟩ = some (.int .i64 st) ∧ w'.cell? ⟨w.heap.size, 1, none⟩ = some (.slice A xs.length c))) (by kernel_rfl) ?_ (fun hHeld => ?_)
  · first | exact ⟨cx0, cx1, ca0, ca1⟩ | (simp [go_sem, *]; done)
  refine wpAnyH_takeW (i := 0) (d := some 27) (v := ?_) (by simp only [List.getElem?_toArray, List.getElem?_cons_succ, List.getElem?_cons_zero]; rfl) (by rfl) (by kernel_rfl) (by kernel_rfl) (by kernel_rfl) (by intro _ _ _ h; exact h) (by rfl) ?_ (by assumption) ?_
  rotate_left 1
  · (intro w hSw; (try dsimp only at hSw); go_simp; try (with_reducible rfl))
  (try simp only [Act.put, List.setIfInBounds_toArray, List.set_cons_zero, List.set_cons_succ])
  refine wpAnyH_takeW (i := 1) (d := some 28) (v := ?_) (by simp only [List.getElem?_toArray, List.getElem?_cons_succ, List.getElem?_cons_zero]; rfl) (by rfl) (by kernel_rfl) (by kernel_rfl) (by kernel_rfl) (by intro _ _ _ h; exact h) (by rfl) ?_ (by assumption) ?_
  rotate_left 1
  · (intro w hSw; (try dsimp only at hSw); go_simp; try (with_reducible rfl))
  (try simp only [Act.put, List.setIfInBounds_toArray, List.set_cons_zero, List.set_cons_succ])
  refine wpAnyH_ready (rs := [2]) (by kernel_rfl) (by simp) ?_
  refine AllReadyH.cons (i := 2) (by simp only [List.getElem?_toArray, List.getElem?_cons_succ, List.getElem?_cons_zero]; rfl) (fun K hK => ?_) AllReadyH.nil
  go_simp
  refine (toROB_any st A c xs _ (Sl.below (R := EN false) EN.framed X.out (by repeat (first | (with_reducible exact Below.refl _ _) | (with_reducible refine Below.ext ?_ (by go_size) _ _) | (with_reducible refine Below.alloc ?_ (by go_size) _) | (with_reducible refine Below.setCell ?_ (by go_size) _) | (with_reducible refine Below.drew ?_) | (with_reducible refine Below.drewN_ ?_ _)))) hz1 HM.out).mono ?_
  rintro e w7 ⟨b3, rfl, hb, hb0, hb1, y⟩
  have hbb : Below w6.heap.size w6 w7 := by
    refine Below.trans ?_ (Below.mono hb ?_)
    · exact (by repeat (first | (with_reducible exact Below.refl _ _) | (with_reducible refine Below.ext ?_ (by go_size) _ _) | (with_reducible refine Below.alloc ?_ (by go_size) _) | (with_reducible refine Below.setCell ?_ (by go_size) _) | (with_reducible refine Below.drew ?_) | (with_reducible refine Below.drewN_ ?_ _)))
    · simp
  have hsw7 := hbb.size
  replace X := Lib.hid (Sl.below (R := EN false) EN.framed X.out hbb)
  replace W0 := Lib.hid (W0.out.below hbb)
  replace Y := Lib.hid (Sl.below (R := EN true) EN.framed Y.out hbb)
  replace G0 := Lib.hid (G0.out.below hbb)
  replace ca0 := (hbb.cell (p := ⟨w.heap.size, 0, none⟩) la).trans ca0
  replace ca1 := (hbb.cell (p := ⟨w.heap.size, 1, none⟩) la).trans ca1
  replace la : w.heap.size < w7.heap.size := Nat.lt_of_lt_of_le la hsw7
  replace cx0 := (hbb.cell (p := ⟨w4.heap.size, 0, none⟩) lx).trans cx0
  replace cx1 := (hbb.cell (p := ⟨w4.heap.size, 1, none⟩) lx).trans cx1
  replace lx : w4.heap.size < w7.heap.size := Nat.lt_of_lt_of_le lx hsw7
  have HBw7 : Hid (Below w.heap.size w w7) := Lib.hid (HBw6.out.trans (hbb.mono HBw6.out.size))
  clear hbb HBw6
  clear hb
  have Z := Lib.hid y
  clear y
  clear hb0 hb1
  go_wp2_with fail
  refine hK.out _ _ ?_ (fun hHeld => ?_)
  · ((try dsimp only); first | exact ⟨cx0, cx1, ca0, ca1⟩ | (simp [go_sem, *]; done))
  clear hK K
  (try simp only [Act.put, List.setIfInBounds_toArray, List.set_cons_zero, List.set_cons_succ])
  refine wpAnyH_ready (rs := [3]) (by kernel_rfl) (by simp) ?_
  refine AllReadyH.cons (i := 3) (by simp only [List.getElem?_toArray, List.getElem?_cons_succ, List.getElem?_cons_zero]; rfl) (fun K hK => ?_) AllReadyH.nil
  go_simp
  refine (eqROB_any (b := true) (by simp) _ _ _ _ _ (SlN.read Y.out) (SlN.read Z.out) (by omega) (by omega) HM.out HM.out).mono ?_
  rintro e w8 ⟨rfl, hb⟩
  have hbb := hb
  have hsw8 := hbb.size
  replace X := Lib.hid (Sl.below (R := EN false) EN.framed X.out hbb)
  replace W0 := Lib.hid (W0.out.below hbb)
  replace Y := Lib.hid (Sl.below (R := EN true) EN.framed Y.out hbb)
  replace G0 := Lib.hid (G0.out.below hbb)
  replace Z := Lib.hid (Sl.below (R := EN true) EN.framed Z.out hbb)
  replace ca0 := (hbb.cell (p := ⟨w.heap.size, 0, none⟩) la).trans ca0
  replace ca1 := (hbb.cell (p := ⟨w.heap.size, 1, none⟩) la).trans ca1
  replace la : w.heap.size < w8.heap.size := Nat.lt_of_lt_of_le la hsw8
  replace cx0 := (hbb.cell (p := ⟨w4.heap.size, 0, none⟩) lx).trans cx0
  replace cx1 := (hbb.cell (p := ⟨w4.heap.size, 1, none⟩) lx).trans cx1
  replace lx : w4.heap.size < w8.heap.size := Nat.lt_of_lt_of_le lx hsw8
  have HBw8 : Hid (Below w.heap.size w w8) := Lib.hid (HBw7.out.trans (hbb.mono HBw7.out.size))
  clear hbb HBw7
  clear hb
  go_wp2_with fail
  refine hK.out _ _ ?_ (fun hHeld => ?_)
  · ((try dsimp only); first | exact ⟨cx0, cx1, ca0, ca1⟩ | (simp [go_sem, *]; done))
  clear hK K
  (try simp only [Act.put, List.setIfInBounds_toArray, List.set_cons_zero, List.set_cons_succ])
  refine wpAnyH_takeW (i := 4) (d := some 31) (v := ?_) (by simp only [List.getElem?_toArray, List.getElem?_cons_succ, List.getElem?_cons_zero]; rfl) (by rfl) (by kernel_rfl) (by kernel_rfl) (by kernel_rfl) (by intro _ _ _ h; exact h) (by rfl) ?_ (by assumption) ?_
  rotate_left 1
  · (intro w hSw; (try dsimp only at hSw); go_simp; try (with_reducible rfl))
  (try simp only [Act.put, List.setIfInBounds_toArray, List.set_cons_zero, List.set_cons_succ])
  refine wpAnyH_done (by kernel_rfl) ?_ _
  clear Z
  go_wp2_with fail
  refine (markROB_any _ _ _ xs 1 _ Y.out (fun b h => by omega) hz1 (by have := HS20.out; omega) (by omega) (by omega)).mono ?_
  rintro e w9 ⟨rfl, hc, _⟩
  have hsw9 := hc.size
  replace X := Lib.hid (Sl.frame (R := EN false) EN.framed X.out hc (fun b h1 h2 => by omega))
  replace W0 := Lib.hid (W0.out.frame hc (fun b h1 h2 => by omega))
  clear Y
  replace G0 := Lib.hid (G0.out.frame hc (fun b h1 h2 => by omega))
  replace ca0 := (hc.cell (p := ⟨w.heap.size, 0, none⟩) la (by first | omega | (simp; done) | (simp; omega))).trans ca0
  replace ca1 := (hc.cell (p := ⟨w.heap.size, 1, none⟩) la (by first | omega | (simp; done) | (simp; omega))).trans ca1
  replace la : w.heap.size < w9.heap.size := Nat.lt_of_lt_of_le la hsw9
  replace cx0 := (hc.cell (p := ⟨w4.heap.size, 0, none⟩) lx (by first | omega | (simp; done) | (simp; omega))).trans cx0
  replace cx1 := (hc.cell (p := ⟨w4.heap.size, 1, none⟩) lx (by first | omega | (simp; done) | (simp; omega))).trans cx1
  replace lx : w4.heap.size < w9.heap.size := Nat.lt_of_lt_of_le lx hsw9
  have HBw9 : Hid (Below w.heap.size w w9) := Lib.hid (HBw8.out.trans (hc.below HBw8.out.size (fun b h => by omega)))
  clear hc HBw8
  have hk0 : ¬ (1 : Int) + (szN xs : Int) < 0 := by omega
  go_wp2_with fail
  refine (eqIntS_any _ _ _ _ (missB st xs) (missB st xs) _ G0.out W0.out HML.out HML.out).mono ?_
  rintro e w10 ⟨rfl, hb⟩
  have hbb := hb
  have hsw10 := hbb.size
  replace X := Lib.hid (Sl.below (R := EN false) EN.framed X.out hbb)
  replace W0 := Lib.hid (W0.out.below hbb)
  replace G0 := Lib.hid (G0.out.below hbb)
  replace ca0 := (hbb.cell (p := ⟨w.heap.size, 0, none⟩) la).trans ca0
  replace ca1 := (hbb.cell (p := ⟨w.heap.size, 1, none⟩) la).trans ca1
  replace la : w.heap.size < w10.heap.size := Nat.lt_of_lt_of_le la hsw10
  replace cx0 := (hbb.cell (p := ⟨w4.heap.size, 0, none⟩) lx).trans cx0
  replace cx1 := (hbb.cell (p := ⟨w4.heap.size, 1, none⟩) lx).trans cx1
  replace lx : w4.heap.size < w10.heap.size := Nat.lt_of_lt_of_le lx hsw10
  have HBw10 : Hid (Below w.heap.size w w10) := Lib.hid (HBw9.out.trans (hbb.mono HBw9.out.size))
  clear hbb HBw9
  clear hb
  go_wp2_with fail
  refine (markIntS_any _ _ (missB st xs) 1 _ G0.out HML.out (by omega) (by omega)).mono ?_
  rintro e w11 ⟨rfl, hc, gm⟩
  have hsw11 := hc.size
  replace X := Lib.hid (Sl.frame (R := EN false) EN.framed X.out hc (fun b h1 h2 => by omega))
  replace W0 := Lib.hid (W0.out.frame hc (fun b h1 h2 => by omega))
  clear G0
  replace ca0 := (hc.cell (p := ⟨w.heap.size, 0, none⟩) la (by first | omega | (simp; done) | (simp; omega))).trans ca0
  replace ca1 := (hc.cell (p := ⟨w.heap.size, 1, none⟩) la (by first | omega | (simp; done) | (simp; omega))).trans ca1
  replace la : w.heap.size < w11.heap.size := Nat.lt_of_lt_of_le la hsw11
  replace cx0 := (hc.cell (p := ⟨w4.heap.size, 0, none⟩) lx (by first | omega | (simp; done) | (simp; omega))).trans cx0
  replace cx1 := (hc.cell (p := ⟨w4.heap.size, 1, none⟩) lx (by first | omega | (simp; done) | (simp; omega))).trans cx1
  replace lx : w4.heap.size < w11.heap.size := Nat.lt_of_lt_of_le lx hsw11
  have HBw11 : Hid (Below w.heap.size w w11) := Lib.hid (HBw10.out.trans (hc.below HBw10.out.size (fun b h => by omega)))
  clear hc HBw10
  have GM := Lib.hid gm
  clear gm
  have hk1 : ¬ (1 : Int) + ((missB st xs).length : Int) < 0 := by omega
  go_wp2_with fail
  refine (heldIntS_any _ (missB st xs).length _ 1 _ GM.out HML.out (by omega) (by omega)).mono ?_
  rintro e w12 ⟨rfl, hb⟩
  have hbb := hb
  have hsw12 := hbb.size
  replace X := Lib.hid (Sl.below (R := EN false) EN.framed X.out hbb)
  replace W0 := Lib.hid (W0.out.below hbb)
  replace GM := Lib.hid (GM.out.below hbb)
  replace ca0 := (hbb.cell (p := ⟨w.heap.size, 0, none⟩) la).trans ca0
  replace ca1 := (hbb.cell (p := ⟨w.heap.size, 1, none⟩) la).trans ca1
  replace la : w.heap.size < w12.heap.size := Nat.lt_of_lt_of_le la hsw12
  replace cx0 := (hbb.cell (p := ⟨w4.heap.size, 0, none⟩) lx).trans cx0
  replace cx1 := (hbb.cell (p := ⟨w4.heap.size, 1, none⟩) lx).trans cx1
  replace lx : w4.heap.size < w12.heap.size := Nat.lt_of_lt_of_le lx hsw12
  have HBw12 : Hid (Below w.heap.size w w12) := Lib.hid (HBw11.out.trans (hbb.mono HBw11.out.size))
  clear hbb HBw11
  clear hb
  go_wp2_with fail
  refine (toROB_any st A c xs _ X.out hz1 HM.out).mono ?_
  rintro e w13 ⟨b4, rfl, hb, hb0, hb1, y⟩
  have hbb := hb
  have hsw13 := hbb.size
  replace X := Lib.hid (Sl.below (R := EN false) EN.framed X.out hbb)
  replace W0 := Lib.hid (W0.out.below hbb)
  replace GM := Lib.hid (GM.out.below hbb)
  replace ca0 := (hbb.cell (p := ⟨w.heap.size, 0, none⟩) la).trans ca0
  replace ca1 := (hbb.cell (p := ⟨w.heap.size, 1, none⟩) la).trans ca1
  replace la : w.heap.size < w13.heap.size := Nat.lt_of_lt_of_le la hsw13
  replace cx0 := (hbb.cell (p := ⟨w4.heap.size, 0, none⟩) lx).trans cx0
  replace cx1 := (hbb.cell (p := ⟨w4.heap.size, 1, none⟩) lx).trans cx1
  replace lx : w4.heap.size < w13.heap.size := Nat.lt_of_lt_of_le lx hsw13
  have HBw13 : Hid (Below w.heap.size w w13) := Lib.hid (HBw12.out.trans (hbb.mono HBw12.out.size))
  clear hbb HBw12
  clear hb
  (try simp only [World.size_alloc, World.size_ext] at y hb0)
  have Z := Lib.hid y
  clear y
  clear hb0 hb1
  go_wp2_with fail
  refine (implMis_any _ _ _ xs _ (SlN.read Z.out) hz1 HM9.out).mono ?_
  rintro e w14 ⟨g3, c3, rfl, hb, og⟩
  have hbb := hb
  have hsw14 := hbb.size
  replace X := Lib.hid (Sl.below (R := EN false) EN.framed X.out hbb)
  replace W0 := Lib.hid (W0.out.below hbb)
  replace GM := Lib.hid (GM.out.below hbb)
  replace Z := Lib.hid (Sl.below (R := EN true) EN.framed Z.out hbb)
  replace ca0 := (hbb.cell (p := ⟨w.heap.size, 0, none⟩) la).trans ca0
  replace ca1 := (hbb.cell (p := ⟨w.heap.size, 1, none⟩) la).trans ca1
  replace la : w.heap.size < w14.heap.size := Nat.lt_of_lt_of_le la hsw14
  replace cx0 := (hbb.cell (p := ⟨w4.heap.size, 0, none⟩) lx).trans cx0
  replace cx1 := (hbb.cell (p := ⟨w4.heap.size, 1, none⟩) lx).trans cx1
  replace lx : w4.heap.size < w14.heap.size := Nat.lt_of_lt_of_le lx hsw14
  have HBw14 : Hid (Below w.heap.size w w14) := Lib.hid (HBw13.out.trans (hbb.mono HBw13.out.size))
  clear hbb HBw13
  clear hb
  clear Z
  have G3 := Lib.hid og.rwF.rw
  clear og
  go_wp2_with fail
  refine (eqIntS_any _ _ _ _ (missB st xs) (missB st xs) _ G3.out W0.out HML.out HML.out).mono ?_
  rintro e w15 ⟨rfl, hb⟩
  have hbb := hb
  have hsw15 := hbb.size
  replace X := Lib.hid (Sl.below (R := EN false) EN.framed X.out hbb)
  replace W0 := Lib.hid (W0.out.below hbb)
  replace GM := Lib.hid (GM.out.below hbb)
  replace G3 := Lib.hid (G3.out.below hbb)
  replace ca0 := (hbb.cell (p := ⟨w.heap.size, 0, none⟩) la).trans ca0
  replace ca1 := (hbb.cell (p := ⟨w.heap.size, 1, none⟩) la).trans ca1
  replace la : w.heap.size < w15.heap.size := Nat.lt_of_lt_of_le la hsw15
  replace cx0 := (hbb.cell (p := ⟨w4.heap.size, 0, none⟩) lx).trans cx0
  replace cx1 := (hbb.cell (p := ⟨w4.heap.size, 1, none⟩) lx).trans cx1
  replace lx : w4.heap.size < w15.heap.size := Nat.lt_of_lt_of_le lx hsw15
  have HBw15 : Hid (Below w.heap.size w w15) := Lib.hid (HBw14.out.trans (hbb.mono HBw14.out.size))
  clear hbb HBw14
  clear hb
  go_wp2_with fail
  refine (heldIntS_any _ (missB st xs).length _ 1 _ GM.out HML.out (by omega) (by omega)).mono ?_
  rintro e w16 ⟨rfl, hb⟩
  have hbb := hb
  have hsw16 := hbb.size
  replace X := Lib.hid (Sl.below (R := EN false) EN.framed X.out hbb)
  replace W0 := Lib.hid (W0.out.below hbb)
  replace GM := Lib.hid (GM.out.below hbb)
  replace G3 := Lib.hid (G3.out.below hbb)
  replace ca0 := (hbb.cell (p := ⟨w.heap.size, 0, none⟩) la).trans ca0
  replace ca1 := (hbb.cell (p := ⟨w.heap.size, 1, none⟩) la).trans ca1
  replace la : w.heap.size < w16.heap.size := Nat.lt_of_lt_of_le la hsw16
  replace cx0 := (hbb.cell (p := ⟨w4.heap.size, 0, none⟩) lx).trans cx0
  replace cx1 := (hbb.cell (p := ⟨w4.heap.size, 1, none⟩) lx).trans cx1
  replace lx : w4.heap.size < w16.heap.size := Nat.lt_of_lt_of_le lx hsw16
  have HBw16 : Hid (Below w.heap.size w w16) := Lib.hid (HBw15.out.trans (hbb.mono HBw15.out.size))
  clear hbb HBw15
  clear hb
  go_wp2
  go_ret
  exact ⟨rfl, HBw16.out⟩

end Go.Proofs.Ytnfgdgmmbddmgaa
