/- The walk of FnExactNewReorderBuffer. -/
import Derived.Test.YtnfgdgmmbddmgaaNFe
import Derived.Test.YtnfgdgmmbddmgaaNFm
import Derived.Test.YtnfgdgmmbddmgaaSeqA
namespace Go.Proofs.Ytnfgdgmmbddmgaa
open Go.RowKit
set_option linter.unusedVariables false
set_option linter.unusedSimpArgs false

def soz (n : Int) : Int := if inR n 0 4095 then n else 0
theorem seqOrZero_any (n : Int) (w : World) : Calls Try.prog 70 #[.int .i64 n] w fun e w' => e = .returned (.int .i64 (soz n)) ∧ w = w' := by
  cases h : inR n 0 4095
  all_goals
    have hE : Hid (soz n = if inR n 0 4095 then n else 0) := Lib.hid rfl
    go_enter Try.func70, Try.ntmps70
    go_wp2_with (first | (go_at_call 60; refine (inRange_any _ _ _ _).mono ?_; rintro e w' ⟨rfl, rfl⟩))
    go_ret
    exact ⟨by rw [hE.out, h]; rfl, rfl⟩
theorem specNewR_any (n : Int) (w : World) : Calls Try.prog 27 #[.int .i64 n] w fun e w' => e = .returned (.agg #[.int .i64 (soz n), .slice none 0 0]) ∧ Below w.heap.size w w' := by
  cases h : inR n 0 4095
  all_goals
    have hE : Hid (soz n = if inR n 0 4095 then n else 0) := Lib.hid rfl
    go_enter Try.func27, Try.ntmps27
    go_wp2_with (first | (go_at_call 54; refine (l1In_any _ _ _ _).mono ?_; rintro e w' ⟨rfl, rfl⟩))
    go_returns
    exact ⟨by rw [hE.out, h]; try rfl, (by repeat (first | (with_reducible exact Below.refl _ _) | (with_reducible refine Below.ext ?_ (by go_size) _ _) | (with_reducible refine Below.alloc ?_ (by go_size) _) | (with_reducible refine Below.setCell ?_ (by go_size) _) | (with_reducible refine Below.drew ?_) | (with_reducible refine Below.drewN_ ?_ _)))⟩
theorem implNewR_any (n : Int) (w : World) : Calls Try.prog 28 #[.int .i64 n] w fun e w' => ∃ b, e = .returned (.agg #[.int .i64 (soz n), .slice (some ⟨b, 0, none⟩) 0 0]) ∧ Below w.heap.size w w' := by
  go_enter Try.func28, Try.ntmps28
  go_wp2_with (go_at_call 70; refine (seqOrZero_any _ _).mono ?_; rintro e w' ⟨rfl, rfl⟩)
  go_returns
  exact ⟨_, rfl, (by repeat (first | (with_reducible exact Below.refl _ _) | (with_reducible refine Below.ext ?_ (by go_size) _ _) | (with_reducible refine Below.alloc ?_ (by go_size) _) | (with_reducible refine Below.setCell ?_ (by go_size) _) | (with_reducible refine Below.drew ?_) | (with_reducible refine Below.drewN_ ?_ _)))⟩

set_option maxHeartbeats 4000000 in
theorem newReorderBuffer_walk (n : Int) (hn : I64 n) (w : World) :
    Calls Try.prog 5 #[.int .i64 n] w fun e w' => e = .returned (.bool true) ∧ Below w.heap.size w w' := by
  have hz : szN ([] : List NF) = 0 := rfl
  clear hn
  go_enter Try.func5, Try.ntmps5
  have HBw : Hid (Below w.heap.size w w) := Lib.hid (Below.refl _ _)
  go_wp2_with fail
  refine (specNewR_any n _).mono ?_
  rintro e w1 ⟨rfl, hb⟩
  have hbb := hb
  have hsw1 := hbb.size
  have HBw1 : Hid (Below w.heap.size w w1) := Lib.hid (HBw.out.trans (hbb.mono HBw.out.size))
  clear hbb HBw
  clear hb
  go_wp2_with fail
  refine (implNewR_any n _).mono ?_
  rintro e w2 ⟨b1, rfl, hb⟩
  have hbb : Below w1.heap.size w1 w2 := by
    refine Below.trans ?_ (Below.mono hb ?_)
    · exact (by repeat (first | (with_reducible exact Below.refl _ _) | (with_reducible refine Below.ext ?_ (by go_size) _ _) | (with_reducible refine Below.alloc ?_ (by go_size) _) | (with_reducible refine Below.setCell ?_ (by go_size) _) | (with_reducible refine Below.drew ?_) | (with_reducible refine Below.drewN_ ?_ _)))
    · simp
  have hsw2 := hbb.size
  have ca0 : w2.cell? ⟨w1.heap.size, 0, none⟩ = some (.int .i64 (soz n)) := (hb.cell (p := ⟨w1.heap.size, 0, none⟩) (by simp; try omega)).trans (by simp [go_sem])
  have ca1 : w2.cell? ⟨w1.heap.size, 1, none⟩ = some (.slice none 0 0) := (hb.cell (p := ⟨w1.heap.size, 1, none⟩) (by simp; try omega)).trans (by simp [go_sem])
  have la : w1.heap.size < w2.heap.size := by have := hb.size; simp at this; omega
  have HBw2 : Hid (Below w.heap.size w w2) := Lib.hid (HBw1.out.trans (hbb.mono HBw1.out.size))
  clear hbb HBw1
  clear hb
  go_wp2_with fail
  refine (eqROB_any (xs := []) (ys := []) (b := true) (by simp) _ _ _ _ _ (Sl.nil (T := fun _ => False)) (Sl.nil (T := fun _ => False)) (by simp) (by simp) (by simp) (by simp)).mono ?_
  rintro e w3 ⟨rfl, hb⟩
  have hbb : Below w2.heap.size w2 w3 := by
    refine Below.trans ?_ (Below.mono hb ?_)
    · exact (by repeat (first | (with_reducible exact Below.refl _ _) | (with_reducible refine Below.ext ?_ (by go_size) _ _) | (with_reducible refine Below.alloc ?_ (by go_size) _) | (with_reducible refine Below.setCell ?_ (by go_size) _) | (with_reducible refine Below.drew ?_) | (with_reducible refine Below.drewN_ ?_ _)))
    · simp
  have hsw3 := hbb.size
  replace ca0 := (hbb.cell (p := ⟨w1.heap.size, 0, none⟩) la).trans ca0
  replace ca1 := (hbb.cell (p := ⟨w1.heap.size, 1, none⟩) la).trans ca1
  replace la : w1.heap.size < w3.heap.size := Nat.lt_of_lt_of_le la hsw3
  have cb0 : w3.cell? ⟨w2.heap.size, 0, none⟩ = some (.int .i64 (soz n)) := (hb.cell (p := ⟨w2.heap.size, 0, none⟩) (by simp; try omega)).trans (by simp [go_sem])
  have cb1 : w3.cell? ⟨w2.heap.size, 1, none⟩ = some (.slice (some ⟨b1, 0, none⟩) 0 0) := (hb.cell (p := ⟨w2.heap.size, 1, none⟩) (by simp; try omega)).trans (by simp [go_sem])
  have lb : w2.heap.size < w3.heap.size := by have := hb.size; simp at this; omega
  have HBw3 : Hid (Below w.heap.size w w3) := Lib.hid (HBw2.out.trans (hbb.mono HBw2.out.size))
  clear hbb HBw2
  clear hb
  go_wp2_with fail
  refine (markROB_any (T := fun _ => False) _ _ _ ([] : List NF) 1 _ Sl.nil (fun _ h => h.elim) (by simp) (by simp [szN, sumN]) (by omega) (by omega)).mono ?_
  rintro e w4 ⟨rfl, hc, _⟩
  have hsw4 := hc.size
  replace ca0 := (hc.cell (p := ⟨w1.heap.size, 0, none⟩) la (by first | omega | (simp; done) | (simp; omega))).trans ca0
  replace ca1 := (hc.cell (p := ⟨w1.heap.size, 1, none⟩) la (by first | omega | (simp; done) | (simp; omega))).trans ca1
  replace la : w1.heap.size < w4.heap.size := Nat.lt_of_lt_of_le la hsw4
  replace cb0 := (hc.cell (p := ⟨w2.heap.size, 0, none⟩) lb (by first | omega | (simp; done) | (simp; omega))).trans cb0
  replace cb1 := (hc.cell (p := ⟨w2.heap.size, 1, none⟩) lb (by first | omega | (simp; done) | (simp; omega))).trans cb1
  replace lb : w2.heap.size < w4.heap.size := Nat.lt_of_lt_of_le lb hsw4
  have HBw4 : Hid (Below w.heap.size w w4) := Lib.hid (HBw3.out.trans (hc.below HBw3.out.size (fun b h => h.elim)))
  clear hc HBw3
  go_wp2_with fail
  refine (heldROB_any (T := fun _ => False) _ _ 0 _ ([] : List NF) 1 _ rfl Sl.nil (by simp) (by simp [szN, sumN]) (by omega) (by omega)).mono ?_
  rintro e w5 ⟨rfl, hb⟩
  have hbb := hb
  have hsw5 := hbb.size
  replace ca0 := (hbb.cell (p := ⟨w1.heap.size, 0, none⟩) la).trans ca0
  replace ca1 := (hbb.cell (p := ⟨w1.heap.size, 1, none⟩) la).trans ca1
  replace la : w1.heap.size < w5.heap.size := Nat.lt_of_lt_of_le la hsw5
  replace cb0 := (hbb.cell (p := ⟨w2.heap.size, 0, none⟩) lb).trans cb0
  replace cb1 := (hbb.cell (p := ⟨w2.heap.size, 1, none⟩) lb).trans cb1
  replace lb : w2.heap.size < w5.heap.size := Nat.lt_of_lt_of_le lb hsw5
  have HBw5 : Hid (Below w.heap.size w w5) := Lib.hid (HBw4.out.trans (hbb.mono HBw4.out.size))
  clear hbb HBw4
  clear hb
  go_wp2_with fail
  refine (implNewR_any n _).mono ?_
  rintro e w6 ⟨b2, rfl, hb⟩
  have hbb := hb
  have hsw6 := hbb.size
  replace ca0 := (hbb.cell (p := ⟨w1.heap.size, 0, none⟩) la).trans ca0
  replace ca1 := (hbb.cell (p := ⟨w1.heap.size, 1, none⟩) la).trans ca1
  replace la : w1.heap.size < w6.heap.size := Nat.lt_of_lt_of_le la hsw6
  replace cb0 := (hbb.cell (p := ⟨w2.heap.size, 0, none⟩) lb).trans cb0
  replace cb1 := (hbb.cell (p := ⟨w2.heap.size, 1, none⟩) lb).trans cb1
  replace lb : w2.heap.size < w6.heap.size := Nat.lt_of_lt_of_le lb hsw6
  have HBw6 : Hid (Below w.heap.size w w6) := Lib.hid (HBw5.out.trans (hbb.mono HBw5.out.size))
  clear hbb HBw5
  clear hb
  go_wp2_with fail
  refine (eqROB_any (xs := []) (ys := []) (b := true) (by simp) _ _ _ _ _ (Sl.nil (T := fun _ => False)) (Sl.nil (T := fun _ => False)) (by simp) (by simp) (by simp) (by simp)).mono ?_
  rintro e w7 ⟨rfl, hb⟩
  have hbb : Below w6.heap.size w6 w7 := by
    refine Below.trans ?_ (Below.mono hb ?_)
    · exact (by repeat (first | (with_reducible exact Below.refl _ _) | (with_reducible refine Below.ext ?_ (by go_size) _ _) | (with_reducible refine Below.alloc ?_ (by go_size) _) | (with_reducible refine Below.setCell ?_ (by go_size) _) | (with_reducible refine Below.drew ?_) | (with_reducible refine Below.drewN_ ?_ _)))
    · simp
  have hsw7 := hbb.size
  replace ca0 := (hbb.cell (p := ⟨w1.heap.size, 0, none⟩) la).trans ca0
  replace ca1 := (hbb.cell (p := ⟨w1.heap.size, 1, none⟩) la).trans ca1
  replace la : w1.heap.size < w7.heap.size := Nat.lt_of_lt_of_le la hsw7
  replace cb0 := (hbb.cell (p := ⟨w2.heap.size, 0, none⟩) lb).trans cb0
  replace cb1 := (hbb.cell (p := ⟨w2.heap.size, 1, none⟩) lb).trans cb1
  replace lb : w2.heap.size < w7.heap.size := Nat.lt_of_lt_of_le lb hsw7
  have cd0 : w7.cell? ⟨w6.heap.size, 0, none⟩ = some (.int .i64 (soz n)) := (hb.cell (p := ⟨w6.heap.size, 0, none⟩) (by simp; try omega)).trans (by simp [go_sem])
  have cd1 : w7.cell? ⟨w6.heap.size, 1, none⟩ = some (.slice (some ⟨b2, 0, none⟩) 0 0) := (hb.cell (p := ⟨w6.heap.size, 1, none⟩) (by simp; try omega)).trans (by simp [go_sem])
  have ld : w6.heap.size < w7.heap.size := by have := hb.size; simp at this; omega
  have HBw7 : Hid (Below w.heap.size w w7) := Lib.hid (HBw6.out.trans (hbb.mono HBw6.out.size))
  clear hbb HBw6
  clear hb
  go_wp2_with fail
  refine (heldROB_any (T := fun _ => False) _ _ 0 _ ([] : List NF) 1 _ rfl Sl.nil (by simp) (by simp [szN, sumN]) (by omega) (by omega)).mono ?_
  rintro e w8 ⟨rfl, hb⟩
  have hbb := hb
  have hsw8 := hbb.size
  replace ca0 := (hbb.cell (p := ⟨w1.heap.size, 0, none⟩) la).trans ca0
  replace ca1 := (hbb.cell (p := ⟨w1.heap.size, 1, none⟩) la).trans ca1
  replace la : w1.heap.size < w8.heap.size := Nat.lt_of_lt_of_le la hsw8
  replace cb0 := (hbb.cell (p := ⟨w2.heap.size, 0, none⟩) lb).trans cb0
  replace cb1 := (hbb.cell (p := ⟨w2.heap.size, 1, none⟩) lb).trans cb1
  replace lb : w2.heap.size < w8.heap.size := Nat.lt_of_lt_of_le lb hsw8
  replace cd0 := (hbb.cell (p := ⟨w6.heap.size, 0, none⟩) ld).trans cd0
  replace cd1 := (hbb.cell (p := ⟨w6.heap.size, 1, none⟩) ld).trans cd1
  replace ld : w6.heap.size < w8.heap.size := Nat.lt_of_lt_of_le ld hsw8
  have HBw8 : Hid (Below w.heap.size w w8) := Lib.hid (HBw7.out.trans (hbb.mono HBw7.out.size))
  clear hbb HBw7
  clear hb
  go_wp2
  go_ret
  exact ⟨rfl, HBw8.out⟩

end Go.Proofs.Ytnfgdgmmbddmgaa
