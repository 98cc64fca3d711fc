/- The walk of FnExactMoveStart. -/
import Derived.Test.YtnfgdgmmbddmgaaNFe
import Derived.Test.YtnfgdgmmbddmgaaNFm
import Derived.Test.YtnfgdgmmbddmgaaSSe
import Derived.Test.YtnfgdgmmbddmgaaSSm
import Derived.Test.YtnfgdgmmbddmgaaRmvI
namespace Go.Proofs.Ytnfgdgmmbddmgaa
open Go.RowKit
set_option linter.unusedVariables false
set_option linter.unusedSimpArgs false

theorem relR_sum : ∀ (ys : List NF) (st : Int) (bs : List (List Int)), sumL (relR st ys bs).2.2 + sumN (relR st ys bs).2.1 = sumL bs + sumN ys ∧ (relR st ys bs).2.2.length + (relR st ys bs).2.1.length = bs.length + ys.length
  | [], st, bs => ⟨rfl, rfl⟩
  | x :: xs, st, bs => by
    unfold relR
    split
    · have := relR_sum xs (seqN st) (bs ++ [x.2])
      rw [this.1, this.2]
      simp [sumL_snoc, sumN]; omega
    · exact ⟨rfl, rfl⟩
theorem movR_sum (st d : Int) : ∀ (ys : List NF) (bs : List (List Int)), sumL (movR st d ys bs).2 + sumN (movR st d ys bs).1 = sumL bs + sumN ys
  | [], bs => rfl
  | x :: xs, bs => by
    unfold movR
    split
    · rw [movR_sum st d xs]
      simp [sumL_snoc, sumN]; omega
    · rfl
theorem moveR_sum (st q : Int) (xs : List NF) : sumL (moveR st q xs).2.2 + sumN (moveR st q xs).2.1 = sumN xs ∧ (moveR st q xs).2.2.length + (moveR st q xs).2.1.length = xs.length := by
  unfold moveR
  split
  · have h1 := relR_sum (movR st (seqD st q) xs []).1 q (movR st (seqD st q) xs []).2
    have h2 := movR_sum st (seqD st q) xs []
    have h3 := movR_len st (seqD st q) xs []
    rw [h1.1, h1.2, h2, h3]
    simp [sumL]
  · simp [sumL]
theorem eqSSb {T1 T2 : Nat → Prop} (A B : Option Addr) (c1 c2 : Nat) (xs : List (List Int)) (w : World) (hx : Sl false 1 (EB false) w T1 A xs) (hy : Sl false 1 (EB false) w T2 B xs) (hm : xs.length ≤ 1000000000000) (hmx : ∀ x ∈ xs, x.length ≤ 1000000000000) :
    Calls Try.prog 17 #[.slice A xs.length c1, .slice B xs.length c2] w fun e w' => e = .returned (.bool true) ∧ Below w.heap.size w w' :=
  (eqByteSS_q A B c1 c2 xs xs w hx hy hm hm hmx hmx).mono fun _ _ ⟨h1, h2⟩ => ⟨by rw [h1]; simp, h2.below⟩
theorem heldSSb {T : Nat → Prop} (A : Option Addr) (n c : Nat) (xs : List (List Int)) (k : Int) (w : World) (hn : n = xs.length) (hx : Sl false 1 (EB false) w T A (marksSS k xs)) (hm : xs.length ≤ 1000000000000) (hs : sumL xs ≤ 1000000000000) (hk0 : 0 ≤ k) (hk1 : k ≤ 1000000000000) (hks : k + (sumL xs : Int) ≤ 1000000000000) :
    Calls Try.prog 21 #[.slice A n c, .int .i64 k] w fun e w' => e = .returned (.int .i64 (k + (sumL xs : Int))) ∧ Below w.heap.size w w' :=
  (heldByteSS_q A n c xs k w hn hx hm hs hk0 hk1 hks).mono fun _ _ ⟨h1, h2⟩ => ⟨h1, h2.below⟩

set_option maxRecDepth 10000 in
set_option maxHeartbeats 4000000 in
theorem moveStart_walk (st : Int) (A : Option Addr) (c : Nat) (xs : List NF) (q : Int) (hst : I64 st) (hq : I64 q) (w : World) (hx : Sl false 2 (EN false) w (fun g => g < w.heap.size) A xs) (hlen : xs.length ≤ 9223372036854775807) (hb : ∀ x ∈ xs, I64 x.1 ∧ x.2.length ≤ 9223372036854775807 ∧ ∀ z ∈ x.2, 0 ≤ z ∧ z ≤ 255) :
    Calls Try.prog 3 #[.agg #[.int .i64 st, .slice A xs.length c], .int .i64 q] w fun e w' => e = .returned (.bool true) ∧ Below w.heap.size w w' := by
  have X := Lib.hid hx
  have HZ := Lib.hid (fun x h => (hb x h).2.1)
  have HBY := Lib.hid hb
  clear hx hb
  by_cases hbig : 1048576 < szN xs
  · have hz : Hid (szO (szN xs) 1048576 = -1) := Lib.hid (if_neg (by omega))
    go_enter Try.func3, Try.ntmps3
    go_wp2_with fail
    refine (szROB_any st A c xs 1048576 _ (Sl.below (R := EN false) EN.framed X.out (by repeat (first | (with_reducible exact Below.refl _ _) | (with_reducible refine Below.ext ?_ (by go_size) _ _) | (with_reducible refine Below.alloc ?_ (by go_size) _) | (with_reducible refine Below.setCell ?_ (by go_size) _) | (with_reducible refine Below.drew ?_) | (with_reducible refine Below.drewN_ ?_ _)))) hlen HZ.out (by omega) (by omega)).mono ?_
    rw [hz.out]
    rintro e w' ⟨rfl, hb⟩
    obtain ⟨X', d', rfl⟩ := Below.ext_ hb
    clear hb
    go_wp2
    go_ret
    exact ⟨rfl, (by repeat (first | (with_reducible exact Below.refl _ _) | (with_reducible refine Below.ext ?_ (by go_size) _ _) | (with_reducible refine Below.alloc ?_ (by go_size) _) | (with_reducible refine Below.setCell ?_ (by go_size) _) | (with_reducible refine Below.drew ?_) | (with_reducible refine Below.drewN_ ?_ _)))⟩
  have hz : Hid (szO (szN xs) 1048576 = 1048576 - (szN xs : Int)) := Lib.hid (if_pos (by omega))
  have hz0 : ¬ 1048576 - (szN xs : Int) < 0 := by omega
  have hz1 : xs.length ≤ 1000000000 := by unfold szN at hbig; omega
  have HM : Hid (∀ x ∈ xs, x.2.length ≤ 1000000000000) := Lib.hid (fun x h => by have := sumN_mem h; unfold szN at hbig; omega)
  have HM9 : Hid (∀ x ∈ xs, x.2.length ≤ 1000000000) := Lib.hid (fun x h => by have := sumN_mem h; unfold szN at hbig; omega)
  have HS20 : Hid (szN xs ≤ 1048576) := Lib.hid (by omega)
  obtain ⟨r, hr⟩ : ∃ r, r = moveR st q xs := ⟨_, rfl⟩
  have HRR := Lib.hid hr
  have hsum := moveR_sum st q xs
  rw [← hr] at hsum
  have hss : sumN xs ≤ 1048576 ∧ xs.length ≤ 1048576 := by unfold szN at hbig; omega
  have HYL : Hid (r.2.1.length ≤ 1000000000000) := Lib.hid (by omega)
  have HYL9 : Hid (r.2.1.length ≤ 1000000000) := Lib.hid (by omega)
  have HYS : Hid (szN r.2.1 ≤ 1000000000) := Lib.hid (by unfold szN; omega)
  have hys : (szN r.2.1 : Int) ≤ 2097152 := by unfold szN; omega
  have HYM : Hid (∀ x ∈ r.2.1, x.2.length ≤ 1000000000000) := Lib.hid (fun x h => by have := sumN_mem h; omega)
  have HBL : Hid (r.2.2.length ≤ 1000000000000) := Lib.hid (by omega)
  have HBS : Hid (sumL r.2.2 ≤ 1000000000000) := Lib.hid (by omega)
  have hbs : (sumL r.2.2 : Int) ≤ 1048576 := by omega
  have HBM : Hid (∀ x ∈ r.2.2, x.length ≤ 1000000000000) := Lib.hid (fun x h => by have := sumL_mem h; omega)
  clear hr hsum hss hq
  clear hbig hst
  go_enter Try.func3, Try.ntmps3
  have HBw : Hid (Below w.heap.size w w) := Lib.hid (Below.refl _ _)
  go_wp2_with fail
  refine (szROB_any st A c xs 1048576 _ (Sl.below (R := EN false) EN.framed X.out (by repeat (first | (with_reducible exact Below.refl _ _) | (with_reducible refine Below.ext ?_ (by go_size) _ _) | (with_reducible refine Below.alloc ?_ (by go_size) _) | (with_reducible refine Below.setCell ?_ (by go_size) _) | (with_reducible refine Below.drew ?_) | (with_reducible refine Below.drewN_ ?_ _)))) hlen HZ.out (by omega) (by omega)).mono ?_
  rw [hz.out]
  rintro e w1 ⟨rfl, hb⟩
  have hbb : Below w.heap.size w w1 := by
    refine Below.trans ?_ (Below.mono hb ?_)
    · exact (by repeat (first | (with_reducible exact Below.refl _ _) | (with_reducible refine Below.ext ?_ (by go_size) _ _) | (with_reducible refine Below.alloc ?_ (by go_size) _) | (with_reducible refine Below.setCell ?_ (by go_size) _) | (with_reducible refine Below.drew ?_) | (with_reducible refine Below.drewN_ ?_ _)))
    · (simp; try omega)
  have hsw1 := hbb.size
  replace X := Lib.hid (Sl.below (R := EN false) EN.framed X.out hbb)
  have ca0 : w1.cell? ⟨w.heap.size, 0, none⟩ = some (.int .i64 st) := (hb.cell (p := ⟨w.heap.size, 0, none⟩) (by simp; try omega)).trans (by simp [go_sem])
  have ca1 : w1.cell? ⟨w.heap.size, 1, none⟩ = some (.slice A xs.length c) := (hb.cell (p := ⟨w.heap.size, 1, none⟩) (by simp; try omega)).trans (by simp [go_sem])
  have la : w.heap.size < w1.heap.size := by have := hb.size; simp at this; omega
  have pa := la
  have HBw1 : Hid (Below w.heap.size w w1) := Lib.hid (HBw.out.trans (hbb.mono HBw.out.size))
  clear hbb HBw
  clear hb
  go_wp2_with fail
  refine (toROB_any st A c xs _ X.out hz1 HM.out).mono ?_
  rintro e w2 ⟨b1, rfl, hb, hb0, hb1, y⟩
  have hbb := hb
  have hsw2 := hbb.size
  replace X := Lib.hid (Sl.below (R := EN false) EN.framed X.out hbb)
  replace ca0 := (hbb.cell (p := ⟨w.heap.size, 0, none⟩) la).trans ca0
  replace ca1 := (hbb.cell (p := ⟨w.heap.size, 1, none⟩) la).trans ca1
  replace la : w.heap.size < w2.heap.size := Nat.lt_of_lt_of_le la hsw2
  have HBw2 : Hid (Below w.heap.size w w2) := Lib.hid (HBw1.out.trans (hbb.mono HBw1.out.size))
  clear hbb HBw1
  clear hb
  (try simp only [World.size_alloc, World.size_ext] at y hb0)
  have Y := Lib.hid y
  clear y
  clear hb0 hb1
  go_wp2_with fail
  refine (specMS_any st _ _ xs q _ (SlN.read Y.out) hz1 HM9.out).mono ?_
  rw [← HRR.out]
  rintro e w3 ⟨Aw, cw, gw, dw, Tw1, Tw2, rfl, hb, _, h1, h2, y, y1, y2⟩
  have hbb := hb
  have hsw3 := hbb.size
  replace X := Lib.hid (Sl.below (R := EN false) EN.framed X.out hbb)
  replace Y := Lib.hid (Sl.below (R := EN true) EN.framed Y.out hbb)
  replace ca0 := (hbb.cell (p := ⟨w.heap.size, 0, none⟩) la).trans ca0
  replace ca1 := (hbb.cell (p := ⟨w.heap.size, 1, none⟩) la).trans ca1
  replace la : w.heap.size < w3.heap.size := Nat.lt_of_lt_of_le la hsw3
  have HBw3 : Hid (Below w.heap.size w w3) := Lib.hid (HBw2.out.trans (hbb.mono HBw2.out.size))
  clear hbb HBw2
  clear hb
  clear Y
  replace y := Sl.wider (T' := fun b => b < w3.heap.size) (SlN.read y) (fun b h => (h1 b h).2.1)
  replace y1 := Sl.wider (T' := fun b => b < w3.heap.size) (SlB.read (u := true) (y1.slT (fun a ha => by injection ha with ha; subst ha; exact y2))) (fun b h => (h2 b h).2)
  clear h1 h2 y2
  have W0 := Lib.hid y
  clear y
  have W1 := Lib.hid y1
  clear y1
  go_wp2_with fail
  refine (toROB_any st A c xs _ (Sl.below (R := EN false) EN.framed X.out (by repeat (first | (with_reducible exact Below.refl _ _) | (with_reducible refine Below.ext ?_ (by go_size) _ _) | (with_reducible refine Below.alloc ?_ (by go_size) _) | (with_reducible refine Below.setCell ?_ (by go_size) _) | (with_reducible refine Below.drew ?_) | (with_reducible refine Below.drewN_ ?_ _)))) hz1 HM.out).mono ?_
  rintro e w4 ⟨b2, rfl, hb, hb0, hb1, y⟩
  have hbb : Below w3.heap.size w3 w4 := by
    refine Below.trans ?_ (Below.mono hb ?_)
    · exact (by repeat (first | (with_reducible exact Below.refl _ _) | (with_reducible refine Below.ext ?_ (by go_size) _ _) | (with_reducible refine Below.alloc ?_ (by go_size) _) | (with_reducible refine Below.setCell ?_ (by go_size) _) | (with_reducible refine Below.drew ?_) | (with_reducible refine Below.drewN_ ?_ _)))
    · (simp; try omega)
  have hsw4 := hbb.size
  replace X := Lib.hid (Sl.below (R := EN false) EN.framed X.out hbb)
  replace W0 := Lib.hid (Sl.below (R := EN false) EN.framed W0.out hbb)
  replace W1 := Lib.hid (Sl.below (R := EB false) EB.framed W1.out hbb)
  replace ca0 := (hbb.cell (p := ⟨w.heap.size, 0, none⟩) la).trans ca0
  replace ca1 := (hbb.cell (p := ⟨w.heap.size, 1, none⟩) la).trans ca1
  replace la : w.heap.size < w4.heap.size := Nat.lt_of_lt_of_le la hsw4
  have cw0 : w4.cell? ⟨w3.heap.size, 0, none⟩ = some (.int .i64 r.1) := (hb.cell (p := ⟨w3.heap.size, 0, none⟩) (by simp; try omega)).trans (by simp [go_sem])
  have cw1 : w4.cell? ⟨w3.heap.size, 1, none⟩ = some (.slice Aw r.2.1.length cw) := (hb.cell (p := ⟨w3.heap.size, 1, none⟩) (by simp; try omega)).trans (by simp [go_sem])
  have lw : w3.heap.size < w4.heap.size := by have := hb.size; simp at this; omega
  have pw := lw
  have HBw4 : Hid (Below w.heap.size w w4) := Lib.hid (HBw3.out.trans (hbb.mono HBw3.out.size))
  clear hbb HBw3
  clear hb
  (try simp only [World.size_alloc, World.size_ext] at y hb0)
  have Y := Lib.hid y
  clear y
  clear hb0 hb1
  go_wp2_with fail
  refine (implMS_any st _ _ xs q _ (SlN.read (Sl.below (R := EN true) EN.framed Y.out (by repeat (first | (with_reducible exact Below.refl _ _) | (with_reducible refine Below.ext ?_ (by go_size) _ _) | (with_reducible refine Below.alloc ?_ (by go_size) _) | (with_reducible refine Below.setCell ?_ (by go_size) _) | (with_reducible refine Below.drew ?_) | (with_reducible refine Below.drewN_ ?_ _))))) hz1 HM9.out).mono ?_
  rw [← HRR.out]
  rintro e w5 ⟨Ag, cg, gg, dg, T1g, T2g, rfl, hb, _, h1, h2, y, y1, y2⟩
  have hbb : Below w4.heap.size w4 w5 := by
    refine Below.trans ?_ (Below.mono hb ?_)
    · exact (by repeat (first | (with_reducible exact Below.refl _ _) | (with_reducible refine Below.ext ?_ (by go_size) _ _) | (with_reducible refine Below.alloc ?_ (by go_size) _) | (with_reducible refine Below.setCell ?_ (by go_size) _) | (with_reducible refine Below.drew ?_) | (with_reducible refine Below.drewN_ ?_ _)))
    · (simp; try omega)
  have hsw5 := hbb.size
  replace X := Lib.hid (Sl.below (R := EN false) EN.framed X.out hbb)
  replace W0 := Lib.hid (Sl.below (R := EN false) EN.framed W0.out hbb)
  replace W1 := Lib.hid (Sl.below (R := EB false) EB.framed W1.out hbb)
  replace Y := Lib.hid (Sl.below (R := EN true) EN.framed Y.out hbb)
  replace ca0 := (hbb.cell (p := ⟨w.heap.size, 0, none⟩) la).trans ca0
  replace ca1 := (hbb.cell (p := ⟨w.heap.size, 1, none⟩) la).trans ca1
  replace la : w.heap.size < w5.heap.size := Nat.lt_of_lt_of_le la hsw5
  replace cw0 := (hbb.cell (p := ⟨w3.heap.size, 0, none⟩) lw).trans cw0
  replace cw1 := (hbb.cell (p := ⟨w3.heap.size, 1, none⟩) lw).trans cw1
  replace lw : w3.heap.size < w5.heap.size := Nat.lt_of_lt_of_le lw hsw5
  have cx0 : w5.cell? ⟨w4.heap.size, 0, none⟩ = some (.int .i64 st) := (hb.cell (p := ⟨w4.heap.size, 0, none⟩) (by simp; try omega)).trans (by simp [go_sem])
  have cx1 : w5.cell? ⟨w4.heap.size, 1, none⟩ = some (.slice (some ⟨b2, 0, none⟩) xs.length xs.length) := (hb.cell (p := ⟨w4.heap.size, 1, none⟩) (by simp; try omega)).trans (by simp [go_sem])
  have lx : w4.heap.size < w5.heap.size := by have := hb.size; simp at this; omega
  have px := lx
  have HBw5 : Hid (Below w.heap.size w w5) := Lib.hid (HBw4.out.trans (hbb.mono HBw4.out.size))
  clear hbb HBw4
  clear hb
  (try simp only [World.size_alloc, World.size_ext] at h1 h2)
  have HT1g := Lib.hid (fun b h => (⟨(h1 b h).1, (h1 b h).2.1⟩ : _ ∧ _))
  have HT2g := Lib.hid h2
  have HN12 := Lib.hid (fun b h => (h1 b h).2.2)
  replace y1 := y1.slT (fun a ha => by injection ha with ha; subst ha; exact y2)
  clear h1 h2 y2
  have G0 := Lib.hid y
  clear y
  have G1 := Lib.hid y1
  clear y1
  go_wp2_with fail
  refine (eqROB_any (s1 := r.1) (s2 := r.1) (xs := r.2.1) (ys := r.2.1) (b := true) (by simp) _ _ _ _ _ (SlN.read (Sl.below (R := EN true) EN.framed G0.out (by repeat (first | (with_reducible exact Below.refl _ _) | (with_reducible refine Below.ext ?_ (by go_size) _ _) | (with_reducible refine Below.alloc ?_ (by go_size) _) | (with_reducible refine Below.setCell ?_ (by go_size) _) | (with_reducible refine Below.drew ?_) | (with_reducible refine Below.drewN_ ?_ _))))) (Sl.below (R := EN false) EN.framed W0.out (by repeat (first | (with_reducible exact Below.refl _ _) | (with_reducible refine Below.ext ?_ (by go_size) _ _) | (with_reducible refine Below.alloc ?_ (by go_size) _) | (with_reducible refine Below.setCell ?_ (by go_size) _) | (with_reducible refine Below.drew ?_) | (with_reducible refine Below.drewN_ ?_ _)))) HYL.out HYL.out HYM.out HYM.out).mono ?_
  rintro e w6 ⟨rfl, hb⟩
  have hbb : Below w5.heap.size w5 w6 := by
    refine Below.trans ?_ (Below.mono hb ?_)
    · exact (by repeat (first | (with_reducible exact Below.refl _ _) | (with_reducible refine Below.ext ?_ (by go_size) _ _) | (with_reducible refine Below.alloc ?_ (by go_size) _) | (with_reducible refine Below.setCell ?_ (by go_size) _) | (with_reducible refine Below.drew ?_) | (with_reducible refine Below.drewN_ ?_ _)))
    · (simp; try omega)
  have hsw6 := hbb.size
  replace X := Lib.hid (Sl.below (R := EN false) EN.framed X.out hbb)
  replace W0 := Lib.hid (Sl.below (R := EN false) EN.framed W0.out hbb)
  replace W1 := Lib.hid (Sl.below (R := EB false) EB.framed W1.out hbb)
  replace Y := Lib.hid (Sl.below (R := EN true) EN.framed Y.out hbb)
  replace G0 := Lib.hid (Sl.below (R := EN true) EN.framed G0.out hbb)
  replace G1 := Lib.hid (Sl.below (R := EB true) EB.framed G1.out hbb)
  replace ca0 := (hbb.cell (p := ⟨w.heap.size, 0, none⟩) la).trans ca0
  replace ca1 := (hbb.cell (p := ⟨w.heap.size, 1, none⟩) la).trans ca1
  replace la : w.heap.size < w6.heap.size := Nat.lt_of_lt_of_le la hsw6
  replace cw0 := (hbb.cell (p := ⟨w3.heap.size, 0, none⟩) lw).trans cw0
  replace cw1 := (hbb.cell (p := ⟨w3.heap.size, 1, none⟩) lw).trans cw1
  replace lw : w3.heap.size < w6.heap.size := Nat.lt_of_lt_of_le lw hsw6
  replace cx0 := (hbb.cell (p := ⟨w4.heap.size, 0, none⟩) lx).trans cx0
  replace cx1 := (hbb.cell (p := ⟨w4.heap.size, 1, none⟩) lx).trans cx1
  replace lx : w4.heap.size < w6.heap.size := Nat.lt_of_lt_of_le lx hsw6
  have cg0 : w6.cell? ⟨w5.heap.size, 0, none⟩ = some (.int .i64 r.1) := (hb.cell (p := ⟨w5.heap.size, 0, none⟩) (by simp; try omega)).trans (by simp [go_sem])
  have cg1 : w6.cell? ⟨w5.heap.size, 1, none⟩ = some (.slice Ag r.2.1.length cg) := (hb.cell (p := ⟨w5.heap.size, 1, none⟩) (by simp; try omega)).trans (by simp [go_sem])
  have lg : w5.heap.size < w6.heap.size := by have := hb.size; simp at this; omega
  have pg := lg
  have HBw6 : Hid (Below w.heap.size w w6) := Lib.hid (HBw5.out.trans (hbb.mono HBw5.out.size))
  clear hbb HBw5
  clear hb
  go_wp2_with fail
  refine (eqSSb _ _ _ _ r.2.2 _ (SlB.read G1.out) W1.out HBL.out HBM.out).mono ?_
  rintro e w7 ⟨rfl, hb⟩
  have hbb := hb
  have hsw7 := hbb.size
  replace X := Lib.hid (Sl.below (R := EN false) EN.framed X.out hbb)
  replace W0 := Lib.hid (Sl.below (R := EN false) EN.framed W0.out hbb)
  replace W1 := Lib.hid (Sl.below (R := EB false) EB.framed W1.out hbb)
  replace Y := Lib.hid (Sl.below (R := EN true) EN.framed Y.out hbb)
  replace G0 := Lib.hid (Sl.below (R := EN true) EN.framed G0.out hbb)
  replace G1 := Lib.hid (Sl.below (R := EB true) EB.framed G1.out hbb)
  replace ca0 := (hbb.cell (p := ⟨w.heap.size, 0, none⟩) la).trans ca0
  replace ca1 := (hbb.cell (p := ⟨w.heap.size, 1, none⟩) la).trans ca1
  replace la : w.heap.size < w7.heap.size := Nat.lt_of_lt_of_le la hsw7
  replace cw0 := (hbb.cell (p := ⟨w3.heap.size, 0, none⟩) lw).trans cw0
  replace cw1 := (hbb.cell (p := ⟨w3.heap.size, 1, none⟩) lw).trans cw1
  replace lw : w3.heap.size < w7.heap.size := Nat.lt_of_lt_of_le lw hsw7
  replace cx0 := (hbb.cell (p := ⟨w4.heap.size, 0, none⟩) lx).trans cx0
  replace cx1 := (hbb.cell (p := ⟨w4.heap.size, 1, none⟩) lx).trans cx1
  replace lx : w4.heap.size < w7.heap.size := Nat.lt_of_lt_of_le lx hsw7
  replace cg0 := (hbb.cell (p := ⟨w5.heap.size, 0, none⟩) lg).trans cg0
  replace cg1 := (hbb.cell (p := ⟨w5.heap.size, 1, none⟩) lg).trans cg1
  replace lg : w5.heap.size < w7.heap.size := Nat.lt_of_lt_of_le lg hsw7
  have HBw7 : Hid (Below w.heap.size w w7) := Lib.hid (HBw6.out.trans (hbb.mono HBw6.out.size))
  clear hbb HBw6
  clear hb
  go_wp2
  refine wp_region_held_drew (S := (fun w' => w'.cell? ⟨w4.heap.size, 0, none⟩ = some (.int .i64 st) ∧ w'.cell? ⟨w4.heap.size, 1, none⟩ = some (.slice (some ⟨b2, 0, none⟩) xs.length xs.length) ∧ w'.cell? ⟨w.heap.size, 0, none⟩ = some (.int .i64 st) ∧ w'.cell? ⟨w.heap.size, 1, none⟩ = some (.slice A xs.length c))) (by kernel_rfl) ?_ (fun hHeld => ?_)
  · first | exact ⟨cx0, cx1, ca0, ca1⟩ | (simp [go_sem, *]; done)
  refine wpAnyH_takeW (i := 0) (d := some 46) (v := ?_) (by simp only [List.getElem?_toArray, List.getElem?_cons_succ, List.getElem?_cons_zero]; rfl) (by rfl) (by kernel_rfl) (by kernel_rfl) (by kernel_rfl) (by intro _ _ _ h; exact h) (by rfl) ?_ (by assumption) ?_
  rotate_left 1
  · (intro w hSw; (try dsimp only at hSw); go_simp; try (with_reducible rfl))
  (try simp only [Act.put, List.setIfInBounds_toArray, List.set_cons_zero, List.set_cons_succ])
  refine wpAnyH_takeW (i := 1) (d := some 47) (v := ?_) (by simp only [List.getElem?_toArray, List.getElem?_cons_succ, List.getElem?_cons_zero]; rfl) (by rfl) (by kernel_rfl) (by kernel_rfl) (by kernel_rfl) (by intro _ _ _ h; exact h) (by rfl) ?_ (by assumption) ?_
  rotate_left 1
  · (intro w hSw; (try dsimp only at hSw); go_simp; try (with_reducible rfl))
  (try simp only [Act.put, List.setIfInBounds_toArray, List.set_cons_zero, List.set_cons_succ])
  refine wpAnyH_ready (rs := [2]) (by kernel_rfl) (by simp) ?_
  refine AllReadyH.cons (i := 2) (by simp only [List.getElem?_toArray, List.getElem?_cons_succ, List.getElem?_cons_zero]; rfl) (fun K hK => ?_) AllReadyH.nil
  go_simp
  refine (toROB_any st A c xs _ (Sl.below (R := EN false) EN.framed X.out (by repeat (first | (with_reducible exact Below.refl _ _) | (with_reducible refine Below.ext ?_ (by go_size) _ _) | (with_reducible refine Below.alloc ?_ (by go_size) _) | (with_reducible refine Below.setCell ?_ (by go_size) _) | (with_reducible refine Below.drew ?_) | (with_reducible refine Below.drewN_ ?_ _)))) hz1 HM.out).mono ?_
  rintro e w8 ⟨b3, rfl, hb, hb0, hb1, y⟩
  have hbb : Below w7.heap.size w7 w8 := by
    refine Below.trans ?_ (Below.mono hb ?_)
    · exact (by repeat (first | (with_reducible exact Below.refl _ _) | (with_reducible refine Below.ext ?_ (by go_size) _ _) | (with_reducible refine Below.alloc ?_ (by go_size) _) | (with_reducible refine Below.setCell ?_ (by go_size) _) | (with_reducible refine Below.drew ?_) | (with_reducible refine Below.drewN_ ?_ _)))
    · (simp; try omega)
  have hsw8 := hbb.size
  replace X := Lib.hid (Sl.below (R := EN false) EN.framed X.out hbb)
  replace W0 := Lib.hid (Sl.below (R := EN false) EN.framed W0.out hbb)
  replace W1 := Lib.hid (Sl.below (R := EB false) EB.framed W1.out hbb)
  replace Y := Lib.hid (Sl.below (R := EN true) EN.framed Y.out hbb)
  replace G0 := Lib.hid (Sl.below (R := EN true) EN.framed G0.out hbb)
  replace G1 := Lib.hid (Sl.below (R := EB true) EB.framed G1.out hbb)
  replace ca0 := (hbb.cell (p := ⟨w.heap.size, 0, none⟩) la).trans ca0
  replace ca1 := (hbb.cell (p := ⟨w.heap.size, 1, none⟩) la).trans ca1
  replace la : w.heap.size < w8.heap.size := Nat.lt_of_lt_of_le la hsw8
  replace cw0 := (hbb.cell (p := ⟨w3.heap.size, 0, none⟩) lw).trans cw0
  replace cw1 := (hbb.cell (p := ⟨w3.heap.size, 1, none⟩) lw).trans cw1
  replace lw : w3.heap.size < w8.heap.size := Nat.lt_of_lt_of_le lw hsw8
  replace cx0 := (hbb.cell (p := ⟨w4.heap.size, 0, none⟩) lx).trans cx0
  replace cx1 := (hbb.cell (p := ⟨w4.heap.size, 1, none⟩) lx).trans cx1
  replace lx : w4.heap.size < w8.heap.size := Nat.lt_of_lt_of_le lx hsw8
  replace cg0 := (hbb.cell (p := ⟨w5.heap.size, 0, none⟩) lg).trans cg0
  replace cg1 := (hbb.cell (p := ⟨w5.heap.size, 1, none⟩) lg).trans cg1
  replace lg : w5.heap.size < w8.heap.size := Nat.lt_of_lt_of_le lg hsw8
  have HBw8 : Hid (Below w.heap.size w w8) := Lib.hid (HBw7.out.trans (hbb.mono HBw7.out.size))
  clear hbb HBw7
  clear hb
  have Z := Lib.hid y
  clear y
  clear hb0 hb1
  go_wp2_with fail
  refine hK.out _ _ ?_ (fun hHeld => ?_)
  · ((try dsimp only); first | exact ⟨cx0, cx1, ca0, ca1⟩ | (simp [go_sem, *]; done))
  clear hK K
  (try simp only [Act.put, List.setIfInBounds_toArray, List.set_cons_zero, List.set_cons_succ])
  refine wpAnyH_ready (rs := [3]) (by kernel_rfl) (by simp) ?_
  refine AllReadyH.cons (i := 3) (by simp only [List.getElem?_toArray, List.getElem?_cons_succ, List.getElem?_cons_zero]; rfl) (fun K hK => ?_) AllReadyH.nil
  go_simp
  refine (eqROB_any (b := true) (by simp) _ _ _ _ _ (SlN.read Y.out) (SlN.read Z.out) (by omega) (by omega) HM.out HM.out).mono ?_
  rintro e w9 ⟨rfl, hb⟩
  have hbb := hb
  have hsw9 := hbb.size
  replace X := Lib.hid (Sl.below (R := EN false) EN.framed X.out hbb)
  replace W0 := Lib.hid (Sl.below (R := EN false) EN.framed W0.out hbb)
  replace W1 := Lib.hid (Sl.below (R := EB false) EB.framed W1.out hbb)
  replace Y := Lib.hid (Sl.below (R := EN true) EN.framed Y.out hbb)
  replace G0 := Lib.hid (Sl.below (R := EN true) EN.framed G0.out hbb)
  replace G1 := Lib.hid (Sl.below (R := EB true) EB.framed G1.out hbb)
  replace Z := Lib.hid (Sl.below (R := EN true) EN.framed Z.out hbb)
  replace ca0 := (hbb.cell (p := ⟨w.heap.size, 0, none⟩) la).trans ca0
  replace ca1 := (hbb.cell (p := ⟨w.heap.size, 1, none⟩) la).trans ca1
  replace la : w.heap.size < w9.heap.size := Nat.lt_of_lt_of_le la hsw9
  replace cw0 := (hbb.cell (p := ⟨w3.heap.size, 0, none⟩) lw).trans cw0
  replace cw1 := (hbb.cell (p := ⟨w3.heap.size, 1, none⟩) lw).trans cw1
  replace lw : w3.heap.size < w9.heap.size := Nat.lt_of_lt_of_le lw hsw9
  replace cx0 := (hbb.cell (p := ⟨w4.heap.size, 0, none⟩) lx).trans cx0
  replace cx1 := (hbb.cell (p := ⟨w4.heap.size, 1, none⟩) lx).trans cx1
  replace lx : w4.heap.size < w9.heap.size := Nat.lt_of_lt_of_le lx hsw9
  replace cg0 := (hbb.cell (p := ⟨w5.heap.size, 0, none⟩) lg).trans cg0
  replace cg1 := (hbb.cell (p := ⟨w5.heap.size, 1, none⟩) lg).trans cg1
  replace lg : w5.heap.size < w9.heap.size := Nat.lt_of_lt_of_le lg hsw9
  have HBw9 : Hid (Below w.heap.size w w9) := Lib.hid (HBw8.out.trans (hbb.mono HBw8.out.size))
  clear hbb HBw8
  clear hb
  go_wp2_with fail
  refine hK.out _ _ ?_ (fun hHeld => ?_)
  · ((try dsimp only); first | exact ⟨cx0, cx1, ca0, ca1⟩ | (simp [go_sem, *]; done))
  clear hK K
  (try simp only [Act.put, List.setIfInBounds_toArray, List.set_cons_zero, List.set_cons_succ])
  refine wpAnyH_takeW (i := 4) (d := some 50) (v := ?_) (by simp only [List.getElem?_toArray, List.getElem?_cons_succ, List.getElem?_cons_zero]; rfl) (by rfl) (by kernel_rfl) (by kernel_rfl) (by kernel_rfl) (by intro _ _ _ h; exact h) (by rfl) ?_ (by assumption) ?_
  rotate_left 1
  · (intro w hSw; (try dsimp only at hSw); go_simp; try (with_reducible rfl))
  (try simp only [Act.put, List.setIfInBounds_toArray, List.set_cons_zero, List.set_cons_succ])
  refine wpAnyH_done (by kernel_rfl) ?_ _
  clear Z
  go_wp2_with fail
  refine (markROB_any _ _ _ xs 1 _ Y.out (fun b h => by omega) hz1 (by have := HS20.out; omega) (by omega) (by omega)).mono ?_
  rintro e w10 ⟨rfl, hc, _⟩
  have hsw10 := hc.size
  replace X := Lib.hid (Sl.frame (R := EN false) EN.framed X.out hc (fun b h1 h2 => by omega))
  replace W0 := Lib.hid (Sl.frame (R := EN false) EN.framed W0.out hc (fun b h1 h2 => by omega))
  replace W1 := Lib.hid (Sl.frame (R := EB false) EB.framed W1.out hc (fun b h1 h2 => by omega))
  clear Y
  replace G0 := Lib.hid (Sl.frame (R := EN true) EN.framed G0.out hc (fun b h1 h2 => by have := HT1g.out b h1; omega))
  replace G1 := Lib.hid (Sl.frame (R := EB true) EB.framed G1.out hc (fun b h1 h2 => by have := HT2g.out b h1; omega))
  replace ca0 := (hc.cell (p := ⟨w.heap.size, 0, none⟩) la (by first | omega | (simp; done) | (simp; omega))).trans ca0
  replace ca1 := (hc.cell (p := ⟨w.heap.size, 1, none⟩) la (by first | omega | (simp; done) | (simp; omega))).trans ca1
  replace la : w.heap.size < w10.heap.size := Nat.lt_of_lt_of_le la hsw10
  replace cw0 := (hc.cell (p := ⟨w3.heap.size, 0, none⟩) lw (by first | omega | (simp; done) | (simp; omega))).trans cw0
  replace cw1 := (hc.cell (p := ⟨w3.heap.size, 1, none⟩) lw (by first | omega | (simp; done) | (simp; omega))).trans cw1
  replace lw : w3.heap.size < w10.heap.size := Nat.lt_of_lt_of_le lw hsw10
  replace cx0 := (hc.cell (p := ⟨w4.heap.size, 0, none⟩) lx (by first | omega | (simp; done) | (simp; omega))).trans cx0
  replace cx1 := (hc.cell (p := ⟨w4.heap.size, 1, none⟩) lx (by first | omega | (simp; done) | (simp; omega))).trans cx1
  replace lx : w4.heap.size < w10.heap.size := Nat.lt_of_lt_of_le lx hsw10
  replace cg0 := (hc.cell (p := ⟨w5.heap.size, 0, none⟩) lg (by first | omega | (simp; done) | (simp; omega))).trans cg0
  replace cg1 := (hc.cell (p := ⟨w5.heap.size, 1, none⟩) lg (by first | omega | (simp; done) | (simp; omega))).trans cg1
  replace lg : w5.heap.size < w10.heap.size := Nat.lt_of_lt_of_le lg hsw10
  have HBw10 : Hid (Below w.heap.size w w10) := Lib.hid (HBw9.out.trans (hc.below HBw9.out.size (fun b h => by omega)))
  clear hc HBw9
  have hk0 : ¬ (1 : Int) + (szN xs : Int) < 0 := by omega
  go_wp2_with fail
  refine (eqROB_any (s1 := r.1) (s2 := r.1) (xs := r.2.1) (ys := r.2.1) (b := true) (by simp) _ _ _ _ _ (SlN.read G0.out) W0.out HYL.out HYL.out HYM.out HYM.out).mono ?_
  rintro e w11 ⟨rfl, hb⟩
  have hbb := hb
  have hsw11 := hbb.size
  replace X := Lib.hid (Sl.below (R := EN false) EN.framed X.out hbb)
  replace W0 := Lib.hid (Sl.below (R := EN false) EN.framed W0.out hbb)
  replace W1 := Lib.hid (Sl.below (R := EB false) EB.framed W1.out hbb)
  replace G0 := Lib.hid (Sl.below (R := EN true) EN.framed G0.out hbb)
  replace G1 := Lib.hid (Sl.below (R := EB true) EB.framed G1.out hbb)
  replace ca0 := (hbb.cell (p := ⟨w.heap.size, 0, none⟩) la).trans ca0
  replace ca1 := (hbb.cell (p := ⟨w.heap.size, 1, none⟩) la).trans ca1
  replace la : w.heap.size < w11.heap.size := Nat.lt_of_lt_of_le la hsw11
  replace cw0 := (hbb.cell (p := ⟨w3.heap.size, 0, none⟩) lw).trans cw0
  replace cw1 := (hbb.cell (p := ⟨w3.heap.size, 1, none⟩) lw).trans cw1
  replace lw : w3.heap.size < w11.heap.size := Nat.lt_of_lt_of_le lw hsw11
  replace cx0 := (hbb.cell (p := ⟨w4.heap.size, 0, none⟩) lx).trans cx0
  replace cx1 := (hbb.cell (p := ⟨w4.heap.size, 1, none⟩) lx).trans cx1
  replace lx : w4.heap.size < w11.heap.size := Nat.lt_of_lt_of_le lx hsw11
  replace cg0 := (hbb.cell (p := ⟨w5.heap.size, 0, none⟩) lg).trans cg0
  replace cg1 := (hbb.cell (p := ⟨w5.heap.size, 1, none⟩) lg).trans cg1
  replace lg : w5.heap.size < w11.heap.size := Nat.lt_of_lt_of_le lg hsw11
  have HBw11 : Hid (Below w.heap.size w w11) := Lib.hid (HBw10.out.trans (hbb.mono HBw10.out.size))
  clear hbb HBw10
  clear hb
  go_wp2_with fail
  refine (eqSSb _ _ _ _ r.2.2 _ (SlB.read G1.out) W1.out HBL.out HBM.out).mono ?_
  rintro e w12 ⟨rfl, hb⟩
  have hbb := hb
  have hsw12 := hbb.size
  replace X := Lib.hid (Sl.below (R := EN false) EN.framed X.out hbb)
  replace W0 := Lib.hid (Sl.below (R := EN false) EN.framed W0.out hbb)
  replace W1 := Lib.hid (Sl.below (R := EB false) EB.framed W1.out hbb)
  replace G0 := Lib.hid (Sl.below (R := EN true) EN.framed G0.out hbb)
  replace G1 := Lib.hid (Sl.below (R := EB true) EB.framed G1.out hbb)
  replace ca0 := (hbb.cell (p := ⟨w.heap.size, 0, none⟩) la).trans ca0
  replace ca1 := (hbb.cell (p := ⟨w.heap.size, 1, none⟩) la).trans ca1
  replace la : w.heap.size < w12.heap.size := Nat.lt_of_lt_of_le la hsw12
  replace cw0 := (hbb.cell (p := ⟨w3.heap.size, 0, none⟩) lw).trans cw0
  replace cw1 := (hbb.cell (p := ⟨w3.heap.size, 1, none⟩) lw).trans cw1
  replace lw : w3.heap.size < w12.heap.size := Nat.lt_of_lt_of_le lw hsw12
  replace cx0 := (hbb.cell (p := ⟨w4.heap.size, 0, none⟩) lx).trans cx0
  replace cx1 := (hbb.cell (p := ⟨w4.heap.size, 1, none⟩) lx).trans cx1
  replace lx : w4.heap.size < w12.heap.size := Nat.lt_of_lt_of_le lx hsw12
  replace cg0 := (hbb.cell (p := ⟨w5.heap.size, 0, none⟩) lg).trans cg0
  replace cg1 := (hbb.cell (p := ⟨w5.heap.size, 1, none⟩) lg).trans cg1
  replace lg : w5.heap.size < w12.heap.size := Nat.lt_of_lt_of_le lg hsw12
  have HBw12 : Hid (Below w.heap.size w w12) := Lib.hid (HBw11.out.trans (hbb.mono HBw11.out.size))
  clear hbb HBw11
  clear hb
  go_wp2_with fail
  refine (markROB_any _ _ _ r.2.1 1 _ G0.out (fun b h => by have := HT1g.out b h; omega) HYL9.out HYS.out (by omega) (by omega)).mono ?_
  rintro e w13 ⟨rfl, hc, gm⟩
  have hsw13 := hc.size
  replace X := Lib.hid (Sl.frame (R := EN false) EN.framed X.out hc (fun b h1 h2 => by have := HT1g.out b h2; omega))
  replace W0 := Lib.hid (Sl.frame (R := EN false) EN.framed W0.out hc (fun b h1 h2 => by have := HT1g.out b h2; omega))
  replace W1 := Lib.hid (Sl.frame (R := EB false) EB.framed W1.out hc (fun b h1 h2 => by have := HT1g.out b h2; omega))
  clear G0
  replace G1 := Lib.hid (Sl.frame (R := EB true) EB.framed G1.out hc (fun b h1 h2 => HN12.out b h2 h1))
  replace ca0 := (hc.cell (p := ⟨w.heap.size, 0, none⟩) la (fun h2 => by have := HT1g.out _ h2; simp only at this; omega)).trans ca0
  replace ca1 := (hc.cell (p := ⟨w.heap.size, 1, none⟩) la (fun h2 => by have := HT1g.out _ h2; simp only at this; omega)).trans ca1
  replace la : w.heap.size < w13.heap.size := Nat.lt_of_lt_of_le la hsw13
  replace cw0 := (hc.cell (p := ⟨w3.heap.size, 0, none⟩) lw (fun h2 => by have := HT1g.out _ h2; simp only at this; omega)).trans cw0
  replace cw1 := (hc.cell (p := ⟨w3.heap.size, 1, none⟩) lw (fun h2 => by have := HT1g.out _ h2; simp only at this; omega)).trans cw1
  replace lw : w3.heap.size < w13.heap.size := Nat.lt_of_lt_of_le lw hsw13
  replace cx0 := (hc.cell (p := ⟨w4.heap.size, 0, none⟩) lx (fun h2 => by have := HT1g.out _ h2; simp only at this; omega)).trans cx0
  replace cx1 := (hc.cell (p := ⟨w4.heap.size, 1, none⟩) lx (fun h2 => by have := HT1g.out _ h2; simp only at this; omega)).trans cx1
  replace lx : w4.heap.size < w13.heap.size := Nat.lt_of_lt_of_le lx hsw13
  replace cg0 := (hc.cell (p := ⟨w5.heap.size, 0, none⟩) lg (fun h2 => by have := HT1g.out _ h2; simp only at this; omega)).trans cg0
  replace cg1 := (hc.cell (p := ⟨w5.heap.size, 1, none⟩) lg (fun h2 => by have := HT1g.out _ h2; simp only at this; omega)).trans cg1
  replace lg : w5.heap.size < w13.heap.size := Nat.lt_of_lt_of_le lg hsw13
  have HBw13 : Hid (Below w.heap.size w w13) := Lib.hid (HBw12.out.trans (hc.below HBw12.out.size (fun b h => by have := HT1g.out b h; omega)))
  clear hc HBw12
  have GM := Lib.hid gm
  clear gm
  go_wp2_with fail
  refine (markByteSS_any _ _ r.2.2 (1 + (szN r.2.1 : Int)) _ G1.out HBL.out HBS.out (by omega) (by omega) (by omega)).mono ?_
  rintro e w14 ⟨rfl, hc, gn⟩
  have hsw14 := hc.size
  replace X := Lib.hid (Sl.frame (R := EN false) EN.framed X.out hc (fun b h1 h2 => by have := HT2g.out b h2; omega))
  replace W0 := Lib.hid (Sl.frame (R := EN false) EN.framed W0.out hc (fun b h1 h2 => by have := HT2g.out b h2; omega))
  replace W1 := Lib.hid (Sl.frame (R := EB false) EB.framed W1.out hc (fun b h1 h2 => by have := HT2g.out b h2; omega))
  clear G1
  replace GM := Lib.hid (Sl.frame (R := EN true) EN.framed GM.out hc (fun b h1 h2 => HN12.out b h1 h2))
  replace ca0 := (hc.cell (p := ⟨w.heap.size, 0, none⟩) la (fun h2 => by have := HT2g.out _ h2; simp only at this; omega)).trans ca0
  replace ca1 := (hc.cell (p := ⟨w.heap.size, 1, none⟩) la (fun h2 => by have := HT2g.out _ h2; simp only at this; omega)).trans ca1
  replace la : w.heap.size < w14.heap.size := Nat.lt_of_lt_of_le la hsw14
  replace cw0 := (hc.cell (p := ⟨w3.heap.size, 0, none⟩) lw (fun h2 => by have := HT2g.out _ h2; simp only at this; omega)).trans cw0
  replace cw1 := (hc.cell (p := ⟨w3.heap.size, 1, none⟩) lw (fun h2 => by have := HT2g.out _ h2; simp only at this; omega)).trans cw1
  replace lw : w3.heap.size < w14.heap.size := Nat.lt_of_lt_of_le lw hsw14
  replace cx0 := (hc.cell (p := ⟨w4.heap.size, 0, none⟩) lx (fun h2 => by have := HT2g.out _ h2; simp only at this; omega)).trans cx0
  replace cx1 := (hc.cell (p := ⟨w4.heap.size, 1, none⟩) lx (fun h2 => by have := HT2g.out _ h2; simp only at this; omega)).trans cx1
  replace lx : w4.heap.size < w14.heap.size := Nat.lt_of_lt_of_le lx hsw14
  replace cg0 := (hc.cell (p := ⟨w5.heap.size, 0, none⟩) lg (fun h2 => by have := HT2g.out _ h2; simp only at this; omega)).trans cg0
  replace cg1 := (hc.cell (p := ⟨w5.heap.size, 1, none⟩) lg (fun h2 => by have := HT2g.out _ h2; simp only at this; omega)).trans cg1
  replace lg : w5.heap.size < w14.heap.size := Nat.lt_of_lt_of_le lg hsw14
  have HBw14 : Hid (Below w.heap.size w w14) := Lib.hid (HBw13.out.trans (hc.below HBw13.out.size (fun b h => by have := HT2g.out b h; omega)))
  clear hc HBw13
  have GN := Lib.hid gn
  clear gn
  have hk1 : ¬ (1 : Int) + (szN r.2.1 : Int) < 0 := by omega
  have hk2 : ¬ (1 : Int) + (szN r.2.1 : Int) + (sumL r.2.2 : Int) < 0 := by omega
  go_wp2_with fail
  refine (heldROB_any r.1 _ r.2.1.length _ r.2.1 1 _ rfl (SlN.read GM.out) HYL9.out HYS.out (by omega) (by omega)).mono ?_
  rintro e w15 ⟨rfl, hb⟩
  have hbb := hb
  have hsw15 := hbb.size
  replace X := Lib.hid (Sl.below (R := EN false) EN.framed X.out hbb)
  replace W0 := Lib.hid (Sl.below (R := EN false) EN.framed W0.out hbb)
  replace W1 := Lib.hid (Sl.below (R := EB false) EB.framed W1.out hbb)
  replace GM := Lib.hid (Sl.below (R := EN true) EN.framed GM.out hbb)
  replace GN := Lib.hid (Sl.below (R := EB true) EB.framed GN.out hbb)
  replace ca0 := (hbb.cell (p := ⟨w.heap.size, 0, none⟩) la).trans ca0
  replace ca1 := (hbb.cell (p := ⟨w.heap.size, 1, none⟩) la).trans ca1
  replace la : w.heap.size < w15.heap.size := Nat.lt_of_lt_of_le la hsw15
  replace cw0 := (hbb.cell (p := ⟨w3.heap.size, 0, none⟩) lw).trans cw0
  replace cw1 := (hbb.cell (p := ⟨w3.heap.size, 1, none⟩) lw).trans cw1
  replace lw : w3.heap.size < w15.heap.size := Nat.lt_of_lt_of_le lw hsw15
  replace cx0 := (hbb.cell (p := ⟨w4.heap.size, 0, none⟩) lx).trans cx0
  replace cx1 := (hbb.cell (p := ⟨w4.heap.size, 1, none⟩) lx).trans cx1
  replace lx : w4.heap.size < w15.heap.size := Nat.lt_of_lt_of_le lx hsw15
  replace cg0 := (hbb.cell (p := ⟨w5.heap.size, 0, none⟩) lg).trans cg0
  replace cg1 := (hbb.cell (p := ⟨w5.heap.size, 1, none⟩) lg).trans cg1
  replace lg : w5.heap.size < w15.heap.size := Nat.lt_of_lt_of_le lg hsw15
  have HBw15 : Hid (Below w.heap.size w w15) := Lib.hid (HBw14.out.trans (hbb.mono HBw14.out.size))
  clear hbb HBw14
  clear hb
  go_wp2_with fail
  refine (heldSSb _ r.2.2.length _ r.2.2 (1 + (szN r.2.1 : Int)) _ rfl (SlB.read GN.out) HBL.out HBS.out (by omega) (by omega) (by omega)).mono ?_
  rintro e w16 ⟨rfl, hb⟩
  have hbb := hb
  have hsw16 := hbb.size
  replace X := Lib.hid (Sl.below (R := EN false) EN.framed X.out hbb)
  replace W0 := Lib.hid (Sl.below (R := EN false) EN.framed W0.out hbb)
  replace W1 := Lib.hid (Sl.below (R := EB false) EB.framed W1.out hbb)
  replace GM := Lib.hid (Sl.below (R := EN true) EN.framed GM.out hbb)
  replace GN := Lib.hid (Sl.below (R := EB true) EB.framed GN.out hbb)
  replace ca0 := (hbb.cell (p := ⟨w.heap.size, 0, none⟩) la).trans ca0
  replace ca1 := (hbb.cell (p := ⟨w.heap.size, 1, none⟩) la).trans ca1
  replace la : w.heap.size < w16.heap.size := Nat.lt_of_lt_of_le la hsw16
  replace cw0 := (hbb.cell (p := ⟨w3.heap.size, 0, none⟩) lw).trans cw0
  replace cw1 := (hbb.cell (p := ⟨w3.heap.size, 1, none⟩) lw).trans cw1
  replace lw : w3.heap.size < w16.heap.size := Nat.lt_of_lt_of_le lw hsw16
  replace cx0 := (hbb.cell (p := ⟨w4.heap.size, 0, none⟩) lx).trans cx0
  replace cx1 := (hbb.cell (p := ⟨w4.heap.size, 1, none⟩) lx).trans cx1
  replace lx : w4.heap.size < w16.heap.size := Nat.lt_of_lt_of_le lx hsw16
  replace cg0 := (hbb.cell (p := ⟨w5.heap.size, 0, none⟩) lg).trans cg0
  replace cg1 := (hbb.cell (p := ⟨w5.heap.size, 1, none⟩) lg).trans cg1
  replace lg : w5.heap.size < w16.heap.size := Nat.lt_of_lt_of_le lg hsw16
  have HBw16 : Hid (Below w.heap.size w w16) := Lib.hid (HBw15.out.trans (hbb.mono HBw15.out.size))
  clear hbb HBw15
  clear hb
  go_wp2_with fail
  refine (toROB_any st A c xs _ X.out hz1 HM.out).mono ?_
  rintro e w17 ⟨b4, rfl, hb, hb0, hb1, y⟩
  have hbb := hb
  have hsw17 := hbb.size
  replace X := Lib.hid (Sl.below (R := EN false) EN.framed X.out hbb)
  replace W0 := Lib.hid (Sl.below (R := EN false) EN.framed W0.out hbb)
  replace W1 := Lib.hid (Sl.below (R := EB false) EB.framed W1.out hbb)
  replace GM := Lib.hid (Sl.below (R := EN true) EN.framed GM.out hbb)
  replace GN := Lib.hid (Sl.below (R := EB true) EB.framed GN.out hbb)
  replace ca0 := (hbb.cell (p := ⟨w.heap.size, 0, none⟩) la).trans ca0
  replace ca1 := (hbb.cell (p := ⟨w.heap.size, 1, none⟩) la).trans ca1
  replace la : w.heap.size < w17.heap.size := Nat.lt_of_lt_of_le la hsw17
  replace cw0 := (hbb.cell (p := ⟨w3.heap.size, 0, none⟩) lw).trans cw0
  replace cw1 := (hbb.cell (p := ⟨w3.heap.size, 1, none⟩) lw).trans cw1
  replace lw : w3.heap.size < w17.heap.size := Nat.lt_of_lt_of_le lw hsw17
  replace cx0 := (hbb.cell (p := ⟨w4.heap.size, 0, none⟩) lx).trans cx0
  replace cx1 := (hbb.cell (p := ⟨w4.heap.size, 1, none⟩) lx).trans cx1
  replace lx : w4.heap.size < w17.heap.size := Nat.lt_of_lt_of_le lx hsw17
  replace cg0 := (hbb.cell (p := ⟨w5.heap.size, 0, none⟩) lg).trans cg0
  replace cg1 := (hbb.cell (p := ⟨w5.heap.size, 1, none⟩) lg).trans cg1
  replace lg : w5.heap.size < w17.heap.size := Nat.lt_of_lt_of_le lg hsw17
  have HBw17 : Hid (Below w.heap.size w w17) := Lib.hid (HBw16.out.trans (hbb.mono HBw16.out.size))
  clear hbb HBw16
  clear hb
  (try simp only [World.size_alloc, World.size_ext] at y hb0)
  have Z := Lib.hid y
  clear y
  clear hb0 hb1
  go_wp2_with fail
  refine (implMS_any st _ _ xs q _ (SlN.read Z.out) hz1 HM9.out).mono ?_
  rw [← HRR.out]
  rintro e w18 ⟨Ah, ch, gh, dh, T1h, T2h, rfl, hb, _, h1, h2, y, y1, y2⟩
  have hbb := hb
  have hsw18 := hbb.size
  replace X := Lib.hid (Sl.below (R := EN false) EN.framed X.out hbb)
  replace W0 := Lib.hid (Sl.below (R := EN false) EN.framed W0.out hbb)
  replace W1 := Lib.hid (Sl.below (R := EB false) EB.framed W1.out hbb)
  replace GM := Lib.hid (Sl.below (R := EN true) EN.framed GM.out hbb)
  replace GN := Lib.hid (Sl.below (R := EB true) EB.framed GN.out hbb)
  replace Z := Lib.hid (Sl.below (R := EN true) EN.framed Z.out hbb)
  replace ca0 := (hbb.cell (p := ⟨w.heap.size, 0, none⟩) la).trans ca0
  replace ca1 := (hbb.cell (p := ⟨w.heap.size, 1, none⟩) la).trans ca1
  replace la : w.heap.size < w18.heap.size := Nat.lt_of_lt_of_le la hsw18
  replace cw0 := (hbb.cell (p := ⟨w3.heap.size, 0, none⟩) lw).trans cw0
  replace cw1 := (hbb.cell (p := ⟨w3.heap.size, 1, none⟩) lw).trans cw1
  replace lw : w3.heap.size < w18.heap.size := Nat.lt_of_lt_of_le lw hsw18
  replace cx0 := (hbb.cell (p := ⟨w4.heap.size, 0, none⟩) lx).trans cx0
  replace cx1 := (hbb.cell (p := ⟨w4.heap.size, 1, none⟩) lx).trans cx1
  replace lx : w4.heap.size < w18.heap.size := Nat.lt_of_lt_of_le lx hsw18
  replace cg0 := (hbb.cell (p := ⟨w5.heap.size, 0, none⟩) lg).trans cg0
  replace cg1 := (hbb.cell (p := ⟨w5.heap.size, 1, none⟩) lg).trans cg1
  replace lg : w5.heap.size < w18.heap.size := Nat.lt_of_lt_of_le lg hsw18
  have HBw18 : Hid (Below w.heap.size w w18) := Lib.hid (HBw17.out.trans (hbb.mono HBw17.out.size))
  clear hbb HBw17
  clear hb
  clear Z
  replace y1 := y1.slT (fun a ha => by injection ha with ha; subst ha; exact y2)
  clear h1 h2 y2
  have H0 := Lib.hid y
  clear y
  have H1 := Lib.hid y1
  clear y1
  go_wp2_with fail
  refine (eqROB_any (s1 := r.1) (s2 := r.1) (xs := r.2.1) (ys := r.2.1) (b := true) (by simp) _ _ _ _ _ (SlN.read (Sl.below (R := EN true) EN.framed H0.out (by repeat (first | (with_reducible exact Below.refl _ _) | (with_reducible refine Below.ext ?_ (by go_size) _ _) | (with_reducible refine Below.alloc ?_ (by go_size) _) | (with_reducible refine Below.setCell ?_ (by go_size) _) | (with_reducible refine Below.drew ?_) | (with_reducible refine Below.drewN_ ?_ _))))) (Sl.below (R := EN false) EN.framed W0.out (by repeat (first | (with_reducible exact Below.refl _ _) | (with_reducible refine Below.ext ?_ (by go_size) _ _) | (with_reducible refine Below.alloc ?_ (by go_size) _) | (with_reducible refine Below.setCell ?_ (by go_size) _) | (with_reducible refine Below.drew ?_) | (with_reducible refine Below.drewN_ ?_ _)))) HYL.out HYL.out HYM.out HYM.out).mono ?_
  rintro e w19 ⟨rfl, hb⟩
  have hbb : Below w18.heap.size w18 w19 := by
    refine Below.trans ?_ (Below.mono hb ?_)
    · exact (by repeat (first | (with_reducible exact Below.refl _ _) | (with_reducible refine Below.ext ?_ (by go_size) _ _) | (with_reducible refine Below.alloc ?_ (by go_size) _) | (with_reducible refine Below.setCell ?_ (by go_size) _) | (with_reducible refine Below.drew ?_) | (with_reducible refine Below.drewN_ ?_ _)))
    · (simp; try omega)
  have hsw19 := hbb.size
  replace X := Lib.hid (Sl.below (R := EN false) EN.framed X.out hbb)
  replace W0 := Lib.hid (Sl.below (R := EN false) EN.framed W0.out hbb)
  replace W1 := Lib.hid (Sl.below (R := EB false) EB.framed W1.out hbb)
  replace GM := Lib.hid (Sl.below (R := EN true) EN.framed GM.out hbb)
  replace GN := Lib.hid (Sl.below (R := EB true) EB.framed GN.out hbb)
  replace H0 := Lib.hid (Sl.below (R := EN true) EN.framed H0.out hbb)
  replace H1 := Lib.hid (Sl.below (R := EB true) EB.framed H1.out hbb)
  replace ca0 := (hbb.cell (p := ⟨w.heap.size, 0, none⟩) la).trans ca0
  replace ca1 := (hbb.cell (p := ⟨w.heap.size, 1, none⟩) la).trans ca1
  replace la : w.heap.size < w19.heap.size := Nat.lt_of_lt_of_le la hsw19
  replace cw0 := (hbb.cell (p := ⟨w3.heap.size, 0, none⟩) lw).trans cw0
  replace cw1 := (hbb.cell (p := ⟨w3.heap.size, 1, none⟩) lw).trans cw1
  replace lw : w3.heap.size < w19.heap.size := Nat.lt_of_lt_of_le lw hsw19
  replace cx0 := (hbb.cell (p := ⟨w4.heap.size, 0, none⟩) lx).trans cx0
  replace cx1 := (hbb.cell (p := ⟨w4.heap.size, 1, none⟩) lx).trans cx1
  replace lx : w4.heap.size < w19.heap.size := Nat.lt_of_lt_of_le lx hsw19
  replace cg0 := (hbb.cell (p := ⟨w5.heap.size, 0, none⟩) lg).trans cg0
  replace cg1 := (hbb.cell (p := ⟨w5.heap.size, 1, none⟩) lg).trans cg1
  replace lg : w5.heap.size < w19.heap.size := Nat.lt_of_lt_of_le lg hsw19
  have ch0 : w19.cell? ⟨w18.heap.size, 0, none⟩ = some (.int .i64 r.1) := (hb.cell (p := ⟨w18.heap.size, 0, none⟩) (by simp; try omega)).trans (by simp [go_sem])
  have ch1 : w19.cell? ⟨w18.heap.size, 1, none⟩ = some (.slice Ah r.2.1.length ch) := (hb.cell (p := ⟨w18.heap.size, 1, none⟩) (by simp; try omega)).trans (by simp [go_sem])
  have lh : w18.heap.size < w19.heap.size := by have := hb.size; simp at this; omega
  have ph := lh
  have HBw19 : Hid (Below w.heap.size w w19) := Lib.hid (HBw18.out.trans (hbb.mono HBw18.out.size))
  clear hbb HBw18
  clear hb
  go_wp2_with fail
  refine (eqSSb _ _ _ _ r.2.2 _ (SlB.read H1.out) W1.out HBL.out HBM.out).mono ?_
  rintro e w20 ⟨rfl, hb⟩
  have hbb := hb
  have hsw20 := hbb.size
  replace X := Lib.hid (Sl.below (R := EN false) EN.framed X.out hbb)
  replace W0 := Lib.hid (Sl.below (R := EN false) EN.framed W0.out hbb)
  replace W1 := Lib.hid (Sl.below (R := EB false) EB.framed W1.out hbb)
  replace GM := Lib.hid (Sl.below (R := EN true) EN.framed GM.out hbb)
  replace GN := Lib.hid (Sl.below (R := EB true) EB.framed GN.out hbb)
  replace H0 := Lib.hid (Sl.below (R := EN true) EN.framed H0.out hbb)
  replace H1 := Lib.hid (Sl.below (R := EB true) EB.framed H1.out hbb)
  replace ca0 := (hbb.cell (p := ⟨w.heap.size, 0, none⟩) la).trans ca0
  replace ca1 := (hbb.cell (p := ⟨w.heap.size, 1, none⟩) la).trans ca1
  replace la : w.heap.size < w20.heap.size := Nat.lt_of_lt_of_le la hsw20
  replace cw0 := (hbb.cell (p := ⟨w3.heap.size, 0, none⟩) lw).trans cw0
  replace cw1 := (hbb.cell (p := ⟨w3.heap.size, 1, none⟩) lw).trans cw1
  replace lw : w3.heap.size < w20.heap.size := Nat.lt_of_lt_of_le lw hsw20
  replace cx0 := (hbb.cell (p := ⟨w4.heap.size, 0, none⟩) lx).trans cx0
  replace cx1 := (hbb.cell (p := ⟨w4.heap.size, 1, none⟩) lx).trans cx1
  replace lx : w4.heap.size < w20.heap.size := Nat.lt_of_lt_of_le lx hsw20
  replace cg0 := (hbb.cell (p := ⟨w5.heap.size, 0, none⟩) lg).trans cg0
  replace cg1 := (hbb.cell (p := ⟨w5.heap.size, 1, none⟩) lg).trans cg1
  replace lg : w5.heap.size < w20.heap.size := Nat.lt_of_lt_of_le lg hsw20
  replace ch0 := (hbb.cell (p := ⟨w18.heap.size, 0, none⟩) lh).trans ch0
  replace ch1 := (hbb.cell (p := ⟨w18.heap.size, 1, none⟩) lh).trans ch1
  replace lh : w18.heap.size < w20.heap.size := Nat.lt_of_lt_of_le lh hsw20
  have HBw20 : Hid (Below w.heap.size w w20) := Lib.hid (HBw19.out.trans (hbb.mono HBw19.out.size))
  clear hbb HBw19
  clear hb
  go_wp2_with fail
  refine (heldROB_any r.1 _ r.2.1.length _ r.2.1 1 _ rfl (SlN.read GM.out) HYL9.out HYS.out (by omega) (by omega)).mono ?_
  rintro e w21 ⟨rfl, hb⟩
  have hbb := hb
  have hsw21 := hbb.size
  replace X := Lib.hid (Sl.below (R := EN false) EN.framed X.out hbb)
  replace W0 := Lib.hid (Sl.below (R := EN false) EN.framed W0.out hbb)
  replace W1 := Lib.hid (Sl.below (R := EB false) EB.framed W1.out hbb)
  replace GM := Lib.hid (Sl.below (R := EN true) EN.framed GM.out hbb)
  replace GN := Lib.hid (Sl.below (R := EB true) EB.framed GN.out hbb)
  replace H0 := Lib.hid (Sl.below (R := EN true) EN.framed H0.out hbb)
  replace H1 := Lib.hid (Sl.below (R := EB true) EB.framed H1.out hbb)
  replace ca0 := (hbb.cell (p := ⟨w.heap.size, 0, none⟩) la).trans ca0
  replace ca1 := (hbb.cell (p := ⟨w.heap.size, 1, none⟩) la).trans ca1
  replace la : w.heap.size < w21.heap.size := Nat.lt_of_lt_of_le la hsw21
  replace cw0 := (hbb.cell (p := ⟨w3.heap.size, 0, none⟩) lw).trans cw0
  replace cw1 := (hbb.cell (p := ⟨w3.heap.size, 1, none⟩) lw).trans cw1
  replace lw : w3.heap.size < w21.heap.size := Nat.lt_of_lt_of_le lw hsw21
  replace cx0 := (hbb.cell (p := ⟨w4.heap.size, 0, none⟩) lx).trans cx0
  replace cx1 := (hbb.cell (p := ⟨w4.heap.size, 1, none⟩) lx).trans cx1
  replace lx : w4.heap.size < w21.heap.size := Nat.lt_of_lt_of_le lx hsw21
  replace cg0 := (hbb.cell (p := ⟨w5.heap.size, 0, none⟩) lg).trans cg0
  replace cg1 := (hbb.cell (p := ⟨w5.heap.size, 1, none⟩) lg).trans cg1
  replace lg : w5.heap.size < w21.heap.size := Nat.lt_of_lt_of_le lg hsw21
  replace ch0 := (hbb.cell (p := ⟨w18.heap.size, 0, none⟩) lh).trans ch0
  replace ch1 := (hbb.cell (p := ⟨w18.heap.size, 1, none⟩) lh).trans ch1
  replace lh : w18.heap.size < w21.heap.size := Nat.lt_of_lt_of_le lh hsw21
  have HBw21 : Hid (Below w.heap.size w w21) := Lib.hid (HBw20.out.trans (hbb.mono HBw20.out.size))
  clear hbb HBw20
  clear hb
  go_wp2_with fail
  refine (heldSSb _ r.2.2.length _ r.2.2 (1 + (szN r.2.1 : Int)) _ rfl (SlB.read GN.out) HBL.out HBS.out (by omega) (by omega) (by omega)).mono ?_
  rintro e w22 ⟨rfl, hb⟩
  have hbb := hb
  have hsw22 := hbb.size
  replace X := Lib.hid (Sl.below (R := EN false) EN.framed X.out hbb)
  replace W0 := Lib.hid (Sl.below (R := EN false) EN.framed W0.out hbb)
  replace W1 := Lib.hid (Sl.below (R := EB false) EB.framed W1.out hbb)
  replace GM := Lib.hid (Sl.below (R := EN true) EN.framed GM.out hbb)
  replace GN := Lib.hid (Sl.below (R := EB true) EB.framed GN.out hbb)
  replace H0 := Lib.hid (Sl.below (R := EN true) EN.framed H0.out hbb)
  replace H1 := Lib.hid (Sl.below (R := EB true) EB.framed H1.out hbb)
  replace ca0 := (hbb.cell (p := ⟨w.heap.size, 0, none⟩) la).trans ca0
  replace ca1 := (hbb.cell (p := ⟨w.heap.size, 1, none⟩) la).trans ca1
  replace la : w.heap.size < w22.heap.size := Nat.lt_of_lt_of_le la hsw22
  replace cw0 := (hbb.cell (p := ⟨w3.heap.size, 0, none⟩) lw).trans cw0
  replace cw1 := (hbb.cell (p := ⟨w3.heap.size, 1, none⟩) lw).trans cw1
  replace lw : w3.heap.size < w22.heap.size := Nat.lt_of_lt_of_le lw hsw22
  replace cx0 := (hbb.cell (p := ⟨w4.heap.size, 0, none⟩) lx).trans cx0
  replace cx1 := (hbb.cell (p := ⟨w4.heap.size, 1, none⟩) lx).trans cx1
  replace lx : w4.heap.size < w22.heap.size := Nat.lt_of_lt_of_le lx hsw22
  replace cg0 := (hbb.cell (p := ⟨w5.heap.size, 0, none⟩) lg).trans cg0
  replace cg1 := (hbb.cell (p := ⟨w5.heap.size, 1, none⟩) lg).trans cg1
  replace lg : w5.heap.size < w22.heap.size := Nat.lt_of_lt_of_le lg hsw22
  replace ch0 := (hbb.cell (p := ⟨w18.heap.size, 0, none⟩) lh).trans ch0
  replace ch1 := (hbb.cell (p := ⟨w18.heap.size, 1, none⟩) lh).trans ch1
  replace lh : w18.heap.size < w22.heap.size := Nat.lt_of_lt_of_le lh hsw22
  have HBw22 : Hid (Below w.heap.size w w22) := Lib.hid (HBw21.out.trans (hbb.mono HBw21.out.size))
  clear hbb HBw21
  clear hb
  go_wp2
  go_ret
  exact ⟨rfl, HBw22.out⟩

end Go.Proofs.Ytnfgdgmmbddmgaa
