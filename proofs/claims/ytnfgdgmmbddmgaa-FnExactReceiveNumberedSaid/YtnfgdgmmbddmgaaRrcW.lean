/- The walk of FnExactReceiveNumbered. -/
import Derived.Test.YtnfgdgmmbddmgaaRrcI
import Derived.Test.YtnfgdgmmbddmgaaRrcS
import Derived.Test.YtnfgdgmmbddmgaaToByteS
import Derived.Test.YtnfgdgmmbddmgaaByteS
namespace Go.Proofs.Ytnfgdgmmbddmgaa
open Go.RowKit
set_option linter.unusedVariables false
set_option linter.unusedSimpArgs false

theorem insI_sum (st : Int) (f : NF) : ∀ xs, sumN (insI st f xs) = sumN xs + f.2.length
  | [] => by simp [insI, sumN]
  | x :: xs => by
    unfold insI; split
    · simp [sumN]; omega
    · have := insI_sum st f xs
      simp [sumN] at this ⊢
      omega
theorem rcvI_sum (st q : Int) (body : List Int) (xs : List NF) : sumL (rcvI st q body xs).2.2 + sumN (rcvI st q body xs).2.1 ≤ sumN xs + body.length ∧ (rcvI st q body xs).2.2.length + (rcvI st q body xs).2.1.length ≤ xs.length + 1 := by
  unfold rcvI
  split
  · split
    · have h1 := relR_sum (insI (moveR st ((q - 15) % 4096) xs).1 (q, body) (moveR st ((q - 15) % 4096) xs).2.1) (moveR st ((q - 15) % 4096) xs).1 (moveR st ((q - 15) % 4096) xs).2.2
      have h2 := moveR_sum st ((q - 15) % 4096) xs
      rw [insI_sum, insI_len] at h1
      simp only at h1
      omega
    · have h1 := relR_sum (insI st (q, body) xs) st []
      rw [insI_sum, insI_len] at h1
      simp [sumL] at h1 ⊢
      omega
  · simp [sumL]
theorem toByteSb {u : Bool} {T : Nat → Prop} (A : Option Addr) (c : Nat) (xs : List Int) (w : World) (hx : Rw u .u8 w T A xs) (hm : xs.length ≤ 1000000000000) :
    Calls Try.prog 23 #[.slice A xs.length c] w fun e w' => e = .returned (.slice (some ⟨w.heap.size, 0, none⟩) xs.length xs.length) ∧ Below w.heap.size w w' ∧ Rw true .u8 w' (fun b => b = w.heap.size ∧ b < w'.heap.size) (some ⟨w.heap.size, 0, none⟩) xs :=
  (toByteS_any A c xs w hx.rwF hm).mono fun _ _ ⟨X, d, h1, h2, h3⟩ => ⟨h1, by rw [h2]; exact Below.ext (Below.refl _ _) (Nat.le_refl _) X d, h3.rw.inW⟩

set_option maxRecDepth 10000 in
set_option maxHeartbeats 4000000 in
theorem receiveNumbered_walk (st : Int) (A : Option Addr) (c : Nat) (xs : List NF) (q : Int) (B : Option Addr) (cb : Nat) (body : List Int) (hst : I64 st) (hq : I64 q) (w : World) (hx : Sl false 2 (EN false) w (fun g => g < w.heap.size) A xs) (hlen : xs.length ≤ 9223372036854775807) (hb : ∀ x ∈ xs, I64 x.1 ∧ x.2.length ≤ 9223372036854775807 ∧ ∀ z ∈ x.2, 0 ≤ z ∧ z ≤ 255) (hxb : Rw false .u8 w (fun g => g < w.heap.size) B body) (hlb : body.length ≤ 9223372036854775807) (hbb : ∀ y ∈ body, 0 ≤ y ∧ y ≤ 255) :
    Calls Try.prog 4 #[.agg #[.int .i64 st, .slice A xs.length c], .int .i64 q, .slice B body.length cb] w fun e w' => e = .returned (.bool true) ∧ Below w.heap.size w w' := by
  have X := Lib.hid hx
  have HZ := Lib.hid (fun x h => (hb x h).2.1)
  have HBY := Lib.hid hb
  have BX := Lib.hid hxb
  clear hx hb hxb hbb hq
  by_cases hbo : 1048576 < body.length
  · have hbo2 : (1048576 : Int) < (body.length : Int) := by omega
    go_enter Try.func4, Try.ntmps4
    go_wp2
    go_ret
    exact ⟨rfl, (by repeat (first | (with_reducible exact Below.refl _ _) | (with_reducible refine Below.ext ?_ (by go_size) _ _) | (with_reducible refine Below.alloc ?_ (by go_size) _) | (with_reducible refine Below.setCell ?_ (by go_size) _) | (with_reducible refine Below.drew ?_) | (with_reducible refine Below.drewN_ ?_ _)))⟩
  have hbo2 : ¬ (1048576 : Int) < (body.length : Int) := by omega
  have hbo12 : body.length ≤ 1000000000000 := by omega
  have hbo9 : body.length ≤ 1000000000 := by omega
  by_cases hbig : 1048576 < szN xs
  · have hz : Hid (szO (szN xs) 1048576 = -1) := Lib.hid (if_neg (by omega))
    go_enter Try.func4, Try.ntmps4
    go_wp2_with fail
    refine (szROB_any st A c xs 1048576 _ (Sl.below (R := EN false) EN.framed X.out (by repeat (first | (with_reducible exact Below.refl _ _) | (with_reducible refine Below.ext ?_ (by go_size) _ _) | (with_reducible refine Below.alloc ?_ (by go_size) _) | (with_reducible refine Below.setCell ?_ (by go_size) _) | (with_reducible refine Below.drew ?_) | (with_reducible refine Below.drewN_ ?_ _)))) hlen HZ.out (by omega) (by omega)).mono ?_
    rw [hz.out]
    rintro e w' ⟨rfl, hb⟩
    obtain ⟨X', d', rfl⟩ := Below.ext_ hb
    clear hb
    go_wp2
    go_ret
    exact ⟨rfl, (by repeat (first | (with_reducible exact Below.refl _ _) | (with_reducible refine Below.ext ?_ (by go_size) _ _) | (with_reducible refine Below.alloc ?_ (by go_size) _) | (with_reducible refine Below.setCell ?_ (by go_size) _) | (with_reducible refine Below.drew ?_) | (with_reducible refine Below.drewN_ ?_ _)))⟩
  have hz : Hid (szO (szN xs) 1048576 = 1048576 - (szN xs : Int)) := Lib.hid (if_pos (by omega))
  have hz0 : ¬ 1048576 - (szN xs : Int) < 0 := by omega
  have hz1 : xs.length ≤ 1000000000 := by unfold szN at hbig; omega
  have HM : Hid (∀ x ∈ xs, x.2.length ≤ 1000000000000) := Lib.hid (fun x h => by have := sumN_mem h; unfold szN at hbig; omega)
  have HM9 : Hid (∀ x ∈ xs, x.2.length ≤ 1000000000) := Lib.hid (fun x h => by have := sumN_mem h; unfold szN at hbig; omega)
  have HS20 : Hid (szN xs ≤ 1048576) := Lib.hid (by omega)
  have hz8 : xs.length ≤ 100000000 := by unfold szN at hbig; omega
  obtain ⟨r, hr⟩ : ∃ r, r = rcvI st q body xs := ⟨_, rfl⟩
  have HRR := Lib.hid hr
  have HRS : Hid (r = rcvS st q body xs) := Lib.hid (hr.trans (rcv_eq st q body xs))
  have hsum := rcvI_sum st q body xs
  rw [← hr] at hsum
  have hss : sumN xs ≤ 1048576 ∧ xs.length ≤ 1048576 := by unfold szN at hbig; omega
  have HYL : Hid (r.2.1.length ≤ 1000000000000) := Lib.hid (by omega)
  have HYL9 : Hid (r.2.1.length ≤ 1000000000) := Lib.hid (by omega)
  have HYS : Hid (szN r.2.1 ≤ 1000000000) := Lib.hid (by unfold szN; omega)
  have hys : (szN r.2.1 : Int) ≤ 8388608 := by unfold szN; omega
  have HYM : Hid (∀ x ∈ r.2.1, x.2.length ≤ 1000000000000) := Lib.hid (fun x h => by have := sumN_mem h; omega)
  have HBL : Hid (r.2.2.length ≤ 1000000000000) := Lib.hid (by omega)
  have HBS : Hid (sumL r.2.2 ≤ 1000000000000) := Lib.hid (by omega)
  have hbs : (sumL r.2.2 : Int) ≤ 4194304 := by omega
  have HBM : Hid (∀ x ∈ r.2.2, x.length ≤ 1000000000000) := Lib.hid (fun x h => by have := sumL_mem h; omega)
  clear hr hsum hss
  clear hbig hst
  go_enter Try.func4, Try.ntmps4
  have HBw : Hid (Below w.heap.size w w) := Lib.hid (Below.refl _ _)
  go_wp2_with fail
  refine (szROB_any st A c xs 1048576 _ (Sl.below (R := EN false) EN.framed X.out (by repeat (first | (with_reducible exact Below.refl _ _) | (with_reducible refine Below.ext ?_ (by go_size) _ _) | (with_reducible refine Below.alloc ?_ (by go_size) _) | (with_reducible refine Below.setCell ?_ (by go_size) _) | (with_reducible refine Below.drew ?_) | (with_reducible refine Below.drewN_ ?_ _)))) hlen HZ.out (by omega) (by omega)).mono ?_
  rw [hz.out]
  rintro e w1 ⟨rfl, hb⟩
  have hbb : Below w.heap.size w w1 := by
    refine Below.trans ?_ (Below.mono hb ?_)
    · exact (by repeat (first | (with_reducible exact Below.refl _ _) | (with_reducible refine Below.ext ?_ (by go_size) _ _) | (with_reducible refine Below.alloc ?_ (by go_size) _) | (with_reducible refine Below.setCell ?_ (by go_size) _) | (with_reducible refine Below.drew ?_) | (with_reducible refine Below.drewN_ ?_ _)))
    · (simp; try omega)
  have hsw1 := hbb.size
  replace X := Lib.hid (Sl.below (R := EN false) EN.framed X.out hbb)
  replace BX := Lib.hid (BX.out.below hbb)
  have ca0 : w1.cell? ⟨w.heap.size, 0, none⟩ = some (.int .i64 st) := (hb.cell (p := ⟨w.heap.size, 0, none⟩) (by simp; try omega)).trans (by simp [go_sem])
  have ca1 : w1.cell? ⟨w.heap.size, 1, none⟩ = some (.slice A xs.length c) := (hb.cell (p := ⟨w.heap.size, 1, none⟩) (by simp; try omega)).trans (by simp [go_sem])
  have la : w.heap.size < w1.heap.size := by have := hb.size; simp at this; omega
  have pa := la
  have HBw1 : Hid (Below w.heap.size w w1) := Lib.hid (HBw.out.trans (hbb.mono HBw.out.size))
  clear hbb HBw
  clear hb
  go_wp2_with fail
  refine (toROB_any st A c xs _ X.out hz1 HM.out).mono ?_
  rintro e w2 ⟨b1, rfl, hb, hb0, hb1, y⟩
  have hbb := hb
  have hsw2 := hbb.size
  replace X := Lib.hid (Sl.below (R := EN false) EN.framed X.out hbb)
  replace BX := Lib.hid (BX.out.below hbb)
  replace ca0 := (hbb.cell (p := ⟨w.heap.size, 0, none⟩) la).trans ca0
  replace ca1 := (hbb.cell (p := ⟨w.heap.size, 1, none⟩) la).trans ca1
  replace la : w.heap.size < w2.heap.size := Nat.lt_of_lt_of_le la hsw2
  have HBw2 : Hid (Below w.heap.size w w2) := Lib.hid (HBw1.out.trans (hbb.mono HBw1.out.size))
  clear hbb HBw1
  clear hb
  (try simp only [World.size_alloc, World.size_ext] at y hb0)
  have Y := Lib.hid y
  clear y
  clear hb0 hb1
  go_wp2_with fail
  refine (toByteSb B cb body _ BX.out hbo12).mono ?_
  rintro e w3 ⟨rfl, hb, y⟩
  have hbb := hb
  have hsw3 := hbb.size
  replace X := Lib.hid (Sl.below (R := EN false) EN.framed X.out hbb)
  replace BX := Lib.hid (BX.out.below hbb)
  replace Y := Lib.hid (Sl.below (R := EN true) EN.framed Y.out hbb)
  replace ca0 := (hbb.cell (p := ⟨w.heap.size, 0, none⟩) la).trans ca0
  replace ca1 := (hbb.cell (p := ⟨w.heap.size, 1, none⟩) la).trans ca1
  replace la : w.heap.size < w3.heap.size := Nat.lt_of_lt_of_le la hsw3
  have HBw3 : Hid (Below w.heap.size w w3) := Lib.hid (HBw2.out.trans (hbb.mono HBw2.out.size))
  clear hbb HBw2
  clear hb
  (try simp only [World.size_alloc, World.size_ext] at y)
  have BY := Lib.hid y
  clear y
  go_wp2_with fail
  refine (specRN_any st _ _ xs q _ _ body _ (SlN.read Y.out) hz8 HM9.out (Rw.read BY.out) hbo9).mono ?_
  rw [← HRS.out]
  rintro e w4 ⟨Aw, cw, gw, dw, Tw1, Tw2, rfl, hb, _, h1, h2, y, y1, y2⟩
  have hbb := hb
  have hsw4 := hbb.size
  replace X := Lib.hid (Sl.below (R := EN false) EN.framed X.out hbb)
  replace BX := Lib.hid (BX.out.below hbb)
  replace Y := Lib.hid (Sl.below (R := EN true) EN.framed Y.out hbb)
  replace BY := Lib.hid (BY.out.below hbb)
  replace ca0 := (hbb.cell (p := ⟨w.heap.size, 0, none⟩) la).trans ca0
  replace ca1 := (hbb.cell (p := ⟨w.heap.size, 1, none⟩) la).trans ca1
  replace la : w.heap.size < w4.heap.size := Nat.lt_of_lt_of_le la hsw4
  have HBw4 : Hid (Below w.heap.size w w4) := Lib.hid (HBw3.out.trans (hbb.mono HBw3.out.size))
  clear hbb HBw3
  clear hb
  clear Y
  clear BY
  replace y := Sl.wider (T' := fun b => b < w4.heap.size) (SlN.read y) (fun b h => (h1 b h).2.1)
  replace y1 := Sl.wider (T' := fun b => b < w4.heap.size) (SlB.read (u := true) (y1.slT (fun a ha => by injection ha with ha; subst ha; exact y2))) (fun b h => (h2 b h).2)
  clear h1 h2 y2
  have W0 := Lib.hid y
  clear y
  have W1 := Lib.hid y1
  clear y1
  go_wp2_with fail
  refine (toROB_any st A c xs _ (Sl.below (R := EN false) EN.framed X.out (by repeat (first | (with_reducible exact Below.refl _ _) | (with_reducible refine Below.ext ?_ (by go_size) _ _) | (with_reducible refine Below.alloc ?_ (by go_size) _) | (with_reducible refine Below.setCell ?_ (by go_size) _) | (with_reducible refine Below.drew ?_) | (with_reducible refine Below.drewN_ ?_ _)))) hz1 HM.out).mono ?_
  rintro e w5 ⟨b2, rfl, hb, hb0, hb1, y⟩
  have hbb : Below w4.heap.size w4 w5 := by
    refine Below.trans ?_ (Below.mono hb ?_)
    · exact (by repeat (first | (with_reducible exact Below.refl _ _) | (with_reducible refine Below.ext ?_ (by go_size) _ _) | (with_reducible refine Below.alloc ?_ (by go_size) _) | (with_reducible refine Below.setCell ?_ (by go_size) _) | (with_reducible refine Below.drew ?_) | (with_reducible refine Below.drewN_ ?_ _)))
    · (simp; try omega)
  have hsw5 := hbb.size
  replace X := Lib.hid (Sl.below (R := EN false) EN.framed X.out hbb)
  replace BX := Lib.hid (BX.out.below hbb)
  replace W0 := Lib.hid (Sl.below (R := EN false) EN.framed W0.out hbb)
  replace W1 := Lib.hid (Sl.below (R := EB false) EB.framed W1.out hbb)
  replace ca0 := (hbb.cell (p := ⟨w.heap.size, 0, none⟩) la).trans ca0
  replace ca1 := (hbb.cell (p := ⟨w.heap.size, 1, none⟩) la).trans ca1
  replace la : w.heap.size < w5.heap.size := Nat.lt_of_lt_of_le la hsw5
  have cw0 : w5.cell? ⟨w4.heap.size, 0, none⟩ = some (.int .i64 r.1) := (hb.cell (p := ⟨w4.heap.size, 0, none⟩) (by simp; try omega)).trans (by simp [go_sem])
  have cw1 : w5.cell? ⟨w4.heap.size, 1, none⟩ = some (.slice Aw r.2.1.length cw) := (hb.cell (p := ⟨w4.heap.size, 1, none⟩) (by simp; try omega)).trans (by simp [go_sem])
  have lw : w4.heap.size < w5.heap.size := by have := hb.size; simp at this; omega
  have pw := lw
  have HBw5 : Hid (Below w.heap.size w w5) := Lib.hid (HBw4.out.trans (hbb.mono HBw4.out.size))
  clear hbb HBw4
  clear hb
  (try simp only [World.size_alloc, World.size_ext] at y hb0)
  have Y := Lib.hid y
  clear y
  clear hb0 hb1
  go_wp2_with fail
  refine (toByteSb B cb body _ (BX.out.below (by repeat (first | (with_reducible exact Below.refl _ _) | (with_reducible refine Below.ext ?_ (by go_size) _ _) | (with_reducible refine Below.alloc ?_ (by go_size) _) | (with_reducible refine Below.setCell ?_ (by go_size) _) | (with_reducible refine Below.drew ?_) | (with_reducible refine Below.drewN_ ?_ _)))) hbo12).mono ?_
  rintro e w6 ⟨rfl, hb, y⟩
  have hbb : Below w5.heap.size w5 w6 := by
    refine Below.trans ?_ (Below.mono hb ?_)
    · exact (by repeat (first | (with_reducible exact Below.refl _ _) | (with_reducible refine Below.ext ?_ (by go_size) _ _) | (with_reducible refine Below.alloc ?_ (by go_size) _) | (with_reducible refine Below.setCell ?_ (by go_size) _) | (with_reducible refine Below.drew ?_) | (with_reducible refine Below.drewN_ ?_ _)))
    · (simp; try omega)
  have hsw6 := hbb.size
  replace X := Lib.hid (Sl.below (R := EN false) EN.framed X.out hbb)
  replace BX := Lib.hid (BX.out.below hbb)
  replace W0 := Lib.hid (Sl.below (R := EN false) EN.framed W0.out hbb)
  replace W1 := Lib.hid (Sl.below (R := EB false) EB.framed W1.out hbb)
  replace Y := Lib.hid (Sl.below (R := EN true) EN.framed Y.out hbb)
  replace ca0 := (hbb.cell (p := ⟨w.heap.size, 0, none⟩) la).trans ca0
  replace ca1 := (hbb.cell (p := ⟨w.heap.size, 1, none⟩) la).trans ca1
  replace la : w.heap.size < w6.heap.size := Nat.lt_of_lt_of_le la hsw6
  replace cw0 := (hbb.cell (p := ⟨w4.heap.size, 0, none⟩) lw).trans cw0
  replace cw1 := (hbb.cell (p := ⟨w4.heap.size, 1, none⟩) lw).trans cw1
  replace lw : w4.heap.size < w6.heap.size := Nat.lt_of_lt_of_le lw hsw6
  have cx0 : w6.cell? ⟨w5.heap.size, 0, none⟩ = some (.int .i64 st) := (hb.cell (p := ⟨w5.heap.size, 0, none⟩) (by simp; try omega)).trans (by simp [go_sem])
  have cx1 : w6.cell? ⟨w5.heap.size, 1, none⟩ = some (.slice (some ⟨b2, 0, none⟩) xs.length xs.length) := (hb.cell (p := ⟨w5.heap.size, 1, none⟩) (by simp; try omega)).trans (by simp [go_sem])
  have lx : w5.heap.size < w6.heap.size := by have := hb.size; simp at this; omega
  have px := lx
  have HBw6 : Hid (Below w.heap.size w w6) := Lib.hid (HBw5.out.trans (hbb.mono HBw5.out.size))
  clear hbb HBw5
  clear hb
  (try simp only [World.size_alloc, World.size_ext] at y)
  have BY := Lib.hid y
  clear y
  go_wp2_with fail
  refine (implRN_any st _ _ xs q _ _ body _ (SlN.read Y.out) hz8 HM9.out (Rw.read BY.out) hbo9).mono ?_
  rw [← HRR.out]
  rintro e w7 ⟨Ag, cg, gg, dg, T1g, T2g, rfl, hb, _, h1, h2, y, y1, y2⟩
  have hbb := hb
  have hsw7 := hbb.size
  replace X := Lib.hid (Sl.below (R := EN false) EN.framed X.out hbb)
  replace BX := Lib.hid (BX.out.below hbb)
  replace W0 := Lib.hid (Sl.below (R := EN false) EN.framed W0.out hbb)
  replace W1 := Lib.hid (Sl.below (R := EB false) EB.framed W1.out hbb)
  replace Y := Lib.hid (Sl.below (R := EN true) EN.framed Y.out hbb)
  replace BY := Lib.hid (BY.out.below hbb)
  replace ca0 := (hbb.cell (p := ⟨w.heap.size, 0, none⟩) la).trans ca0
  replace ca1 := (hbb.cell (p := ⟨w.heap.size, 1, none⟩) la).trans ca1
  replace la : w.heap.size < w7.heap.size := Nat.lt_of_lt_of_le la hsw7
  replace cw0 := (hbb.cell (p := ⟨w4.heap.size, 0, none⟩) lw).trans cw0
  replace cw1 := (hbb.cell (p := ⟨w4.heap.size, 1, none⟩) lw).trans cw1
  replace lw : w4.heap.size < w7.heap.size := Nat.lt_of_lt_of_le lw hsw7
  replace cx0 := (hbb.cell (p := ⟨w5.heap.size, 0, none⟩) lx).trans cx0
  replace cx1 := (hbb.cell (p := ⟨w5.heap.size, 1, none⟩) lx).trans cx1
  replace lx : w5.heap.size < w7.heap.size := Nat.lt_of_lt_of_le lx hsw7
  have HBw7 : Hid (Below w.heap.size w w7) := Lib.hid (HBw6.out.trans (hbb.mono HBw6.out.size))
  clear hbb HBw6
  clear hb
  (try simp only [World.size_alloc, World.size_ext] at h1 h2)
  have HT1g := Lib.hid (fun b h => (⟨(h1 b h).1, (h1 b h).2.1⟩ : _ ∧ _))
  have HT2g := Lib.hid h2
  have HN12 := Lib.hid (fun b h => (h1 b h).2.2)
  replace y1 := y1.slT (fun a ha => by injection ha with ha; subst ha; exact y2)
  clear h1 h2 y2
  have G0 := Lib.hid y
  clear y
  have G1 := Lib.hid y1
  clear y1
  go_wp2_with fail
  refine (eqROB_any (s1 := r.1) (s2 := r.1) (xs := r.2.1) (ys := r.2.1) (b := true) (by simp) _ _ _ _ _ (SlN.read (Sl.below (R := EN true) EN.framed G0.out (by repeat (first | (with_reducible exact Below.refl _ _) | (with_reducible refine Below.ext ?_ (by go_size) _ _) | (with_reducible refine Below.alloc ?_ (by go_size) _) | (with_reducible refine Below.setCell ?_ (by go_size) _) | (with_reducible refine Below.drew ?_) | (with_reducible refine Below.drewN_ ?_ _))))) (Sl.below (R := EN false) EN.framed W0.out (by repeat (first | (with_reducible exact Below.refl _ _) | (with_reducible refine Below.ext ?_ (by go_size) _ _) | (with_reducible refine Below.alloc ?_ (by go_size) _) | (with_reducible refine Below.setCell ?_ (by go_size) _) | (with_reducible refine Below.drew ?_) | (with_reducible refine Below.drewN_ ?_ _)))) HYL.out HYL.out HYM.out HYM.out).mono ?_
  rintro e w8 ⟨rfl, hb⟩
  have hbb : Below w7.heap.size w7 w8 := by
    refine Below.trans ?_ (Below.mono hb ?_)
    · exact (by repeat (first | (with_reducible exact Below.refl _ _) | (with_reducible refine Below.ext ?_ (by go_size) _ _) | (with_reducible refine Below.alloc ?_ (by go_size) _) | (with_reducible refine Below.setCell ?_ (by go_size) _) | (with_reducible refine Below.drew ?_) | (with_reducible refine Below.drewN_ ?_ _)))
    · (simp; try omega)
  have hsw8 := hbb.size
  replace X := Lib.hid (Sl.below (R := EN false) EN.framed X.out hbb)
  replace BX := Lib.hid (BX.out.below hbb)
  replace W0 := Lib.hid (Sl.below (R := EN false) EN.framed W0.out hbb)
  replace W1 := Lib.hid (Sl.below (R := EB false) EB.framed W1.out hbb)
  replace Y := Lib.hid (Sl.below (R := EN true) EN.framed Y.out hbb)
  replace BY := Lib.hid (BY.out.below hbb)
  replace G0 := Lib.hid (Sl.below (R := EN true) EN.framed G0.out hbb)
  replace G1 := Lib.hid (Sl.below (R := EB true) EB.framed G1.out hbb)
  replace ca0 := (hbb.cell (p := ⟨w.heap.size, 0, none⟩) la).trans ca0
  replace ca1 := (hbb.cell (p := ⟨w.heap.size, 1, none⟩) la).trans ca1
  replace la : w.heap.size < w8.heap.size := Nat.lt_of_lt_of_le la hsw8
  replace cw0 := (hbb.cell (p := ⟨w4.heap.size, 0, none⟩) lw).trans cw0
  replace cw1 := (hbb.cell (p := ⟨w4.heap.size, 1, none⟩) lw).trans cw1
  replace lw : w4.heap.size < w8.heap.size := Nat.lt_of_lt_of_le lw hsw8
  replace cx0 := (hbb.cell (p := ⟨w5.heap.size, 0, none⟩) lx).trans cx0
  replace cx1 := (hbb.cell (p := ⟨w5.heap.size, 1, none⟩) lx).trans cx1
  replace lx : w5.heap.size < w8.heap.size := Nat.lt_of_lt_of_le lx hsw8
  have cg0 : w8.cell? ⟨w7.heap.size, 0, none⟩ = some (.int .i64 r.1) := (hb.cell (p := ⟨w7.heap.size, 0, none⟩) (by simp; try omega)).trans (by simp [go_sem])
  have cg1 : w8.cell? ⟨w7.heap.size, 1, none⟩ = some (.slice Ag r.2.1.length cg) := (hb.cell (p := ⟨w7.heap.size, 1, none⟩) (by simp; try omega)).trans (by simp [go_sem])
  have lg : w7.heap.size < w8.heap.size := by have := hb.size; simp at this; omega
  have pg := lg
  have HBw8 : Hid (Below w.heap.size w w8) := Lib.hid (HBw7.out.trans (hbb.mono HBw7.out.size))
  clear hbb HBw7
  clear hb
  go_wp2_with fail
  refine (eqSSb _ _ _ _ r.2.2 _ (SlB.read G1.out) W1.out HBL.out HBM.out).mono ?_
  rintro e w9 ⟨rfl, hb⟩
  have hbb := hb
  have hsw9 := hbb.size
  replace X := Lib.hid (Sl.below (R := EN false) EN.framed X.out hbb)
  replace BX := Lib.hid (BX.out.below hbb)
  replace W0 := Lib.hid (Sl.below (R := EN false) EN.framed W0.out hbb)
  replace W1 := Lib.hid (Sl.below (R := EB false) EB.framed W1.out hbb)
  replace Y := Lib.hid (Sl.below (R := EN true) EN.framed Y.out hbb)
  replace BY := Lib.hid (BY.out.below hbb)
  replace G0 := Lib.hid (Sl.below (R := EN true) EN.framed G0.out hbb)
  replace G1 := Lib.hid (Sl.below (R := EB true) EB.framed G1.out hbb)
  replace ca0 := (hbb.cell (p := ⟨w.heap.size, 0, none⟩) la).trans ca0
  replace ca1 := (hbb.cell (p := ⟨w.heap.size, 1, none⟩) la).trans ca1
  replace la : w.heap.size < w9.heap.size := Nat.lt_of_lt_of_le la hsw9
  replace cw0 := (hbb.cell (p := ⟨w4.heap.size, 0, none⟩) lw).trans cw0
  replace cw1 := (hbb.cell (p := ⟨w4.heap.size, 1, none⟩) lw).trans cw1
  replace lw : w4.heap.size < w9.heap.size := Nat.lt_of_lt_of_le lw hsw9
  replace cx0 := (hbb.cell (p := ⟨w5.heap.size, 0, none⟩) lx).trans cx0
  replace cx1 := (hbb.cell (p := ⟨w5.heap.size, 1, none⟩) lx).trans cx1
  replace lx : w5.heap.size < w9.heap.size := Nat.lt_of_lt_of_le lx hsw9
  replace cg0 := (hbb.cell (p := ⟨w7.heap.size, 0, none⟩) lg).trans cg0
  replace cg1 := (hbb.cell (p := ⟨w7.heap.size, 1, none⟩) lg).trans cg1
  replace lg : w7.heap.size < w9.heap.size := Nat.lt_of_lt_of_le lg hsw9
  have HBw9 : Hid (Below w.heap.size w w9) := Lib.hid (HBw8.out.trans (hbb.mono HBw8.out.size))
  clear hbb HBw8
  clear hb
  go_wp2
  refine wp_region_held_drew (S := (fun w' => w'.cell? ⟨w5.heap.size, 0, none⟩ = some (.int .i64 st) ∧ w'.cell? ⟨w5.heap.size, 1, none⟩ = some (.slice (some ⟨b2, 0, none⟩) xs.length xs.length) ∧ w'.cell? ⟨w.heap.size, 0, none⟩ = some (.int .i64 st) ∧ w'.cell? ⟨w.heap.size, 1, none⟩ = some (.slice A xs.length c))) (by kernel_rfl) ?_ (fun hHeld => ?_)
  · first | exact ⟨cx0, cx1, ca0, ca1⟩ | (simp [go_sem, *]; done)
  refine wpAnyH_takeW (i := 0) (d := some 57) (v := ?_) (by simp only [List.getElem?_toArray, List.getElem?_cons_succ, List.getElem?_cons_zero]; rfl) (by rfl) (by kernel_rfl) (by kernel_rfl) (by kernel_rfl) (by intro _ _ _ h; exact h) (by rfl) ?_ (by assumption) ?_
  rotate_left 1
  · (intro w hSw; (try dsimp only at hSw); go_simp; try (with_reducible rfl))
  (try simp only [Act.put, List.setIfInBounds_toArray, List.set_cons_zero, List.set_cons_succ])
  refine wpAnyH_takeW (i := 1) (d := some 58) (v := ?_) (by simp only [List.getElem?_toArray, List.getElem?_cons_succ, List.getElem?_cons_zero]; rfl) (by rfl) (by kernel_rfl) (by kernel_rfl) (by kernel_rfl) (by intro _ _ _ h; exact h) (by rfl) ?_ (by assumption) ?_
  rotate_left 1
  · (intro w hSw; (try dsimp only at hSw); go_simp; try (with_reducible rfl))
  (try simp only [Act.put, List.setIfInBounds_toArray, List.set_cons_zero, List.set_cons_succ])
  refine wpAnyH_ready (rs := [2]) (by kernel_rfl) (by simp) ?_
  refine AllReadyH.cons (i := 2) (by simp only [List.getElem?_toArray, List.getElem?_cons_succ, List.getElem?_cons_zero]; rfl) (fun K hK => ?_) AllReadyH.nil
  go_simp
  refine (toROB_any st A c xs _ (Sl.below (R := EN false) EN.framed X.out (by repeat (first | (with_reducible exact Below.refl _ _) | (with_reducible refine Below.ext ?_ (by go_size) _ _) | (with_reducible refine Below.alloc ?_ (by go_size) _) | (with_reducible refine Below.setCell ?_ (by go_size) _) | (with_reducible refine Below.drew ?_) | (with_reducible refine Below.drewN_ ?_ _)))) hz1 HM.out).mono ?_
  rintro e w10 ⟨b3, rfl, hb, hb0, hb1, y⟩
  have hbb : Below w9.heap.size w9 w10 := by
    refine Below.trans ?_ (Below.mono hb ?_)
    · exact (by repeat (first | (with_reducible exact Below.refl _ _) | (with_reducible refine Below.ext ?_ (by go_size) _ _) | (with_reducible refine Below.alloc ?_ (by go_size) _) | (with_reducible refine Below.setCell ?_ (by go_size) _) | (with_reducible refine Below.drew ?_) | (with_reducible refine Below.drewN_ ?_ _)))
    · (simp; try omega)
  have hsw10 := hbb.size
  replace X := Lib.hid (Sl.below (R := EN false) EN.framed X.out hbb)
  replace BX := Lib.hid (BX.out.below hbb)
  replace W0 := Lib.hid (Sl.below (R := EN false) EN.framed W0.out hbb)
  replace W1 := Lib.hid (Sl.below (R := EB false) EB.framed W1.out hbb)
  replace Y := Lib.hid (Sl.below (R := EN true) EN.framed Y.out hbb)
  replace BY := Lib.hid (BY.out.below hbb)
  replace G0 := Lib.hid (Sl.below (R := EN true) EN.framed G0.out hbb)
  replace G1 := Lib.hid (Sl.below (R := EB true) EB.framed G1.out hbb)
  replace ca0 := (hbb.cell (p := ⟨w.heap.size, 0, none⟩) la).trans ca0
  replace ca1 := (hbb.cell (p := ⟨w.heap.size, 1, none⟩) la).trans ca1
  replace la : w.heap.size < w10.heap.size := Nat.lt_of_lt_of_le la hsw10
  replace cw0 := (hbb.cell (p := ⟨w4.heap.size, 0, none⟩) lw).trans cw0
  replace cw1 := (hbb.cell (p := ⟨w4.heap.size, 1, none⟩) lw).trans cw1
  replace lw : w4.heap.size < w10.heap.size := Nat.lt_of_lt_of_le lw hsw10
  replace cx0 := (hbb.cell (p := ⟨w5.heap.size, 0, none⟩) lx).trans cx0
  replace cx1 := (hbb.cell (p := ⟨w5.heap.size, 1, none⟩) lx).trans cx1
  replace lx : w5.heap.size < w10.heap.size := Nat.lt_of_lt_of_le lx hsw10
  replace cg0 := (hbb.cell (p := ⟨w7.heap.size, 0, none⟩) lg).trans cg0
  replace cg1 := (hbb.cell (p := ⟨w7.heap.size, 1, none⟩) lg).trans cg1
  replace lg : w7.heap.size < w10.heap.size := Nat.lt_of_lt_of_le lg hsw10
  have HBw10 : Hid (Below w.heap.size w w10) := Lib.hid (HBw9.out.trans (hbb.mono HBw9.out.size))
  clear hbb HBw9
  clear hb
  have Z := Lib.hid y
  clear y
  clear hb0 hb1
  go_wp2_with fail
  refine hK.out _ _ ?_ (fun hHeld => ?_)
  · ((try dsimp only); first | exact ⟨cx0, cx1, ca0, ca1⟩ | (simp [go_sem, *]; done))
  clear hK K
  (try simp only [Act.put, List.setIfInBounds_toArray, List.set_cons_zero, List.set_cons_succ])
  refine wpAnyH_ready (rs := [3]) (by kernel_rfl) (by simp) ?_
  refine AllReadyH.cons (i := 3) (by simp only [List.getElem?_toArray, List.getElem?_cons_succ, List.getElem?_cons_zero]; rfl) (fun K hK => ?_) AllReadyH.nil
  go_simp
  refine (eqROB_any (b := true) (by simp) _ _ _ _ _ (SlN.read Y.out) (SlN.read Z.out) (by omega) (by omega) HM.out HM.out).mono ?_
  rintro e w11 ⟨rfl, hb⟩
  have hbb := hb
  have hsw11 := hbb.size
  replace X := Lib.hid (Sl.below (R := EN false) EN.framed X.out hbb)
  replace BX := Lib.hid (BX.out.below hbb)
  replace W0 := Lib.hid (Sl.below (R := EN false) EN.framed W0.out hbb)
  replace W1 := Lib.hid (Sl.below (R := EB false) EB.framed W1.out hbb)
  replace Y := Lib.hid (Sl.below (R := EN true) EN.framed Y.out hbb)
  replace BY := Lib.hid (BY.out.below hbb)
  replace G0 := Lib.hid (Sl.below (R := EN true) EN.framed G0.out hbb)
  replace G1 := Lib.hid (Sl.below (R := EB true) EB.framed G1.out hbb)
  replace Z := Lib.hid (Sl.below (R := EN true) EN.framed Z.out hbb)
  replace ca0 := (hbb.cell (p := ⟨w.heap.size, 0, none⟩) la).trans ca0
  replace ca1 := (hbb.cell (p := ⟨w.heap.size, 1, none⟩) la).trans ca1
  replace la : w.heap.size < w11.heap.size := Nat.lt_of_lt_of_le la hsw11
  replace cw0 := (hbb.cell (p := ⟨w4.heap.size, 0, none⟩) lw).trans cw0
  replace cw1 := (hbb.cell (p := ⟨w4.heap.size, 1, none⟩) lw).trans cw1
  replace lw : w4.heap.size < w11.heap.size := Nat.lt_of_lt_of_le lw hsw11
  replace cx0 := (hbb.cell (p := ⟨w5.heap.size, 0, none⟩) lx).trans cx0
  replace cx1 := (hbb.cell (p := ⟨w5.heap.size, 1, none⟩) lx).trans cx1
  replace lx : w5.heap.size < w11.heap.size := Nat.lt_of_lt_of_le lx hsw11
  replace cg0 := (hbb.cell (p := ⟨w7.heap.size, 0, none⟩) lg).trans cg0
  replace cg1 := (hbb.cell (p := ⟨w7.heap.size, 1, none⟩) lg).trans cg1
  replace lg : w7.heap.size < w11.heap.size := Nat.lt_of_lt_of_le lg hsw11
  have HBw11 : Hid (Below w.heap.size w w11) := Lib.hid (HBw10.out.trans (hbb.mono HBw10.out.size))
  clear hbb HBw10
  clear hb
  go_wp2_with fail
  refine hK.out _ _ ?_ (fun hHeld => ?_)
  · ((try dsimp only); first | exact ⟨cx0, cx1, ca0, ca1⟩ | (simp [go_sem, *]; done))
  clear hK K
  (try simp only [Act.put, List.setIfInBounds_toArray, List.set_cons_zero, List.set_cons_succ])
  refine wpAnyH_takeW (i := 4) (d := some 61) (v := ?_) (by simp only [List.getElem?_toArray, List.getElem?_cons_succ, List.getElem?_cons_zero]; rfl) (by rfl) (by kernel_rfl) (by kernel_rfl) (by kernel_rfl) (by intro _ _ _ h; exact h) (by rfl) ?_ (by assumption) ?_
  rotate_left 1
  · (intro w hSw; (try dsimp only at hSw); go_simp; try (with_reducible rfl))
  (try simp only [Act.put, List.setIfInBounds_toArray, List.set_cons_zero, List.set_cons_succ])
  refine wpAnyH_done (by kernel_rfl) ?_ _
  clear Z
  go_wp2_with fail
  refine (toByteSb B cb body _ BX.out hbo12).mono ?_
  rintro e w12 ⟨rfl, hb, y⟩
  have hbb := hb
  have hsw12 := hbb.size
  replace X := Lib.hid (Sl.below (R := EN false) EN.framed X.out hbb)
  replace BX := Lib.hid (BX.out.below hbb)
  replace W0 := Lib.hid (Sl.below (R := EN false) EN.framed W0.out hbb)
  replace W1 := Lib.hid (Sl.below (R := EB false) EB.framed W1.out hbb)
  replace Y := Lib.hid (Sl.below (R := EN true) EN.framed Y.out hbb)
  replace BY := Lib.hid (BY.out.below hbb)
  replace G0 := Lib.hid (Sl.below (R := EN true) EN.framed G0.out hbb)
  replace G1 := Lib.hid (Sl.below (R := EB true) EB.framed G1.out hbb)
  replace ca0 := (hbb.cell (p := ⟨w.heap.size, 0, none⟩) la).trans ca0
  replace ca1 := (hbb.cell (p := ⟨w.heap.size, 1, none⟩) la).trans ca1
  replace la : w.heap.size < w12.heap.size := Nat.lt_of_lt_of_le la hsw12
  replace cw0 := (hbb.cell (p := ⟨w4.heap.size, 0, none⟩) lw).trans cw0
  replace cw1 := (hbb.cell (p := ⟨w4.heap.size, 1, none⟩) lw).trans cw1
  replace lw : w4.heap.size < w12.heap.size := Nat.lt_of_lt_of_le lw hsw12
  replace cx0 := (hbb.cell (p := ⟨w5.heap.size, 0, none⟩) lx).trans cx0
  replace cx1 := (hbb.cell (p := ⟨w5.heap.size, 1, none⟩) lx).trans cx1
  replace lx : w5.heap.size < w12.heap.size := Nat.lt_of_lt_of_le lx hsw12
  replace cg0 := (hbb.cell (p := ⟨w7.heap.size, 0, none⟩) lg).trans cg0
  replace cg1 := (hbb.cell (p := ⟨w7.heap.size, 1, none⟩) lg).trans cg1
  replace lg : w7.heap.size < w12.heap.size := Nat.lt_of_lt_of_le lg hsw12
  have HBw12 : Hid (Below w.heap.size w w12) := Lib.hid (HBw11.out.trans (hbb.mono HBw11.out.size))
  clear hbb HBw11
  clear hb
  (try simp only [World.size_alloc, World.size_ext] at y)
  have BZ := Lib.hid y
  clear y
  go_wp2_with fail
  refine (eqByteS_any _ _ _ _ body body _ BY.out BZ.out hbo12 hbo12).mono ?_
  rw [beq_self_eq_true body]
  rintro e w13 ⟨rfl, hb⟩
  have hbb := hb
  have hsw13 := hbb.size
  replace X := Lib.hid (Sl.below (R := EN false) EN.framed X.out hbb)
  replace BX := Lib.hid (BX.out.below hbb)
  replace W0 := Lib.hid (Sl.below (R := EN false) EN.framed W0.out hbb)
  replace W1 := Lib.hid (Sl.below (R := EB false) EB.framed W1.out hbb)
  replace Y := Lib.hid (Sl.below (R := EN true) EN.framed Y.out hbb)
  replace BY := Lib.hid (BY.out.below hbb)
  replace G0 := Lib.hid (Sl.below (R := EN true) EN.framed G0.out hbb)
  replace G1 := Lib.hid (Sl.below (R := EB true) EB.framed G1.out hbb)
  replace BZ := Lib.hid (BZ.out.below hbb)
  replace ca0 := (hbb.cell (p := ⟨w.heap.size, 0, none⟩) la).trans ca0
  replace ca1 := (hbb.cell (p := ⟨w.heap.size, 1, none⟩) la).trans ca1
  replace la : w.heap.size < w13.heap.size := Nat.lt_of_lt_of_le la hsw13
  replace cw0 := (hbb.cell (p := ⟨w4.heap.size, 0, none⟩) lw).trans cw0
  replace cw1 := (hbb.cell (p := ⟨w4.heap.size, 1, none⟩) lw).trans cw1
  replace lw : w4.heap.size < w13.heap.size := Nat.lt_of_lt_of_le lw hsw13
  replace cx0 := (hbb.cell (p := ⟨w5.heap.size, 0, none⟩) lx).trans cx0
  replace cx1 := (hbb.cell (p := ⟨w5.heap.size, 1, none⟩) lx).trans cx1
  replace lx : w5.heap.size < w13.heap.size := Nat.lt_of_lt_of_le lx hsw13
  replace cg0 := (hbb.cell (p := ⟨w7.heap.size, 0, none⟩) lg).trans cg0
  replace cg1 := (hbb.cell (p := ⟨w7.heap.size, 1, none⟩) lg).trans cg1
  replace lg : w7.heap.size < w13.heap.size := Nat.lt_of_lt_of_le lg hsw13
  have HBw13 : Hid (Below w.heap.size w w13) := Lib.hid (HBw12.out.trans (hbb.mono HBw12.out.size))
  clear hbb HBw12
  clear hb
  clear BZ
  go_wp2_with fail
  refine (markROB_any _ _ _ xs 1 _ Y.out (fun b h => by omega) hz1 (by have := HS20.out; omega) (by omega) (by omega)).mono ?_
  rintro e w14 ⟨rfl, hc, _⟩
  have hsw14 := hc.size
  replace X := Lib.hid (Sl.frame (R := EN false) EN.framed X.out hc (fun b h1 h2 => by omega))
  replace BX := Lib.hid (BX.out.frame hc (fun b h1 h2 => by omega))
  replace W0 := Lib.hid (Sl.frame (R := EN false) EN.framed W0.out hc (fun b h1 h2 => by omega))
  replace W1 := Lib.hid (Sl.frame (R := EB false) EB.framed W1.out hc (fun b h1 h2 => by omega))
  clear Y
  replace BY := Lib.hid (BY.out.frame hc (fun b h1 h2 => by omega))
  replace G0 := Lib.hid (Sl.frame (R := EN true) EN.framed G0.out hc (fun b h1 h2 => by have := HT1g.out b h1; omega))
  replace G1 := Lib.hid (Sl.frame (R := EB true) EB.framed G1.out hc (fun b h1 h2 => by have := HT2g.out b h1; omega))
  replace ca0 := (hc.cell (p := ⟨w.heap.size, 0, none⟩) la (by first | omega | (simp; done) | (simp; omega))).trans ca0
  replace ca1 := (hc.cell (p := ⟨w.heap.size, 1, none⟩) la (by first | omega | (simp; done) | (simp; omega))).trans ca1
  replace la : w.heap.size < w14.heap.size := Nat.lt_of_lt_of_le la hsw14
  replace cw0 := (hc.cell (p := ⟨w4.heap.size, 0, none⟩) lw (by first | omega | (simp; done) | (simp; omega))).trans cw0
  replace cw1 := (hc.cell (p := ⟨w4.heap.size, 1, none⟩) lw (by first | omega | (simp; done) | (simp; omega))).trans cw1
  replace lw : w4.heap.size < w14.heap.size := Nat.lt_of_lt_of_le lw hsw14
  replace cx0 := (hc.cell (p := ⟨w5.heap.size, 0, none⟩) lx (by first | omega | (simp; done) | (simp; omega))).trans cx0
  replace cx1 := (hc.cell (p := ⟨w5.heap.size, 1, none⟩) lx (by first | omega | (simp; done) | (simp; omega))).trans cx1
  replace lx : w5.heap.size < w14.heap.size := Nat.lt_of_lt_of_le lx hsw14
  replace cg0 := (hc.cell (p := ⟨w7.heap.size, 0, none⟩) lg (by first | omega | (simp; done) | (simp; omega))).trans cg0
  replace cg1 := (hc.cell (p := ⟨w7.heap.size, 1, none⟩) lg (by first | omega | (simp; done) | (simp; omega))).trans cg1
  replace lg : w7.heap.size < w14.heap.size := Nat.lt_of_lt_of_le lg hsw14
  have HBw14 : Hid (Below w.heap.size w w14) := Lib.hid (HBw13.out.trans (hc.below HBw13.out.size (fun b h => by omega)))
  clear hc HBw13
  go_wp2_with fail
  refine (markByteS_any _ _ body (1 + (szN xs : Int)) _ BY.out hbo12 (by omega) (by omega)).mono ?_
  rintro e w15 ⟨rfl, hc, _⟩
  have hsw15 := hc.size
  replace X := Lib.hid (Sl.frame (R := EN false) EN.framed X.out hc (fun b h1 h2 => by omega))
  replace BX := Lib.hid (BX.out.frame hc (fun b h1 h2 => by omega))
  replace W0 := Lib.hid (Sl.frame (R := EN false) EN.framed W0.out hc (fun b h1 h2 => by omega))
  replace W1 := Lib.hid (Sl.frame (R := EB false) EB.framed W1.out hc (fun b h1 h2 => by omega))
  clear BY
  replace G0 := Lib.hid (Sl.frame (R := EN true) EN.framed G0.out hc (fun b h1 h2 => by have := HT1g.out b h1; omega))
  replace G1 := Lib.hid (Sl.frame (R := EB true) EB.framed G1.out hc (fun b h1 h2 => by have := HT2g.out b h1; omega))
  replace ca0 := (hc.cell (p := ⟨w.heap.size, 0, none⟩) la (by first | omega | (simp; done) | (simp; omega))).trans ca0
  replace ca1 := (hc.cell (p := ⟨w.heap.size, 1, none⟩) la (by first | omega | (simp; done) | (simp; omega))).trans ca1
  replace la : w.heap.size < w15.heap.size := Nat.lt_of_lt_of_le la hsw15
  replace cw0 := (hc.cell (p := ⟨w4.heap.size, 0, none⟩) lw (by first | omega | (simp; done) | (simp; omega))).trans cw0
  replace cw1 := (hc.cell (p := ⟨w4.heap.size, 1, none⟩) lw (by first | omega | (simp; done) | (simp; omega))).trans cw1
  replace lw : w4.heap.size < w15.heap.size := Nat.lt_of_lt_of_le lw hsw15
  replace cx0 := (hc.cell (p := ⟨w5.heap.size, 0, none⟩) lx (by first | omega | (simp; done) | (simp; omega))).trans cx0
  replace cx1 := (hc.cell (p := ⟨w5.heap.size, 1, none⟩) lx (by first | omega | (simp; done) | (simp; omega))).trans cx1
  replace lx : w5.heap.size < w15.heap.size := Nat.lt_of_lt_of_le lx hsw15
  replace cg0 := (hc.cell (p := ⟨w7.heap.size, 0, none⟩) lg (by first | omega | (simp; done) | (simp; omega))).trans cg0
  replace cg1 := (hc.cell (p := ⟨w7.heap.size, 1, none⟩) lg (by first | omega | (simp; done) | (simp; omega))).trans cg1
  replace lg : w7.heap.size < w15.heap.size := Nat.lt_of_lt_of_le lg hsw15
  have HBw15 : Hid (Below w.heap.size w w15) := Lib.hid (HBw14.out.trans (hc.below HBw14.out.size (fun b h => by omega)))
  clear hc HBw14
  have hk0 : ¬ (1 : Int) + (szN xs : Int) + (body.length : Int) < 0 := by omega
  go_wp2_with fail
  refine (eqROB_any (s1 := r.1) (s2 := r.1) (xs := r.2.1) (ys := r.2.1) (b := true) (by simp) _ _ _ _ _ (SlN.read G0.out) W0.out HYL.out HYL.out HYM.out HYM.out).mono ?_
  rintro e w16 ⟨rfl, hb⟩
  have hbb := hb
  have hsw16 := hbb.size
  replace X := Lib.hid (Sl.below (R := EN false) EN.framed X.out hbb)
  replace BX := Lib.hid (BX.out.below hbb)
  replace W0 := Lib.hid (Sl.below (R := EN false) EN.framed W0.out hbb)
  replace W1 := Lib.hid (Sl.below (R := EB false) EB.framed W1.out hbb)
  replace G0 := Lib.hid (Sl.below (R := EN true) EN.framed G0.out hbb)
  replace G1 := Lib.hid (Sl.below (R := EB true) EB.framed G1.out hbb)
  replace ca0 := (hbb.cell (p := ⟨w.heap.size, 0, none⟩) la).trans ca0
  replace ca1 := (hbb.cell (p := ⟨w.heap.size, 1, none⟩) la).trans ca1
  replace la : w.heap.size < w16.heap.size := Nat.lt_of_lt_of_le la hsw16
  replace cw0 := (hbb.cell (p := ⟨w4.heap.size, 0, none⟩) lw).trans cw0
  replace cw1 := (hbb.cell (p := ⟨w4.heap.size, 1, none⟩) lw).trans cw1
  replace lw : w4.heap.size < w16.heap.size := Nat.lt_of_lt_of_le lw hsw16
  replace cx0 := (hbb.cell (p := ⟨w5.heap.size, 0, none⟩) lx).trans cx0
  replace cx1 := (hbb.cell (p := ⟨w5.heap.size, 1, none⟩) lx).trans cx1
  replace lx : w5.heap.size < w16.heap.size := Nat.lt_of_lt_of_le lx hsw16
  replace cg0 := (hbb.cell (p := ⟨w7.heap.size, 0, none⟩) lg).trans cg0
  replace cg1 := (hbb.cell (p := ⟨w7.heap.size, 1, none⟩) lg).trans cg1
  replace lg : w7.heap.size < w16.heap.size := Nat.lt_of_lt_of_le lg hsw16
  have HBw16 : Hid (Below w.heap.size w w16) := Lib.hid (HBw15.out.trans (hbb.mono HBw15.out.size))
  clear hbb HBw15
  clear hb
  go_wp2_with fail
  refine (eqSSb _ _ _ _ r.2.2 _ (SlB.read G1.out) W1.out HBL.out HBM.out).mono ?_
  rintro e w17 ⟨rfl, hb⟩
  have hbb := hb
  have hsw17 := hbb.size
  replace X := Lib.hid (Sl.below (R := EN false) EN.framed X.out hbb)
  replace BX := Lib.hid (BX.out.below hbb)
  replace W0 := Lib.hid (Sl.below (R := EN false) EN.framed W0.out hbb)
  replace W1 := Lib.hid (Sl.below (R := EB false) EB.framed W1.out hbb)
  replace G0 := Lib.hid (Sl.below (R := EN true) EN.framed G0.out hbb)
  replace G1 := Lib.hid (Sl.below (R := EB true) EB.framed G1.out hbb)
  replace ca0 := (hbb.cell (p := ⟨w.heap.size, 0, none⟩) la).trans ca0
  replace ca1 := (hbb.cell (p := ⟨w.heap.size, 1, none⟩) la).trans ca1
  replace la : w.heap.size < w17.heap.size := Nat.lt_of_lt_of_le la hsw17
  replace cw0 := (hbb.cell (p := ⟨w4.heap.size, 0, none⟩) lw).trans cw0
  replace cw1 := (hbb.cell (p := ⟨w4.heap.size, 1, none⟩) lw).trans cw1
  replace lw : w4.heap.size < w17.heap.size := Nat.lt_of_lt_of_le lw hsw17
  replace cx0 := (hbb.cell (p := ⟨w5.heap.size, 0, none⟩) lx).trans cx0
  replace cx1 := (hbb.cell (p := ⟨w5.heap.size, 1, none⟩) lx).trans cx1
  replace lx : w5.heap.size < w17.heap.size := Nat.lt_of_lt_of_le lx hsw17
  replace cg0 := (hbb.cell (p := ⟨w7.heap.size, 0, none⟩) lg).trans cg0
  replace cg1 := (hbb.cell (p := ⟨w7.heap.size, 1, none⟩) lg).trans cg1
  replace lg : w7.heap.size < w17.heap.size := Nat.lt_of_lt_of_le lg hsw17
  have HBw17 : Hid (Below w.heap.size w w17) := Lib.hid (HBw16.out.trans (hbb.mono HBw16.out.size))
  clear hbb HBw16
  clear hb
  go_wp2_with fail
  refine (markROB_any _ _ _ r.2.1 1 _ G0.out (fun b h => by have := HT1g.out b h; omega) HYL9.out HYS.out (by omega) (by omega)).mono ?_
  rintro e w18 ⟨rfl, hc, gm⟩
  have hsw18 := hc.size
  replace X := Lib.hid (Sl.frame (R := EN false) EN.framed X.out hc (fun b h1 h2 => by have := HT1g.out b h2; omega))
  replace BX := Lib.hid (BX.out.frame hc (fun b h1 h2 => by have := HT1g.out b h2; omega))
  replace W0 := Lib.hid (Sl.frame (R := EN false) EN.framed W0.out hc (fun b h1 h2 => by have := HT1g.out b h2; omega))
  replace W1 := Lib.hid (Sl.frame (R := EB false) EB.framed W1.out hc (fun b h1 h2 => by have := HT1g.out b h2; omega))
  clear G0
  replace G1 := Lib.hid (Sl.frame (R := EB true) EB.framed G1.out hc (fun b h1 h2 => HN12.out b h2 h1))
  replace ca0 := (hc.cell (p := ⟨w.heap.size, 0, none⟩) la (fun h2 => by have := HT1g.out _ h2; simp only at this; omega)).trans ca0
  replace ca1 := (hc.cell (p := ⟨w.heap.size, 1, none⟩) la (fun h2 => by have := HT1g.out _ h2; simp only at this; omega)).trans ca1
  replace la : w.heap.size < w18.heap.size := Nat.lt_of_lt_of_le la hsw18
  replace cw0 := (hc.cell (p := ⟨w4.heap.size, 0, none⟩) lw (fun h2 => by have := HT1g.out _ h2; simp only at this; omega)).trans cw0
  replace cw1 := (hc.cell (p := ⟨w4.heap.size, 1, none⟩) lw (fun h2 => by have := HT1g.out _ h2; simp only at this; omega)).trans cw1
  replace lw : w4.heap.size < w18.heap.size := Nat.lt_of_lt_of_le lw hsw18
  replace cx0 := (hc.cell (p := ⟨w5.heap.size, 0, none⟩) lx (fun h2 => by have := HT1g.out _ h2; simp only at this; omega)).trans cx0
  replace cx1 := (hc.cell (p := ⟨w5.heap.size, 1, none⟩) lx (fun h2 => by have := HT1g.out _ h2; simp only at this; omega)).trans cx1
  replace lx : w5.heap.size < w18.heap.size := Nat.lt_of_lt_of_le lx hsw18
  replace cg0 := (hc.cell (p := ⟨w7.heap.size, 0, none⟩) lg (fun h2 => by have := HT1g.out _ h2; simp only at this; omega)).trans cg0
  replace cg1 := (hc.cell (p := ⟨w7.heap.size, 1, none⟩) lg (fun h2 => by have := HT1g.out _ h2; simp only at this; omega)).trans cg1
  replace lg : w7.heap.size < w18.heap.size := Nat.lt_of_lt_of_le lg hsw18
  have HBw18 : Hid (Below w.heap.size w w18) := Lib.hid (HBw17.out.trans (hc.below HBw17.out.size (fun b h => by have := HT1g.out b h; omega)))
  clear hc HBw17
  have GM := Lib.hid gm
  clear gm
  go_wp2_with fail
  refine (markByteSS_any _ _ r.2.2 (1 + (szN r.2.1 : Int)) _ G1.out HBL.out HBS.out (by omega) (by omega) (by omega)).mono ?_
  rintro e w19 ⟨rfl, hc, gn⟩
  have hsw19 := hc.size
  replace X := Lib.hid (Sl.frame (R := EN false) EN.framed X.out hc (fun b h1 h2 => by have := HT2g.out b h2; omega))
  replace BX := Lib.hid (BX.out.frame hc (fun b h1 h2 => by have := HT2g.out b h2; omega))
  replace W0 := Lib.hid (Sl.frame (R := EN false) EN.framed W0.out hc (fun b h1 h2 => by have := HT2g.out b h2; omega))
  replace W1 := Lib.hid (Sl.frame (R := EB false) EB.framed W1.out hc (fun b h1 h2 => by have := HT2g.out b h2; omega))
  clear G1
  replace GM := Lib.hid (Sl.frame (R := EN true) EN.framed GM.out hc (fun b h1 h2 => HN12.out b h1 h2))
  replace ca0 := (hc.cell (p := ⟨w.heap.size, 0, none⟩) la (fun h2 => by have := HT2g.out _ h2; simp only at this; omega)).trans ca0
  replace ca1 := (hc.cell (p := ⟨w.heap.size, 1, none⟩) la (fun h2 => by have := HT2g.out _ h2; simp only at this; omega)).trans ca1
  replace la : w.heap.size < w19.heap.size := Nat.lt_of_lt_of_le la hsw19
  replace cw0 := (hc.cell (p := ⟨w4.heap.size, 0, none⟩) lw (fun h2 => by have := HT2g.out _ h2; simp only at this; omega)).trans cw0
  replace cw1 := (hc.cell (p := ⟨w4.heap.size, 1, none⟩) lw (fun h2 => by have := HT2g.out _ h2; simp only at this; omega)).trans cw1
  replace lw : w4.heap.size < w19.heap.size := Nat.lt_of_lt_of_le lw hsw19
  replace cx0 := (hc.cell (p := ⟨w5.heap.size, 0, none⟩) lx (fun h2 => by have := HT2g.out _ h2; simp only at this; omega)).trans cx0
  replace cx1 := (hc.cell (p := ⟨w5.heap.size, 1, none⟩) lx (fun h2 => by have := HT2g.out _ h2; simp only at this; omega)).trans cx1
  replace lx : w5.heap.size < w19.heap.size := Nat.lt_of_lt_of_le lx hsw19
  replace cg0 := (hc.cell (p := ⟨w7.heap.size, 0, none⟩) lg (fun h2 => by have := HT2g.out _ h2; simp only at this; omega)).trans cg0
  replace cg1 := (hc.cell (p := ⟨w7.heap.size, 1, none⟩) lg (fun h2 => by have := HT2g.out _ h2; simp only at this; omega)).trans cg1
  replace lg : w7.heap.size < w19.heap.size := Nat.lt_of_lt_of_le lg hsw19
  have HBw19 : Hid (Below w.heap.size w w19) := Lib.hid (HBw18.out.trans (hc.below HBw18.out.size (fun b h => by have := HT2g.out b h; omega)))
  clear hc HBw18
  have GN := Lib.hid gn
  clear gn
  have hk1 : ¬ (1 : Int) + (szN r.2.1 : Int) < 0 := by omega
  have hk2 : ¬ (1 : Int) + (szN r.2.1 : Int) + (sumL r.2.2 : Int) < 0 := by omega
  go_wp2_with fail
  refine (heldROB_any r.1 _ r.2.1.length _ r.2.1 1 _ rfl (SlN.read GM.out) HYL9.out HYS.out (by omega) (by omega)).mono ?_
  rintro e w20 ⟨rfl, hb⟩
  have hbb := hb
  have hsw20 := hbb.size
  replace X := Lib.hid (Sl.below (R := EN false) EN.framed X.out hbb)
  replace BX := Lib.hid (BX.out.below hbb)
  replace W0 := Lib.hid (Sl.below (R := EN false) EN.framed W0.out hbb)
  replace W1 := Lib.hid (Sl.below (R := EB false) EB.framed W1.out hbb)
  replace GM := Lib.hid (Sl.below (R := EN true) EN.framed GM.out hbb)
  replace GN := Lib.hid (Sl.below (R := EB true) EB.framed GN.out hbb)
  replace ca0 := (hbb.cell (p := ⟨w.heap.size, 0, none⟩) la).trans ca0
  replace ca1 := (hbb.cell (p := ⟨w.heap.size, 1, none⟩) la).trans ca1
  replace la : w.heap.size < w20.heap.size := Nat.lt_of_lt_of_le la hsw20
  replace cw0 := (hbb.cell (p := ⟨w4.heap.size, 0, none⟩) lw).trans cw0
  replace cw1 := (hbb.cell (p := ⟨w4.heap.size, 1, none⟩) lw).trans cw1
  replace lw : w4.heap.size < w20.heap.size := Nat.lt_of_lt_of_le lw hsw20
  replace cx0 := (hbb.cell (p := ⟨w5.heap.size, 0, none⟩) lx).trans cx0
  replace cx1 := (hbb.cell (p := ⟨w5.heap.size, 1, none⟩) lx).trans cx1
  replace lx : w5.heap.size < w20.heap.size := Nat.lt_of_lt_of_le lx hsw20
  replace cg0 := (hbb.cell (p := ⟨w7.heap.size, 0, none⟩) lg).trans cg0
  replace cg1 := (hbb.cell (p := ⟨w7.heap.size, 1, none⟩) lg).trans cg1
  replace lg : w7.heap.size < w20.heap.size := Nat.lt_of_lt_of_le lg hsw20
  have HBw20 : Hid (Below w.heap.size w w20) := Lib.hid (HBw19.out.trans (hbb.mono HBw19.out.size))
  clear hbb HBw19
  clear hb
  go_wp2_with fail
  refine (heldSSb _ r.2.2.length _ r.2.2 (1 + (szN r.2.1 : Int)) _ rfl (SlB.read GN.out) HBL.out HBS.out (by omega) (by omega) (by omega)).mono ?_
  rintro e w21 ⟨rfl, hb⟩
  have hbb := hb
  have hsw21 := hbb.size
  replace X := Lib.hid (Sl.below (R := EN false) EN.framed X.out hbb)
  replace BX := Lib.hid (BX.out.below hbb)
  replace W0 := Lib.hid (Sl.below (R := EN false) EN.framed W0.out hbb)
  replace W1 := Lib.hid (Sl.below (R := EB false) EB.framed W1.out hbb)
  replace GM := Lib.hid (Sl.below (R := EN true) EN.framed GM.out hbb)
  replace GN := Lib.hid (Sl.below (R := EB true) EB.framed GN.out hbb)
  replace ca0 := (hbb.cell (p := ⟨w.heap.size, 0, none⟩) la).trans ca0
  replace ca1 := (hbb.cell (p := ⟨w.heap.size, 1, none⟩) la).trans ca1
  replace la : w.heap.size < w21.heap.size := Nat.lt_of_lt_of_le la hsw21
  replace cw0 := (hbb.cell (p := ⟨w4.heap.size, 0, none⟩) lw).trans cw0
  replace cw1 := (hbb.cell (p := ⟨w4.heap.size, 1, none⟩) lw).trans cw1
  replace lw : w4.heap.size < w21.heap.size := Nat.lt_of_lt_of_le lw hsw21
  replace cx0 := (hbb.cell (p := ⟨w5.heap.size, 0, none⟩) lx).trans cx0
  replace cx1 := (hbb.cell (p := ⟨w5.heap.size, 1, none⟩) lx).trans cx1
  replace lx : w5.heap.size < w21.heap.size := Nat.lt_of_lt_of_le lx hsw21
  replace cg0 := (hbb.cell (p := ⟨w7.heap.size, 0, none⟩) lg).trans cg0
  replace cg1 := (hbb.cell (p := ⟨w7.heap.size, 1, none⟩) lg).trans cg1
  replace lg : w7.heap.size < w21.heap.size := Nat.lt_of_lt_of_le lg hsw21
  have HBw21 : Hid (Below w.heap.size w w21) := Lib.hid (HBw20.out.trans (hbb.mono HBw20.out.size))
  clear hbb HBw20
  clear hb
  go_wp2_with fail
  refine (toROB_any st A c xs _ X.out hz1 HM.out).mono ?_
  rintro e w22 ⟨b4, rfl, hb, hb0, hb1, y⟩
  have hbb := hb
  have hsw22 := hbb.size
  replace X := Lib.hid (Sl.below (R := EN false) EN.framed X.out hbb)
  replace BX := Lib.hid (BX.out.below hbb)
  replace W0 := Lib.hid (Sl.below (R := EN false) EN.framed W0.out hbb)
  replace W1 := Lib.hid (Sl.below (R := EB false) EB.framed W1.out hbb)
  replace GM := Lib.hid (Sl.below (R := EN true) EN.framed GM.out hbb)
  replace GN := Lib.hid (Sl.below (R := EB true) EB.framed GN.out hbb)
  replace ca0 := (hbb.cell (p := ⟨w.heap.size, 0, none⟩) la).trans ca0
  replace ca1 := (hbb.cell (p := ⟨w.heap.size, 1, none⟩) la).trans ca1
  replace la : w.heap.size < w22.heap.size := Nat.lt_of_lt_of_le la hsw22
  replace cw0 := (hbb.cell (p := ⟨w4.heap.size, 0, none⟩) lw).trans cw0
  replace cw1 := (hbb.cell (p := ⟨w4.heap.size, 1, none⟩) lw).trans cw1
  replace lw : w4.heap.size < w22.heap.size := Nat.lt_of_lt_of_le lw hsw22
  replace cx0 := (hbb.cell (p := ⟨w5.heap.size, 0, none⟩) lx).trans cx0
  replace cx1 := (hbb.cell (p := ⟨w5.heap.size, 1, none⟩) lx).trans cx1
  replace lx : w5.heap.size < w22.heap.size := Nat.lt_of_lt_of_le lx hsw22
  replace cg0 := (hbb.cell (p := ⟨w7.heap.size, 0, none⟩) lg).trans cg0
  replace cg1 := (hbb.cell (p := ⟨w7.heap.size, 1, none⟩) lg).trans cg1
  replace lg : w7.heap.size < w22.heap.size := Nat.lt_of_lt_of_le lg hsw22
  have HBw22 : Hid (Below w.heap.size w w22) := Lib.hid (HBw21.out.trans (hbb.mono HBw21.out.size))
  clear hbb HBw21
  clear hb
  (try simp only [World.size_alloc, World.size_ext] at y hb0)
  have Z := Lib.hid y
  clear y
  clear hb0 hb1
  go_wp2_with fail
  refine (toByteSb B cb body _ BX.out hbo12).mono ?_
  rintro e w23 ⟨rfl, hb, y⟩
  have hbb := hb
  have hsw23 := hbb.size
  replace X := Lib.hid (Sl.below (R := EN false) EN.framed X.out hbb)
  replace BX := Lib.hid (BX.out.below hbb)
  replace W0 := Lib.hid (Sl.below (R := EN false) EN.framed W0.out hbb)
  replace W1 := Lib.hid (Sl.below (R := EB false) EB.framed W1.out hbb)
  replace GM := Lib.hid (Sl.below (R := EN true) EN.framed GM.out hbb)
  replace GN := Lib.hid (Sl.below (R := EB true) EB.framed GN.out hbb)
  replace Z := Lib.hid (Sl.below (R := EN true) EN.framed Z.out hbb)
  replace ca0 := (hbb.cell (p := ⟨w.heap.size, 0, none⟩) la).trans ca0
  replace ca1 := (hbb.cell (p := ⟨w.heap.size, 1, none⟩) la).trans ca1
  replace la : w.heap.size < w23.heap.size := Nat.lt_of_lt_of_le la hsw23
  replace cw0 := (hbb.cell (p := ⟨w4.heap.size, 0, none⟩) lw).trans cw0
  replace cw1 := (hbb.cell (p := ⟨w4.heap.size, 1, none⟩) lw).trans cw1
  replace lw : w4.heap.size < w23.heap.size := Nat.lt_of_lt_of_le lw hsw23
  replace cx0 := (hbb.cell (p := ⟨w5.heap.size, 0, none⟩) lx).trans cx0
  replace cx1 := (hbb.cell (p := ⟨w5.heap.size, 1, none⟩) lx).trans cx1
  replace lx : w5.heap.size < w23.heap.size := Nat.lt_of_lt_of_le lx hsw23
  replace cg0 := (hbb.cell (p := ⟨w7.heap.size, 0, none⟩) lg).trans cg0
  replace cg1 := (hbb.cell (p := ⟨w7.heap.size, 1, none⟩) lg).trans cg1
  replace lg : w7.heap.size < w23.heap.size := Nat.lt_of_lt_of_le lg hsw23
  have HBw23 : Hid (Below w.heap.size w w23) := Lib.hid (HBw22.out.trans (hbb.mono HBw22.out.size))
  clear hbb HBw22
  clear hb
  (try simp only [World.size_alloc, World.size_ext] at y)
  have BZ := Lib.hid y
  clear y
  go_wp2_with fail
  refine (implRN_any st _ _ xs q _ _ body _ (SlN.read Z.out) hz8 HM9.out (Rw.read BZ.out) hbo9).mono ?_
  rw [← HRR.out]
  rintro e w24 ⟨Ah, ch, gh, dh, T1h, T2h, rfl, hb, _, h1, h2, y, y1, y2⟩
  have hbb := hb
  have hsw24 := hbb.size
  replace X := Lib.hid (Sl.below (R := EN false) EN.framed X.out hbb)
  replace BX := Lib.hid (BX.out.below hbb)
  replace W0 := Lib.hid (Sl.below (R := EN false) EN.framed W0.out hbb)
  replace W1 := Lib.hid (Sl.below (R := EB false) EB.framed W1.out hbb)
  replace GM := Lib.hid (Sl.below (R := EN true) EN.framed GM.out hbb)
  replace GN := Lib.hid (Sl.below (R := EB true) EB.framed GN.out hbb)
  replace Z := Lib.hid (Sl.below (R := EN true) EN.framed Z.out hbb)
  replace BZ := Lib.hid (BZ.out.below hbb)
  replace ca0 := (hbb.cell (p := ⟨w.heap.size, 0, none⟩) la).trans ca0
  replace ca1 := (hbb.cell (p := ⟨w.heap.size, 1, none⟩) la).trans ca1
  replace la : w.heap.size < w24.heap.size := Nat.lt_of_lt_of_le la hsw24
  replace cw0 := (hbb.cell (p := ⟨w4.heap.size, 0, none⟩) lw).trans cw0
  replace cw1 := (hbb.cell (p := ⟨w4.heap.size, 1, none⟩) lw).trans cw1
  replace lw : w4.heap.size < w24.heap.size := Nat.lt_of_lt_of_le lw hsw24
  replace cx0 := (hbb.cell (p := ⟨w5.heap.size, 0, none⟩) lx).trans cx0
  replace cx1 := (hbb.cell (p := ⟨w5.heap.size, 1, none⟩) lx).trans cx1
  replace lx : w5.heap.size < w24.heap.size := Nat.lt_of_lt_of_le lx hsw24
  replace cg0 := (hbb.cell (p := ⟨w7.heap.size, 0, none⟩) lg).trans cg0
  replace cg1 := (hbb.cell (p := ⟨w7.heap.size, 1, none⟩) lg).trans cg1
  replace lg : w7.heap.size < w24.heap.size := Nat.lt_of_lt_of_le lg hsw24
  have HBw24 : Hid (Below w.heap.size w w24) := Lib.hid (HBw23.out.trans (hbb.mono HBw23.out.size))
  clear hbb HBw23
  clear hb
  clear Z
  clear BZ
  replace y1 := y1.slT (fun a ha => by injection ha with ha; subst ha; exact y2)
  clear h1 h2 y2
  have H0 := Lib.hid y
  clear y
  have H1 := Lib.hid y1
  clear y1
  go_wp2_with fail
  refine (eqROB_any (s1 := r.1) (s2 := r.1) (xs := r.2.1) (ys := r.2.1) (b := true) (by simp) _ _ _ _ _ (SlN.read (Sl.below (R := EN true) EN.framed H0.out (by repeat (first | (with_reducible exact Below.refl _ _) | (with_reducible refine Below.ext ?_ (by go_size) _ _) | (with_reducible refine Below.alloc ?_ (by go_size) _) | (with_reducible refine Below.setCell ?_ (by go_size) _) | (with_reducible refine Below.drew ?_) | (with_reducible refine Below.drewN_ ?_ _))))) (Sl.below (R := EN false) EN.framed W0.out (by repeat (first | (with_reducible exact Below.refl _ _) | (with_reducible refine Below.ext ?_ (by go_size) _ _) | (with_reducible refine Below.alloc ?_ (by go_size) _) | (with_reducible refine Below.setCell ?_ (by go_size) _) | (with_reducible refine Below.drew ?_) | (with_reducible refine Below.drewN_ ?_ _)))) HYL.out HYL.out HYM.out HYM.out).mono ?_
  rintro e w25 ⟨rfl, hb⟩
  have hbb : Below w24.heap.size w24 w25 := by
    refine Below.trans ?_ (Below.mono hb ?_)
    · exact (by repeat (first | (with_reducible exact Below.refl _ _) | (with_reducible refine Below.ext ?_ (by go_size) _ _) | (with_reducible refine Below.alloc ?_ (by go_size) _) | (with_reducible refine Below.setCell ?_ (by go_size) _) | (with_reducible refine Below.drew ?_) | (with_reducible refine Below.drewN_ ?_ _)))
    · (simp; try omega)
  have hsw25 := hbb.size
  replace X := Lib.hid (Sl.below (R := EN false) EN.framed X.out hbb)
  replace BX := Lib.hid (BX.out.below hbb)
  replace W0 := Lib.hid (Sl.below (R := EN false) EN.framed W0.out hbb)
  replace W1 := Lib.hid (Sl.below (R := EB false) EB.framed W1.out hbb)
  replace GM := Lib.hid (Sl.below (R := EN true) EN.framed GM.out hbb)
  replace GN := Lib.hid (Sl.below (R := EB true) EB.framed GN.out hbb)
  replace H0 := Lib.hid (Sl.below (R := EN true) EN.framed H0.out hbb)
  replace H1 := Lib.hid (Sl.below (R := EB true) EB.framed H1.out hbb)
  replace ca0 := (hbb.cell (p := ⟨w.heap.size, 0, none⟩) la).trans ca0
  replace ca1 := (hbb.cell (p := ⟨w.heap.size, 1, none⟩) la).trans ca1
  replace la : w.heap.size < w25.heap.size := Nat.lt_of_lt_of_le la hsw25
  replace cw0 := (hbb.cell (p := ⟨w4.heap.size, 0, none⟩) lw).trans cw0
  replace cw1 := (hbb.cell (p := ⟨w4.heap.size, 1, none⟩) lw).trans cw1
  replace lw : w4.heap.size < w25.heap.size := Nat.lt_of_lt_of_le lw hsw25
  replace cx0 := (hbb.cell (p := ⟨w5.heap.size, 0, none⟩) lx).trans cx0
  replace cx1 := (hbb.cell (p := ⟨w5.heap.size, 1, none⟩) lx).trans cx1
  replace lx : w5.heap.size < w25.heap.size := Nat.lt_of_lt_of_le lx hsw25
  replace cg0 := (hbb.cell (p := ⟨w7.heap.size, 0, none⟩) lg).trans cg0
  replace cg1 := (hbb.cell (p := ⟨w7.heap.size, 1, none⟩) lg).trans cg1
  replace lg : w7.heap.size < w25.heap.size := Nat.lt_of_lt_of_le lg hsw25
  have ch0 : w25.cell? ⟨w24.heap.size, 0, none⟩ = some (.int .i64 r.1) := (hb.cell (p := ⟨w24.heap.size, 0, none⟩) (by simp; try omega)).trans (by simp [go_sem])
  have ch1 : w25.cell? ⟨w24.heap.size, 1, none⟩ = some (.slice Ah r.2.1.length ch) := (hb.cell (p := ⟨w24.heap.size, 1, none⟩) (by simp; try omega)).trans (by simp [go_sem])
  have lh : w24.heap.size < w25.heap.size := by have := hb.size; simp at this; omega
  have ph := lh
  have HBw25 : Hid (Below w.heap.size w w25) := Lib.hid (HBw24.out.trans (hbb.mono HBw24.out.size))
  clear hbb HBw24
  clear hb
  go_wp2_with fail
  refine (eqSSb _ _ _ _ r.2.2 _ (SlB.read H1.out) W1.out HBL.out HBM.out).mono ?_
  rintro e w26 ⟨rfl, hb⟩
  have hbb := hb
  have hsw26 := hbb.size
  replace X := Lib.hid (Sl.below (R := EN false) EN.framed X.out hbb)
  replace BX := Lib.hid (BX.out.below hbb)
  replace W0 := Lib.hid (Sl.below (R := EN false) EN.framed W0.out hbb)
  replace W1 := Lib.hid (Sl.below (R := EB false) EB.framed W1.out hbb)
  replace GM := Lib.hid (Sl.below (R := EN true) EN.framed GM.out hbb)
  replace GN := Lib.hid (Sl.below (R := EB true) EB.framed GN.out hbb)
  replace H0 := Lib.hid (Sl.below (R := EN true) EN.framed H0.out hbb)
  replace H1 := Lib.hid (Sl.below (R := EB true) EB.framed H1.out hbb)
  replace ca0 := (hbb.cell (p := ⟨w.heap.size, 0, none⟩) la).trans ca0
  replace ca1 := (hbb.cell (p := ⟨w.heap.size, 1, none⟩) la).trans ca1
  replace la : w.heap.size < w26.heap.size := Nat.lt_of_lt_of_le la hsw26
  replace cw0 := (hbb.cell (p := ⟨w4.heap.size, 0, none⟩) lw).trans cw0
  replace cw1 := (hbb.cell (p := ⟨w4.heap.size, 1, none⟩) lw).trans cw1
  replace lw : w4.heap.size < w26.heap.size := Nat.lt_of_lt_of_le lw hsw26
  replace cx0 := (hbb.cell (p := ⟨w5.heap.size, 0, none⟩) lx).trans cx0
  replace cx1 := (hbb.cell (p := ⟨w5.heap.size, 1, none⟩) lx).trans cx1
  replace lx : w5.heap.size < w26.heap.size := Nat.lt_of_lt_of_le lx hsw26
  replace cg0 := (hbb.cell (p := ⟨w7.heap.size, 0, none⟩) lg).trans cg0
  replace cg1 := (hbb.cell (p := ⟨w7.heap.size, 1, none⟩) lg).trans cg1
  replace lg : w7.heap.size < w26.heap.size := Nat.lt_of_lt_of_le lg hsw26
  replace ch0 := (hbb.cell (p := ⟨w24.heap.size, 0, none⟩) lh).trans ch0
  replace ch1 := (hbb.cell (p := ⟨w24.heap.size, 1, none⟩) lh).trans ch1
  replace lh : w24.heap.size < w26.heap.size := Nat.lt_of_lt_of_le lh hsw26
  have HBw26 : Hid (Below w.heap.size w w26) := Lib.hid (HBw25.out.trans (hbb.mono HBw25.out.size))
  clear hbb HBw25
  clear hb
  go_wp2_with fail
  refine (heldROB_any r.1 _ r.2.1.length _ r.2.1 1 _ rfl (SlN.read GM.out) HYL9.out HYS.out (by omega) (by omega)).mono ?_
  rintro e w27 ⟨rfl, hb⟩
  have hbb := hb
  have hsw27 := hbb.size
  replace X := Lib.hid (Sl.below (R := EN false) EN.framed X.out hbb)
  replace BX := Lib.hid (BX.out.below hbb)
  replace W0 := Lib.hid (Sl.below (R := EN false) EN.framed W0.out hbb)
  replace W1 := Lib.hid (Sl.below (R := EB false) EB.framed W1.out hbb)
  replace GM := Lib.hid (Sl.below (R := EN true) EN.framed GM.out hbb)
  replace GN := Lib.hid (Sl.below (R := EB true) EB.framed GN.out hbb)
  replace H0 := Lib.hid (Sl.below (R := EN true) EN.framed H0.out hbb)
  replace H1 := Lib.hid (Sl.below (R := EB true) EB.framed H1.out hbb)
  replace ca0 := (hbb.cell (p := ⟨w.heap.size, 0, none⟩) la).trans ca0
  replace ca1 := (hbb.cell (p := ⟨w.heap.size, 1, none⟩) la).trans ca1
  replace la : w.heap.size < w27.heap.size := Nat.lt_of_lt_of_le la hsw27
  replace cw0 := (hbb.cell (p := ⟨w4.heap.size, 0, none⟩) lw).trans cw0
  replace cw1 := (hbb.cell (p := ⟨w4.heap.size, 1, none⟩) lw).trans cw1
  replace lw : w4.heap.size < w27.heap.size := Nat.lt_of_lt_of_le lw hsw27
  replace cx0 := (hbb.cell (p := ⟨w5.heap.size, 0, none⟩) lx).trans cx0
  replace cx1 := (hbb.cell (p := ⟨w5.heap.size, 1, none⟩) lx).trans cx1
  replace lx : w5.heap.size < w27.heap.size := Nat.lt_of_lt_of_le lx hsw27
  replace cg0 := (hbb.cell (p := ⟨w7.heap.size, 0, none⟩) lg).trans cg0
  replace cg1 := (hbb.cell (p := ⟨w7.heap.size, 1, none⟩) lg).trans cg1
  replace lg : w7.heap.size < w27.heap.size := Nat.lt_of_lt_of_le lg hsw27
  replace ch0 := (hbb.cell (p := ⟨w24.heap.size, 0, none⟩) lh).trans ch0
  replace ch1 := (hbb.cell (p := ⟨w24.heap.size, 1, none⟩) lh).trans ch1
  replace lh : w24.heap.size < w27.heap.size := Nat.lt_of_lt_of_le lh hsw27
  have HBw27 : Hid (Below w.heap.size w w27) := Lib.hid (HBw26.out.trans (hbb.mono HBw26.out.size))
  clear hbb HBw26
  clear hb
  go_wp2_with fail
  refine (heldSSb _ r.2.2.length _ r.2.2 (1 + (szN r.2.1 : Int)) _ rfl (SlB.read GN.out) HBL.out HBS.out (by omega) (by omega) (by omega)).mono ?_
  rintro e w28 ⟨rfl, hb⟩
  have hbb := hb
  have hsw28 := hbb.size
  replace X := Lib.hid (Sl.below (R := EN false) EN.framed X.out hbb)
  replace BX := Lib.hid (BX.out.below hbb)
  replace W0 := Lib.hid (Sl.below (R := EN false) EN.framed W0.out hbb)
  replace W1 := Lib.hid (Sl.below (R := EB false) EB.framed W1.out hbb)
  replace GM := Lib.hid (Sl.below (R := EN true) EN.framed GM.out hbb)
  replace GN := Lib.hid (Sl.below (R := EB true) EB.framed GN.out hbb)
  replace H0 := Lib.hid (Sl.below (R := EN true) EN.framed H0.out hbb)
  replace H1 := Lib.hid (Sl.below (R := EB true) EB.framed H1.out hbb)
  replace ca0 := (hbb.cell (p := ⟨w.heap.size, 0, none⟩) la).trans ca0
  replace ca1 := (hbb.cell (p := ⟨w.heap.size, 1, none⟩) la).trans ca1
  replace la : w.heap.size < w28.heap.size := Nat.lt_of_lt_of_le la hsw28
  replace cw0 := (hbb.cell (p := ⟨w4.heap.size, 0, none⟩) lw).trans cw0
  replace cw1 := (hbb.cell (p := ⟨w4.heap.size, 1, none⟩) lw).trans cw1
  replace lw : w4.heap.size < w28.heap.size := Nat.lt_of_lt_of_le lw hsw28
  replace cx0 := (hbb.cell (p := ⟨w5.heap.size, 0, none⟩) lx).trans cx0
  replace cx1 := (hbb.cell (p := ⟨w5.heap.size, 1, none⟩) lx).trans cx1
  replace lx : w5.heap.size < w28.heap.size := Nat.lt_of_lt_of_le lx hsw28
  replace cg0 := (hbb.cell (p := ⟨w7.heap.size, 0, none⟩) lg).trans cg0
  replace cg1 := (hbb.cell (p := ⟨w7.heap.size, 1, none⟩) lg).trans cg1
  replace lg : w7.heap.size < w28.heap.size := Nat.lt_of_lt_of_le lg hsw28
  replace ch0 := (hbb.cell (p := ⟨w24.heap.size, 0, none⟩) lh).trans ch0
  replace ch1 := (hbb.cell (p := ⟨w24.heap.size, 1, none⟩) lh).trans ch1
  replace lh : w24.heap.size < w28.heap.size := Nat.lt_of_lt_of_le lh hsw28
  have HBw28 : Hid (Below w.heap.size w w28) := Lib.hid (HBw27.out.trans (hbb.mono HBw27.out.size))
  clear hbb HBw27
  clear hb
  go_wp2
  go_ret
  exact ⟨rfl, HBw28.out⟩

end Go.Proofs.Ytnfgdgmmbddmgaa
