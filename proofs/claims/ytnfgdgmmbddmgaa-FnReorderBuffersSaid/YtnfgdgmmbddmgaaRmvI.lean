/- MoveStart of the program. -/
import Derived.Test.YtnfgdgmmbddmgaaRmsS
namespace Go.Proofs.Ytnfgdgmmbddmgaa
open Go.RowKit
set_option linter.unusedVariables false
set_option linter.unusedSimpArgs false

set_option maxRecDepth 10000 in
set_option maxHeartbeats 8000000 in
theorem implMS_any {T : Nat → Prop} (st : Int) (A0 : Option Addr) (c0 : Nat) (xs : List NF) (q : Int) (w : World) (hx : Sl false 2 (EN false) w T A0 xs) (hm : xs.length ≤ 1000000000) (hlx : ∀ x ∈ xs, x.2.length ≤ 1000000000) :
    Calls Try.prog 15 #[.agg #[.int .i64 st, .slice A0 xs.length c0], .int .i64 q] w fun e w' => CpM w (moveR st q xs) e w' := by
  obtain ⟨i0, hI0, hz0, hz1, hz2⟩ := info_parts infoBSS
  have HX := Lib.hid hx
  have HLX := Lib.hid hlx
  clear hx hlx
  cases hv : vROB st xs
  · have HV := Lib.hid hv
    have HR : Hid (moveR st q xs = (st, xs, [])) := Lib.hid (by unfold moveR; rw [if_neg (by rw [hv]; simp)])
    have HD := Lib.hid (rfl : inR 0 0 0 = inR 0 0 0)
    clear hv
    go_enter Try.func15, Try.ntmps15
    go_wp2_with fail
    refine (copyRB_any st A0 c0 xs _ (Sl.below (R := EN false) EN.framed HX.out (by repeat (first | (with_reducible exact Below.refl _ _) | (with_reducible refine Below.ext ?_ (by go_size) _ _) | (with_reducible refine Below.alloc ?_ (by go_size) _) | (with_reducible refine Below.setCell ?_ (by go_size) _) | (with_reducible refine Below.drew ?_) | (with_reducible refine Below.drewN_ ?_ _)))) hm HLX.out).mono ?_
    rintro e w1 ⟨A, c, rfl, hb, hcap, hin⟩
    have hs1 := hb.size
    have x0 := hb.cell (p := ⟨w.heap.size, 0, none⟩) (by simp; try omega)
    have x1 := hb.cell (p := ⟨w.heap.size, 1, none⟩) (by simp; try omega)
    have r0 := hb.cell (p := ⟨w.heap.size + 1, 0, none⟩) (by simp)
    have r1 := hb.cell (p := ⟨w.heap.size + 1, 1, none⟩) (by simp)
    have z0 := hb.frozen (p := ⟨w.heap.size + 1, 0, none⟩) (by simp)
    have z1 := hb.frozen (p := ⟨w.heap.size + 1, 1, none⟩) (by simp)
    simp [go_sem] at x0 x1 r0 r1 z0 z1 hs1
    have hB1 : Below w.heap.size w w1 := Below.trans (by repeat (first | (with_reducible exact Below.refl _ _) | (with_reducible refine Below.ext ?_ (by go_size) _ _) | (with_reducible refine Below.alloc ?_ (by go_size) _) | (with_reducible refine Below.setCell ?_ (by go_size) _) | (with_reducible refine Below.drew ?_) | (with_reducible refine Below.drewN_ ?_ _))) (hb.mono (by simp; try omega))
    have hin1 := hin.wider (T' := fun b => w.heap.size + 2 ≤ b ∧ b < w1.heap.size) (fun b hb => by simp at hb; omega)
    obtain ⟨nb, hnb⟩ : ∃ nb, nb = w1.heap.size := ⟨_, rfl⟩
    have hal : Below w1.heap.size w1 ((w1.alloc (.cells #[.int .i64 st, .slice A xs.length c] 28)).alloc (.cells #[] 38)) := Below.alloc (Below.alloc (Below.refl _ _) (Nat.le_refl _) _) (by simp) _
    have HBB := Lib.hid (hB1.trans (hal.mono (by omega)))
    have HIB := Lib.hid (Sl.below (R := EN true) EN.framed hin1 hal)
    have hl1 : w1.heap.size + 1 < ((w1.alloc (.cells #[.int .i64 st, .slice A xs.length c] 28)).alloc (.cells #[] 38)).heap.size := by simp
    have hbx : ((w1.alloc (.cells #[.int .i64 st, .slice A xs.length c] 28)).alloc (.cells #[] 38)).heap[w1.heap.size]? = some (.cells #[.int .i64 st, .slice A xs.length c] 28) := ((Below.alloc (Below.refl _ _) (Nat.le_refl _) _).block _ (by simp)).trans (World.heap_new _ _ _ rfl)
    have N0 := Lib.hid (block_cell hbx 0).1
    have N1 := Lib.hid (block_cell hbx 1).1
    have N2 := Lib.hid (block_cell hbx 0).2
    have N3 := Lib.hid (block_cell hbx 1).2
    have NR : Hid (((w1.alloc (.cells #[.int .i64 st, .slice A xs.length c] 28)).alloc (.cells #[] 38)).heap[w1.heap.size + 1]? = some (.cells #[] 38)) := Lib.hid (World.heap_new _ _ _ (by simp))
    have XX0 := Lib.hid ((hal.cell (p := ⟨w.heap.size, 0, none⟩) (by simp only; omega)).trans x0)
    have XX1 := Lib.hid ((hal.cell (p := ⟨w.heap.size, 1, none⟩) (by simp only; omega)).trans x1)
    have RR0 := Lib.hid ((hal.cell (p := ⟨w.heap.size + 1, 0, none⟩) (by simp only; omega)).trans r0)
    have RR1 := Lib.hid ((hal.cell (p := ⟨w.heap.size + 1, 1, none⟩) (by simp only; omega)).trans r1)
    have ZZ0 := Lib.hid ((hal.frozen (p := ⟨w.heap.size + 1, 0, none⟩) (by simp only; omega)).trans z0)
    have ZZ1 := Lib.hid ((hal.frozen (p := ⟨w.heap.size + 1, 1, none⟩) (by simp only; omega)).trans z1)
    have hb2w : w.heap.size < w1.heap.size := by omega
    clear hb hin hin1 hB1 hal r0 r1 z0 z1 hbx
    go_wp2_with (go_at_call 59; refine (implDist_any st q _).mono ?_; rintro e w' ⟨rfl, rfl⟩)
    refine (implVR_any st A0 c0 xs _ (Sl.below (R := EN false) EN.framed HX.out HBB.out) hm HLX.out).mono ?_
    rw [HV.out]
    rintro e w2 ⟨rfl, hb⟩
    have hs2 := hb.size
    simp only [World.size_alloc] at hs2
    have HB2 := Lib.hid (HBB.out.trans (hb.mono (by simp; omega)))
    have HI2 := Lib.hid (Sl.below (R := EN true) EN.framed HIB.out hb)
    have n0 := (hb.cell (p := ⟨w1.heap.size, 0, none⟩) (by simp; try omega)).trans N0.out
    have n1 := (hb.cell (p := ⟨w1.heap.size, 1, none⟩) (by simp; try omega)).trans N1.out
    have n2 := (hb.frozen (p := ⟨w1.heap.size, 0, none⟩) (by simp; try omega)).trans N2.out
    have n3 := (hb.frozen (p := ⟨w1.heap.size, 1, none⟩) (by simp; try omega)).trans N3.out
    have nr := (hb.block _ hl1).trans NR.out
    have r0 := (hb.cell (p := ⟨w.heap.size + 1, 0, none⟩) (by simp; omega)).trans RR0.out
    have r1 := (hb.cell (p := ⟨w.heap.size + 1, 1, none⟩) (by simp; omega)).trans RR1.out
    have z0 := (hb.frozen (p := ⟨w.heap.size + 1, 0, none⟩) (by simp; omega)).trans ZZ0.out
    have z1 := (hb.frozen (p := ⟨w.heap.size + 1, 1, none⟩) (by simp; omega)).trans ZZ1.out
    clear hb HIB HBB N0 N1 N2 N3 NR XX0 XX1 RR0 RR1 ZZ0 ZZ1 hl1 x0 x1
    rw [← hnb] at n0 n1 n2 n3 nr HI2 ⊢
    have n0' : w2.cell? ⟨nb, 0, none⟩ = some (.int .i64 st) := n0
    have n1' : w2.cell? ⟨nb, 1, none⟩ = some (.slice A xs.length c) := n1
    have hnw : w.heap.size + 2 ≤ nb := by omega
    have hnw2 : nb + 1 < w2.heap.size := by omega
    have HNR := Lib.hid nr
    clear n0 n1 nr hnb hs1 hs2 hb2w

    have hfin : Chg (fun b => b = w.heap.size + 1) w2 ((w2.setCell ⟨w.heap.size + 1, 0, none⟩ (.int .i64 st)).setCell ⟨w.heap.size + 1, 1, none⟩ (.slice A xs.length c)) := Chg.setCell_ (S := fun b => b = w.heap.size + 1) (Chg.setCell_ (S := fun b => b = w.heap.size + 1) (Chg.refl _ _) (p := ⟨w.heap.size + 1, 0, none⟩) rfl _) (p := ⟨w.heap.size + 1, 1, none⟩) rfl _
    have hv0 : ((w2.setCell ⟨w.heap.size + 1, 0, none⟩ (.int .i64 st)).setCell ⟨w.heap.size + 1, 1, none⟩ (.slice A xs.length c)).cell? ⟨w.heap.size + 1, 0, none⟩ = some (.int .i64 st) := by rw [World.cell?_setCell_other _ _ _ _ (fun e => by injection e with _ e2; omega)]; exact World.cell?_setCell_same _ _ _ r0
    have hv1 : ((w2.setCell ⟨w.heap.size + 1, 0, none⟩ (.int .i64 st)).setCell ⟨w.heap.size + 1, 1, none⟩ (.slice A xs.length c)).cell? ⟨w.heap.size + 1, 1, none⟩ = some (.slice A xs.length c) := World.cell?_setCell_same (u := .slice none 0 0) _ _ _ (by rw [World.cell?_setCell_other _ _ _ _ (fun e => by injection e with _ e2; omega)]; exact r1)
    have HF := Lib.hid hfin
    have HV0 := Lib.hid hv0
    have HV1 := Lib.hid hv1
    clear hfin hv0 hv1
    go_wp2_with (go_at_call 60; refine (inRange_any _ _ _ _).mono ?_; rw [HD.out]; rintro e w' ⟨rfl, rfl⟩)
    refine bodyPost_ret (v := .tuple #[.agg #[.int .i64 st, .slice A xs.length c], .slice (some ⟨nb + 1, 0, none⟩) 0 0]) (by simp [results, Try.results15, go_sem, HV0.out, HV1.out]) rfl ?_
    rw [HR.out]
    have h1 := HF.out.size
    refine ⟨A, c, nb + 1, 0, (fun b => w.heap.size + 2 ≤ b ∧ b < nb), (fun b => b = nb + 1), rfl, HB2.out.trans (HF.out.below (by omega) (fun k hk => by omega)), hcap, fun b hb => ⟨by omega, by omega, by omega⟩, fun b hb => ⟨by omega, by omega⟩, Sl.frame (R := EN true) EN.framed HI2.out HF.out (fun b hb h2 => by omega), OwS.new (by omega) ((HF.out.block _ hnw2 (by omega)).trans HNR.out), rfl⟩
  · have HV := Lib.hid hv
    cases hd : inR (seqD st q) 0 2047
    · have HR : Hid (moveR st q xs = (st, xs, [])) := Lib.hid (by unfold moveR; rw [if_neg (by rw [hd]; simp)])
      have HD := Lib.hid hd
      clear hv hd
      go_enter Try.func15, Try.ntmps15
      go_wp2_with fail
      refine (copyRB_any st A0 c0 xs _ (Sl.below (R := EN false) EN.framed HX.out (by repeat (first | (with_reducible exact Below.refl _ _) | (with_reducible refine Below.ext ?_ (by go_size) _ _) | (with_reducible refine Below.alloc ?_ (by go_size) _) | (with_reducible refine Below.setCell ?_ (by go_size) _) | (with_reducible refine Below.drew ?_) | (with_reducible refine Below.drewN_ ?_ _)))) hm HLX.out).mono ?_
      rintro e w1 ⟨A, c, rfl, hb, hcap, hin⟩
      have hs1 := hb.size
      have x0 := hb.cell (p := ⟨w.heap.size, 0, none⟩) (by simp; try omega)
      have x1 := hb.cell (p := ⟨w.heap.size, 1, none⟩) (by simp; try omega)
      have r0 := hb.cell (p := ⟨w.heap.size + 1, 0, none⟩) (by simp)
      have r1 := hb.cell (p := ⟨w.heap.size + 1, 1, none⟩) (by simp)
      have z0 := hb.frozen (p := ⟨w.heap.size + 1, 0, none⟩) (by simp)
      have z1 := hb.frozen (p := ⟨w.heap.size + 1, 1, none⟩) (by simp)
      simp [go_sem] at x0 x1 r0 r1 z0 z1 hs1
      have hB1 : Below w.heap.size w w1 := Below.trans (by repeat (first | (with_reducible exact Below.refl _ _) | (with_reducible refine Below.ext ?_ (by go_size) _ _) | (with_reducible refine Below.alloc ?_ (by go_size) _) | (with_reducible refine Below.setCell ?_ (by go_size) _) | (with_reducible refine Below.drew ?_) | (with_reducible refine Below.drewN_ ?_ _))) (hb.mono (by simp; try omega))
      have hin1 := hin.wider (T' := fun b => w.heap.size + 2 ≤ b ∧ b < w1.heap.size) (fun b hb => by simp at hb; omega)
      obtain ⟨nb, hnb⟩ : ∃ nb, nb = w1.heap.size := ⟨_, rfl⟩
      have hal : Below w1.heap.size w1 ((w1.alloc (.cells #[.int .i64 st, .slice A xs.length c] 28)).alloc (.cells #[] 38)) := Below.alloc (Below.alloc (Below.refl _ _) (Nat.le_refl _) _) (by simp) _
      have HBB := Lib.hid (hB1.trans (hal.mono (by omega)))
      have HIB := Lib.hid (Sl.below (R := EN true) EN.framed hin1 hal)
      have hl1 : w1.heap.size + 1 < ((w1.alloc (.cells #[.int .i64 st, .slice A xs.length c] 28)).alloc (.cells #[] 38)).heap.size := by simp
      have hbx : ((w1.alloc (.cells #[.int .i64 st, .slice A xs.length c] 28)).alloc (.cells #[] 38)).heap[w1.heap.size]? = some (.cells #[.int .i64 st, .slice A xs.length c] 28) := ((Below.alloc (Below.refl _ _) (Nat.le_refl _) _).block _ (by simp)).trans (World.heap_new _ _ _ rfl)
      have N0 := Lib.hid (block_cell hbx 0).1
      have N1 := Lib.hid (block_cell hbx 1).1
      have N2 := Lib.hid (block_cell hbx 0).2
      have N3 := Lib.hid (block_cell hbx 1).2
      have NR : Hid (((w1.alloc (.cells #[.int .i64 st, .slice A xs.length c] 28)).alloc (.cells #[] 38)).heap[w1.heap.size + 1]? = some (.cells #[] 38)) := Lib.hid (World.heap_new _ _ _ (by simp))
      have XX0 := Lib.hid ((hal.cell (p := ⟨w.heap.size, 0, none⟩) (by simp only; omega)).trans x0)
      have XX1 := Lib.hid ((hal.cell (p := ⟨w.heap.size, 1, none⟩) (by simp only; omega)).trans x1)
      have RR0 := Lib.hid ((hal.cell (p := ⟨w.heap.size + 1, 0, none⟩) (by simp only; omega)).trans r0)
      have RR1 := Lib.hid ((hal.cell (p := ⟨w.heap.size + 1, 1, none⟩) (by simp only; omega)).trans r1)
      have ZZ0 := Lib.hid ((hal.frozen (p := ⟨w.heap.size + 1, 0, none⟩) (by simp only; omega)).trans z0)
      have ZZ1 := Lib.hid ((hal.frozen (p := ⟨w.heap.size + 1, 1, none⟩) (by simp only; omega)).trans z1)
      have hb2w : w.heap.size < w1.heap.size := by omega
      clear hb hin hin1 hB1 hal r0 r1 z0 z1 hbx
      go_wp2_with (go_at_call 59; refine (implDist_any st q _).mono ?_; rintro e w' ⟨rfl, rfl⟩)
      refine (implVR_any st A0 c0 xs _ (Sl.below (R := EN false) EN.framed HX.out HBB.out) hm HLX.out).mono ?_
      rw [HV.out]
      rintro e w2 ⟨rfl, hb⟩
      have hs2 := hb.size
      simp only [World.size_alloc] at hs2
      have HB2 := Lib.hid (HBB.out.trans (hb.mono (by simp; omega)))
      have HI2 := Lib.hid (Sl.below (R := EN true) EN.framed HIB.out hb)
      have n0 := (hb.cell (p := ⟨w1.heap.size, 0, none⟩) (by simp; try omega)).trans N0.out
      have n1 := (hb.cell (p := ⟨w1.heap.size, 1, none⟩) (by simp; try omega)).trans N1.out
      have n2 := (hb.frozen (p := ⟨w1.heap.size, 0, none⟩) (by simp; try omega)).trans N2.out
      have n3 := (hb.frozen (p := ⟨w1.heap.size, 1, none⟩) (by simp; try omega)).trans N3.out
      have nr := (hb.block _ hl1).trans NR.out
      have r0 := (hb.cell (p := ⟨w.heap.size + 1, 0, none⟩) (by simp; omega)).trans RR0.out
      have r1 := (hb.cell (p := ⟨w.heap.size + 1, 1, none⟩) (by simp; omega)).trans RR1.out
      have z0 := (hb.frozen (p := ⟨w.heap.size + 1, 0, none⟩) (by simp; omega)).trans ZZ0.out
      have z1 := (hb.frozen (p := ⟨w.heap.size + 1, 1, none⟩) (by simp; omega)).trans ZZ1.out
      clear hb HIB HBB N0 N1 N2 N3 NR XX0 XX1 RR0 RR1 ZZ0 ZZ1 hl1 x0 x1
      rw [← hnb] at n0 n1 n2 n3 nr HI2 ⊢
      have n0' : w2.cell? ⟨nb, 0, none⟩ = some (.int .i64 st) := n0
      have n1' : w2.cell? ⟨nb, 1, none⟩ = some (.slice A xs.length c) := n1
      have hnw : w.heap.size + 2 ≤ nb := by omega
      have hnw2 : nb + 1 < w2.heap.size := by omega
      have HNR := Lib.hid nr
      clear n0 n1 nr hnb hs1 hs2 hb2w

      have hfin : Chg (fun b => b = w.heap.size + 1) w2 ((w2.setCell ⟨w.heap.size + 1, 0, none⟩ (.int .i64 st)).setCell ⟨w.heap.size + 1, 1, none⟩ (.slice A xs.length c)) := Chg.setCell_ (S := fun b => b = w.heap.size + 1) (Chg.setCell_ (S := fun b => b = w.heap.size + 1) (Chg.refl _ _) (p := ⟨w.heap.size + 1, 0, none⟩) rfl _) (p := ⟨w.heap.size + 1, 1, none⟩) rfl _
      have hv0 : ((w2.setCell ⟨w.heap.size + 1, 0, none⟩ (.int .i64 st)).setCell ⟨w.heap.size + 1, 1, none⟩ (.slice A xs.length c)).cell? ⟨w.heap.size + 1, 0, none⟩ = some (.int .i64 st) := by rw [World.cell?_setCell_other _ _ _ _ (fun e => by injection e with _ e2; omega)]; exact World.cell?_setCell_same _ _ _ r0
      have hv1 : ((w2.setCell ⟨w.heap.size + 1, 0, none⟩ (.int .i64 st)).setCell ⟨w.heap.size + 1, 1, none⟩ (.slice A xs.length c)).cell? ⟨w.heap.size + 1, 1, none⟩ = some (.slice A xs.length c) := World.cell?_setCell_same (u := .slice none 0 0) _ _ _ (by rw [World.cell?_setCell_other _ _ _ _ (fun e => by injection e with _ e2; omega)]; exact r1)
      have HF := Lib.hid hfin
      have HV0 := Lib.hid hv0
      have HV1 := Lib.hid hv1
      clear hfin hv0 hv1
      go_wp2_with (go_at_call 60; refine (inRange_any _ _ _ _).mono ?_; rw [HD.out]; rintro e w' ⟨rfl, rfl⟩)
      refine bodyPost_ret (v := .tuple #[.agg #[.int .i64 st, .slice A xs.length c], .slice (some ⟨nb + 1, 0, none⟩) 0 0]) (by simp [results, Try.results15, go_sem, HV0.out, HV1.out]) rfl ?_
      rw [HR.out]
      have h1 := HF.out.size
      refine ⟨A, c, nb + 1, 0, (fun b => w.heap.size + 2 ≤ b ∧ b < nb), (fun b => b = nb + 1), rfl, HB2.out.trans (HF.out.below (by omega) (fun k hk => by omega)), hcap, fun b hb => ⟨by omega, by omega, by omega⟩, fun b hb => ⟨by omega, by omega⟩, Sl.frame (R := EN true) EN.framed HI2.out HF.out (fun b hb h2 => by omega), OwS.new (by omega) ((HF.out.block _ hnw2 (by omega)).trans HNR.out), rfl⟩
    · have HMR : Hid (moveR st q xs = relR q (movR st (seqD st q) xs []).1 (movR st (seqD st q) xs []).2) := Lib.hid (by unfold moveR; rw [if_pos ⟨hv, hd⟩])
      have HD := Lib.hid hd
      clear hv hd
      go_enter Try.func15, Try.ntmps15
      go_wp2_with fail
      refine (copyRB_any st A0 c0 xs _ (Sl.below (R := EN false) EN.framed HX.out (by repeat (first | (with_reducible exact Below.refl _ _) | (with_reducible refine Below.ext ?_ (by go_size) _ _) | (with_reducible refine Below.alloc ?_ (by go_size) _) | (with_reducible refine Below.setCell ?_ (by go_size) _) | (with_reducible refine Below.drew ?_) | (with_reducible refine Below.drewN_ ?_ _)))) hm HLX.out).mono ?_
      rintro e w1 ⟨A, c, rfl, hb, hcap, hin⟩
      have hs1 := hb.size
      have x0 := hb.cell (p := ⟨w.heap.size, 0, none⟩) (by simp; try omega)
      have x1 := hb.cell (p := ⟨w.heap.size, 1, none⟩) (by simp; try omega)
      have r0 := hb.cell (p := ⟨w.heap.size + 1, 0, none⟩) (by simp)
      have r1 := hb.cell (p := ⟨w.heap.size + 1, 1, none⟩) (by simp)
      have z0 := hb.frozen (p := ⟨w.heap.size + 1, 0, none⟩) (by simp)
      have z1 := hb.frozen (p := ⟨w.heap.size + 1, 1, none⟩) (by simp)
      simp [go_sem] at x0 x1 r0 r1 z0 z1 hs1
      have hB1 : Below w.heap.size w w1 := Below.trans (by repeat (first | (with_reducible exact Below.refl _ _) | (with_reducible refine Below.ext ?_ (by go_size) _ _) | (with_reducible refine Below.alloc ?_ (by go_size) _) | (with_reducible refine Below.setCell ?_ (by go_size) _) | (with_reducible refine Below.drew ?_) | (with_reducible refine Below.drewN_ ?_ _))) (hb.mono (by simp; try omega))
      have hin1 := hin.wider (T' := fun b => w.heap.size + 2 ≤ b ∧ b < w1.heap.size) (fun b hb => by simp at hb; omega)
      obtain ⟨nb, hnb⟩ : ∃ nb, nb = w1.heap.size := ⟨_, rfl⟩
      have hal : Below w1.heap.size w1 ((w1.alloc (.cells #[.int .i64 st, .slice A xs.length c] 28)).alloc (.cells #[] 38)) := Below.alloc (Below.alloc (Below.refl _ _) (Nat.le_refl _) _) (by simp) _
      have HBB := Lib.hid (hB1.trans (hal.mono (by omega)))
      have HIB := Lib.hid (Sl.below (R := EN true) EN.framed hin1 hal)
      have hl1 : w1.heap.size + 1 < ((w1.alloc (.cells #[.int .i64 st, .slice A xs.length c] 28)).alloc (.cells #[] 38)).heap.size := by simp
      have hbx : ((w1.alloc (.cells #[.int .i64 st, .slice A xs.length c] 28)).alloc (.cells #[] 38)).heap[w1.heap.size]? = some (.cells #[.int .i64 st, .slice A xs.length c] 28) := ((Below.alloc (Below.refl _ _) (Nat.le_refl _) _).block _ (by simp)).trans (World.heap_new _ _ _ rfl)
      have N0 := Lib.hid (block_cell hbx 0).1
      have N1 := Lib.hid (block_cell hbx 1).1
      have N2 := Lib.hid (block_cell hbx 0).2
      have N3 := Lib.hid (block_cell hbx 1).2
      have NR : Hid (((w1.alloc (.cells #[.int .i64 st, .slice A xs.length c] 28)).alloc (.cells #[] 38)).heap[w1.heap.size + 1]? = some (.cells #[] 38)) := Lib.hid (World.heap_new _ _ _ (by simp))
      have XX0 := Lib.hid ((hal.cell (p := ⟨w.heap.size, 0, none⟩) (by simp only; omega)).trans x0)
      have XX1 := Lib.hid ((hal.cell (p := ⟨w.heap.size, 1, none⟩) (by simp only; omega)).trans x1)
      have RR0 := Lib.hid ((hal.cell (p := ⟨w.heap.size + 1, 0, none⟩) (by simp only; omega)).trans r0)
      have RR1 := Lib.hid ((hal.cell (p := ⟨w.heap.size + 1, 1, none⟩) (by simp only; omega)).trans r1)
      have ZZ0 := Lib.hid ((hal.frozen (p := ⟨w.heap.size + 1, 0, none⟩) (by simp only; omega)).trans z0)
      have ZZ1 := Lib.hid ((hal.frozen (p := ⟨w.heap.size + 1, 1, none⟩) (by simp only; omega)).trans z1)
      have hb2w : w.heap.size < w1.heap.size := by omega
      clear hb hin hin1 hB1 hal r0 r1 z0 z1 hbx
      go_wp2_with (go_at_call 59; refine (implDist_any st q _).mono ?_; rintro e w' ⟨rfl, rfl⟩)
      refine (implVR_any st A0 c0 xs _ (Sl.below (R := EN false) EN.framed HX.out HBB.out) hm HLX.out).mono ?_
      rw [HV.out]
      rintro e w2 ⟨rfl, hb⟩
      have hs2 := hb.size
      simp only [World.size_alloc] at hs2
      have HB2 := Lib.hid (HBB.out.trans (hb.mono (by simp; omega)))
      have HI2 := Lib.hid (Sl.below (R := EN true) EN.framed HIB.out hb)
      have n0 := (hb.cell (p := ⟨w1.heap.size, 0, none⟩) (by simp; try omega)).trans N0.out
      have n1 := (hb.cell (p := ⟨w1.heap.size, 1, none⟩) (by simp; try omega)).trans N1.out
      have n2 := (hb.frozen (p := ⟨w1.heap.size, 0, none⟩) (by simp; try omega)).trans N2.out
      have n3 := (hb.frozen (p := ⟨w1.heap.size, 1, none⟩) (by simp; try omega)).trans N3.out
      have nr := (hb.block _ hl1).trans NR.out
      have r0 := (hb.cell (p := ⟨w.heap.size + 1, 0, none⟩) (by simp; omega)).trans RR0.out
      have r1 := (hb.cell (p := ⟨w.heap.size + 1, 1, none⟩) (by simp; omega)).trans RR1.out
      have z0 := (hb.frozen (p := ⟨w.heap.size + 1, 0, none⟩) (by simp; omega)).trans ZZ0.out
      have z1 := (hb.frozen (p := ⟨w.heap.size + 1, 1, none⟩) (by simp; omega)).trans ZZ1.out
      clear hb HIB HBB N0 N1 N2 N3 NR XX0 XX1 RR0 RR1 ZZ0 ZZ1 hl1 x0 x1
      rw [← hnb] at n0 n1 n2 n3 nr HI2 ⊢
      have n0' : w2.cell? ⟨nb, 0, none⟩ = some (.int .i64 st) := n0
      have n1' : w2.cell? ⟨nb, 1, none⟩ = some (.slice A xs.length c) := n1
      have hnw : w.heap.size + 2 ≤ nb := by omega
      have hnw2 : nb + 1 < w2.heap.size := by omega
      have HNR := Lib.hid nr
      clear n0 n1 nr hnb hs1 hs2 hb2w

      have HT1 : Hid (∀ b, (w.heap.size + 2 ≤ b ∧ b < nb) → w.heap.size + 2 ≤ b ∧ b < nb) := Lib.hid (fun b h => h)
      go_wp2_with (go_at_call 60; refine (inRange_any _ _ _ _).mono ?_; rw [HD.out]; rintro e w' ⟨rfl, rfl⟩)
      go_loopw [8] (fun v wr => ∃ (A' : Option Addr) (c' : Nat) (ys' : List NF) (g : Nat) (l : List (List Int)) (cl : Nat) (T1' T2' : Nat → Prop), v = .slice (some ⟨g, 0, none⟩) l.length cl ∧ Hid (movR st (seqD st q) xs [] = movR st (seqD st q) ys' l) ∧ Hid (l.length + ys'.length = xs.length) ∧ Hid (Below w.heap.size w wr) ∧
          wr.cell? ⟨nb, 0, none⟩ = some (.int .i64 st) ∧ wr.cell? ⟨nb, 1, none⟩ = some (.slice A' ys'.length c') ∧ wr.cell? ⟨w.heap.size + 1, 0, none⟩ = some (.int .i64 0) ∧ wr.cell? ⟨w.heap.size + 1, 1, none⟩ = some (.slice none 0 0) ∧ wr.frozen? ⟨nb, 0, none⟩ = false ∧ wr.frozen? ⟨nb, 1, none⟩ = false ∧ wr.frozen? ⟨w.heap.size + 1, 0, none⟩ = false ∧ wr.frozen? ⟨w.heap.size + 1, 1, none⟩ = false ∧
          Hid (Sl true 2 (EN true) wr T1' A' ys') ∧ ys'.length ≤ c' ∧ Hid (OwS true 1 (EB true) 38 wr T2' ((nb + 1)) (some ⟨g, 0, none⟩) cl l) ∧ Hid (∀ b, T1' b → (w.heap.size + 2 ≤ b ∧ b < nb) ∧ ¬ T2' b) ∧ Hid (∀ b, T2' b → (w.heap.size + 2 ≤ b ∧ b < nb)) ∧ (nb + 1) ≤ g ∧ (nb + 1) ≤ wr.heap.size) (fun v _ => xs.length - lenOf v)
      case atStart =>
        refine ⟨A, c, xs, nb + 1, [], 0, (fun b => w.heap.size + 2 ≤ b ∧ b < nb), (fun _ => False), rfl, Lib.hid rfl, Lib.hid (by simp), HB2, n0', n1', r0, r1, n2, n3, z0, z1, HI2, hcap, Lib.hid (OwS.new (Nat.le_refl _) HNR.out), Lib.hid (fun b h => ⟨h, fun h => h⟩), Lib.hid (fun b h => h.elim), Nat.le_refl _, by omega⟩
      case round =>
        obtain ⟨A', c', ys', g, l, cl, T1', T2', rfl, HR, HN, HB, k0, k1, r0, r1, z0, z1, y0, y1, HS, hcap', HO, HD1, HD2, hgg, hws⟩ := hrel
        have hgl := HO.out.lt
        have hgw0 : ¬ g = nb := by omega
        have hgw1 : ¬ g = w.heap.size + 1 := by omega
        by_cases hys : ys' = []
        · subst hys
          have HRE : Hid (movR st (seqD st q) xs [] = ([], l)) := Lib.hid (by rw [HR.out]; rfl)
          simp only [List.length_nil] at k1 hcap'
          go_wp2
          refine wp_region_held_drew (S := (fun w' => w'.cell? ⟨nb, 0, none⟩ = some (.int .i64 st) ∧ w'.cell? ⟨nb, 1, none⟩ = some (.slice A' 0 c'))) (by kernel_rfl) ?_ (fun hHeld => ?_)
          · first | exact ⟨k0, k1⟩ | (simp [go_sem, *]; done)
          refine wpAnyH_takeW (i := 0) (d := some 26) (v := ?_) (by simp only [List.getElem?_toArray, List.getElem?_cons_succ, List.getElem?_cons_zero]; rfl) (by rfl) (by kernel_rfl) (by kernel_rfl) (by kernel_rfl) (by intro _ _ _ h; exact h) (by rfl) ?_ (by assumption) ?_
          rotate_left 1
          · (intro w hSw; (try dsimp only at hSw); go_simp; try (with_reducible rfl))
          (try simp only [Act.put, List.setIfInBounds_toArray, List.set_cons_zero, List.set_cons_succ])
          refine wpAnyH_takeW (i := 1) (d := some 27) (v := ?_) (by simp only [List.getElem?_toArray, List.getElem?_cons_succ, List.getElem?_cons_zero]; rfl) (by rfl) (by kernel_rfl) (by kernel_rfl) (by kernel_rfl) (by intro _ _ _ h; exact h) (by rfl) ?_ (by assumption) ?_
          rotate_left 1
          · (intro w hSw; (try dsimp only at hSw); go_simp; try (with_reducible rfl))
          (try simp only [Act.put, List.setIfInBounds_toArray, List.set_cons_zero, List.set_cons_succ])
          refine wpAnyH_takeW (i := 2) (d := some 28) (v := ?_) (by simp only [List.getElem?_toArray, List.getElem?_cons_succ, List.getElem?_cons_zero]; rfl) (by rfl) (by kernel_rfl) (by kernel_rfl) (by kernel_rfl) (by intro _ _ _ h; exact h) (by rfl) ?_ (by assumption) ?_
          rotate_left 1
          · (intro w hSw; (try dsimp only at hSw); go_simp; try (with_reducible rfl))
          (try simp only [Act.put, List.setIfInBounds_toArray, List.set_cons_zero, List.set_cons_succ])
          refine wpAnyH_takeW (i := 3) (d := some 29) (v := ?_) (by simp only [List.getElem?_toArray, List.getElem?_cons_succ, List.getElem?_cons_zero]; rfl) (by rfl) (by kernel_rfl) (by kernel_rfl) (by kernel_rfl) (by intro _ _ _ h; exact h) (by rfl) ?_ (by assumption) ?_
          rotate_left 1
          · (intro w hSw; (try dsimp only at hSw); go_simp; try (with_reducible rfl))
          (try simp only [Act.put, List.setIfInBounds_toArray, List.set_cons_zero, List.set_cons_succ])
          refine wpAnyH_takeW (i := 4) (d := some 30) (v := ?_) (by simp only [List.getElem?_toArray, List.getElem?_cons_succ, List.getElem?_cons_zero]; rfl) (by rfl) (by kernel_rfl) (by kernel_rfl) (by kernel_rfl) (by intro _ _ _ h; exact h) (by rfl) ?_ (by assumption) ?_
          rotate_left 1
          · (intro w hSw; (try dsimp only at hSw); go_simp; try (with_reducible rfl))
          (try simp only [Act.put, List.setIfInBounds_toArray, List.set_cons_zero, List.set_cons_succ])
          refine wpAnyH_takeU (i := 5) (d := some 31) (by simp only [List.getElem?_toArray, List.getElem?_cons_succ, List.getElem?_cons_zero]; rfl) (by rfl) (by kernel_rfl) (by kernel_rfl) (by kernel_rfl) (by intro _ _ _ h; exact h) (by rfl) (by assumption) ?_
          (try simp only [Act.put, List.setIfInBounds_toArray, List.set_cons_zero, List.set_cons_succ])
          refine wpAnyH_takeU (i := 6) (d := some 32) (by simp only [List.getElem?_toArray, List.getElem?_cons_succ, List.getElem?_cons_zero]; rfl) (by rfl) (by kernel_rfl) (by kernel_rfl) (by kernel_rfl) (by intro _ _ _ h; exact h) (by rfl) (by assumption) ?_
          (try simp only [Act.put, List.setIfInBounds_toArray, List.set_cons_zero, List.set_cons_succ])
          refine wpAnyH_takeU (i := 7) (d := some 33) (by simp only [List.getElem?_toArray, List.getElem?_cons_succ, List.getElem?_cons_zero]; rfl) (by rfl) (by kernel_rfl) (by kernel_rfl) (by kernel_rfl) (by intro _ _ _ h; exact h) (by rfl) (by assumption) ?_
          (try simp only [Act.put, List.setIfInBounds_toArray, List.set_cons_zero, List.set_cons_succ])
          refine wpAnyH_takeU (i := 8) (d := some 34) (by simp only [List.getElem?_toArray, List.getElem?_cons_succ, List.getElem?_cons_zero]; rfl) (by rfl) (by kernel_rfl) (by kernel_rfl) (by kernel_rfl) (by intro _ _ _ h; exact h) (by rfl) (by assumption) ?_
          (try simp only [Act.put, List.setIfInBounds_toArray, List.set_cons_zero, List.set_cons_succ])
          refine wpAnyH_takeU (i := 9) (d := some 35) (by simp only [List.getElem?_toArray, List.getElem?_cons_succ, List.getElem?_cons_zero]; rfl) (by rfl) (by kernel_rfl) (by kernel_rfl) (by kernel_rfl) (by intro _ _ _ h; exact h) (by rfl) (by assumption) ?_
          (try simp only [Act.put, List.setIfInBounds_toArray, List.set_cons_zero, List.set_cons_succ])
          refine wpAnyH_takeU (i := 10) (d := some 36) (by simp only [List.getElem?_toArray, List.getElem?_cons_succ, List.getElem?_cons_zero]; rfl) (by rfl) (by kernel_rfl) (by kernel_rfl) (by kernel_rfl) (by intro _ _ _ h; exact h) (by rfl) (by assumption) ?_
          (try simp only [Act.put, List.setIfInBounds_toArray, List.set_cons_zero, List.set_cons_succ])
          refine wpAnyH_takeU (i := 11) (d := some 37) (by simp only [List.getElem?_toArray, List.getElem?_cons_succ, List.getElem?_cons_zero]; rfl) (by rfl) (by kernel_rfl) (by kernel_rfl) (by kernel_rfl) (by intro _ _ _ h; exact h) (by rfl) (by assumption) ?_
          (try simp only [Act.put, List.setIfInBounds_toArray, List.set_cons_zero, List.set_cons_succ])
          refine wpAnyH_takeU (i := 12) (d := some 38) (by simp only [List.getElem?_toArray, List.getElem?_cons_succ, List.getElem?_cons_zero]; rfl) (by rfl) (by kernel_rfl) (by kernel_rfl) (by kernel_rfl) (by intro _ _ _ h; exact h) (by rfl) (by assumption) ?_
          (try simp only [Act.put, List.setIfInBounds_toArray, List.set_cons_zero, List.set_cons_succ])
          refine wpAnyH_takeU (i := 13) (d := some 39) (by simp only [List.getElem?_toArray, List.getElem?_cons_succ, List.getElem?_cons_zero]; rfl) (by rfl) (by kernel_rfl) (by kernel_rfl) (by kernel_rfl) (by intro _ _ _ h; exact h) (by rfl) (by assumption) ?_
          (try simp only [Act.put, List.setIfInBounds_toArray, List.set_cons_zero, List.set_cons_succ])
          refine wpAnyH_takeU (i := 14) (d := some 40) (by simp only [List.getElem?_toArray, List.getElem?_cons_succ, List.getElem?_cons_zero]; rfl) (by rfl) (by kernel_rfl) (by kernel_rfl) (by kernel_rfl) (by intro _ _ _ h; exact h) (by rfl) (by assumption) ?_
          (try simp only [Act.put, List.setIfInBounds_toArray, List.set_cons_zero, List.set_cons_succ])
          refine wpAnyH_takeW (i := 15) (d := some 41) (v := ?_) (by simp only [List.getElem?_toArray, List.getElem?_cons_succ, List.getElem?_cons_zero]; rfl) (by rfl) (by kernel_rfl) (by kernel_rfl) (by kernel_rfl) (by intro _ _ _ h; exact h) (by rfl) ?_ (by assumption) ?_
          rotate_left 1
          · (intro w hSw; (try dsimp only at hSw); go_simp; try (with_reducible rfl))
          (try simp only [Act.put, List.setIfInBounds_toArray, List.set_cons_zero, List.set_cons_succ])
          refine wpAnyH_done (by kernel_rfl) ?_ _
          obtain ⟨wd, hwd⟩ : ∃ wd, wd = wr.drew := ⟨_, rfl⟩
          rw [← hwd]
          have hbd : Below wr.heap.size wr wd := by rw [hwd]; exact Below.drew (Below.refl _ _)
          have hsd := hbd.size
          clear hwd
          replace k0 := (hbd.cell (p := ⟨nb, 0, none⟩) (by simp only; omega)).trans k0
          replace k1 := (hbd.cell (p := ⟨nb, 1, none⟩) (by simp only; omega)).trans k1
          replace r0 := (hbd.cell (p := ⟨w.heap.size + 1, 0, none⟩) (by simp only; omega)).trans r0
          replace r1 := (hbd.cell (p := ⟨w.heap.size + 1, 1, none⟩) (by simp only; omega)).trans r1
          replace z0 := (hbd.frozen (p := ⟨nb, 0, none⟩) (by simp only; omega)).trans z0
          replace z1 := (hbd.frozen (p := ⟨nb, 1, none⟩) (by simp only; omega)).trans z1
          replace y0 := (hbd.frozen (p := ⟨w.heap.size + 1, 0, none⟩) (by simp only; omega)).trans y0
          replace y1 := (hbd.frozen (p := ⟨w.heap.size + 1, 1, none⟩) (by simp only; omega)).trans y1
          have HSd := Lib.hid (Sl.below (R := EN true) EN.framed HS.out hbd)
          have HOd := Lib.hid (OwS.below (R := EB true) EB.framed HO.out hbd)
          have HBd := Lib.hid (HB.out.trans (hbd.mono HB.out.size))
          have hst0 : Chg (fun b => b = nb) wd (wd.setCell ⟨nb, 0, none⟩ (.int .i64 q)) := Chg.setCell_ (S := fun b => b = nb) (Chg.refl _ _) (p := ⟨nb, 0, none⟩) rfl _
          have hwl : w.heap.size + 1 < wd.heap.size := by omega
          have R0 := Lib.hid ((hst0.cell (p := ⟨w.heap.size + 1, 0, none⟩) hwl (by simp only; omega)).trans r0)
          have R1 := Lib.hid ((hst0.cell (p := ⟨w.heap.size + 1, 1, none⟩) hwl (by simp only; omega)).trans r1)
          have ZZ0 := Lib.hid ((hst0.frozen (p := ⟨w.heap.size + 1, 0, none⟩) hwl (by simp only; omega)).trans y0)
          have ZZ1 := Lib.hid ((hst0.frozen (p := ⟨w.heap.size + 1, 1, none⟩) hwl (by simp only; omega)).trans y1)
          have HSs := Lib.hid (Sl.frame (R := EN true) EN.framed HSd.out hst0 (fun b h1 h2 => by have := HT1.out b (HD1.out b h1).1; omega))
          have HOs := Lib.hid (OwS.frame (R := EB true) EB.framed HOd.out hst0 (fun b h1 h2 => by have := HT1.out b (HD2.out b h1); omega) (fun a' ha' h2 => by injection ha' with ha'; subst ha'; exact hgw0 h2))
          have hss := hst0.size
          have HBs := Lib.hid (HBd.out.trans (hst0.below (by omega) (fun k hk => by omega)))
          have HSSz := Lib.hid hss
          have hne01 : ¬ nb = w.heap.size + 1 := by omega
          have hne10 : ¬ w.heap.size + 1 = nb := by omega
          obtain ⟨z, hz⟩ : ∃ z, z = relR q ([]) l := ⟨_, rfl⟩
          have HR2 := Lib.hid hz
          have HR : Hid (moveR st q xs = z) := Lib.hid (by rw [HMR.out, HRE.out, hz])
          clear hst0 r0 r1 y0 y1 hss hz
          go_wp2_with fail
          have hss := HSSz.out
          refine (implRel_any (T1 := T1') (T2 := T2') q A' c' ([]) g cl l (nb + 1) _ HSs.out hcap' (by have := HN.out; first | omega | (simp at this ⊢; omega)) HOs.out (fun b hb => ?a1) (fun b hb => ?a2) (by omega)).mono ?_
          case a1 => have h1 := HD1.out b hb; have h2 := HT1.out b h1.1; exact ⟨by omega, h1.2, by omega⟩
          case a2 => have h1 := HT1.out b (HD2.out b hb); omega
          rw [← HR2.out]
          rintro e w4 ⟨A4, c4, gb4, cb4, T14, T24, rfl, hc4, hcap4, hd41, hd42, hs4, ho4, hgb⟩
          have hsz4 := hc4.size
          have r0 := (hc4.cell (p := ⟨w.heap.size + 1, 0, none⟩) (by simp only; omega) (by simp only; omega)).trans R0.out
          have r1 := (hc4.cell (p := ⟨w.heap.size + 1, 1, none⟩) (by simp only; omega) (by simp only; omega)).trans R1.out
          have z0 := (hc4.frozen (p := ⟨w.heap.size + 1, 0, none⟩) (by simp only; omega) (by simp only; omega)).trans ZZ0.out
          have z1 := (hc4.frozen (p := ⟨w.heap.size + 1, 1, none⟩) (by simp only; omega) (by simp only; omega)).trans ZZ1.out
          have HB4 := Lib.hid (HBs.out.trans (hc4.below (by omega) (fun k hk => by omega)))
          have HS4 := Lib.hid hs4
          have HO4 := Lib.hid ho4
          have HD41 := Lib.hid hd41
          have HD42 := Lib.hid hd42
          have hge4 := ho4.ge
          have hlt4 := ho4.lt
          clear hc4 hs4 ho4 hd41 hd42 R0 R1 ZZ0 ZZ1
          have hfin : Chg (fun b => b = w.heap.size + 1) w4 ((w4.setCell ⟨w.heap.size + 1, 0, none⟩ (.int .i64 z.1)).setCell ⟨w.heap.size + 1, 1, none⟩ (.slice A4 z.2.1.length c4)) := Chg.setCell_ (S := fun b => b = w.heap.size + 1) (Chg.setCell_ (S := fun b => b = w.heap.size + 1) (Chg.refl _ _) (p := ⟨w.heap.size + 1, 0, none⟩) rfl _) (p := ⟨w.heap.size + 1, 1, none⟩) rfl _
          have hv0 : ((w4.setCell ⟨w.heap.size + 1, 0, none⟩ (.int .i64 z.1)).setCell ⟨w.heap.size + 1, 1, none⟩ (.slice A4 z.2.1.length c4)).cell? ⟨w.heap.size + 1, 0, none⟩ = some (.int .i64 z.1) := by rw [World.cell?_setCell_other _ _ _ _ (fun e => by injection e with _ e2; omega)]; exact World.cell?_setCell_same _ _ _ r0
          have hv1 : ((w4.setCell ⟨w.heap.size + 1, 0, none⟩ (.int .i64 z.1)).setCell ⟨w.heap.size + 1, 1, none⟩ (.slice A4 z.2.1.length c4)).cell? ⟨w.heap.size + 1, 1, none⟩ = some (.slice A4 z.2.1.length c4) := World.cell?_setCell_same (u := .slice none 0 0) _ _ _ (by rw [World.cell?_setCell_other _ _ _ _ (fun e => by injection e with _ e2; omega)]; exact r1)
          have HF := Lib.hid hfin
          have HV0 := Lib.hid hv0
          have HV1 := Lib.hid hv1
          clear hfin hv0 hv1
          go_wp2
          refine bodyPost_ret (v := .tuple #[.agg #[.int .i64 z.1, .slice A4 z.2.1.length c4], .slice (some ⟨gb4, 0, none⟩) z.2.2.length cb4]) (by simp [results, Try.results15, go_sem, HV0.out, HV1.out]) rfl ?_
          rw [HR.out]
          have h1 := HF.out.size
          have t1 : ∀ b, T14 b → w.heap.size + 2 ≤ b ∧ b < nb := fun b hb => HT1.out b (HD1.out b (HD41.out b hb).1).1
          have t2 : ∀ b, T24 b → w.heap.size + 2 ≤ b ∧ b < nb := fun b hb => by rcases HD42.out b hb with h | h; exact HT1.out b (HD2.out b h); exact HT1.out b (HD1.out b h).1
          refine ⟨A4, c4, gb4, cb4, T14, (fun b => T24 b ∨ b = gb4), rfl, HB4.out.trans (HF.out.below (by omega) (fun k hk => by omega)), hcap4, fun b hb => ⟨by have := t1 b hb; omega, by have := t1 b hb; omega, fun h => ?_⟩, fun b hb => ?_, Sl.frame (R := EN true) EN.framed HS4.out HF.out (fun b hb h2 => by have := t1 b hb; omega), ((OwS.frame (R := EB true) EB.framed HO4.out HF.out (fun b hb h2 => by have := t2 b hb; omega) (fun a' ha' h2 => by injection ha' with ha'; subst ha'; simp only at h2; omega)).lower (by omega)).widerT (fun b h1 h2 => .inl h1), .inr rfl⟩
          · rcases h with h | h
            · exact (HD41.out b hb).2 h
            · have := t1 b hb; omega
          · rcases hb with h | h
            · have := t2 b h; omega
            · subst h; omega
        · obtain ⟨x, rest, hxr⟩ := List.exists_cons_of_ne_nil hys
          have hlp : 0 < ys'.length := by rw [hxr]; simp
          have hll : l.length ≤ 1000000000 := by have := HN.out; omega
          obtain ⟨g1, o1, F0, rfl, hg1, hg1T, hnF, hF0, ⟨e0, _, ⟨Bx, dx, e1, _, hrx⟩⟩, htl⟩ := Sl.uncons (by have := HS.out; rw [hxr] at this; exact this)
          obtain ⟨x1, x2⟩ := x
          simp only at e0 e1 hrx
          have HXR := Lib.hid hxr
          obtain ⟨Ar, hsl, hAr⟩ := run_tailN (P := Try.prog) (t := 26) (e := 75) Try.underlying26 sizeNF g1 o1 ys'.length rest.length c' (by rw [hxr]; rfl) hcap'
          have HAR := Lib.hid hAr
          have hrl : ys'.length = rest.length + 1 := by rw [hxr]; rfl
          have HRC : Hid (rest.length ≤ c' - 1) := Lib.hid (by omega)
          clear hrl
          have HTL := Lib.hid htl
          have HRX0 := Lib.hid hrx
          have HF0 := Lib.hid hF0
          have hg1w := HT1.out g1 (HD1.out g1 hg1T).1
          have hg1g : ¬ g1 = g := by omega
          have hg1w0 : ¬ g1 = nb := by omega
          clear htl hrx hF0 hAr hys hxr
          by_cases hst : seqD st x1 < seqD st q
          ·
            go_wp2
            refine wp_region_held_drew (S := (fun w' => w'.cell? ⟨nb, 0, none⟩ = some (.int .i64 st) ∧ w'.cell? ⟨nb, 1, none⟩ = some (.slice (some ⟨g1, o1, none⟩) ys'.length c') ∧ w'.cell? ⟨g1, o1, none⟩ = some (.int .i64 x1))) (by kernel_rfl) ?_ (fun hHeld => ?_)
            · first | exact ⟨k0, k1, e0⟩ | (simp [go_sem, *]; done)
            refine wpAnyH_takeW (i := 0) (d := some 26) (v := ?_) (by simp only [List.getElem?_toArray, List.getElem?_cons_succ, List.getElem?_cons_zero]; rfl) (by rfl) (by kernel_rfl) (by kernel_rfl) (by kernel_rfl) (by intro _ _ _ h; exact h) (by rfl) ?_ (by assumption) ?_
            rotate_left 1
            · (intro w hSw; (try dsimp only at hSw); go_simp; try (with_reducible rfl))
            (try simp only [Act.put, List.setIfInBounds_toArray, List.set_cons_zero, List.set_cons_succ])
            refine wpAnyH_takeW (i := 1) (d := some 27) (v := ?_) (by simp only [List.getElem?_toArray, List.getElem?_cons_succ, List.getElem?_cons_zero]; rfl) (by rfl) (by kernel_rfl) (by kernel_rfl) (by kernel_rfl) (by intro _ _ _ h; exact h) (by rfl) ?_ (by assumption) ?_
            rotate_left 1
            · (intro w hSw; (try dsimp only at hSw); go_simp; try (with_reducible rfl))
            (try simp only [Act.put, List.setIfInBounds_toArray, List.set_cons_zero, List.set_cons_succ])
            refine wpAnyH_takeW (i := 2) (d := some 28) (v := ?_) (by simp only [List.getElem?_toArray, List.getElem?_cons_succ, List.getElem?_cons_zero]; rfl) (by rfl) (by kernel_rfl) (by kernel_rfl) (by kernel_rfl) (by intro _ _ _ h; exact h) (by rfl) ?_ (by assumption) ?_
            rotate_left 1
            · (intro w hSw; (try dsimp only at hSw); go_simp; try (with_reducible rfl))
            (try simp only [Act.put, List.setIfInBounds_toArray, List.set_cons_zero, List.set_cons_succ])
            refine wpAnyH_takeW (i := 3) (d := some 29) (v := ?_) (by simp only [List.getElem?_toArray, List.getElem?_cons_succ, List.getElem?_cons_zero]; rfl) (by rfl) (by kernel_rfl) (by kernel_rfl) (by kernel_rfl) (by intro _ _ _ h; exact h) (by rfl) ?_ (by assumption) ?_
            rotate_left 1
            · (intro w hSw; (try dsimp only at hSw); go_simp; try (with_reducible rfl))
            (try simp only [Act.put, List.setIfInBounds_toArray, List.set_cons_zero, List.set_cons_succ])
            refine wpAnyH_takeW (i := 4) (d := some 30) (v := ?_) (by simp only [List.getElem?_toArray, List.getElem?_cons_succ, List.getElem?_cons_zero]; rfl) (by rfl) (by kernel_rfl) (by kernel_rfl) (by kernel_rfl) (by intro _ _ _ h; exact h) (by rfl) ?_ (by assumption) ?_
            rotate_left 1
            · (intro w hSw; (try dsimp only at hSw); go_simp; try (with_reducible rfl))
            (try simp only [Act.put, List.setIfInBounds_toArray, List.set_cons_zero, List.set_cons_succ])
            refine wpAnyH_takeW (i := 5) (d := some 31) (v := ?_) (by simp only [List.getElem?_toArray, List.getElem?_cons_succ, List.getElem?_cons_zero]; rfl) (by rfl) (by kernel_rfl) (by kernel_rfl) (by kernel_rfl) (by intro _ _ _ h; exact h) (by rfl) ?_ (by assumption) ?_
            rotate_left 1
            · (intro w hSw; (try dsimp only at hSw); go_simp; try (with_reducible rfl))
            (try simp only [Act.put, List.setIfInBounds_toArray, List.set_cons_zero, List.set_cons_succ])
            refine wpAnyH_takeW (i := 6) (d := some 32) (v := ?_) (by simp only [List.getElem?_toArray, List.getElem?_cons_succ, List.getElem?_cons_zero]; rfl) (by rfl) (by kernel_rfl) (by kernel_rfl) (by kernel_rfl) (by intro _ _ _ h; exact h) (by rfl) ?_ (by assumption) ?_
            rotate_left 1
            · (intro w hSw; (try dsimp only at hSw); go_simp; try (with_reducible rfl))
            (try simp only [Act.put, List.setIfInBounds_toArray, List.set_cons_zero, List.set_cons_succ])
            refine wpAnyH_takeW (i := 7) (d := some 33) (v := ?_) (by simp only [List.getElem?_toArray, List.getElem?_cons_succ, List.getElem?_cons_zero]; rfl) (by rfl) (by kernel_rfl) (by kernel_rfl) (by kernel_rfl) (by intro _ _ _ h; exact h) (by rfl) ?_ (by assumption) ?_
            rotate_left 1
            · (intro w hSw; (try dsimp only at hSw); go_simp; try (with_reducible rfl))
            (try simp only [Act.put, List.setIfInBounds_toArray, List.set_cons_zero, List.set_cons_succ])
            refine wpAnyH_takeW (i := 8) (d := some 34) (v := ?_) (by simp only [List.getElem?_toArray, List.getElem?_cons_succ, List.getElem?_cons_zero]; rfl) (by rfl) (by kernel_rfl) (by kernel_rfl) (by kernel_rfl) (by intro _ _ _ h; exact h) (by rfl) ?_ (by assumption) ?_
            rotate_left 1
            · (intro w hSw; (try dsimp only at hSw); go_simp; try (with_reducible rfl))
            (try simp only [Act.put, List.setIfInBounds_toArray, List.set_cons_zero, List.set_cons_succ])
            refine wpAnyH_takeW (i := 9) (d := some 35) (v := ?_) (by simp only [List.getElem?_toArray, List.getElem?_cons_succ, List.getElem?_cons_zero]; rfl) (by rfl) (by kernel_rfl) (by kernel_rfl) (by kernel_rfl) (by intro _ _ _ h; exact h) (by rfl) ?_ (by assumption) ?_
            rotate_left 1
            · (intro w hSw; (try dsimp only at hSw); go_simp; try (with_reducible rfl))
            (try simp only [Act.put, List.setIfInBounds_toArray, List.set_cons_zero, List.set_cons_succ])
            refine wpAnyH_takeW (i := 10) (d := some 36) (v := ?_) (by simp only [List.getElem?_toArray, List.getElem?_cons_succ, List.getElem?_cons_zero]; rfl) (by rfl) (by kernel_rfl) (by kernel_rfl) (by kernel_rfl) (by intro _ _ _ h; exact h) (by rfl) ?_ (by assumption) ?_
            rotate_left 1
            · (intro w hSw; (try dsimp only at hSw); go_simp; try (with_reducible rfl))
            (try simp only [Act.put, List.setIfInBounds_toArray, List.set_cons_zero, List.set_cons_succ])
            refine wpAnyH_takeW (i := 11) (d := some 37) (v := ?_) (by simp only [List.getElem?_toArray, List.getElem?_cons_succ, List.getElem?_cons_zero]; rfl) (by rfl) (by kernel_rfl) (by kernel_rfl) (by kernel_rfl) (by intro _ _ _ h; exact h) (by rfl) ?_ (by assumption) ?_
            rotate_left 1
            · (intro w hSw; (try dsimp only at hSw); go_simp; try (with_reducible rfl))
            (try simp only [Act.put, List.setIfInBounds_toArray, List.set_cons_zero, List.set_cons_succ])
            refine wpAnyH_takeW (i := 13) (d := some 39) (v := ?_) (by simp only [List.getElem?_toArray, List.getElem?_cons_succ, List.getElem?_cons_zero]; rfl) (by rfl) (by kernel_rfl) (by kernel_rfl) (by kernel_rfl) (by intro _ _ _ h; exact h) (by rfl) ?_ (by assumption) ?_
            rotate_left 1
            · (intro w hSw; (try dsimp only at hSw); go_simp; try (with_reducible rfl))
            (try simp only [Act.put, List.setIfInBounds_toArray, List.set_cons_zero, List.set_cons_succ])
            refine wpAnyH_ready (rs := [12]) (by kernel_rfl) (by simp) ?_
            refine AllReadyH.cons (i := 12) (by simp only [List.getElem?_toArray, List.getElem?_cons_succ, List.getElem?_cons_zero]; rfl) (fun K hK => ?_) AllReadyH.nil
            go_simp
            (go_at_call 59; refine (implDist_any st x1 _).mono ?_; rintro e w' ⟨rfl, rfl⟩)
            go_wp2_with fail
            refine hK.out _ _ ?_ (fun hHeld => ?_)
            · ((try dsimp only); first | exact ⟨k0, k1, e0⟩ | (simp [go_sem, *]; done))
            clear hK K
            (try simp only [Act.put, List.setIfInBounds_toArray, List.set_cons_zero, List.set_cons_succ])
            refine wpAnyH_takeW (i := 14) (d := some 40) (v := ?_) (by simp only [List.getElem?_toArray, List.getElem?_cons_succ, List.getElem?_cons_zero]; rfl) (by rfl) (by kernel_rfl) (by kernel_rfl) (by kernel_rfl) (by intro _ _ _ h; exact h) (by rfl) ?_ (by assumption) ?_
            rotate_left 1
            · (intro w hSw; (try dsimp only at hSw); go_simp; try (with_reducible rfl))
            (try simp only [Act.put, List.setIfInBounds_toArray, List.set_cons_zero, List.set_cons_succ])
            refine wpAnyH_takeW (i := 15) (d := some 41) (v := ?_) (by simp only [List.getElem?_toArray, List.getElem?_cons_succ, List.getElem?_cons_zero]; rfl) (by rfl) (by kernel_rfl) (by kernel_rfl) (by kernel_rfl) (by intro _ _ _ h; exact h) (by rfl) ?_ (by assumption) ?_
            rotate_left 1
            · (intro w hSw; (try dsimp only at hSw); go_simp; try (with_reducible rfl))
            (try simp only [Act.put, List.setIfInBounds_toArray, List.set_cons_zero, List.set_cons_succ])
            refine wpAnyH_done (by kernel_rfl) ?_ _
            obtain ⟨wd, hwd⟩ : ∃ wd, wd = wr.drew := ⟨_, rfl⟩
            rw [← hwd]
            have hbd : Below wr.heap.size wr wd := by rw [hwd]; exact Below.drew (Below.refl _ _)
            have hsd := hbd.size
            clear hwd
            replace k0 := (hbd.cell (p := ⟨nb, 0, none⟩) (by simp only; omega)).trans k0
            replace k1 := (hbd.cell (p := ⟨nb, 1, none⟩) (by simp only; omega)).trans k1
            replace r0 := (hbd.cell (p := ⟨w.heap.size + 1, 0, none⟩) (by simp only; omega)).trans r0
            replace r1 := (hbd.cell (p := ⟨w.heap.size + 1, 1, none⟩) (by simp only; omega)).trans r1
            replace z0 := (hbd.frozen (p := ⟨nb, 0, none⟩) (by simp only; omega)).trans z0
            replace z1 := (hbd.frozen (p := ⟨nb, 1, none⟩) (by simp only; omega)).trans z1
            replace y0 := (hbd.frozen (p := ⟨w.heap.size + 1, 0, none⟩) (by simp only; omega)).trans y0
            replace y1 := (hbd.frozen (p := ⟨w.heap.size + 1, 1, none⟩) (by simp only; omega)).trans y1
            have HSd := Lib.hid (Sl.below (R := EN true) EN.framed HS.out hbd)
            have HOd := Lib.hid (OwS.below (R := EB true) EB.framed HO.out hbd)
            have HBd := Lib.hid (HB.out.trans (hbd.mono HB.out.size))
            have HTLd := Lib.hid (Sl.below (R := EN true) EN.framed HTL.out hbd)
            have HRX := Lib.hid (HRX0.out.below hbd)
            replace e1 := (hbd.cell (p := ⟨g1, o1 + 1, none⟩) hg1).trans e1
            have hg1d : g1 < wd.heap.size := by omega
            have hal : Below wd.heap.size wd (wd.alloc (.cells #[.slice Bx x2.length dx] 38)) := Below.alloc (Below.refl _ _) (Nat.le_refl _) _
            have HBW := Lib.hid hal
            have HBK : Hid ((wd.alloc (.cells #[.slice Bx x2.length dx] 38)).heap[wd.heap.size]? = some (.cells #[.slice Bx x2.length dx] 38)) := Lib.hid (World.heap_new _ _ _ rfl)
            have HBA : Hid ((nb + 1) ≤ (wd.alloc (.cells #[.slice Bx x2.length dx] 38)).heap.size) := Lib.hid (by simp; omega)
            have HFC : Hid (EB true (wd.alloc (.cells #[.slice Bx x2.length dx] 38)) F0 wd.heap.size 0 x2) := Lib.hid (by
              have e := block_cell HBK.out 0
              exact ⟨_, _, e.1, fun _ => e.2, HRX.out.below hal⟩)
            have HFF : Hid (∀ b, F0 b → b < (wd.alloc (.cells #[.slice Bx x2.length dx] 38)).heap.size ∧ Off (some ⟨g, 0, none⟩) b ∧ ¬ T2' b) := Lib.hid (by
              intro b hb
              have h1 := HD1.out b (HF0.out b hb)
              have h2 := HT1.out b h1.1
              refine ⟨by simp; omega, fun a' ha' => ?_, h1.2⟩
              injection ha' with ha'
              subst ha'
              simp only
              omega)
            clear hal hbd
            go_wp2_with (at_builtin; refine wpList_appV (R := EB true) (u := true) (w0 := wd) (xs := l) (y := x2) (Fn := F0) (T := T2') (gb := wd.heap.size) rfl EB.mov (.tmp 42) (.tmp 48) 29 rfl 38 i0 (.slice none 0 0) 24 Try.underlying29 hI0 hz0 hz1 hz2 rfl (by decide) rfl HOd.out HBW.out #[.slice Bx x2.length dx] 38 HBK.out rfl (by simp [Value.oneCell']) rfl HFC.out HFF.out (by omega) (by decide) HBA.out ?_)
            intro g4 c4 w4 l4 HQ4 HO4 HG4 HC4 HB4
            have hsW : (wd.alloc (.cells #[.slice Bx x2.length dx] 38)).heap.size = wd.heap.size + 1 := by simp
            have hs4 := HC4.out.size
            have hgl4 := HO4.out.lt
            have row : ∀ p : Addr, p.block < wd.heap.size → p.block ≠ g → w4.cell? p = wd.cell? p ∧ w4.frozen? p = wd.frozen? p := fun p hp hne => ⟨(HC4.out.cell (by omega) (fun ⟨a', ha', hb'⟩ => by injection ha' with ha'; subst ha'; exact hne hb')).trans (HBW.out.cell hp), (HC4.out.frozen (by omega) (fun ⟨a', ha', hb'⟩ => by injection ha' with ha'; subst ha'; exact hne hb')).trans (HBW.out.frozen hp)⟩
            have t0 := (row ⟨nb, 0, none⟩ (by simp only; omega) (by simp only; omega)).1.trans k0
            have t1 := (row ⟨nb, 1, none⟩ (by simp only; omega) (by simp only; omega)).1.trans k1
            have t2 := (row ⟨w.heap.size + 1, 0, none⟩ (by simp only; omega) (by simp only; omega)).1.trans r0
            have t3 := (row ⟨w.heap.size + 1, 1, none⟩ (by simp only; omega) (by simp only; omega)).1.trans r1
            have u0 := (row ⟨nb, 0, none⟩ (by simp only; omega) (by simp only; omega)).2.trans z0
            have u1 := (row ⟨nb, 1, none⟩ (by simp only; omega) (by simp only; omega)).2.trans z1
            have u2 := (row ⟨w.heap.size + 1, 0, none⟩ (by simp only; omega) (by simp only; omega)).2.trans y0
            have u3 := (row ⟨w.heap.size + 1, 1, none⟩ (by simp only; omega) (by simp only; omega)).2.trans y1
            have HT0_ := Lib.hid t0
            have HT2_ := Lib.hid t2
            have HT3_ := Lib.hid t3
            have HU0 := Lib.hid u0
            have HU1 := Lib.hid u1
            have HU2 := Lib.hid u2
            have HU3 := Lib.hid u3
            have hg4 : g4 = g ∨ g4 = wd.heap.size + 1 := by
              rcases HG4.out with h | h
              · left; injection h with h; injection h with h; exact h.symm
              · right; omega
            have HG4n := Lib.hid hg4
            have HSW := Lib.hid hsW
            clear row t2 t3 k0 k1 r0 r1 u2 u3 y0 y1 hg4 z0 z1 hsW
            go_wp2
            go_roundw
            case rel =>
              have hg4 := HG4n.out
              have hsW := HSW.out
              have hfin : Chg (fun b => b = nb) w4 (w4.setCell ⟨nb, 1, none⟩ (.slice Ar rest.length (c' - 1))) := Chg.setCell_ (S := fun b => b = nb) (Chg.refl _ _) (p := ⟨nb, 1, none⟩) rfl _
              have hsz : (w4.setCell ⟨nb, 1, none⟩ (.slice Ar rest.length (c' - 1))).heap.size = w4.heap.size := by simp [World.setCell]
              have hrow : Chg (fun b => b = g) wd w4 := (Chg.of_below HBW.out).trans (HC4.out.mono (fun b _ hb => by obtain ⟨a', ha', hb⟩ := hb; injection ha' with ha'; subst ha'; exact hb))
              have htl := Sl.frame (R := EN true) EN.framed (Sl.frame (R := EN true) EN.framed HTLd.out hrow (fun b h1 h2 => by have h3 := HT1.out b (HD1.out b h1.1).1; omega)) hfin (fun b h1 h2 => by have h3 := HT1.out b (HD1.out b h1.1).1; omega)
              refine ⟨Ar, c' - 1, rest, g4, l4, c4, (fun b => T1' b ∧ ¬ F0 b), (fun b => T2' b ∨ F0 b), rfl, Lib.hid (by rw [HR.out, HXR.out, HQ4.out, movR, if_pos hst]), Lib.hid (by have := HN.out; rw [HXR.out] at this; rw [HQ4.out]; simp at this ⊢; omega), Lib.hid (HBd.out.trans ((hrow.below (by omega) (fun k hk => by omega)).trans (hfin.below (by omega) (fun k hk => by omega)))), ?_, ?_, ?_, ?_, ?_, ?_, ?_, ?_, Lib.hid ?_, HRC.out, Lib.hid ?_, Lib.hid ?_, Lib.hid ?_, by omega, by rw [hsz]; omega⟩
              · rw [World.cell?_setCell_other _ _ _ _ (fun e => by injection e with _ e2; omega)]; exact HT0_.out
              · exact World.cell?_setCell_same _ _ _ t1
              · exact (hfin.cell (p := ⟨w.heap.size + 1, 0, none⟩) (by simp only; omega) (by simp only; omega)).trans HT2_.out
              · exact (hfin.cell (p := ⟨w.heap.size + 1, 1, none⟩) (by simp only; omega) (by simp only; omega)).trans HT3_.out
              · exact (World.frozen?_setCell _ _ _ _).trans HU0.out
              · exact (World.frozen?_setCell _ _ _ _).trans HU1.out
              · exact (World.frozen?_setCell _ _ _ _).trans HU2.out
              · exact (World.frozen?_setCell _ _ _ _).trans HU3.out
              · intro hne
                have hA := HAR.out (by cases rest with | nil => exact absurd rfl hne | cons _ _ => simp)
                obtain ⟨gz, oz, Fz, q1, q2⟩ := htl hne
                exact ⟨gz, oz, Fz, hA.trans q1, q2⟩
              · exact OwS.frame (R := EB true) EB.framed HO4.out hfin (fun b h1 h2 => by
                  rcases h1 with h1 | h1
                  · have h3 := HT1.out b (HD2.out b h1); omega
                  · have h3 := HT1.out b (HD1.out b (HF0.out b h1)).1; omega) (fun a' ha' h2 => by injection ha' with ha'; subst ha'; simp only at h2; omega)
              · intro b hb
                have h3 := HD1.out b hb.1
                exact ⟨h3.1, fun h => by rcases h with h | h; exact h3.2 h; exact hb.2 h⟩
              · intro b hb
                rcases hb with hb | hb
                · exact HD2.out b hb
                · exact (HD1.out b (HF0.out b hb)).1
            case measure =>
              have h1 := HN.out
              have h2 : l4.length = l.length + 1 := by rw [HQ4.out]; simp
              have h3 := hlp
              simp only [lenOf, Array.getD]
              simp [lenOf]
              omega
          · have HRE : Hid (movR st (seqD st q) xs [] = (ys', l)) := Lib.hid (by rw [HR.out, HXR.out, movR, if_neg hst])
            go_wp2
            refine wp_region_held_drew (S := (fun w' => w'.cell? ⟨nb, 0, none⟩ = some (.int .i64 st) ∧ w'.cell? ⟨nb, 1, none⟩ = some (.slice (some ⟨g1, o1, none⟩) ys'.length c') ∧ w'.cell? ⟨g1, o1, none⟩ = some (.int .i64 x1))) (by kernel_rfl) ?_ (fun hHeld => ?_)
            · first | exact ⟨k0, k1, e0⟩ | (simp [go_sem, *]; done)
            refine wpAnyH_takeW (i := 0) (d := some 26) (v := ?_) (by simp only [List.getElem?_toArray, List.getElem?_cons_succ, List.getElem?_cons_zero]; rfl) (by rfl) (by kernel_rfl) (by kernel_rfl) (by kernel_rfl) (by intro _ _ _ h; exact h) (by rfl) ?_ (by assumption) ?_
            rotate_left 1
            · (intro w hSw; (try dsimp only at hSw); go_simp; try (with_reducible rfl))
            (try simp only [Act.put, List.setIfInBounds_toArray, List.set_cons_zero, List.set_cons_succ])
            refine wpAnyH_takeW (i := 1) (d := some 27) (v := ?_) (by simp only [List.getElem?_toArray, List.getElem?_cons_succ, List.getElem?_cons_zero]; rfl) (by rfl) (by kernel_rfl) (by kernel_rfl) (by kernel_rfl) (by intro _ _ _ h; exact h) (by rfl) ?_ (by assumption) ?_
            rotate_left 1
            · (intro w hSw; (try dsimp only at hSw); go_simp; try (with_reducible rfl))
            (try simp only [Act.put, List.setIfInBounds_toArray, List.set_cons_zero, List.set_cons_succ])
            refine wpAnyH_takeW (i := 2) (d := some 28) (v := ?_) (by simp only [List.getElem?_toArray, List.getElem?_cons_succ, List.getElem?_cons_zero]; rfl) (by rfl) (by kernel_rfl) (by kernel_rfl) (by kernel_rfl) (by intro _ _ _ h; exact h) (by rfl) ?_ (by assumption) ?_
            rotate_left 1
            · (intro w hSw; (try dsimp only at hSw); go_simp; try (with_reducible rfl))
            (try simp only [Act.put, List.setIfInBounds_toArray, List.set_cons_zero, List.set_cons_succ])
            refine wpAnyH_takeW (i := 3) (d := some 29) (v := ?_) (by simp only [List.getElem?_toArray, List.getElem?_cons_succ, List.getElem?_cons_zero]; rfl) (by rfl) (by kernel_rfl) (by kernel_rfl) (by kernel_rfl) (by intro _ _ _ h; exact h) (by rfl) ?_ (by assumption) ?_
            rotate_left 1
            · (intro w hSw; (try dsimp only at hSw); go_simp; try (with_reducible rfl))
            (try simp only [Act.put, List.setIfInBounds_toArray, List.set_cons_zero, List.set_cons_succ])
            refine wpAnyH_takeW (i := 4) (d := some 30) (v := ?_) (by simp only [List.getElem?_toArray, List.getElem?_cons_succ, List.getElem?_cons_zero]; rfl) (by rfl) (by kernel_rfl) (by kernel_rfl) (by kernel_rfl) (by intro _ _ _ h; exact h) (by rfl) ?_ (by assumption) ?_
            rotate_left 1
            · (intro w hSw; (try dsimp only at hSw); go_simp; try (with_reducible rfl))
            (try simp only [Act.put, List.setIfInBounds_toArray, List.set_cons_zero, List.set_cons_succ])
            refine wpAnyH_takeW (i := 5) (d := some 31) (v := ?_) (by simp only [List.getElem?_toArray, List.getElem?_cons_succ, List.getElem?_cons_zero]; rfl) (by rfl) (by kernel_rfl) (by kernel_rfl) (by kernel_rfl) (by intro _ _ _ h; exact h) (by rfl) ?_ (by assumption) ?_
            rotate_left 1
            · (intro w hSw; (try dsimp only at hSw); go_simp; try (with_reducible rfl))
            (try simp only [Act.put, List.setIfInBounds_toArray, List.set_cons_zero, List.set_cons_succ])
            refine wpAnyH_takeW (i := 6) (d := some 32) (v := ?_) (by simp only [List.getElem?_toArray, List.getElem?_cons_succ, List.getElem?_cons_zero]; rfl) (by rfl) (by kernel_rfl) (by kernel_rfl) (by kernel_rfl) (by intro _ _ _ h; exact h) (by rfl) ?_ (by assumption) ?_
            rotate_left 1
            · (intro w hSw; (try dsimp only at hSw); go_simp; try (with_reducible rfl))
            (try simp only [Act.put, List.setIfInBounds_toArray, List.set_cons_zero, List.set_cons_succ])
            refine wpAnyH_takeW (i := 7) (d := some 33) (v := ?_) (by simp only [List.getElem?_toArray, List.getElem?_cons_succ, List.getElem?_cons_zero]; rfl) (by rfl) (by kernel_rfl) (by kernel_rfl) (by kernel_rfl) (by intro _ _ _ h; exact h) (by rfl) ?_ (by assumption) ?_
            rotate_left 1
            · (intro w hSw; (try dsimp only at hSw); go_simp; try (with_reducible rfl))
            (try simp only [Act.put, List.setIfInBounds_toArray, List.set_cons_zero, List.set_cons_succ])
            refine wpAnyH_takeW (i := 8) (d := some 34) (v := ?_) (by simp only [List.getElem?_toArray, List.getElem?_cons_succ, List.getElem?_cons_zero]; rfl) (by rfl) (by kernel_rfl) (by kernel_rfl) (by kernel_rfl) (by intro _ _ _ h; exact h) (by rfl) ?_ (by assumption) ?_
            rotate_left 1
            · (intro w hSw; (try dsimp only at hSw); go_simp; try (with_reducible rfl))
            (try simp only [Act.put, List.setIfInBounds_toArray, List.set_cons_zero, List.set_cons_succ])
            refine wpAnyH_takeW (i := 9) (d := some 35) (v := ?_) (by simp only [List.getElem?_toArray, List.getElem?_cons_succ, List.getElem?_cons_zero]; rfl) (by rfl) (by kernel_rfl) (by kernel_rfl) (by kernel_rfl) (by intro _ _ _ h; exact h) (by rfl) ?_ (by assumption) ?_
            rotate_left 1
            · (intro w hSw; (try dsimp only at hSw); go_simp; try (with_reducible rfl))
            (try simp only [Act.put, List.setIfInBounds_toArray, List.set_cons_zero, List.set_cons_succ])
            refine wpAnyH_takeW (i := 10) (d := some 36) (v := ?_) (by simp only [List.getElem?_toArray, List.getElem?_cons_succ, List.getElem?_cons_zero]; rfl) (by rfl) (by kernel_rfl) (by kernel_rfl) (by kernel_rfl) (by intro _ _ _ h; exact h) (by rfl) ?_ (by assumption) ?_
            rotate_left 1
            · (intro w hSw; (try dsimp only at hSw); go_simp; try (with_reducible rfl))
            (try simp only [Act.put, List.setIfInBounds_toArray, List.set_cons_zero, List.set_cons_succ])
            refine wpAnyH_takeW (i := 11) (d := some 37) (v := ?_) (by simp only [List.getElem?_toArray, List.getElem?_cons_succ, List.getElem?_cons_zero]; rfl) (by rfl) (by kernel_rfl) (by kernel_rfl) (by kernel_rfl) (by intro _ _ _ h; exact h) (by rfl) ?_ (by assumption) ?_
            rotate_left 1
            · (intro w hSw; (try dsimp only at hSw); go_simp; try (with_reducible rfl))
            (try simp only [Act.put, List.setIfInBounds_toArray, List.set_cons_zero, List.set_cons_succ])
            refine wpAnyH_takeW (i := 13) (d := some 39) (v := ?_) (by simp only [List.getElem?_toArray, List.getElem?_cons_succ, List.getElem?_cons_zero]; rfl) (by rfl) (by kernel_rfl) (by kernel_rfl) (by kernel_rfl) (by intro _ _ _ h; exact h) (by rfl) ?_ (by assumption) ?_
            rotate_left 1
            · (intro w hSw; (try dsimp only at hSw); go_simp; try (with_reducible rfl))
            (try simp only [Act.put, List.setIfInBounds_toArray, List.set_cons_zero, List.set_cons_succ])
            refine wpAnyH_ready (rs := [12]) (by kernel_rfl) (by simp) ?_
            refine AllReadyH.cons (i := 12) (by simp only [List.getElem?_toArray, List.getElem?_cons_succ, List.getElem?_cons_zero]; rfl) (fun K hK => ?_) AllReadyH.nil
            go_simp
            (go_at_call 59; refine (implDist_any st x1 _).mono ?_; rintro e w' ⟨rfl, rfl⟩)
            go_wp2_with fail
            refine hK.out _ _ ?_ (fun hHeld => ?_)
            · ((try dsimp only); first | exact ⟨k0, k1, e0⟩ | (simp [go_sem, *]; done))
            clear hK K
            (try simp only [Act.put, List.setIfInBounds_toArray, List.set_cons_zero, List.set_cons_succ])
            refine wpAnyH_takeW (i := 14) (d := some 40) (v := ?_) (by simp only [List.getElem?_toArray, List.getElem?_cons_succ, List.getElem?_cons_zero]; rfl) (by rfl) (by kernel_rfl) (by kernel_rfl) (by kernel_rfl) (by intro _ _ _ h; exact h) (by rfl) ?_ (by assumption) ?_
            rotate_left 1
            · (intro w hSw; (try dsimp only at hSw); go_simp; try (with_reducible rfl))
            (try simp only [Act.put, List.setIfInBounds_toArray, List.set_cons_zero, List.set_cons_succ])
            refine wpAnyH_takeW (i := 15) (d := some 41) (v := ?_) (by simp only [List.getElem?_toArray, List.getElem?_cons_succ, List.getElem?_cons_zero]; rfl) (by rfl) (by kernel_rfl) (by kernel_rfl) (by kernel_rfl) (by intro _ _ _ h; exact h) (by rfl) ?_ (by assumption) ?_
            rotate_left 1
            · (intro w hSw; (try dsimp only at hSw); go_simp; try (with_reducible rfl))
            (try simp only [Act.put, List.setIfInBounds_toArray, List.set_cons_zero, List.set_cons_succ])
            refine wpAnyH_done (by kernel_rfl) ?_ _
            obtain ⟨wd, hwd⟩ : ∃ wd, wd = wr.drew := ⟨_, rfl⟩
            rw [← hwd]
            have hbd : Below wr.heap.size wr wd := by rw [hwd]; exact Below.drew (Below.refl _ _)
            have hsd := hbd.size
            clear hwd
            replace k0 := (hbd.cell (p := ⟨nb, 0, none⟩) (by simp only; omega)).trans k0
            replace k1 := (hbd.cell (p := ⟨nb, 1, none⟩) (by simp only; omega)).trans k1
            replace r0 := (hbd.cell (p := ⟨w.heap.size + 1, 0, none⟩) (by simp only; omega)).trans r0
            replace r1 := (hbd.cell (p := ⟨w.heap.size + 1, 1, none⟩) (by simp only; omega)).trans r1
            replace z0 := (hbd.frozen (p := ⟨nb, 0, none⟩) (by simp only; omega)).trans z0
            replace z1 := (hbd.frozen (p := ⟨nb, 1, none⟩) (by simp only; omega)).trans z1
            replace y0 := (hbd.frozen (p := ⟨w.heap.size + 1, 0, none⟩) (by simp only; omega)).trans y0
            replace y1 := (hbd.frozen (p := ⟨w.heap.size + 1, 1, none⟩) (by simp only; omega)).trans y1
            have HSd := Lib.hid (Sl.below (R := EN true) EN.framed HS.out hbd)
            have HOd := Lib.hid (OwS.below (R := EB true) EB.framed HO.out hbd)
            have HBd := Lib.hid (HB.out.trans (hbd.mono HB.out.size))
            have hst0 : Chg (fun b => b = nb) wd (wd.setCell ⟨nb, 0, none⟩ (.int .i64 q)) := Chg.setCell_ (S := fun b => b = nb) (Chg.refl _ _) (p := ⟨nb, 0, none⟩) rfl _
            have hwl : w.heap.size + 1 < wd.heap.size := by omega
            have R0 := Lib.hid ((hst0.cell (p := ⟨w.heap.size + 1, 0, none⟩) hwl (by simp only; omega)).trans r0)
            have R1 := Lib.hid ((hst0.cell (p := ⟨w.heap.size + 1, 1, none⟩) hwl (by simp only; omega)).trans r1)
            have ZZ0 := Lib.hid ((hst0.frozen (p := ⟨w.heap.size + 1, 0, none⟩) hwl (by simp only; omega)).trans y0)
            have ZZ1 := Lib.hid ((hst0.frozen (p := ⟨w.heap.size + 1, 1, none⟩) hwl (by simp only; omega)).trans y1)
            have HSs := Lib.hid (Sl.frame (R := EN true) EN.framed HSd.out hst0 (fun b h1 h2 => by have := HT1.out b (HD1.out b h1).1; omega))
            have HOs := Lib.hid (OwS.frame (R := EB true) EB.framed HOd.out hst0 (fun b h1 h2 => by have := HT1.out b (HD2.out b h1); omega) (fun a' ha' h2 => by injection ha' with ha'; subst ha'; exact hgw0 h2))
            have hss := hst0.size
            have HBs := Lib.hid (HBd.out.trans (hst0.below (by omega) (fun k hk => by omega)))
            have HSSz := Lib.hid hss
            have hne01 : ¬ nb = w.heap.size + 1 := by omega
            have hne10 : ¬ w.heap.size + 1 = nb := by omega
            obtain ⟨z, hz⟩ : ∃ z, z = relR q (ys') l := ⟨_, rfl⟩
            have HR2 := Lib.hid hz
            have HR : Hid (moveR st q xs = z) := Lib.hid (by rw [HMR.out, HRE.out, hz])
            clear hst0 r0 r1 y0 y1 hss hz
            go_wp2_with fail
            have hss := HSSz.out
            refine (implRel_any (T1 := T1') (T2 := T2') q (some ⟨g1, o1, none⟩) c' (ys') g cl l (nb + 1) _ HSs.out hcap' (by have := HN.out; first | omega | (simp at this ⊢; omega)) HOs.out (fun b hb => ?a1) (fun b hb => ?a2) (by omega)).mono ?_
            case a1 => have h1 := HD1.out b hb; have h2 := HT1.out b h1.1; exact ⟨by omega, h1.2, by omega⟩
            case a2 => have h1 := HT1.out b (HD2.out b hb); omega
            rw [← HR2.out]
            rintro e w4 ⟨A4, c4, gb4, cb4, T14, T24, rfl, hc4, hcap4, hd41, hd42, hs4, ho4, hgb⟩
            have hsz4 := hc4.size
            have r0 := (hc4.cell (p := ⟨w.heap.size + 1, 0, none⟩) (by simp only; omega) (by simp only; omega)).trans R0.out
            have r1 := (hc4.cell (p := ⟨w.heap.size + 1, 1, none⟩) (by simp only; omega) (by simp only; omega)).trans R1.out
            have z0 := (hc4.frozen (p := ⟨w.heap.size + 1, 0, none⟩) (by simp only; omega) (by simp only; omega)).trans ZZ0.out
            have z1 := (hc4.frozen (p := ⟨w.heap.size + 1, 1, none⟩) (by simp only; omega) (by simp only; omega)).trans ZZ1.out
            have HB4 := Lib.hid (HBs.out.trans (hc4.below (by omega) (fun k hk => by omega)))
            have HS4 := Lib.hid hs4
            have HO4 := Lib.hid ho4
            have HD41 := Lib.hid hd41
            have HD42 := Lib.hid hd42
            have hge4 := ho4.ge
            have hlt4 := ho4.lt
            clear hc4 hs4 ho4 hd41 hd42 R0 R1 ZZ0 ZZ1
            have hfin : Chg (fun b => b = w.heap.size + 1) w4 ((w4.setCell ⟨w.heap.size + 1, 0, none⟩ (.int .i64 z.1)).setCell ⟨w.heap.size + 1, 1, none⟩ (.slice A4 z.2.1.length c4)) := Chg.setCell_ (S := fun b => b = w.heap.size + 1) (Chg.setCell_ (S := fun b => b = w.heap.size + 1) (Chg.refl _ _) (p := ⟨w.heap.size + 1, 0, none⟩) rfl _) (p := ⟨w.heap.size + 1, 1, none⟩) rfl _
            have hv0 : ((w4.setCell ⟨w.heap.size + 1, 0, none⟩ (.int .i64 z.1)).setCell ⟨w.heap.size + 1, 1, none⟩ (.slice A4 z.2.1.length c4)).cell? ⟨w.heap.size + 1, 0, none⟩ = some (.int .i64 z.1) := by rw [World.cell?_setCell_other _ _ _ _ (fun e => by injection e with _ e2; omega)]; exact World.cell?_setCell_same _ _ _ r0
            have hv1 : ((w4.setCell ⟨w.heap.size + 1, 0, none⟩ (.int .i64 z.1)).setCell ⟨w.heap.size + 1, 1, none⟩ (.slice A4 z.2.1.length c4)).cell? ⟨w.heap.size + 1, 1, none⟩ = some (.slice A4 z.2.1.length c4) := World.cell?_setCell_same (u := .slice none 0 0) _ _ _ (by rw [World.cell?_setCell_other _ _ _ _ (fun e => by injection e with _ e2; omega)]; exact r1)
            have HF := Lib.hid hfin
            have HV0 := Lib.hid hv0
            have HV1 := Lib.hid hv1
            clear hfin hv0 hv1
            go_wp2
            refine bodyPost_ret (v := .tuple #[.agg #[.int .i64 z.1, .slice A4 z.2.1.length c4], .slice (some ⟨gb4, 0, none⟩) z.2.2.length cb4]) (by simp [results, Try.results15, go_sem, HV0.out, HV1.out]) rfl ?_
            rw [HR.out]
            have h1 := HF.out.size
            have t1 : ∀ b, T14 b → w.heap.size + 2 ≤ b ∧ b < nb := fun b hb => HT1.out b (HD1.out b (HD41.out b hb).1).1
            have t2 : ∀ b, T24 b → w.heap.size + 2 ≤ b ∧ b < nb := fun b hb => by rcases HD42.out b hb with h | h; exact HT1.out b (HD2.out b h); exact HT1.out b (HD1.out b h).1
            refine ⟨A4, c4, gb4, cb4, T14, (fun b => T24 b ∨ b = gb4), rfl, HB4.out.trans (HF.out.below (by omega) (fun k hk => by omega)), hcap4, fun b hb => ⟨by have := t1 b hb; omega, by have := t1 b hb; omega, fun h => ?_⟩, fun b hb => ?_, Sl.frame (R := EN true) EN.framed HS4.out HF.out (fun b hb h2 => by have := t1 b hb; omega), ((OwS.frame (R := EB true) EB.framed HO4.out HF.out (fun b hb h2 => by have := t2 b hb; omega) (fun a' ha' h2 => by injection ha' with ha'; subst ha'; simp only at h2; omega)).lower (by omega)).widerT (fun b h1 h2 => .inl h1), .inr rfl⟩
            · rcases h with h | h
              · exact (HD41.out b hb).2 h
              · have := t1 b hb; omega
            · rcases hb with h | h
              · have := t2 b h; omega
              · subst h; omega

end Go.Proofs.Ytnfgdgmmbddmgaa
