/- MoveStart of the reference. -/
import Derived.Test.YtnfgdgmmbddmgaaRmov
import Derived.Test.YtnfgdgmmbddmgaaRcp
import Derived.Test.YtnfgdgmmbddmgaaRval
namespace Go.Proofs.Ytnfgdgmmbddmgaa
open Go.RowKit
set_option linter.unusedVariables false
set_option linter.unusedSimpArgs false

def moveR (st q : Int) (ys : List NF) : Int × List NF × List (List Int) :=
  if vROB st ys = true ∧ inR (seqD st q) 0 2047 = true then relR q (movR st (seqD st q) ys []).1 (movR st (seqD st q) ys []).2 else (st, ys, [])
def CpM (w : World) (r : Int × List NF × List (List Int)) (e : Ending) (w' : World) : Prop := ∃ A c gb cb T1 T2, e = .returned (.tuple #[.agg #[.int .i64 r.1, .slice A r.2.1.length c], .slice (some ⟨gb, 0, none⟩) r.2.2.length cb]) ∧ Below w.heap.size w w' ∧ r.2.1.length ≤ c ∧
  (∀ b, T1 b → w.heap.size ≤ b ∧ b < w'.heap.size ∧ ¬ T2 b) ∧ (∀ b, T2 b → w.heap.size ≤ b ∧ b < w'.heap.size) ∧ Sl true 2 (EN true) w' T1 A r.2.1 ∧ OwS true 1 (EB true) 38 w' T2 w.heap.size (some ⟨gb, 0, none⟩) cb r.2.2 ∧ T2 gb

set_option maxRecDepth 10000 in
set_option maxHeartbeats 8000000 in
theorem specMS_any {T : Nat → Prop} (st : Int) (A0 : Option Addr) (c0 : Nat) (xs : List NF) (q : Int) (w : World) (hx : Sl false 2 (EN false) w T A0 xs) (hm : xs.length ≤ 1000000000) (hlx : ∀ x ∈ xs, x.2.length ≤ 1000000000) :
    Calls Try.prog 13 #[.agg #[.int .i64 st, .slice A0 xs.length c0], .int .i64 q] w fun e w' => CpM w (moveR st q xs) e w' := by
  have HX := Lib.hid hx
  have HLX := Lib.hid hlx
  clear hx hlx
  cases hv : vROB st xs
  · have HV := Lib.hid hv
    have HR : Hid (moveR st q xs = (st, xs, [])) := Lib.hid (by unfold moveR; rw [if_neg (by rw [hv]; simp)])
    have HD := Lib.hid (rfl : inR 0 0 0 = inR 0 0 0)
    clear hv
    go_enter Try.func13, Try.ntmps13
    go_wp2_with fail
    refine (l22Copy_any st A0 c0 xs _ (Sl.below (R := EN false) EN.framed HX.out (by repeat (first | (with_reducible exact Below.refl _ _) | (with_reducible refine Below.ext ?_ (by go_size) _ _) | (with_reducible refine Below.alloc ?_ (by go_size) _) | (with_reducible refine Below.setCell ?_ (by go_size) _) | (with_reducible refine Below.drew ?_) | (with_reducible refine Below.drewN_ ?_ _)))) hm HLX.out).mono ?_
    rintro e w1 ⟨A, c, rfl, hb, hcap, hin⟩
    have hs1 := hb.size
    have x0 := hb.cell (p := ⟨w.heap.size, 0, none⟩) (by simp; try omega)
    have x1 := hb.cell (p := ⟨w.heap.size, 1, none⟩) (by simp; try omega)
    have r0 := hb.cell (p := ⟨w.heap.size + 1, 0, none⟩) (by simp)
    have r1 := hb.cell (p := ⟨w.heap.size + 1, 1, none⟩) (by simp)
    have z0 := hb.frozen (p := ⟨w.heap.size + 1, 0, none⟩) (by simp)
    have z1 := hb.frozen (p := ⟨w.heap.size + 1, 1, none⟩) (by simp)
    simp [go_sem] at x0 x1 r0 r1 z0 z1 hs1
    have hB1 : Below w.heap.size w w1 := Below.trans (by repeat (first | (with_reducible exact Below.refl _ _) | (with_reducible refine Below.ext ?_ (by go_size) _ _) | (with_reducible refine Below.alloc ?_ (by go_size) _) | (with_reducible refine Below.setCell ?_ (by go_size) _) | (with_reducible refine Below.drew ?_) | (with_reducible refine Below.drewN_ ?_ _))) (hb.mono (by simp; try omega))
    have hin1 := hin.wider (T' := fun b => w.heap.size + 2 ≤ b ∧ b < w1.heap.size) (fun b hb => by simp at hb; omega)
    obtain ⟨nb, hnb⟩ : ∃ nb, nb = w1.heap.size := ⟨_, rfl⟩
    have hal : Below w1.heap.size w1 (w1.alloc (.cells #[.int .i64 st, .slice A xs.length c] 28)) := Below.alloc (Below.refl _ _) (Nat.le_refl _) _
    have HBB := Lib.hid (hB1.trans (hal.mono (by omega)))
    have HIB := Lib.hid (Sl.below (R := EN true) EN.framed hin1 hal)
    have hl1 : w1.heap.size < (w1.alloc (.cells #[.int .i64 st, .slice A xs.length c] 28)).heap.size := by simp
    have N0 := Lib.hid (block_cell (World.heap_new w1 (.cells #[.int .i64 st, .slice A xs.length c] 28) _ rfl) 0).1
    have N1 := Lib.hid (block_cell (World.heap_new w1 (.cells #[.int .i64 st, .slice A xs.length c] 28) _ rfl) 1).1
    have XX0 := Lib.hid ((hal.cell (p := ⟨w.heap.size, 0, none⟩) (by simp only; omega)).trans x0)
    have XX1 := Lib.hid ((hal.cell (p := ⟨w.heap.size, 1, none⟩) (by simp only; omega)).trans x1)
    have RR0 := Lib.hid ((hal.cell (p := ⟨w.heap.size + 1, 0, none⟩) (by simp only; omega)).trans r0)
    have RR1 := Lib.hid ((hal.cell (p := ⟨w.heap.size + 1, 1, none⟩) (by simp only; omega)).trans r1)
    have ZZ0 := Lib.hid ((hal.frozen (p := ⟨w.heap.size + 1, 0, none⟩) (by simp only; omega)).trans z0)
    have ZZ1 := Lib.hid ((hal.frozen (p := ⟨w.heap.size + 1, 1, none⟩) (by simp only; omega)).trans z1)
    have hb2w : w.heap.size < w1.heap.size := by omega
    clear hb hin hin1 hB1 hal r0 r1 z0 z1
    go_wp2_with fail
    refine (specVR_any st A0 c0 xs _ (Sl.below (R := EN false) EN.framed HX.out HBB.out) hm HLX.out).mono ?_
    rw [HV.out]
    rintro e w2 ⟨rfl, hb⟩
    have hs2 := hb.size
    simp only [World.size_alloc] at hs2
    have HB2 := Lib.hid (HBB.out.trans (hb.mono (by simp; omega)))
    have HI2 := Lib.hid (Sl.below (R := EN true) EN.framed HIB.out hb)
    have n0 := (hb.cell (p := ⟨w1.heap.size, 0, none⟩) hl1).trans N0.out
    have n1 := (hb.cell (p := ⟨w1.heap.size, 1, none⟩) hl1).trans N1.out
    have x0 := (hb.cell (p := ⟨w.heap.size, 0, none⟩) (by simp; omega)).trans XX0.out
    have x1 := (hb.cell (p := ⟨w.heap.size, 1, none⟩) (by simp; omega)).trans XX1.out
    have r0 := (hb.cell (p := ⟨w.heap.size + 1, 0, none⟩) (by simp; omega)).trans RR0.out
    have r1 := (hb.cell (p := ⟨w.heap.size + 1, 1, none⟩) (by simp; omega)).trans RR1.out
    have z0 := (hb.frozen (p := ⟨w.heap.size + 1, 0, none⟩) (by simp; omega)).trans ZZ0.out
    have z1 := (hb.frozen (p := ⟨w.heap.size + 1, 1, none⟩) (by simp; omega)).trans ZZ1.out
    clear hb HIB HBB N0 N1 XX0 XX1 RR0 RR1 ZZ0 ZZ1 hl1
    rw [← hnb] at n0 n1 HI2 ⊢
    have n0' : w2.cell? ⟨nb, 0, none⟩ = some (.int .i64 st) := n0
    have n1' : w2.cell? ⟨nb, 1, none⟩ = some (.slice A xs.length c) := n1
    clear n0 n1
    have hnw : w.heap.size + 2 ≤ nb := by omega
    have hnw2 : nb < w2.heap.size := by omega
    clear hnb hs1 hs2 hb2w

    have hfin : Chg (fun b => b = w.heap.size + 1) w2 ((w2.setCell ⟨w.heap.size + 1, 0, none⟩ (.int .i64 st)).setCell ⟨w.heap.size + 1, 1, none⟩ (.slice A xs.length c)) := Chg.setCell_ (S := fun b => b = w.heap.size + 1) (Chg.setCell_ (S := fun b => b = w.heap.size + 1) (Chg.refl _ _) (p := ⟨w.heap.size + 1, 0, none⟩) rfl _) (p := ⟨w.heap.size + 1, 1, none⟩) rfl _
    have hv0 : ((w2.setCell ⟨w.heap.size + 1, 0, none⟩ (.int .i64 st)).setCell ⟨w.heap.size + 1, 1, none⟩ (.slice A xs.length c)).cell? ⟨w.heap.size + 1, 0, none⟩ = some (.int .i64 st) := by rw [World.cell?_setCell_other _ _ _ _ (fun e => by injection e with _ e2; omega)]; exact World.cell?_setCell_same _ _ _ r0
    have hv1 : ((w2.setCell ⟨w.heap.size + 1, 0, none⟩ (.int .i64 st)).setCell ⟨w.heap.size + 1, 1, none⟩ (.slice A xs.length c)).cell? ⟨w.heap.size + 1, 1, none⟩ = some (.slice A xs.length c) := World.cell?_setCell_same (u := .slice none 0 0) _ _ _ (by rw [World.cell?_setCell_other _ _ _ _ (fun e => by injection e with _ e2; omega)]; exact r1)
    have hal : Below w2.heap.size ((w2.setCell ⟨w.heap.size + 1, 0, none⟩ (.int .i64 st)).setCell ⟨w.heap.size + 1, 1, none⟩ (.slice A xs.length c)) (((w2.setCell ⟨w.heap.size + 1, 0, none⟩ (.int .i64 st)).setCell ⟨w.heap.size + 1, 1, none⟩ (.slice A xs.length c)).alloc (.cells #[] 38)) := Below.alloc (Below.refl _ _) hfin.size _
    have hl2 : w.heap.size + 1 < w2.heap.size := by omega
    have HF := Lib.hid hfin
    have HAL := Lib.hid hal
    have HV0 := Lib.hid ((hal.cell (p := ⟨w.heap.size + 1, 0, none⟩) hl2).trans hv0)
    have HV1 := Lib.hid ((hal.cell (p := ⟨w.heap.size + 1, 1, none⟩) hl2).trans hv1)
    have HBK : Hid ((((w2.setCell ⟨w.heap.size + 1, 0, none⟩ (.int .i64 st)).setCell ⟨w.heap.size + 1, 1, none⟩ (.slice A xs.length c)).alloc (.cells #[] 38)).heap[w2.heap.size]? = some (.cells #[] 38)) := Lib.hid (World.heap_new _ _ _ (by simp [World.setCell]))
    clear hfin hal hv0 hv1
    go_wp2_with (first | (go_at_call 51; refine (specDist_any st q _).mono ?_; rintro e w' ⟨rfl, rfl⟩) | (go_at_call 54; refine (l1In_any _ _ _ _).mono ?_; rw [HD.out]; rintro e w' ⟨rfl, rfl⟩))
    refine bodyPost_ret (v := .tuple #[.agg #[.int .i64 st, .slice A xs.length c], .slice (some ⟨w2.heap.size, 0, none⟩) 0 0]) (by simp [results, Try.results13, go_sem, HV0.out, HV1.out]) rfl ?_
    rw [HR.out]
    have h1 := HF.out.size
    have h2 := HAL.out.size
    have hsz : (((w2.setCell ⟨w.heap.size + 1, 0, none⟩ (.int .i64 st)).setCell ⟨w.heap.size + 1, 1, none⟩ (.slice A xs.length c)).alloc (.cells #[] 38)).heap.size = w2.heap.size + 1 := by simp [World.setCell]
    refine ⟨A, c, w2.heap.size, 0, (fun b => w.heap.size + 2 ≤ b ∧ b < nb), (fun b => b = w2.heap.size), rfl, (HB2.out.trans (HF.out.below (by omega) (fun k hk => by omega))).trans (HAL.out.mono (by omega)), hcap, fun b hb => ⟨by omega, by omega, by omega⟩, fun b hb => ⟨by omega, by omega⟩, ?_, OwS.new (by have := HB2.out.size; exact this) HBK.out, rfl⟩
    exact Sl.frame (R := EN true) EN.framed (Sl.frame (R := EN true) EN.framed HI2.out HF.out (fun b hb h2 => by omega)) (chg_above HAL.out HF.out.size) (fun b hb h2 => by omega)
  · have HV := Lib.hid hv
    cases hd : inR (seqD st q) 0 2047
    · have HR : Hid (moveR st q xs = (st, xs, [])) := Lib.hid (by unfold moveR; rw [if_neg (by rw [hd]; simp)])
      have HD := Lib.hid hd
      clear hv hd
      go_enter Try.func13, Try.ntmps13
      go_wp2_with fail
      refine (l22Copy_any st A0 c0 xs _ (Sl.below (R := EN false) EN.framed HX.out (by repeat (first | (with_reducible exact Below.refl _ _) | (with_reducible refine Below.ext ?_ (by go_size) _ _) | (with_reducible refine Below.alloc ?_ (by go_size) _) | (with_reducible refine Below.setCell ?_ (by go_size) _) | (with_reducible refine Below.drew ?_) | (with_reducible refine Below.drewN_ ?_ _)))) hm HLX.out).mono ?_
      rintro e w1 ⟨A, c, rfl, hb, hcap, hin⟩
      have hs1 := hb.size
      have x0 := hb.cell (p := ⟨w.heap.size, 0, none⟩) (by simp; try omega)
      have x1 := hb.cell (p := ⟨w.heap.size, 1, none⟩) (by simp; try omega)
      have r0 := hb.cell (p := ⟨w.heap.size + 1, 0, none⟩) (by simp)
      have r1 := hb.cell (p := ⟨w.heap.size + 1, 1, none⟩) (by simp)
      have z0 := hb.frozen (p := ⟨w.heap.size + 1, 0, none⟩) (by simp)
      have z1 := hb.frozen (p := ⟨w.heap.size + 1, 1, none⟩) (by simp)
      simp [go_sem] at x0 x1 r0 r1 z0 z1 hs1
      have hB1 : Below w.heap.size w w1 := Below.trans (by repeat (first | (with_reducible exact Below.refl _ _) | (with_reducible refine Below.ext ?_ (by go_size) _ _) | (with_reducible refine Below.alloc ?_ (by go_size) _) | (with_reducible refine Below.setCell ?_ (by go_size) _) | (with_reducible refine Below.drew ?_) | (with_reducible refine Below.drewN_ ?_ _))) (hb.mono (by simp; try omega))
      have hin1 := hin.wider (T' := fun b => w.heap.size + 2 ≤ b ∧ b < w1.heap.size) (fun b hb => by simp at hb; omega)
      obtain ⟨nb, hnb⟩ : ∃ nb, nb = w1.heap.size := ⟨_, rfl⟩
      have hal : Below w1.heap.size w1 (w1.alloc (.cells #[.int .i64 st, .slice A xs.length c] 28)) := Below.alloc (Below.refl _ _) (Nat.le_refl _) _
      have HBB := Lib.hid (hB1.trans (hal.mono (by omega)))
      have HIB := Lib.hid (Sl.below (R := EN true) EN.framed hin1 hal)
      have hl1 : w1.heap.size < (w1.alloc (.cells #[.int .i64 st, .slice A xs.length c] 28)).heap.size := by simp
      have N0 := Lib.hid (block_cell (World.heap_new w1 (.cells #[.int .i64 st, .slice A xs.length c] 28) _ rfl) 0).1
      have N1 := Lib.hid (block_cell (World.heap_new w1 (.cells #[.int .i64 st, .slice A xs.length c] 28) _ rfl) 1).1
      have XX0 := Lib.hid ((hal.cell (p := ⟨w.heap.size, 0, none⟩) (by simp only; omega)).trans x0)
      have XX1 := Lib.hid ((hal.cell (p := ⟨w.heap.size, 1, none⟩) (by simp only; omega)).trans x1)
      have RR0 := Lib.hid ((hal.cell (p := ⟨w.heap.size + 1, 0, none⟩) (by simp only; omega)).trans r0)
      have RR1 := Lib.hid ((hal.cell (p := ⟨w.heap.size + 1, 1, none⟩) (by simp only; omega)).trans r1)
      have ZZ0 := Lib.hid ((hal.frozen (p := ⟨w.heap.size + 1, 0, none⟩) (by simp only; omega)).trans z0)
      have ZZ1 := Lib.hid ((hal.frozen (p := ⟨w.heap.size + 1, 1, none⟩) (by simp only; omega)).trans z1)
      have hb2w : w.heap.size < w1.heap.size := by omega
      clear hb hin hin1 hB1 hal r0 r1 z0 z1
      go_wp2_with fail
      refine (specVR_any st A0 c0 xs _ (Sl.below (R := EN false) EN.framed HX.out HBB.out) hm HLX.out).mono ?_
      rw [HV.out]
      rintro e w2 ⟨rfl, hb⟩
      have hs2 := hb.size
      simp only [World.size_alloc] at hs2
      have HB2 := Lib.hid (HBB.out.trans (hb.mono (by simp; omega)))
      have HI2 := Lib.hid (Sl.below (R := EN true) EN.framed HIB.out hb)
      have n0 := (hb.cell (p := ⟨w1.heap.size, 0, none⟩) hl1).trans N0.out
      have n1 := (hb.cell (p := ⟨w1.heap.size, 1, none⟩) hl1).trans N1.out
      have x0 := (hb.cell (p := ⟨w.heap.size, 0, none⟩) (by simp; omega)).trans XX0.out
      have x1 := (hb.cell (p := ⟨w.heap.size, 1, none⟩) (by simp; omega)).trans XX1.out
      have r0 := (hb.cell (p := ⟨w.heap.size + 1, 0, none⟩) (by simp; omega)).trans RR0.out
      have r1 := (hb.cell (p := ⟨w.heap.size + 1, 1, none⟩) (by simp; omega)).trans RR1.out
      have z0 := (hb.frozen (p := ⟨w.heap.size + 1, 0, none⟩) (by simp; omega)).trans ZZ0.out
      have z1 := (hb.frozen (p := ⟨w.heap.size + 1, 1, none⟩) (by simp; omega)).trans ZZ1.out
      clear hb HIB HBB N0 N1 XX0 XX1 RR0 RR1 ZZ0 ZZ1 hl1
      rw [← hnb] at n0 n1 HI2 ⊢
      have n0' : w2.cell? ⟨nb, 0, none⟩ = some (.int .i64 st) := n0
      have n1' : w2.cell? ⟨nb, 1, none⟩ = some (.slice A xs.length c) := n1
      clear n0 n1
      have hnw : w.heap.size + 2 ≤ nb := by omega
      have hnw2 : nb < w2.heap.size := by omega
      clear hnb hs1 hs2 hb2w

      have hfin : Chg (fun b => b = w.heap.size + 1) w2 ((w2.setCell ⟨w.heap.size + 1, 0, none⟩ (.int .i64 st)).setCell ⟨w.heap.size + 1, 1, none⟩ (.slice A xs.length c)) := Chg.setCell_ (S := fun b => b = w.heap.size + 1) (Chg.setCell_ (S := fun b => b = w.heap.size + 1) (Chg.refl _ _) (p := ⟨w.heap.size + 1, 0, none⟩) rfl _) (p := ⟨w.heap.size + 1, 1, none⟩) rfl _
      have hv0 : ((w2.setCell ⟨w.heap.size + 1, 0, none⟩ (.int .i64 st)).setCell ⟨w.heap.size + 1, 1, none⟩ (.slice A xs.length c)).cell? ⟨w.heap.size + 1, 0, none⟩ = some (.int .i64 st) := by rw [World.cell?_setCell_other _ _ _ _ (fun e => by injection e with _ e2; omega)]; exact World.cell?_setCell_same _ _ _ r0
      have hv1 : ((w2.setCell ⟨w.heap.size + 1, 0, none⟩ (.int .i64 st)).setCell ⟨w.heap.size + 1, 1, none⟩ (.slice A xs.length c)).cell? ⟨w.heap.size + 1, 1, none⟩ = some (.slice A xs.length c) := World.cell?_setCell_same (u := .slice none 0 0) _ _ _ (by rw [World.cell?_setCell_other _ _ _ _ (fun e => by injection e with _ e2; omega)]; exact r1)
      have hal : Below w2.heap.size ((w2.setCell ⟨w.heap.size + 1, 0, none⟩ (.int .i64 st)).setCell ⟨w.heap.size + 1, 1, none⟩ (.slice A xs.length c)) (((w2.setCell ⟨w.heap.size + 1, 0, none⟩ (.int .i64 st)).setCell ⟨w.heap.size + 1, 1, none⟩ (.slice A xs.length c)).alloc (.cells #[] 38)) := Below.alloc (Below.refl _ _) hfin.size _
      have hl2 : w.heap.size + 1 < w2.heap.size := by omega
      have HF := Lib.hid hfin
      have HAL := Lib.hid hal
      have HV0 := Lib.hid ((hal.cell (p := ⟨w.heap.size + 1, 0, none⟩) hl2).trans hv0)
      have HV1 := Lib.hid ((hal.cell (p := ⟨w.heap.size + 1, 1, none⟩) hl2).trans hv1)
      have HBK : Hid ((((w2.setCell ⟨w.heap.size + 1, 0, none⟩ (.int .i64 st)).setCell ⟨w.heap.size + 1, 1, none⟩ (.slice A xs.length c)).alloc (.cells #[] 38)).heap[w2.heap.size]? = some (.cells #[] 38)) := Lib.hid (World.heap_new _ _ _ (by simp [World.setCell]))
      clear hfin hal hv0 hv1
      go_wp2_with (first | (go_at_call 51; refine (specDist_any st q _).mono ?_; rintro e w' ⟨rfl, rfl⟩) | (go_at_call 54; refine (l1In_any _ _ _ _).mono ?_; rw [HD.out]; rintro e w' ⟨rfl, rfl⟩))
      refine bodyPost_ret (v := .tuple #[.agg #[.int .i64 st, .slice A xs.length c], .slice (some ⟨w2.heap.size, 0, none⟩) 0 0]) (by simp [results, Try.results13, go_sem, HV0.out, HV1.out]) rfl ?_
      rw [HR.out]
      have h1 := HF.out.size
      have h2 := HAL.out.size
      have hsz : (((w2.setCell ⟨w.heap.size + 1, 0, none⟩ (.int .i64 st)).setCell ⟨w.heap.size + 1, 1, none⟩ (.slice A xs.length c)).alloc (.cells #[] 38)).heap.size = w2.heap.size + 1 := by simp [World.setCell]
      refine ⟨A, c, w2.heap.size, 0, (fun b => w.heap.size + 2 ≤ b ∧ b < nb), (fun b => b = w2.heap.size), rfl, (HB2.out.trans (HF.out.below (by omega) (fun k hk => by omega))).trans (HAL.out.mono (by omega)), hcap, fun b hb => ⟨by omega, by omega, by omega⟩, fun b hb => ⟨by omega, by omega⟩, ?_, OwS.new (by have := HB2.out.size; exact this) HBK.out, rfl⟩
      exact Sl.frame (R := EN true) EN.framed (Sl.frame (R := EN true) EN.framed HI2.out HF.out (fun b hb h2 => by omega)) (chg_above HAL.out HF.out.size) (fun b hb h2 => by omega)
    · obtain ⟨mq, hr1⟩ : ∃ r, r = (movR st (seqD st q) xs []).1 := ⟨_, rfl⟩
      obtain ⟨ms, hr2⟩ : ∃ r, r = (movR st (seqD st q) xs []).2 := ⟨_, rfl⟩
      obtain ⟨z, hz⟩ : ∃ r, r = relR q mq ms := ⟨_, rfl⟩
      have HR : Hid (moveR st q xs = z) := Lib.hid (by unfold moveR; rw [if_pos ⟨hv, hd⟩, hz, hr1, hr2])
      have HR1 : Hid ((mq, ms) = movR st (seqD st q) xs []) := Lib.hid (by rw [hr1, hr2])
      have HR2 := Lib.hid hz
      have HLN : Hid (ms.length + mq.length = xs.length) := Lib.hid (by rw [hr1, hr2]; have := movR_len st (seqD st q) xs []; simpa using this)
      have HD := Lib.hid hd
      clear hv hd hr1 hr2 hz
      go_enter Try.func13, Try.ntmps13
      go_wp2_with fail
      refine (l22Copy_any st A0 c0 xs _ (Sl.below (R := EN false) EN.framed HX.out (by repeat (first | (with_reducible exact Below.refl _ _) | (with_reducible refine Below.ext ?_ (by go_size) _ _) | (with_reducible refine Below.alloc ?_ (by go_size) _) | (with_reducible refine Below.setCell ?_ (by go_size) _) | (with_reducible refine Below.drew ?_) | (with_reducible refine Below.drewN_ ?_ _)))) hm HLX.out).mono ?_
      rintro e w1 ⟨A, c, rfl, hb, hcap, hin⟩
      have hs1 := hb.size
      have x0 := hb.cell (p := ⟨w.heap.size, 0, none⟩) (by simp; try omega)
      have x1 := hb.cell (p := ⟨w.heap.size, 1, none⟩) (by simp; try omega)
      have r0 := hb.cell (p := ⟨w.heap.size + 1, 0, none⟩) (by simp)
      have r1 := hb.cell (p := ⟨w.heap.size + 1, 1, none⟩) (by simp)
      have z0 := hb.frozen (p := ⟨w.heap.size + 1, 0, none⟩) (by simp)
      have z1 := hb.frozen (p := ⟨w.heap.size + 1, 1, none⟩) (by simp)
      simp [go_sem] at x0 x1 r0 r1 z0 z1 hs1
      have hB1 : Below w.heap.size w w1 := Below.trans (by repeat (first | (with_reducible exact Below.refl _ _) | (with_reducible refine Below.ext ?_ (by go_size) _ _) | (with_reducible refine Below.alloc ?_ (by go_size) _) | (with_reducible refine Below.setCell ?_ (by go_size) _) | (with_reducible refine Below.drew ?_) | (with_reducible refine Below.drewN_ ?_ _))) (hb.mono (by simp; try omega))
      have hin1 := hin.wider (T' := fun b => w.heap.size + 2 ≤ b ∧ b < w1.heap.size) (fun b hb => by simp at hb; omega)
      obtain ⟨nb, hnb⟩ : ∃ nb, nb = w1.heap.size := ⟨_, rfl⟩
      have hal : Below w1.heap.size w1 (w1.alloc (.cells #[.int .i64 st, .slice A xs.length c] 28)) := Below.alloc (Below.refl _ _) (Nat.le_refl _) _
      have HBB := Lib.hid (hB1.trans (hal.mono (by omega)))
      have HIB := Lib.hid (Sl.below (R := EN true) EN.framed hin1 hal)
      have hl1 : w1.heap.size < (w1.alloc (.cells #[.int .i64 st, .slice A xs.length c] 28)).heap.size := by simp
      have N0 := Lib.hid (block_cell (World.heap_new w1 (.cells #[.int .i64 st, .slice A xs.length c] 28) _ rfl) 0).1
      have N1 := Lib.hid (block_cell (World.heap_new w1 (.cells #[.int .i64 st, .slice A xs.length c] 28) _ rfl) 1).1
      have XX0 := Lib.hid ((hal.cell (p := ⟨w.heap.size, 0, none⟩) (by simp only; omega)).trans x0)
      have XX1 := Lib.hid ((hal.cell (p := ⟨w.heap.size, 1, none⟩) (by simp only; omega)).trans x1)
      have RR0 := Lib.hid ((hal.cell (p := ⟨w.heap.size + 1, 0, none⟩) (by simp only; omega)).trans r0)
      have RR1 := Lib.hid ((hal.cell (p := ⟨w.heap.size + 1, 1, none⟩) (by simp only; omega)).trans r1)
      have ZZ0 := Lib.hid ((hal.frozen (p := ⟨w.heap.size + 1, 0, none⟩) (by simp only; omega)).trans z0)
      have ZZ1 := Lib.hid ((hal.frozen (p := ⟨w.heap.size + 1, 1, none⟩) (by simp only; omega)).trans z1)
      have hb2w : w.heap.size < w1.heap.size := by omega
      clear hb hin hin1 hB1 hal r0 r1 z0 z1
      go_wp2_with fail
      refine (specVR_any st A0 c0 xs _ (Sl.below (R := EN false) EN.framed HX.out HBB.out) hm HLX.out).mono ?_
      rw [HV.out]
      rintro e w2 ⟨rfl, hb⟩
      have hs2 := hb.size
      simp only [World.size_alloc] at hs2
      have HB2 := Lib.hid (HBB.out.trans (hb.mono (by simp; omega)))
      have HI2 := Lib.hid (Sl.below (R := EN true) EN.framed HIB.out hb)
      have n0 := (hb.cell (p := ⟨w1.heap.size, 0, none⟩) hl1).trans N0.out
      have n1 := (hb.cell (p := ⟨w1.heap.size, 1, none⟩) hl1).trans N1.out
      have x0 := (hb.cell (p := ⟨w.heap.size, 0, none⟩) (by simp; omega)).trans XX0.out
      have x1 := (hb.cell (p := ⟨w.heap.size, 1, none⟩) (by simp; omega)).trans XX1.out
      have r0 := (hb.cell (p := ⟨w.heap.size + 1, 0, none⟩) (by simp; omega)).trans RR0.out
      have r1 := (hb.cell (p := ⟨w.heap.size + 1, 1, none⟩) (by simp; omega)).trans RR1.out
      have z0 := (hb.frozen (p := ⟨w.heap.size + 1, 0, none⟩) (by simp; omega)).trans ZZ0.out
      have z1 := (hb.frozen (p := ⟨w.heap.size + 1, 1, none⟩) (by simp; omega)).trans ZZ1.out
      clear hb HIB HBB N0 N1 XX0 XX1 RR0 RR1 ZZ0 ZZ1 hl1
      rw [← hnb] at n0 n1 HI2 ⊢
      have n0' : w2.cell? ⟨nb, 0, none⟩ = some (.int .i64 st) := n0
      have n1' : w2.cell? ⟨nb, 1, none⟩ = some (.slice A xs.length c) := n1
      clear n0 n1
      have hnw : w.heap.size + 2 ≤ nb := by omega
      have hnw2 : nb < w2.heap.size := by omega
      clear hnb hs1 hs2 hb2w

      go_wp2_with (first | (go_at_call 51; refine (specDist_any st q _).mono ?_; rintro e w' ⟨rfl, rfl⟩) | (go_at_call 54; refine (l1In_any _ _ _ _).mono ?_; rw [HD.out]; rintro e w' ⟨rfl, rfl⟩))
      have hn1 : xs.length ≤ 1000000000 := hm
      refine (specMov_any (T1 := fun b => w.heap.size + 2 ≤ b ∧ b < nb) st A c xs q _ HI2.out hcap hm (fun b hb => by omega)).mono ?_
      rw [← HR1.out]
      rintro e w3 ⟨A3, c3, gb3, cb3, T13, T23, rfl, hb3, hcap3, hd1, hd2, hs3, ho3⟩
      have hs3' := hb3.size
      replace r0 := (hb3.cell (p := ⟨w.heap.size + 1, 0, none⟩) (by simp only; omega)).trans r0
      replace r1 := (hb3.cell (p := ⟨w.heap.size + 1, 1, none⟩) (by simp only; omega)).trans r1
      replace z0 := (hb3.frozen (p := ⟨w.heap.size + 1, 0, none⟩) (by simp only; omega)).trans z0
      replace z1 := (hb3.frozen (p := ⟨w.heap.size + 1, 1, none⟩) (by simp only; omega)).trans z1
      have HB3 := Lib.hid (HB2.out.trans (hb3.mono (by omega)))
      have HS3 := Lib.hid hs3
      have HO3 := Lib.hid ho3
      have HD1 := Lib.hid hd1
      have HD2 := Lib.hid hd2
      have hge3 := ho3.ge
      have hlt3 := ho3.lt
      have hal3 : Below w3.heap.size w3 (w3.alloc (.cells #[.int .i64 q, .slice A3 mq.length c3] 28)) := Below.alloc (Below.refl _ _) (Nat.le_refl _) _
      have HA3 := Lib.hid hal3
      have R0 := Lib.hid ((hal3.cell (p := ⟨w.heap.size + 1, 0, none⟩) (by simp only; omega)).trans r0)
      have R1 := Lib.hid ((hal3.cell (p := ⟨w.heap.size + 1, 1, none⟩) (by simp only; omega)).trans r1)
      have ZZ0 := Lib.hid ((hal3.frozen (p := ⟨w.heap.size + 1, 0, none⟩) (by simp only; omega)).trans z0)
      have ZZ1 := Lib.hid ((hal3.frozen (p := ⟨w.heap.size + 1, 1, none⟩) (by simp only; omega)).trans z1)
      clear hb3 hs3 ho3 hd1 hd2 r0 r1 z0 z1 hal3 n0' n1' x0 x1
      go_wp2_with fail
      refine (specRel_any (T1 := T13) (T2 := T23) q A3 c3 mq gb3 cb3 ms (w2.heap.size + 2) _ (Sl.below (R := EN true) EN.framed HS3.out HA3.out) hcap3 (by have := HLN.out; omega) (OwS.below (R := EB true) EB.framed HO3.out HA3.out) (fun b hb => ?a1) (fun b hb => ?a2) (by simp; omega)).mono ?_
      case a1 => have h1 := HD1.out b hb; have h2 := h1.1; refine ⟨by simp; omega, h1.2, by omega⟩
      case a2 => have h1 := HD2.out b hb; simp; omega
      rw [← HR2.out]
      rintro e w4 ⟨A4, c4, gb4, cb4, T14, T24, rfl, hc4, hcap4, hd41, hd42, hs4, ho4, hgb⟩
      have hsz4 := hc4.size
      simp only [World.size_alloc] at hsz4 hgb
      have r0 := (hc4.cell (p := ⟨w.heap.size + 1, 0, none⟩) (by simp; omega) (by simp only; omega)).trans R0.out
      have r1_ := (hc4.cell (p := ⟨w.heap.size + 1, 1, none⟩) (by simp; omega) (by simp only; omega)).trans R1.out
      have z0 := (hc4.frozen (p := ⟨w.heap.size + 1, 0, none⟩) (by simp; omega) (by simp only; omega)).trans ZZ0.out
      have z1 := (hc4.frozen (p := ⟨w.heap.size + 1, 1, none⟩) (by simp; omega) (by simp only; omega)).trans ZZ1.out
      have HB4 := Lib.hid ((HB3.out.trans (HA3.out.mono (by omega))).trans (hc4.below (by simp; omega) (fun k hk => by omega)))
      have HS4 := Lib.hid hs4
      have HO4 := Lib.hid ho4
      have HD41 := Lib.hid hd41
      have HD42 := Lib.hid hd42
      have hge4 := ho4.ge
      have hlt4 := ho4.lt
      clear hc4 hs4 ho4 hd41 hd42 R0 R1 ZZ0 ZZ1
      have hfin : Chg (fun b => b = w.heap.size + 1) w4 ((w4.setCell ⟨w.heap.size + 1, 0, none⟩ (.int .i64 z.1)).setCell ⟨w.heap.size + 1, 1, none⟩ (.slice A4 z.2.1.length c4)) := Chg.setCell_ (S := fun b => b = w.heap.size + 1) (Chg.setCell_ (S := fun b => b = w.heap.size + 1) (Chg.refl _ _) (p := ⟨w.heap.size + 1, 0, none⟩) rfl _) (p := ⟨w.heap.size + 1, 1, none⟩) rfl _
      have hv0 : ((w4.setCell ⟨w.heap.size + 1, 0, none⟩ (.int .i64 z.1)).setCell ⟨w.heap.size + 1, 1, none⟩ (.slice A4 z.2.1.length c4)).cell? ⟨w.heap.size + 1, 0, none⟩ = some (.int .i64 z.1) := by rw [World.cell?_setCell_other _ _ _ _ (fun e => by injection e with _ e2; omega)]; exact World.cell?_setCell_same _ _ _ r0
      have hv1 : ((w4.setCell ⟨w.heap.size + 1, 0, none⟩ (.int .i64 z.1)).setCell ⟨w.heap.size + 1, 1, none⟩ (.slice A4 z.2.1.length c4)).cell? ⟨w.heap.size + 1, 1, none⟩ = some (.slice A4 z.2.1.length c4) := World.cell?_setCell_same (u := .slice none 0 0) _ _ _ (by rw [World.cell?_setCell_other _ _ _ _ (fun e => by injection e with _ e2; omega)]; exact r1_)
      have HF := Lib.hid hfin
      have HV0 := Lib.hid hv0
      have HV1 := Lib.hid hv1
      clear hfin hv0 hv1
      go_wp2
      refine bodyPost_ret (v := .tuple #[.agg #[.int .i64 z.1, .slice A4 z.2.1.length c4], .slice (some ⟨gb4, 0, none⟩) z.2.2.length cb4]) (by simp [results, Try.results13, go_sem, HV0.out, HV1.out]) rfl ?_
      rw [HR.out]
      have h1 := HF.out.size
      have t1 : ∀ b, T14 b → w.heap.size + 2 ≤ b ∧ b < nb := fun b hb => (HD1.out b (HD41.out b hb).1).1
      have t2 : ∀ b, T24 b → w.heap.size + 2 ≤ b ∧ b < nb := fun b hb => by rcases HD42.out b hb with h | h; exact HD2.out b h; exact (HD1.out b h).1
      refine ⟨A4, c4, gb4, cb4, T14, (fun b => T24 b ∨ b = gb4), rfl, HB4.out.trans (HF.out.below (by omega) (fun k hk => by omega)), hcap4, fun b hb => ⟨by have := t1 b hb; omega, by have := t1 b hb; omega, fun h => ?_⟩, fun b hb => ?_, Sl.frame (R := EN true) EN.framed HS4.out HF.out (fun b hb h2 => by have := t1 b hb; omega), ((OwS.frame (R := EB true) EB.framed HO4.out HF.out (fun b hb h2 => by have := t2 b hb; omega) (fun a' ha' h2 => by injection ha' with ha'; subst ha'; simp only at h2; omega)).lower (by omega)).widerT (fun b h1 h2 => .inl h1), .inr rfl⟩
      · rcases h with h | h
        · exact (HD41.out b hb).2 h
        · have := t1 b hb; omega
      · rcases hb with h | h
        · have := t2 b h; omega
        · subst h; omega

end Go.Proofs.Ytnfgdgmmbddmgaa
