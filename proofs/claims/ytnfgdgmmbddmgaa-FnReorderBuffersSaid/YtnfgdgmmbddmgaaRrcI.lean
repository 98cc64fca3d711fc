/- ReceiveNumbered of the program. -/
import Derived.Test.YtnfgdgmmbddmgaaRrcP
import Derived.Test.YtnfgdgmmbddmgaaRmvI
import Derived.Test.YtnfgdgmmbddmgaaRsum
import Derived.Test.YtnfgdgmmbddmgaaHeldL
namespace Go.Proofs.Ytnfgdgmmbddmgaa
open Go.RowKit
set_option linter.unusedVariables false
set_option linter.unusedSimpArgs false

set_option maxRecDepth 10000 in
set_option maxHeartbeats 16000000 in
theorem implRN_any {T Tb : Nat → Prop} (st : Int) (A0 : Option Addr) (c0 : Nat) (xs : List NF) (q : Int) (B : Option Addr) (cb : Nat) (body : List Int) (w : World) (hx : Sl false 2 (EN false) w T A0 xs) (hm : xs.length ≤ 100000000) (hlx : ∀ x ∈ xs, x.2.length ≤ 1000000000)
    (hby : Rw false .u8 w Tb B body) (hbb : body.length ≤ 1000000000) :
    Calls Try.prog 24 #[.agg #[.int .i64 st, .slice A0 xs.length c0], .int .i64 q, .slice B body.length cb] w fun e w' => CpM w (rcvI st q body xs) e w' := by
  have HX := Lib.hid hx
  have HLX := Lib.hid hlx
  have HBY := Lib.hid hby
  have hm9 : xs.length ≤ 1000000000 := by omega
  clear hx hlx hby
  go_enter Try.func24, Try.ntmps24
  go_wp2_with fail
  refine (copyRB_any st A0 c0 xs _ (Sl.below (R := EN false) EN.framed HX.out (by repeat (first | (with_reducible exact Below.refl _ _) | (with_reducible refine Below.ext ?_ (by go_size) _ _) | (with_reducible refine Below.alloc ?_ (by go_size) _) | (with_reducible refine Below.setCell ?_ (by go_size) _) | (with_reducible refine Below.drew ?_) | (with_reducible refine Below.drewN_ ?_ _)))) hm9 HLX.out).mono ?_
  rintro e w1 ⟨A, c, rfl, hb, hcap, hin⟩
  have hs1 := hb.size
  have x0 := hb.cell (p := ⟨w.heap.size, 0, none⟩) (by simp; try omega)
  have x1 := hb.cell (p := ⟨w.heap.size, 1, none⟩) (by simp; try omega)
  have r0 := hb.cell (p := ⟨w.heap.size + 1, 0, none⟩) (by simp)
  have r1 := hb.cell (p := ⟨w.heap.size + 1, 1, none⟩) (by simp)
  have z0 := hb.frozen (p := ⟨w.heap.size + 1, 0, none⟩) (by simp)
  have z1 := hb.frozen (p := ⟨w.heap.size + 1, 1, none⟩) (by simp)
  simp [go_sem] at x0 x1 r0 r1 z0 z1 hs1
  have hB1 : Below w.heap.size w w1 := Below.trans (by repeat (first | (with_reducible exact Below.refl _ _) | (with_reducible refine Below.ext ?_ (by go_size) _ _) | (with_reducible refine Below.alloc ?_ (by go_size) _) | (with_reducible refine Below.setCell ?_ (by go_size) _) | (with_reducible refine Below.drew ?_) | (with_reducible refine Below.drewN_ ?_ _))) (hb.mono (by simp; try omega))
  have hin1 := hin.wider (T' := fun b => w.heap.size + 2 ≤ b ∧ b < w1.heap.size) (fun b hb => by simp at hb; omega)
  obtain ⟨nb, hnb⟩ : ∃ nb, nb = w1.heap.size := ⟨_, rfl⟩
  have hal : Below w1.heap.size w1 (w1.alloc (.cells #[.int .i64 st, .slice A xs.length c] 28)) := Below.alloc (Below.refl _ _) (Nat.le_refl _) _
  have HBB := Lib.hid (hB1.trans (hal.mono (by omega)))
  have HIB := Lib.hid (Sl.below (R := EN true) EN.framed hin1 hal)
  have hl1 : w1.heap.size < (w1.alloc (.cells #[.int .i64 st, .slice A xs.length c] 28)).heap.size := by simp
  have N0 := Lib.hid (block_cell (World.heap_new w1 (.cells #[.int .i64 st, .slice A xs.length c] 28) _ rfl) 0).1
  have N1 := Lib.hid (block_cell (World.heap_new w1 (.cells #[.int .i64 st, .slice A xs.length c] 28) _ rfl) 1).1
  have N2 := Lib.hid (block_cell (World.heap_new w1 (.cells #[.int .i64 st, .slice A xs.length c] 28) _ rfl) 0).2
  have N3 := Lib.hid (block_cell (World.heap_new w1 (.cells #[.int .i64 st, .slice A xs.length c] 28) _ rfl) 1).2
  have XX0 := Lib.hid ((hal.cell (p := ⟨w.heap.size, 0, none⟩) (by simp only; omega)).trans x0)
  have XX1 := Lib.hid ((hal.cell (p := ⟨w.heap.size, 1, none⟩) (by simp only; omega)).trans x1)
  have RR0 := Lib.hid ((hal.cell (p := ⟨w.heap.size + 1, 0, none⟩) (by simp only; omega)).trans r0)
  have RR1 := Lib.hid ((hal.cell (p := ⟨w.heap.size + 1, 1, none⟩) (by simp only; omega)).trans r1)
  have ZZ0 := Lib.hid ((hal.frozen (p := ⟨w.heap.size + 1, 0, none⟩) (by simp only; omega)).trans z0)
  have ZZ1 := Lib.hid ((hal.frozen (p := ⟨w.heap.size + 1, 1, none⟩) (by simp only; omega)).trans z1)
  have hb2w : w.heap.size < w1.heap.size := by omega
  clear hb hin hin1 hB1 hal r0 r1 z0 z1
  go_wp2_with (go_at_call 59; refine (implDist_any st q _).mono ?_; rintro e w' ⟨rfl, rfl⟩)
  refine (implVR_any st A0 c0 xs _ (Sl.below (R := EN false) EN.framed HX.out HBB.out) hm9 HLX.out).mono ?_
  rintro e w2 ⟨rfl, hb⟩
  have hs2 := hb.size
  simp only [World.size_alloc] at hs2
  have HB2 := Lib.hid (HBB.out.trans (hb.mono (by simp; omega)))
  have HI2 := Lib.hid (Sl.below (R := EN true) EN.framed HIB.out hb)
  have n0 := (hb.cell (p := ⟨w1.heap.size, 0, none⟩) hl1).trans N0.out
  have n1 := (hb.cell (p := ⟨w1.heap.size, 1, none⟩) hl1).trans N1.out
  have n2 := (hb.frozen (p := ⟨w1.heap.size, 0, none⟩) hl1).trans N2.out
  have n3 := (hb.frozen (p := ⟨w1.heap.size, 1, none⟩) hl1).trans N3.out
  have x0 := (hb.cell (p := ⟨w.heap.size, 0, none⟩) (by simp; omega)).trans XX0.out
  have x1 := (hb.cell (p := ⟨w.heap.size, 1, none⟩) (by simp; omega)).trans XX1.out
  have r0 := (hb.cell (p := ⟨w.heap.size + 1, 0, none⟩) (by simp; omega)).trans RR0.out
  have r1 := (hb.cell (p := ⟨w.heap.size + 1, 1, none⟩) (by simp; omega)).trans RR1.out
  have z0 := (hb.frozen (p := ⟨w.heap.size + 1, 0, none⟩) (by simp; omega)).trans ZZ0.out
  have z1 := (hb.frozen (p := ⟨w.heap.size + 1, 1, none⟩) (by simp; omega)).trans ZZ1.out
  clear hb HIB HBB N0 N1 N2 N3 XX0 XX1 RR0 RR1 ZZ0 ZZ1 hl1
  rw [← hnb] at n0 n1 n2 n3 HI2 ⊢
  have n0' : w2.cell? ⟨nb, 0, none⟩ = some (.int .i64 st) := n0
  have n1' : w2.cell? ⟨nb, 1, none⟩ = some (.slice A xs.length c) := n1
  have n2' : w2.frozen? ⟨nb, 0, none⟩ = false := n2
  have n3' : w2.frozen? ⟨nb, 1, none⟩ = false := n3
  clear n0 n1 n2 n3
  have hnw : w.heap.size + 2 ≤ nb := by omega
  have hnw2 : nb < w2.heap.size := by omega
  clear hnb hs1 hs2 hb2w
  obtain ⟨bv, hbv⟩ : ∃ b, b = vROB st xs := ⟨_, rfl⟩
  rw [← hbv]
  have HV := Lib.hid hbv
  clear hbv
  cases bv
  · have HR : Hid (rcvI st q body xs = (st, xs, [])) := Lib.hid (by unfold rcvI; rw [if_neg (fun h => by rw [← HV.out] at h; simp at h)])
    have hfin : Chg (fun b => b = w.heap.size + 1) w2 ((w2.setCell ⟨w.heap.size + 1, 0, none⟩ (.int .i64 st)).setCell ⟨w.heap.size + 1, 1, none⟩ (.slice A xs.length c)) := Chg.setCell_ (S := fun b => b = w.heap.size + 1) (Chg.setCell_ (S := fun b => b = w.heap.size + 1) (Chg.refl _ _) (p := ⟨w.heap.size + 1, 0, none⟩) rfl _) (p := ⟨w.heap.size + 1, 1, none⟩) rfl _
    have hv0 : ((w2.setCell ⟨w.heap.size + 1, 0, none⟩ (.int .i64 st)).setCell ⟨w.heap.size + 1, 1, none⟩ (.slice A xs.length c)).cell? ⟨w.heap.size + 1, 0, none⟩ = some (.int .i64 st) := by rw [World.cell?_setCell_other _ _ _ _ (fun e => by injection e with _ e2; omega)]; exact World.cell?_setCell_same _ _ _ r0
    have hv1 : ((w2.setCell ⟨w.heap.size + 1, 0, none⟩ (.int .i64 st)).setCell ⟨w.heap.size + 1, 1, none⟩ (.slice A xs.length c)).cell? ⟨w.heap.size + 1, 1, none⟩ = some (.slice A xs.length c) := World.cell?_setCell_same (u := .slice none 0 0) _ _ _ (by rw [World.cell?_setCell_other _ _ _ _ (fun e => by injection e with _ e2; omega)]; exact r1)
    have hal : Below w2.heap.size ((w2.setCell ⟨w.heap.size + 1, 0, none⟩ (.int .i64 st)).setCell ⟨w.heap.size + 1, 1, none⟩ (.slice A xs.length c)) (((w2.setCell ⟨w.heap.size + 1, 0, none⟩ (.int .i64 st)).setCell ⟨w.heap.size + 1, 1, none⟩ (.slice A xs.length c)).alloc (.cells #[] 38)) := Below.alloc (Below.refl _ _) hfin.size _
    have hl2 : w.heap.size + 1 < w2.heap.size := by omega
    have HF := Lib.hid hfin
    have HAL := Lib.hid hal
    have HV0 := Lib.hid ((hal.cell (p := ⟨w.heap.size + 1, 0, none⟩) hl2).trans hv0)
    have HV1 := Lib.hid ((hal.cell (p := ⟨w.heap.size + 1, 1, none⟩) hl2).trans hv1)
    have HBK : Hid ((((w2.setCell ⟨w.heap.size + 1, 0, none⟩ (.int .i64 st)).setCell ⟨w.heap.size + 1, 1, none⟩ (.slice A xs.length c)).alloc (.cells #[] 38)).heap[w2.heap.size]? = some (.cells #[] 38)) := Lib.hid (World.heap_new _ _ _ (by simp [World.setCell]))
    clear hfin hal hv0 hv1
    go_wp2
    refine bodyPost_ret (v := .tuple #[.agg #[.int .i64 st, .slice A xs.length c], .slice (some ⟨w2.heap.size, 0, none⟩) 0 0]) (by simp [results, Try.results24, go_sem, HV0.out, HV1.out]) rfl ?_
    rw [HR.out]
    have h1 := HF.out.size
    have h2 := HAL.out.size
    have hsz : (((w2.setCell ⟨w.heap.size + 1, 0, none⟩ (.int .i64 st)).setCell ⟨w.heap.size + 1, 1, none⟩ (.slice A xs.length c)).alloc (.cells #[] 38)).heap.size = w2.heap.size + 1 := by simp [World.setCell]
    refine ⟨A, c, w2.heap.size, 0, (fun b => w.heap.size + 2 ≤ b ∧ b < nb), (fun b => b = w2.heap.size), rfl, (HB2.out.trans (HF.out.below (by omega) (fun k hk => by omega))).trans (HAL.out.mono (by omega)), hcap, fun b hb => ⟨by omega, by omega, by omega⟩, fun b hb => ⟨by omega, by omega⟩, ?_, OwS.new (by have := HB2.out.size; exact this) HBK.out, rfl⟩
    exact Sl.frame (R := EN true) EN.framed (Sl.frame (R := EN true) EN.framed HI2.out HF.out (fun b hb h2 => by omega)) (chg_above HAL.out HF.out.size) (fun b hb h2 => by omega)
  · by_cases hbl : 100 < body.length
    · have hbl2 : (100 : Int) < (body.length : Int) := by omega
      have HR : Hid (rcvI st q body xs = (st, xs, [])) := Lib.hid (by unfold rcvI; rw [if_neg (fun h => by have := h.2.2.1; omega)])
      have hfin : Chg (fun b => b = w.heap.size + 1) w2 ((w2.setCell ⟨w.heap.size + 1, 0, none⟩ (.int .i64 st)).setCell ⟨w.heap.size + 1, 1, none⟩ (.slice A xs.length c)) := Chg.setCell_ (S := fun b => b = w.heap.size + 1) (Chg.setCell_ (S := fun b => b = w.heap.size + 1) (Chg.refl _ _) (p := ⟨w.heap.size + 1, 0, none⟩) rfl _) (p := ⟨w.heap.size + 1, 1, none⟩) rfl _
      have hv0 : ((w2.setCell ⟨w.heap.size + 1, 0, none⟩ (.int .i64 st)).setCell ⟨w.heap.size + 1, 1, none⟩ (.slice A xs.length c)).cell? ⟨w.heap.size + 1, 0, none⟩ = some (.int .i64 st) := by rw [World.cell?_setCell_other _ _ _ _ (fun e => by injection e with _ e2; omega)]; exact World.cell?_setCell_same _ _ _ r0
      have hv1 : ((w2.setCell ⟨w.heap.size + 1, 0, none⟩ (.int .i64 st)).setCell ⟨w.heap.size + 1, 1, none⟩ (.slice A xs.length c)).cell? ⟨w.heap.size + 1, 1, none⟩ = some (.slice A xs.length c) := World.cell?_setCell_same (u := .slice none 0 0) _ _ _ (by rw [World.cell?_setCell_other _ _ _ _ (fun e => by injection e with _ e2; omega)]; exact r1)
      have hal : Below w2.heap.size ((w2.setCell ⟨w.heap.size + 1, 0, none⟩ (.int .i64 st)).setCell ⟨w.heap.size + 1, 1, none⟩ (.slice A xs.length c)) (((w2.setCell ⟨w.heap.size + 1, 0, none⟩ (.int .i64 st)).setCell ⟨w.heap.size + 1, 1, none⟩ (.slice A xs.length c)).alloc (.cells #[] 38)) := Below.alloc (Below.refl _ _) hfin.size _
      have hl2 : w.heap.size + 1 < w2.heap.size := by omega
      have HF := Lib.hid hfin
      have HAL := Lib.hid hal
      have HV0 := Lib.hid ((hal.cell (p := ⟨w.heap.size + 1, 0, none⟩) hl2).trans hv0)
      have HV1 := Lib.hid ((hal.cell (p := ⟨w.heap.size + 1, 1, none⟩) hl2).trans hv1)
      have HBK : Hid ((((w2.setCell ⟨w.heap.size + 1, 0, none⟩ (.int .i64 st)).setCell ⟨w.heap.size + 1, 1, none⟩ (.slice A xs.length c)).alloc (.cells #[] 38)).heap[w2.heap.size]? = some (.cells #[] 38)) := Lib.hid (World.heap_new _ _ _ (by simp [World.setCell]))
      clear hfin hal hv0 hv1
      go_wp2
      refine bodyPost_ret (v := .tuple #[.agg #[.int .i64 st, .slice A xs.length c], .slice (some ⟨w2.heap.size, 0, none⟩) 0 0]) (by simp [results, Try.results24, go_sem, HV0.out, HV1.out]) rfl ?_
      rw [HR.out]
      have h1 := HF.out.size
      have h2 := HAL.out.size
      have hsz : (((w2.setCell ⟨w.heap.size + 1, 0, none⟩ (.int .i64 st)).setCell ⟨w.heap.size + 1, 1, none⟩ (.slice A xs.length c)).alloc (.cells #[] 38)).heap.size = w2.heap.size + 1 := by simp [World.setCell]
      refine ⟨A, c, w2.heap.size, 0, (fun b => w.heap.size + 2 ≤ b ∧ b < nb), (fun b => b = w2.heap.size), rfl, (HB2.out.trans (HF.out.below (by omega) (fun k hk => by omega))).trans (HAL.out.mono (by omega)), hcap, fun b hb => ⟨by omega, by omega, by omega⟩, fun b hb => ⟨by omega, by omega⟩, ?_, OwS.new (by have := HB2.out.size; exact this) HBK.out, rfl⟩
      exact Sl.frame (R := EN true) EN.framed (Sl.frame (R := EN true) EN.framed HI2.out HF.out (fun b hb h2 => by omega)) (chg_above HAL.out HF.out.size) (fun b hb h2 => by omega)
    · have hbl2 : ¬ (100 : Int) < (body.length : Int) := by omega
      cases hd : inR (seqD st q) 0 2047
      · have HD := Lib.hid hd
        have HR : Hid (rcvI st q body xs = (st, xs, [])) := Lib.hid (by unfold rcvI; rw [if_neg (fun h => by rw [hd] at h; simp at h)])
        have hfin : Chg (fun b => b = w.heap.size + 1) w2 ((w2.setCell ⟨w.heap.size + 1, 0, none⟩ (.int .i64 st)).setCell ⟨w.heap.size + 1, 1, none⟩ (.slice A xs.length c)) := Chg.setCell_ (S := fun b => b = w.heap.size + 1) (Chg.setCell_ (S := fun b => b = w.heap.size + 1) (Chg.refl _ _) (p := ⟨w.heap.size + 1, 0, none⟩) rfl _) (p := ⟨w.heap.size + 1, 1, none⟩) rfl _
        have hv0 : ((w2.setCell ⟨w.heap.size + 1, 0, none⟩ (.int .i64 st)).setCell ⟨w.heap.size + 1, 1, none⟩ (.slice A xs.length c)).cell? ⟨w.heap.size + 1, 0, none⟩ = some (.int .i64 st) := by rw [World.cell?_setCell_other _ _ _ _ (fun e => by injection e with _ e2; omega)]; exact World.cell?_setCell_same _ _ _ r0
        have hv1 : ((w2.setCell ⟨w.heap.size + 1, 0, none⟩ (.int .i64 st)).setCell ⟨w.heap.size + 1, 1, none⟩ (.slice A xs.length c)).cell? ⟨w.heap.size + 1, 1, none⟩ = some (.slice A xs.length c) := World.cell?_setCell_same (u := .slice none 0 0) _ _ _ (by rw [World.cell?_setCell_other _ _ _ _ (fun e => by injection e with _ e2; omega)]; exact r1)
        have hal : Below w2.heap.size ((w2.setCell ⟨w.heap.size + 1, 0, none⟩ (.int .i64 st)).setCell ⟨w.heap.size + 1, 1, none⟩ (.slice A xs.length c)) (((w2.setCell ⟨w.heap.size + 1, 0, none⟩ (.int .i64 st)).setCell ⟨w.heap.size + 1, 1, none⟩ (.slice A xs.length c)).alloc (.cells #[] 38)) := Below.alloc (Below.refl _ _) hfin.size _
        have hl2 : w.heap.size + 1 < w2.heap.size := by omega
        have HF := Lib.hid hfin
        have HAL := Lib.hid hal
        have HV0 := Lib.hid ((hal.cell (p := ⟨w.heap.size + 1, 0, none⟩) hl2).trans hv0)
        have HV1 := Lib.hid ((hal.cell (p := ⟨w.heap.size + 1, 1, none⟩) hl2).trans hv1)
        have HBK : Hid ((((w2.setCell ⟨w.heap.size + 1, 0, none⟩ (.int .i64 st)).setCell ⟨w.heap.size + 1, 1, none⟩ (.slice A xs.length c)).alloc (.cells #[] 38)).heap[w2.heap.size]? = some (.cells #[] 38)) := Lib.hid (World.heap_new _ _ _ (by simp [World.setCell]))
        clear hfin hal hv0 hv1
        go_wp2_with (go_at_call 60; refine (inRange_any _ _ _ _).mono ?_; rw [HD.out]; rintro e w' ⟨rfl, rfl⟩)
        refine bodyPost_ret (v := .tuple #[.agg #[.int .i64 st, .slice A xs.length c], .slice (some ⟨w2.heap.size, 0, none⟩) 0 0]) (by simp [results, Try.results24, go_sem, HV0.out, HV1.out]) rfl ?_
        rw [HR.out]
        have h1 := HF.out.size
        have h2 := HAL.out.size
        have hsz : (((w2.setCell ⟨w.heap.size + 1, 0, none⟩ (.int .i64 st)).setCell ⟨w.heap.size + 1, 1, none⟩ (.slice A xs.length c)).alloc (.cells #[] 38)).heap.size = w2.heap.size + 1 := by simp [World.setCell]
        refine ⟨A, c, w2.heap.size, 0, (fun b => w.heap.size + 2 ≤ b ∧ b < nb), (fun b => b = w2.heap.size), rfl, (HB2.out.trans (HF.out.below (by omega) (fun k hk => by omega))).trans (HAL.out.mono (by omega)), hcap, fun b hb => ⟨by omega, by omega, by omega⟩, fun b hb => ⟨by omega, by omega⟩, ?_, OwS.new (by have := HB2.out.size; exact this) HBK.out, rfl⟩
        exact Sl.frame (R := EN true) EN.framed (Sl.frame (R := EN true) EN.framed HI2.out HF.out (fun b hb h2 => by omega)) (chg_above HAL.out HF.out.size) (fun b hb h2 => by omega)
      · have HD := Lib.hid hd
        clear hd
        go_wp2_with (go_at_call 60; refine (inRange_any _ _ _ _).mono ?_; rw [HD.out]; rintro e w' ⟨rfl, rfl⟩)
        refine (isPending_any st A0 c0 xs q _ (Sl.below (R := EN false) EN.framed HX.out HB2.out) hm9).mono ?_
        rintro e w3 ⟨rfl, hb⟩
        have hs3 := hb.size
        have HB3 := Lib.hid (HB2.out.trans (hb.mono HB2.out.size))
        have HI3 := Lib.hid (Sl.below (R := EN true) EN.framed HI2.out hb)
        replace n0' := (hb.cell (p := ⟨nb, 0, none⟩) (by simp only; omega)).trans n0'
        replace n1' := (hb.cell (p := ⟨nb, 1, none⟩) (by simp only; omega)).trans n1'
        replace n2' := (hb.frozen (p := ⟨nb, 0, none⟩) (by simp only; omega)).trans n2'
        replace n3' := (hb.frozen (p := ⟨nb, 1, none⟩) (by simp only; omega)).trans n3'
        replace r0 := (hb.cell (p := ⟨w.heap.size + 1, 0, none⟩) (by simp only; omega)).trans r0
        replace r1 := (hb.cell (p := ⟨w.heap.size + 1, 1, none⟩) (by simp only; omega)).trans r1
        replace z0 := (hb.frozen (p := ⟨w.heap.size + 1, 0, none⟩) (by simp only; omega)).trans z0
        replace z1 := (hb.frozen (p := ⟨w.heap.size + 1, 1, none⟩) (by simp only; omega)).trans z1
        have hnw3 : nb < w3.heap.size := by omega
        clear hb x0 x1 HB2 HI2
        obtain ⟨bp, hbp⟩ : ∃ b, b = pendB xs q := ⟨_, rfl⟩
        rw [← hbp]
        have HP := Lib.hid hbp
        clear hbp
        cases bp
        · have HG : Hid (vROB st xs = true ∧ inR (seqD st q) 0 2047 = true ∧ body.length ≤ 100 ∧ pendB xs q = false) := Lib.hid ⟨HV.out.symm, HD.out, by omega, HP.out.symm⟩
          have hq4 : 0 ≤ q ∧ q ≤ 4095 := by have h1 := inR_true HD.out; have h2 := seqD_pos h1.1; omega
          by_cases h16 : 16 ≤ seqD st q
          · go_wp2
            obtain ⟨w7, hw7⟩ : ∃ w7, w7 = w3.alloc (.cells #[] 38) := ⟨_, rfl⟩
            rw [← hw7]
            have hal : Below w3.heap.size w3 w7 := by rw [hw7]; exact Below.alloc (Below.refl _ _) (Nat.le_refl _) _
            have hs7 : w7.heap.size = w3.heap.size + 1 := by rw [hw7]; simp
            have HNR : Hid (w7.heap[w3.heap.size]? = some (.cells #[] 38)) := Lib.hid (by rw [hw7]; exact World.heap_new _ _ _ rfl)
            have HB7 := Lib.hid (HB3.out.trans (hal.mono HB3.out.size))
            have HI7 := Lib.hid (Sl.below (R := EN true) EN.framed HI3.out hal)
            have k0 := (hal.cell (p := ⟨nb, 0, none⟩) (by simp only; omega)).trans n0'
            have k1 := (hal.cell (p := ⟨nb, 1, none⟩) (by simp only; omega)).trans n1'
            have k2 := (hal.frozen (p := ⟨nb, 0, none⟩) (by simp only; omega)).trans n2'
            have k3 := (hal.frozen (p := ⟨nb, 1, none⟩) (by simp only; omega)).trans n3'
            replace r0 := (hal.cell (p := ⟨w.heap.size + 1, 0, none⟩) (by simp only; omega)).trans r0
            replace r1 := (hal.cell (p := ⟨w.heap.size + 1, 1, none⟩) (by simp only; omega)).trans r1
            replace z0 := (hal.frozen (p := ⟨w.heap.size + 1, 0, none⟩) (by simp only; omega)).trans z0
            replace z1 := (hal.frozen (p := ⟨w.heap.size + 1, 1, none⟩) (by simp only; omega)).trans z1
            clear hal hw7 n0' n1' n2' n3' HB3 HI3
            refine wp_region_G [5, 6, 7, 8] (S := (fun w' => w'.cell? ⟨nb, 0, none⟩ = some (.int .i64 st) ∧ w'.cell? ⟨nb, 1, none⟩ = some (.slice A xs.length c))) (by kernel_rfl) ?_ (fun hHeld => ?_)
            · first | exact ⟨k0, k1⟩ | (simp [go_sem, *]; done)
            refine wpAnyG_takeW [3, 4, 5, 6, 7, 8] (i := 0) (d := some 41) (v := ?_) (by simp only [List.getElem?_toArray, List.getElem?_cons_succ, List.getElem?_cons_zero]; rfl) (by rfl) (by kernel_rfl) (by kernel_rfl) (by kernel_rfl) (by kernel_rfl) (by kernel_rfl) (by intro _ _ _ h; exact h) (by rfl) ?_ (by assumption) ?_
            rotate_left 1
            · (intro w hSw; (try dsimp only at hSw); go_simp; try (with_reducible rfl))
            (try simp only [Act.put, List.setIfInBounds_toArray, List.set_cons_zero, List.set_cons_succ])
            refine wpAnyG_takeW [2, 3, 4, 5, 6, 7, 8] (i := 1) (d := some 42) (v := ?_) (by simp only [List.getElem?_toArray, List.getElem?_cons_succ, List.getElem?_cons_zero]; rfl) (by rfl) (by kernel_rfl) (by kernel_rfl) (by kernel_rfl) (by kernel_rfl) (by kernel_rfl) (by intro _ _ _ h; exact h) (by rfl) ?_ (by assumption) ?_
            rotate_left 1
            · (intro w hSw; (try dsimp only at hSw); go_simp; try (with_reducible rfl))
            (try simp only [Act.put, List.setIfInBounds_toArray, List.set_cons_zero, List.set_cons_succ])
            refine wpAnyG_ready (rs := [2]) (by kernel_rfl) (by simp) ?_
            refine (AllReadyG.cons (i := 2) (by simp only [List.getElem?_toArray, List.getElem?_cons_succ, List.getElem?_cons_zero]; rfl) (fun K hK => ?_) AllReadyG.nil)
            go_simp
            refine (implAdd_any q (-15) hq4 (by omega) _).mono ?_
            rintro e w' ⟨rfl, rfl⟩
            go_wp2_with fail
            refine hK.out _ _ (fun _ => ?_) (fun hHeld => ?_)
            · ((try dsimp only); first | exact ⟨k0, k1⟩ | (simp [go_sem, *]; done))
            replace hHeld := hHeld (by rfl)
            clear hK K
            (try simp only [Act.put, List.setIfInBounds_toArray, List.set_cons_zero, List.set_cons_succ])
            refine wpAnyG_ready (rs := [3]) (by kernel_rfl) (by simp) ?_
            refine (AllReadyG.cons (i := 3) (by simp only [List.getElem?_toArray, List.getElem?_cons_succ, List.getElem?_cons_zero]; rfl) (fun K hK => ?_) AllReadyG.nil)
            go_simp
            refine (implMS_any st A c xs ((q + -15) % 4096) _ (SlN.read (Sl.below (R := EN true) EN.framed HI7.out (Below.drew (Below.refl _ _)))) hm9 HLX.out).mono ?_
            rintro e w8m ⟨A', c', gb, cb8, T1, T2, rfl, hb8, hcap8, hd1, hd2, hs8, ho8, hT2⟩
            replace hb8 : Below w7.heap.size w7 w8m := Below.trans (Below.drew (Below.refl _ _)) hb8
            have hd1' : ∀ b, T1 b → w7.heap.size ≤ b ∧ b < w8m.heap.size ∧ ¬ T2 b := hd1
            have hd2' : ∀ b, T2 b → w7.heap.size ≤ b ∧ b < w8m.heap.size := hd2
            have hgb8 := hd2' gb hT2
            have hs8m := hb8.size
            obtain ⟨m, hmr⟩ : ∃ m, m = moveR st ((q + -15) % 4096) xs := ⟨_, rfl⟩
            rw [← hmr] at hs8 ho8 hcap8 ⊢
            have HMR := Lib.hid hmr
            have HS8m := Lib.hid hs8
            have HO8m := Lib.hid (OwS.lower (base' := w.heap.size + 2) ho8 (by show w.heap.size + 2 ≤ w7.heap.size; omega))
            have HD1m := Lib.hid hd1'
            have HD2m := Lib.hid hd2'
            have HT2g := Lib.hid hT2
            have HB8m := Lib.hid (HB7.out.trans (hb8.mono HB7.out.size))
            have HC8 := Lib.hid hcap8
            replace k0 := (hb8.cell (p := ⟨nb, 0, none⟩) (by simp only; omega)).trans k0
            replace k1 := (hb8.cell (p := ⟨nb, 1, none⟩) (by simp only; omega)).trans k1
            replace k2 := (hb8.frozen (p := ⟨nb, 0, none⟩) (by simp only; omega)).trans k2
            replace k3 := (hb8.frozen (p := ⟨nb, 1, none⟩) (by simp only; omega)).trans k3
            replace r0 := (hb8.cell (p := ⟨w.heap.size + 1, 0, none⟩) (by simp only; omega)).trans r0
            replace r1 := (hb8.cell (p := ⟨w.heap.size + 1, 1, none⟩) (by simp only; omega)).trans r1
            replace z0 := (hb8.frozen (p := ⟨w.heap.size + 1, 0, none⟩) (by simp only; omega)).trans z0
            replace z1 := (hb8.frozen (p := ⟨w.heap.size + 1, 1, none⟩) (by simp only; omega)).trans z1
            clear hb8 hcap8 hd1 hd2 hd1' hd2' hs8 ho8 hT2 hmr HI7 HNR
            go_wp2_with fail
            refine hK.out _ _ (fun _ => ?_) (fun hHeld => ?_)
            · ((try dsimp only); first | exact ⟨k0, k1⟩ | (simp [go_sem, *]; done))
            replace hHeld := hHeld (by rfl)
            clear hK K
            (try simp only [Act.put, List.setIfInBounds_toArray, List.set_cons_zero, List.set_cons_succ])
            refine wpAnyG_takeW [5, 6, 7, 8] (i := 4) (d := some 40) (v := ?_) (by simp only [List.getElem?_toArray, List.getElem?_cons_succ, List.getElem?_cons_zero]; rfl) (by rfl) (by kernel_rfl) (by kernel_rfl) (by kernel_rfl) (by kernel_rfl) (by kernel_rfl) (by intro _ _ _ h; exact h) (by rfl) ?_ (by assumption) ?_
            rotate_left 1
            · (intro w hSw; (try dsimp only at hSw); go_simp; try (with_reducible rfl))
            (try simp only [Act.put, List.setIfInBounds_toArray, List.set_cons_zero, List.set_cons_succ])
            refine wpAnyG_takeP (i := 5) (d := some 45) (v := ?_) (by simp only [List.getElem?_toArray, List.getElem?_cons_succ, List.getElem?_cons_zero]; rfl) (by rfl) (by kernel_rfl) (by kernel_rfl) (by kernel_rfl) (by kernel_rfl) (by intro _ _ _ h; exact h) (by rfl) ?_ ?_
            rotate_left 1
            · (intro w hSw; (try dsimp only at hSw); go_simp; try (with_reducible rfl))
            (try simp only [Act.put, List.setIfInBounds_toArray, List.set_cons_zero, List.set_cons_succ])
            refine wpAnyG_takeP (i := 6) (d := some 46) (v := ?_) (by simp only [List.getElem?_toArray, List.getElem?_cons_succ, List.getElem?_cons_zero]; rfl) (by rfl) (by kernel_rfl) (by kernel_rfl) (by kernel_rfl) (by kernel_rfl) (by intro _ _ _ h; exact h) (by rfl) ?_ ?_
            rotate_left 1
            · (intro w hSw; (try dsimp only at hSw); go_simp; try (with_reducible rfl))
            (try simp only [Act.put, List.setIfInBounds_toArray, List.set_cons_zero, List.set_cons_succ])
            refine wpAnyG_ready (rs := [7]) (by kernel_rfl) (by simp) ?_
            refine (AllReadyG.cons (i := 7) (by simp only [List.getElem?_toArray, List.getElem?_cons_succ, List.getElem?_cons_zero]; rfl) (fun K hK => ?_) AllReadyG.nil)
            go_simp
            go_wp2_with fail
            refine hK.out _ _ (fun h => by cases h) (fun _ => ?_)
            clear hK K
            (try simp only [Act.put, List.setIfInBounds_toArray, List.set_cons_zero, List.set_cons_succ])
            refine wpAnyG_takeP (i := 8) (d := some 10) (v := ?_) (by simp only [List.getElem?_toArray, List.getElem?_cons_succ, List.getElem?_cons_zero]; rfl) (by rfl) (by kernel_rfl) (by kernel_rfl) (by kernel_rfl) (by kernel_rfl) (by intro _ _ _ h; exact h) (by rfl) ?_ ?_
            rotate_left 1
            · (intro w hSw; (try dsimp only at hSw); go_simp; try (with_reducible rfl))
            (try simp only [Act.put, List.setIfInBounds_toArray, List.set_cons_zero, List.set_cons_succ])
            refine wpAnyG_done (by kernel_rfl) ?_ _
            go_wp2
            obtain ⟨w8, hw8⟩ : ∃ w8, w8 = ((w8m.setCell ⟨nb, 0, none⟩ (.int .i64 m.1)).setCell ⟨nb, 1, none⟩ (.slice A' m.2.1.length c')) := ⟨_, rfl⟩
            rw [← hw8]
            have hst : Chg (fun b => b = nb) w8m w8 := by rw [hw8]; exact Chg.setCell_ (S := fun b => b = nb) (Chg.setCell_ (S := fun b => b = nb) (Chg.refl _ _) (p := ⟨nb, 0, none⟩) rfl _) (p := ⟨nb, 1, none⟩) rfl _
            have hs8 : w8.heap.size = w8m.heap.size := by rw [hw8]; simp [World.setCell]
            replace k0 : w8.cell? ⟨nb, 0, none⟩ = some (.int .i64 m.1) := by rw [hw8, World.cell?_setCell_other _ _ _ _ (fun e => by injection e with _ e2; omega)]; exact World.cell?_setCell_same _ _ _ k0
            replace k1 : w8.cell? ⟨nb, 1, none⟩ = some (.slice A' m.2.1.length c') := by rw [hw8]; exact World.cell?_setCell_same (u := .slice A xs.length c) _ _ _ (by rw [World.cell?_setCell_other _ _ _ _ (fun e => by injection e with _ e2; omega)]; exact k1)
            replace k2 : w8.frozen? ⟨nb, 0, none⟩ = false := by rw [hw8]; exact (World.frozen?_setCell _ _ _ _).trans ((World.frozen?_setCell _ _ _ _).trans k2)
            replace k3 : w8.frozen? ⟨nb, 1, none⟩ = false := by rw [hw8]; exact (World.frozen?_setCell _ _ _ _).trans ((World.frozen?_setCell _ _ _ _).trans k3)
            replace r0 := (hst.cell (p := ⟨w.heap.size + 1, 0, none⟩) (by simp only; omega) (by simp only; omega)).trans r0
            replace r1 := (hst.cell (p := ⟨w.heap.size + 1, 1, none⟩) (by simp only; omega) (by simp only; omega)).trans r1
            replace z0 := (hst.frozen (p := ⟨w.heap.size + 1, 0, none⟩) (by simp only; omega) (by simp only; omega)).trans z0
            replace z1 := (hst.frozen (p := ⟨w.heap.size + 1, 1, none⟩) (by simp only; omega) (by simp only; omega)).trans z1
            have HB8 := Lib.hid (HB8m.out.trans (hst.below (by omega) (fun k hk => by omega)))
            have HS8 := Lib.hid (Sl.frame (R := EN true) EN.framed HS8m.out hst (fun b h1 h2 => by have := HD1m.out b h1; omega))
            have HO8 := Lib.hid (OwS.frame (R := EB true) EB.framed HO8m.out hst (fun b h1 h2 => by have := HD2m.out b h1; omega) (fun a' ha' h2 => by injection ha' with ha'; subst ha'; simp only at h2; omega))
            have HD1 : Hid (∀ b, T1 b → w.heap.size + 2 ≤ b ∧ b < w8.heap.size ∧ b ≠ nb ∧ b ≠ gb ∧ ¬ T2 b) := Lib.hid (fun b h => by
              have h1 := HD1m.out b h
              exact ⟨by omega, by omega, by omega, fun e => h1.2.2 (by rw [e]; exact HT2g.out), h1.2.2⟩)
            have HD2 : Hid (∀ b, T2 b → w.heap.size + 2 ≤ b ∧ b < w8.heap.size ∧ b ≠ nb) := Lib.hid (fun b h => by have h1 := HD2m.out b h; exact ⟨by omega, by omega, by omega⟩)
            have hq15 : (q + -15) % 4096 = (q - 15) % 4096 := by omega
            have HR8 : Hid (rcvI st q body xs = relR m.1 (insI m.1 (q, body) m.2.1) m.2.2) := Lib.hid (by unfold rcvI; rw [if_pos HG.out, if_pos h16, HMR.out, hq15])
            have hml := (moveR_sum st ((q + -15) % 4096) xs).2
            rw [← HMR.out] at hml
            have HL8 : Hid (m.2.1.length ≤ 100000000) := Lib.hid (by omega)
            have HLB : Hid (m.2.2.length ≤ 100000000) := Lib.hid (by omega)
            have hgbn : ¬ gb = nb := by omega
            have hcap8 := HC8.out
            clear hw8 hst HB8m HS8m HO8m HD1m HD2m hml
            refine wp_region_G [6] (S := (fun w' => w'.cell? ⟨nb, 0, none⟩ = some (.int .i64 m.1) ∧ w'.cell? ⟨nb, 1, none⟩ = some (.slice A' m.2.1.length c'))) (by kernel_rfl) ?_ (fun hHeld => ?_)
            · first | exact ⟨k0, k1⟩ | (simp [go_sem, *]; done)
            refine wpAnyG_takeW [5, 6] (i := 0) (d := some 47) (v := ?_) (by simp only [List.getElem?_toArray, List.getElem?_cons_succ, List.getElem?_cons_zero]; rfl) (by rfl) (by kernel_rfl) (by kernel_rfl) (by kernel_rfl) (by kernel_rfl) (by kernel_rfl) (by intro _ _ _ h; exact h) (by rfl) ?_ (by assumption) ?_
            rotate_left 1
            · (intro w hSw; (try dsimp only at hSw); go_simp; try (with_reducible rfl))
            (try simp only [Act.put, List.setIfInBounds_toArray, List.set_cons_zero, List.set_cons_succ])
            refine wpAnyG_takeW [4, 5, 6] (i := 1) (d := some 48) (v := ?_) (by simp only [List.getElem?_toArray, List.getElem?_cons_succ, List.getElem?_cons_zero]; rfl) (by rfl) (by kernel_rfl) (by kernel_rfl) (by kernel_rfl) (by kernel_rfl) (by kernel_rfl) (by intro _ _ _ h; exact h) (by rfl) ?_ (by assumption) ?_
            rotate_left 1
            · (intro w hSw; (try dsimp only at hSw); go_simp; try (with_reducible rfl))
            (try simp only [Act.put, List.setIfInBounds_toArray, List.set_cons_zero, List.set_cons_succ])
            refine wpAnyG_takeW [3, 4, 5, 6] (i := 2) (d := some 49) (v := ?_) (by simp only [List.getElem?_toArray, List.getElem?_cons_succ, List.getElem?_cons_zero]; rfl) (by rfl) (by kernel_rfl) (by kernel_rfl) (by kernel_rfl) (by kernel_rfl) (by kernel_rfl) (by intro _ _ _ h; exact h) (by rfl) ?_ (by assumption) ?_
            rotate_left 1
            · (intro w hSw; (try dsimp only at hSw); go_simp; try (with_reducible rfl))
            (try simp only [Act.put, List.setIfInBounds_toArray, List.set_cons_zero, List.set_cons_succ])
            refine wpAnyG_ready (rs := [3]) (by kernel_rfl) (by simp) ?_
            refine (AllReadyG.cons (i := 3) (by simp only [List.getElem?_toArray, List.getElem?_cons_succ, List.getElem?_cons_zero]; rfl) (fun K hK => ?_) AllReadyG.nil)
            go_simp
            refine (copyBytes_any B cb body _ (HBY.out.below (HB8.out.trans (Below.drew (Below.refl _ _)))) (by omega)).mono ?_
            rintro e w9 hnew
            obtain ⟨gf, cf, rfl, hb9, hof⟩ := hnew.owr
            clear hnew
            replace hb9 : Below w8.heap.size w8 w9 := Below.trans (Below.drew (Below.refl _ _)) hb9
            have hgf : w8.heap.size ≤ gf := hof.ge
            have hgf2 : gf < w9.heap.size := hof.lt
            have hs9 := hb9.size
            have HFR : Hid (Rw true .u8 w9 (fun b => b = gf) (some ⟨gf, 0, none⟩) body) := Lib.hid hof.rwF.rw
            have HB9 := Lib.hid (HB8.out.trans (hb9.mono (by omega)))
            have HS9 := Lib.hid (Sl.below (R := EN true) EN.framed HS8.out hb9)
            have HO9 := Lib.hid (OwS.below (R := EB true) EB.framed HO8.out hb9)
            replace k0 := (hb9.cell (p := ⟨nb, 0, none⟩) (by simp only; omega)).trans k0
            replace k1 := (hb9.cell (p := ⟨nb, 1, none⟩) (by simp only; omega)).trans k1
            replace k2 := (hb9.frozen (p := ⟨nb, 0, none⟩) (by simp only; omega)).trans k2
            replace k3 := (hb9.frozen (p := ⟨nb, 1, none⟩) (by simp only; omega)).trans k3
            replace r0 := (hb9.cell (p := ⟨w.heap.size + 1, 0, none⟩) (by simp only; omega)).trans r0
            replace r1 := (hb9.cell (p := ⟨w.heap.size + 1, 1, none⟩) (by simp only; omega)).trans r1
            replace z0 := (hb9.frozen (p := ⟨w.heap.size + 1, 0, none⟩) (by simp only; omega)).trans z0
            replace z1 := (hb9.frozen (p := ⟨w.heap.size + 1, 1, none⟩) (by simp only; omega)).trans z1
            clear hb9 hof
            go_wp2_with fail
            refine hK.out _ _ (fun _ => ?_) (fun hHeld => ?_)
            · ((try dsimp only); first | exact ⟨k0, k1⟩ | (simp [go_sem, *]; done))
            replace hHeld := hHeld (by rfl)
            clear hK K
            (try simp only [Act.put, List.setIfInBounds_toArray, List.set_cons_zero, List.set_cons_succ])
            refine wpAnyG_takeW [5, 6] (i := 4) (d := some 51) (v := ?_) (by simp only [List.getElem?_toArray, List.getElem?_cons_succ, List.getElem?_cons_zero]; rfl) (by rfl) (by kernel_rfl) (by kernel_rfl) (by kernel_rfl) (by kernel_rfl) (by kernel_rfl) (by intro _ _ _ h; exact h) (by rfl) ?_ (by assumption) ?_
            rotate_left 1
            · (intro w hSw; (try dsimp only at hSw); go_simp; try (with_reducible rfl))
            (try simp only [Act.put, List.setIfInBounds_toArray, List.set_cons_zero, List.set_cons_succ])
            refine wpAnyG_ready (rs := [5]) (by kernel_rfl) (by simp) ?_
            refine (AllReadyG.cons (i := 5) (by simp only [List.getElem?_toArray, List.getElem?_cons_succ, List.getElem?_cons_zero]; rfl) (fun K hK => ?_) AllReadyG.nil)
            go_simp
            refine (implIns_any (T1 := T1) (Tf := fun b => b = gf) m.1 A' c' m.2.1 q (some ⟨gf, 0, none⟩) cf body _ HS9.out HL8.out HFR.out (fun b h => by have := HD1.out b h; omega) (fun b h => by omega) (fun b h h2 => by have := HD1.out b h2; omega)).mono ?_
            rintro e w10 ⟨gi, ci, Ti, rfl, hb10, hTi, hoi⟩
            have hs10 := hb10.size
            have hgi : w9.heap.size + 3 ≤ gi := hoi.ge
            have hgi2 : gi < w10.heap.size := hoi.lt
            have HTi := Lib.hid hTi
            have HOI := Lib.hid hoi
            have HB10 := Lib.hid (HB9.out.trans (hb10.mono (by omega)))
            have HO10 := Lib.hid (OwS.below (R := EB true) EB.framed HO9.out hb10)
            replace k0 := (hb10.cell (p := ⟨nb, 0, none⟩) (by simp only; omega)).trans k0
            replace k1 := (hb10.cell (p := ⟨nb, 1, none⟩) (by simp only; omega)).trans k1
            replace k2 := (hb10.frozen (p := ⟨nb, 0, none⟩) (by simp only; omega)).trans k2
            replace k3 := (hb10.frozen (p := ⟨nb, 1, none⟩) (by simp only; omega)).trans k3
            replace r0 := (hb10.cell (p := ⟨w.heap.size + 1, 0, none⟩) (by simp only; omega)).trans r0
            replace r1 := (hb10.cell (p := ⟨w.heap.size + 1, 1, none⟩) (by simp only; omega)).trans r1
            replace z0 := (hb10.frozen (p := ⟨w.heap.size + 1, 0, none⟩) (by simp only; omega)).trans z0
            replace z1 := (hb10.frozen (p := ⟨w.heap.size + 1, 1, none⟩) (by simp only; omega)).trans z1
            obtain ⟨zs, hzs⟩ : ∃ zs, zs = insI m.1 (q, body) m.2.1 := ⟨_, rfl⟩
            rw [← hzs] at HOI HR8 ⊢
            have HZL : Hid (zs.length = m.2.1.length + 1) := Lib.hid (by rw [hzs, insI_len])
            have HIC := Lib.hid hoi.cap
            rw [← hzs] at HIC
            clear hb10 hTi hoi HS9 HFR hzs
            go_wp2_with fail
            refine hK.out _ _ (fun _ => ?_) (fun hHeld => ?_)
            · ((try dsimp only); first | exact ⟨k0, k1⟩ | (simp [go_sem, *]; done))
            replace hHeld := hHeld (by rfl)
            clear hK K
            (try simp only [Act.put, List.setIfInBounds_toArray, List.set_cons_zero, List.set_cons_succ])
            refine wpAnyG_ready (rs := [6]) (by kernel_rfl) (by simp) ?_
            refine (AllReadyG.cons (i := 6) (by simp only [List.getElem?_toArray, List.getElem?_cons_succ, List.getElem?_cons_zero]; rfl) (fun K hK => ?_) AllReadyG.nil)
            go_simp
            go_wp2_with fail
            refine hK.out _ _ (fun h => by cases h) (fun _ => ?_)
            clear hK K
            (try simp only [Act.put, List.setIfInBounds_toArray, List.set_cons_zero, List.set_cons_succ])
            refine wpAnyG_done (by kernel_rfl) ?_ _
            have hst : Chg (fun b => b = nb) w10 ((w10.setCell ⟨nb, 0, none⟩ (.int .i64 m.1)).setCell ⟨nb, 1, none⟩ (.slice (some ⟨gi, 0, none⟩) zs.length ci)) := Chg.setCell_ (S := fun b => b = nb) (Chg.setCell_ (S := fun b => b = nb) (Chg.refl _ _) (p := ⟨nb, 0, none⟩) rfl _) (p := ⟨nb, 1, none⟩) rfl _
            have hss := hst.size
            have R0 := Lib.hid ((hst.cell (p := ⟨w.heap.size + 1, 0, none⟩) (by simp only; omega) (by simp only; omega)).trans r0)
            have R1 := Lib.hid ((hst.cell (p := ⟨w.heap.size + 1, 1, none⟩) (by simp only; omega) (by simp only; omega)).trans r1)
            have ZZ0 := Lib.hid ((hst.frozen (p := ⟨w.heap.size + 1, 0, none⟩) (by simp only; omega) (by simp only; omega)).trans z0)
            have ZZ1 := Lib.hid ((hst.frozen (p := ⟨w.heap.size + 1, 1, none⟩) (by simp only; omega) (by simp only; omega)).trans z1)
            have HBs := Lib.hid (HB10.out.trans (hst.below (by omega) (fun k hk => by omega)))
            have HOs := Lib.hid (OwS.frame (R := EB true) EB.framed HO10.out hst (fun b h1 h2 => by have := HD2.out b h1; omega) (fun a' ha' h2 => by injection ha' with ha'; subst ha'; simp only at h2; omega))
            have HTI2 : Hid (∀ b, Ti b → w.heap.size + 2 ≤ b ∧ b < w9.heap.size ∧ b ≠ nb ∧ b ≠ gb ∧ ¬ T2 b) := Lib.hid (fun b hb => by
              rcases HTi.out b hb with h | h
              · have := HD1.out b h; exact ⟨by omega, by omega, by omega, by omega, this.2.2.2.2⟩
              · exact ⟨by omega, by omega, by omega, by omega, fun h2 => by have := HD2.out b h2; omega⟩)
            have HIs := Lib.hid (OwS.slT (T := fun b => Ti b ∨ b = gi) (OwS.widerT (OwS.frame (R := EN true) EN.framed HOI.out hst (fun b h1 h2 => by have := HTI2.out b h1; omega) (fun a' ha' h2 => by injection ha' with ha'; subst ha'; simp only at h2; omega)) (fun b h _ => .inl h)) (fun a ha => by injection ha with ha; subst ha; exact .inr rfl))
            obtain ⟨z, hz⟩ : ∃ z, z = relR m.1 zs m.2.2 := ⟨_, rfl⟩
            have HR2 := Lib.hid hz
            have HR : Hid (rcvI st q body xs = z) := Lib.hid (by rw [HR8.out, hz])
            have HSSz := Lib.hid hss
            have hne01 : ¬ nb = w.heap.size + 1 := by omega
            have hne10 : ¬ w.heap.size + 1 = nb := by omega
            clear hst r0 r1 z0 z1 hss hz
            go_wp2_with fail
            have hss := HSSz.out
            refine (implRel_any (T1 := fun b => Ti b ∨ b = gi) (T2 := T2) m.1 (some ⟨gi, 0, none⟩) ci zs gb cb8 m.2.2 (w.heap.size + 2) _ HIs.out HIC.out (by have h1 := HL8.out; have h2 := HLB.out; have h3 := HZL.out; omega) HOs.out (fun b hb => ?a1) (fun b hb => ?a2) (by omega)).mono ?_
            case a1 =>
              rcases hb with hb | hb
              · have h1 := HTI2.out b hb; exact ⟨by omega, h1.2.2.2.2, by omega⟩
              · exact ⟨by omega, fun h => by have := HD2.out b h; omega, by omega⟩
            case a2 => have h1 := HD2.out b hb; omega
            rw [← HR2.out]
            rintro e w12 ⟨A4, c4, gb4, cb4, T14, T24, rfl, hc4, hcap4, hd41, hd42, hs4, ho4, hgb⟩
            have hsz4 := hc4.size
            have r0 := (hc4.cell (p := ⟨w.heap.size + 1, 0, none⟩) (by simp only; omega) (by simp only; omega)).trans R0.out
            have r1 := (hc4.cell (p := ⟨w.heap.size + 1, 1, none⟩) (by simp only; omega) (by simp only; omega)).trans R1.out
            have z0 := (hc4.frozen (p := ⟨w.heap.size + 1, 0, none⟩) (by simp only; omega) (by simp only; omega)).trans ZZ0.out
            have z1 := (hc4.frozen (p := ⟨w.heap.size + 1, 1, none⟩) (by simp only; omega) (by simp only; omega)).trans ZZ1.out
            have HB4 := Lib.hid (HBs.out.trans (hc4.below (by omega) (fun k hk => by omega)))
            have HS4 := Lib.hid hs4
            have HO4 := Lib.hid ho4
            have HD41 := Lib.hid hd41
            have HD42 := Lib.hid hd42
            have hge4 := ho4.ge
            have hlt4 := ho4.lt
            clear hc4 hs4 ho4 hd41 hd42 R0 R1 ZZ0 ZZ1
            have hfin : Chg (fun b => b = w.heap.size + 1) w12 ((w12.setCell ⟨w.heap.size + 1, 0, none⟩ (.int .i64 z.1)).setCell ⟨w.heap.size + 1, 1, none⟩ (.slice A4 z.2.1.length c4)) := Chg.setCell_ (S := fun b => b = w.heap.size + 1) (Chg.setCell_ (S := fun b => b = w.heap.size + 1) (Chg.refl _ _) (p := ⟨w.heap.size + 1, 0, none⟩) rfl _) (p := ⟨w.heap.size + 1, 1, none⟩) rfl _
            have hv0 : ((w12.setCell ⟨w.heap.size + 1, 0, none⟩ (.int .i64 z.1)).setCell ⟨w.heap.size + 1, 1, none⟩ (.slice A4 z.2.1.length c4)).cell? ⟨w.heap.size + 1, 0, none⟩ = some (.int .i64 z.1) := by rw [World.cell?_setCell_other _ _ _ _ (fun e => by injection e with _ e2; omega)]; exact World.cell?_setCell_same _ _ _ r0
            have hv1 : ((w12.setCell ⟨w.heap.size + 1, 0, none⟩ (.int .i64 z.1)).setCell ⟨w.heap.size + 1, 1, none⟩ (.slice A4 z.2.1.length c4)).cell? ⟨w.heap.size + 1, 1, none⟩ = some (.slice A4 z.2.1.length c4) := World.cell?_setCell_same (u := .slice none 0 0) _ _ _ (by rw [World.cell?_setCell_other _ _ _ _ (fun e => by injection e with _ e2; omega)]; exact r1)
            have HF := Lib.hid hfin
            have HV0 := Lib.hid hv0
            have HV1 := Lib.hid hv1
            clear hfin hv0 hv1
            go_wp2
            refine bodyPost_ret (v := .tuple #[.agg #[.int .i64 z.1, .slice A4 z.2.1.length c4], .slice (some ⟨gb4, 0, none⟩) z.2.2.length cb4]) (by simp [results, Try.results24, go_sem, HV0.out, HV1.out]) rfl ?_
            rw [HR.out]
            have h1 := HF.out.size
            have t1 : ∀ b, T14 b → w.heap.size + 2 ≤ b ∧ b < w10.heap.size ∧ b ≠ gb := fun b hb => by
              rcases (HD41.out b hb).1 with h | h
              · have := HTI2.out b h; exact ⟨by omega, by omega, by omega⟩
              · subst h; exact ⟨by omega, by omega, by omega⟩
            have t2 : ∀ b, T24 b → w.heap.size + 2 ≤ b ∧ b < w10.heap.size := fun b hb => by
              rcases HD42.out b hb with h | h | h
              · have := HD2.out b h; omega
              · have := HTI2.out b h; omega
              · subst h; omega
            refine ⟨A4, c4, gb4, cb4, T14, (fun b => T24 b ∨ b = gb4), rfl, HB4.out.trans (HF.out.below (by omega) (fun k hk => by omega)), hcap4, fun b hb => ⟨by have := t1 b hb; omega, by have := t1 b hb; omega, fun h => ?_⟩, fun b hb => ?_, Sl.frame (R := EN true) EN.framed HS4.out HF.out (fun b hb h2 => by have := t1 b hb; omega), ((OwS.frame (R := EB true) EB.framed HO4.out HF.out (fun b hb h2 => by have := t2 b hb; omega) (fun a' ha' h2 => by injection ha' with ha'; subst ha'; simp only at h2; omega)).lower (by omega)).widerT (fun b h1 h2 => .inl h1), .inr rfl⟩
            · rcases h with h | h
              · exact (HD41.out b hb).2 h
              · have := t1 b hb; omega
            · rcases hb with h | h
              · have := t2 b h; omega
              · subst h; omega
          · have HR8 : Hid (rcvI st q body xs = relR st (insI st (q, body) xs) []) := Lib.hid (by unfold rcvI; rw [if_pos HG.out, if_neg h16])
            go_wp2
            obtain ⟨w7, hw7⟩ : ∃ w7, w7 = w3.alloc (.cells #[] 38) := ⟨_, rfl⟩
            rw [← hw7]
            have hal : Below w3.heap.size w3 w7 := by rw [hw7]; exact Below.alloc (Below.refl _ _) (Nat.le_refl _) _
            have hs7 : w7.heap.size = w3.heap.size + 1 := by rw [hw7]; simp
            have HNR : Hid (w7.heap[w3.heap.size]? = some (.cells #[] 38)) := Lib.hid (by rw [hw7]; exact World.heap_new _ _ _ rfl)
            have HB7 := Lib.hid (HB3.out.trans (hal.mono HB3.out.size))
            have HI7 := Lib.hid (Sl.below (R := EN true) EN.framed HI3.out hal)
            have k0 := (hal.cell (p := ⟨nb, 0, none⟩) (by simp only; omega)).trans n0'
            have k1 := (hal.cell (p := ⟨nb, 1, none⟩) (by simp only; omega)).trans n1'
            have k2 := (hal.frozen (p := ⟨nb, 0, none⟩) (by simp only; omega)).trans n2'
            have k3 := (hal.frozen (p := ⟨nb, 1, none⟩) (by simp only; omega)).trans n3'
            replace r0 := (hal.cell (p := ⟨w.heap.size + 1, 0, none⟩) (by simp only; omega)).trans r0
            replace r1 := (hal.cell (p := ⟨w.heap.size + 1, 1, none⟩) (by simp only; omega)).trans r1
            replace z0 := (hal.frozen (p := ⟨w.heap.size + 1, 0, none⟩) (by simp only; omega)).trans z0
            replace z1 := (hal.frozen (p := ⟨w.heap.size + 1, 1, none⟩) (by simp only; omega)).trans z1
            clear hal hw7 n0' n1' n2' n3' HB3 HI3
            have HB8 := HB7
            have HS8 := HI7
            have HO8 : Hid (OwS true 1 (EB true) 38 w7 (fun _ => False) (w.heap.size + 2) (some ⟨w3.heap.size, 0, none⟩) 0 []) := Lib.hid (OwS.new (by omega) HNR.out)
            have HD1 : Hid (∀ b, (fun b => w.heap.size + 2 ≤ b ∧ b < nb) b → w.heap.size + 2 ≤ b ∧ b < w7.heap.size ∧ b ≠ nb ∧ b ≠ w3.heap.size ∧ ¬ (fun _ => False) b) := Lib.hid (fun b h => ⟨h.1, by omega, by omega, by omega, fun h => h⟩)
            have HD2 : Hid (∀ b, (fun _ : Nat => False) b → w.heap.size + 2 ≤ b ∧ b < w7.heap.size ∧ b ≠ nb) := Lib.hid (fun b h => h.elim)
            have HL8 : Hid (xs.length ≤ 100000000) := Lib.hid hm
            have HLB : Hid (([] : List (List Int)).length ≤ 100000000) := Lib.hid (by simp)
            have hgbn : ¬ w3.heap.size = nb := by omega
            clear HB7 HI7 HNR
            refine wp_region_G [6] (S := (fun w' => w'.cell? ⟨nb, 0, none⟩ = some (.int .i64 st) ∧ w'.cell? ⟨nb, 1, none⟩ = some (.slice A xs.length c))) (by kernel_rfl) ?_ (fun hHeld => ?_)
            · first | exact ⟨k0, k1⟩ | (simp [go_sem, *]; done)
            refine wpAnyG_takeW [5, 6] (i := 0) (d := some 47) (v := ?_) (by simp only [List.getElem?_toArray, List.getElem?_cons_succ, List.getElem?_cons_zero]; rfl) (by rfl) (by kernel_rfl) (by kernel_rfl) (by kernel_rfl) (by kernel_rfl) (by kernel_rfl) (by intro _ _ _ h; exact h) (by rfl) ?_ (by assumption) ?_
            rotate_left 1
            · (intro w hSw; (try dsimp only at hSw); go_simp; try (with_reducible rfl))
            (try simp only [Act.put, List.setIfInBounds_toArray, List.set_cons_zero, List.set_cons_succ])
            refine wpAnyG_takeW [4, 5, 6] (i := 1) (d := some 48) (v := ?_) (by simp only [List.getElem?_toArray, List.getElem?_cons_succ, List.getElem?_cons_zero]; rfl) (by rfl) (by kernel_rfl) (by kernel_rfl) (by kernel_rfl) (by kernel_rfl) (by kernel_rfl) (by intro _ _ _ h; exact h) (by rfl) ?_ (by assumption) ?_
            rotate_left 1
            · (intro w hSw; (try dsimp only at hSw); go_simp; try (with_reducible rfl))
            (try simp only [Act.put, List.setIfInBounds_toArray, List.set_cons_zero, List.set_cons_succ])
            refine wpAnyG_takeW [3, 4, 5, 6] (i := 2) (d := some 49) (v := ?_) (by simp only [List.getElem?_toArray, List.getElem?_cons_succ, List.getElem?_cons_zero]; rfl) (by rfl) (by kernel_rfl) (by kernel_rfl) (by kernel_rfl) (by kernel_rfl) (by kernel_rfl) (by intro _ _ _ h; exact h) (by rfl) ?_ (by assumption) ?_
            rotate_left 1
            · (intro w hSw; (try dsimp only at hSw); go_simp; try (with_reducible rfl))
            (try simp only [Act.put, List.setIfInBounds_toArray, List.set_cons_zero, List.set_cons_succ])
            refine wpAnyG_ready (rs := [3]) (by kernel_rfl) (by simp) ?_
            refine (AllReadyG.cons (i := 3) (by simp only [List.getElem?_toArray, List.getElem?_cons_succ, List.getElem?_cons_zero]; rfl) (fun K hK => ?_) AllReadyG.nil)
            go_simp
            refine (copyBytes_any B cb body _ (HBY.out.below (HB8.out.trans (Below.drew (Below.refl _ _)))) (by omega)).mono ?_
            rintro e w9 hnew
            obtain ⟨gf, cf, rfl, hb9, hof⟩ := hnew.owr
            clear hnew
            replace hb9 : Below w7.heap.size w7 w9 := Below.trans (Below.drew (Below.refl _ _)) hb9
            have hgf : w7.heap.size ≤ gf := hof.ge
            have hgf2 : gf < w9.heap.size := hof.lt
            have hs9 := hb9.size
            have HFR : Hid (Rw true .u8 w9 (fun b => b = gf) (some ⟨gf, 0, none⟩) body) := Lib.hid hof.rwF.rw
            have HB9 := Lib.hid (HB8.out.trans (hb9.mono (by omega)))
            have HS9 := Lib.hid (Sl.below (R := EN true) EN.framed HS8.out hb9)
            have HO9 := Lib.hid (OwS.below (R := EB true) EB.framed HO8.out hb9)
            replace k0 := (hb9.cell (p := ⟨nb, 0, none⟩) (by simp only; omega)).trans k0
            replace k1 := (hb9.cell (p := ⟨nb, 1, none⟩) (by simp only; omega)).trans k1
            replace k2 := (hb9.frozen (p := ⟨nb, 0, none⟩) (by simp only; omega)).trans k2
            replace k3 := (hb9.frozen (p := ⟨nb, 1, none⟩) (by simp only; omega)).trans k3
            replace r0 := (hb9.cell (p := ⟨w.heap.size + 1, 0, none⟩) (by simp only; omega)).trans r0
            replace r1 := (hb9.cell (p := ⟨w.heap.size + 1, 1, none⟩) (by simp only; omega)).trans r1
            replace z0 := (hb9.frozen (p := ⟨w.heap.size + 1, 0, none⟩) (by simp only; omega)).trans z0
            replace z1 := (hb9.frozen (p := ⟨w.heap.size + 1, 1, none⟩) (by simp only; omega)).trans z1
            clear hb9 hof
            go_wp2_with fail
            refine hK.out _ _ (fun _ => ?_) (fun hHeld => ?_)
            · ((try dsimp only); first | exact ⟨k0, k1⟩ | (simp [go_sem, *]; done))
            replace hHeld := hHeld (by rfl)
            clear hK K
            (try simp only [Act.put, List.setIfInBounds_toArray, List.set_cons_zero, List.set_cons_succ])
            refine wpAnyG_takeW [5, 6] (i := 4) (d := some 51) (v := ?_) (by simp only [List.getElem?_toArray, List.getElem?_cons_succ, List.getElem?_cons_zero]; rfl) (by rfl) (by kernel_rfl) (by kernel_rfl) (by kernel_rfl) (by kernel_rfl) (by kernel_rfl) (by intro _ _ _ h; exact h) (by rfl) ?_ (by assumption) ?_
            rotate_left 1
            · (intro w hSw; (try dsimp only at hSw); go_simp; try (with_reducible rfl))
            (try simp only [Act.put, List.setIfInBounds_toArray, List.set_cons_zero, List.set_cons_succ])
            refine wpAnyG_ready (rs := [5]) (by kernel_rfl) (by simp) ?_
            refine (AllReadyG.cons (i := 5) (by simp only [List.getElem?_toArray, List.getElem?_cons_succ, List.getElem?_cons_zero]; rfl) (fun K hK => ?_) AllReadyG.nil)
            go_simp
            refine (implIns_any (T1 := (fun b => w.heap.size + 2 ≤ b ∧ b < nb)) (Tf := fun b => b = gf) st A c xs q (some ⟨gf, 0, none⟩) cf body _ HS9.out HL8.out HFR.out (fun b h => by have := HD1.out b h; omega) (fun b h => by omega) (fun b h h2 => by have := HD1.out b h2; omega)).mono ?_
            rintro e w10 ⟨gi, ci, Ti, rfl, hb10, hTi, hoi⟩
            have hs10 := hb10.size
            have hgi : w9.heap.size + 3 ≤ gi := hoi.ge
            have hgi2 : gi < w10.heap.size := hoi.lt
            have HTi := Lib.hid hTi
            have HOI := Lib.hid hoi
            have HB10 := Lib.hid (HB9.out.trans (hb10.mono (by omega)))
            have HO10 := Lib.hid (OwS.below (R := EB true) EB.framed HO9.out hb10)
            replace k0 := (hb10.cell (p := ⟨nb, 0, none⟩) (by simp only; omega)).trans k0
            replace k1 := (hb10.cell (p := ⟨nb, 1, none⟩) (by simp only; omega)).trans k1
            replace k2 := (hb10.frozen (p := ⟨nb, 0, none⟩) (by simp only; omega)).trans k2
            replace k3 := (hb10.frozen (p := ⟨nb, 1, none⟩) (by simp only; omega)).trans k3
            replace r0 := (hb10.cell (p := ⟨w.heap.size + 1, 0, none⟩) (by simp only; omega)).trans r0
            replace r1 := (hb10.cell (p := ⟨w.heap.size + 1, 1, none⟩) (by simp only; omega)).trans r1
            replace z0 := (hb10.frozen (p := ⟨w.heap.size + 1, 0, none⟩) (by simp only; omega)).trans z0
            replace z1 := (hb10.frozen (p := ⟨w.heap.size + 1, 1, none⟩) (by simp only; omega)).trans z1
            obtain ⟨zs, hzs⟩ : ∃ zs, zs = insI st (q, body) xs := ⟨_, rfl⟩
            rw [← hzs] at HOI HR8 ⊢
            have HZL : Hid (zs.length = xs.length + 1) := Lib.hid (by rw [hzs, insI_len])
            have HIC := Lib.hid hoi.cap
            rw [← hzs] at HIC
            clear hb10 hTi hoi HS9 HFR hzs
            go_wp2_with fail
            refine hK.out _ _ (fun _ => ?_) (fun hHeld => ?_)
            · ((try dsimp only); first | exact ⟨k0, k1⟩ | (simp [go_sem, *]; done))
            replace hHeld := hHeld (by rfl)
            clear hK K
            (try simp only [Act.put, List.setIfInBounds_toArray, List.set_cons_zero, List.set_cons_succ])
            refine wpAnyG_ready (rs := [6]) (by kernel_rfl) (by simp) ?_
            refine (AllReadyG.cons (i := 6) (by simp only [List.getElem?_toArray, List.getElem?_cons_succ, List.getElem?_cons_zero]; rfl) (fun K hK => ?_) AllReadyG.nil)
            go_simp
            go_wp2_with fail
            refine hK.out _ _ (fun h => by cases h) (fun _ => ?_)
            clear hK K
            (try simp only [Act.put, List.setIfInBounds_toArray, List.set_cons_zero, List.set_cons_succ])
            refine wpAnyG_done (by kernel_rfl) ?_ _
            have hst : Chg (fun b => b = nb) w10 ((w10.setCell ⟨nb, 0, none⟩ (.int .i64 st)).setCell ⟨nb, 1, none⟩ (.slice (some ⟨gi, 0, none⟩) zs.length ci)) := Chg.setCell_ (S := fun b => b = nb) (Chg.setCell_ (S := fun b => b = nb) (Chg.refl _ _) (p := ⟨nb, 0, none⟩) rfl _) (p := ⟨nb, 1, none⟩) rfl _
            have hss := hst.size
            have R0 := Lib.hid ((hst.cell (p := ⟨w.heap.size + 1, 0, none⟩) (by simp only; omega) (by simp only; omega)).trans r0)
            have R1 := Lib.hid ((hst.cell (p := ⟨w.heap.size + 1, 1, none⟩) (by simp only; omega) (by simp only; omega)).trans r1)
            have ZZ0 := Lib.hid ((hst.frozen (p := ⟨w.heap.size + 1, 0, none⟩) (by simp only; omega) (by simp only; omega)).trans z0)
            have ZZ1 := Lib.hid ((hst.frozen (p := ⟨w.heap.size + 1, 1, none⟩) (by simp only; omega) (by simp only; omega)).trans z1)
            have HBs := Lib.hid (HB10.out.trans (hst.below (by omega) (fun k hk => by omega)))
            have HOs := Lib.hid (OwS.frame (R := EB true) EB.framed HO10.out hst (fun b h1 h2 => by have := HD2.out b h1; omega) (fun a' ha' h2 => by injection ha' with ha'; subst ha'; simp only at h2; omega))
            have HTI2 : Hid (∀ b, Ti b → w.heap.size + 2 ≤ b ∧ b < w9.heap.size ∧ b ≠ nb ∧ b ≠ w3.heap.size ∧ ¬ (fun _ => False) b) := Lib.hid (fun b hb => by
              rcases HTi.out b hb with h | h
              · have := HD1.out b h; exact ⟨by omega, by omega, by omega, by omega, this.2.2.2.2⟩
              · exact ⟨by omega, by omega, by omega, by omega, fun h2 => by have := HD2.out b h2; omega⟩)
            have HIs := Lib.hid (OwS.slT (T := fun b => Ti b ∨ b = gi) (OwS.widerT (OwS.frame (R := EN true) EN.framed HOI.out hst (fun b h1 h2 => by have := HTI2.out b h1; omega) (fun a' ha' h2 => by injection ha' with ha'; subst ha'; simp only at h2; omega)) (fun b h _ => .inl h)) (fun a ha => by injection ha with ha; subst ha; exact .inr rfl))
            obtain ⟨z, hz⟩ : ∃ z, z = relR st zs [] := ⟨_, rfl⟩
            have HR2 := Lib.hid hz
            have HR : Hid (rcvI st q body xs = z) := Lib.hid (by rw [HR8.out, hz])
            have HSSz := Lib.hid hss
            have hne01 : ¬ nb = w.heap.size + 1 := by omega
            have hne10 : ¬ w.heap.size + 1 = nb := by omega
            clear hst r0 r1 z0 z1 hss hz
            go_wp2_with fail
            have hss := HSSz.out
            refine (implRel_any (T1 := fun b => Ti b ∨ b = gi) (T2 := (fun _ => False)) st (some ⟨gi, 0, none⟩) ci zs w3.heap.size 0 [] (w.heap.size + 2) _ HIs.out HIC.out (by have h1 := HL8.out; have h2 := HLB.out; have h3 := HZL.out; omega) HOs.out (fun b hb => ?a1) (fun b hb => ?a2) (by omega)).mono ?_
            case a1 =>
              rcases hb with hb | hb
              · have h1 := HTI2.out b hb; exact ⟨by omega, h1.2.2.2.2, by omega⟩
              · exact ⟨by omega, fun h => by have := HD2.out b h; omega, by omega⟩
            case a2 => have h1 := HD2.out b hb; omega
            rw [← HR2.out]
            rintro e w12 ⟨A4, c4, gb4, cb4, T14, T24, rfl, hc4, hcap4, hd41, hd42, hs4, ho4, hgb⟩
            have hsz4 := hc4.size
            have r0 := (hc4.cell (p := ⟨w.heap.size + 1, 0, none⟩) (by simp only; omega) (by simp only; omega)).trans R0.out
            have r1 := (hc4.cell (p := ⟨w.heap.size + 1, 1, none⟩) (by simp only; omega) (by simp only; omega)).trans R1.out
            have z0 := (hc4.frozen (p := ⟨w.heap.size + 1, 0, none⟩) (by simp only; omega) (by simp only; omega)).trans ZZ0.out
            have z1 := (hc4.frozen (p := ⟨w.heap.size + 1, 1, none⟩) (by simp only; omega) (by simp only; omega)).trans ZZ1.out
            have HB4 := Lib.hid (HBs.out.trans (hc4.below (by omega) (fun k hk => by omega)))
            have HS4 := Lib.hid hs4
            have HO4 := Lib.hid ho4
            have HD41 := Lib.hid hd41
            have HD42 := Lib.hid hd42
            have hge4 := ho4.ge
            have hlt4 := ho4.lt
            clear hc4 hs4 ho4 hd41 hd42 R0 R1 ZZ0 ZZ1
            have hfin : Chg (fun b => b = w.heap.size + 1) w12 ((w12.setCell ⟨w.heap.size + 1, 0, none⟩ (.int .i64 z.1)).setCell ⟨w.heap.size + 1, 1, none⟩ (.slice A4 z.2.1.length c4)) := Chg.setCell_ (S := fun b => b = w.heap.size + 1) (Chg.setCell_ (S := fun b => b = w.heap.size + 1) (Chg.refl _ _) (p := ⟨w.heap.size + 1, 0, none⟩) rfl _) (p := ⟨w.heap.size + 1, 1, none⟩) rfl _
            have hv0 : ((w12.setCell ⟨w.heap.size + 1, 0, none⟩ (.int .i64 z.1)).setCell ⟨w.heap.size + 1, 1, none⟩ (.slice A4 z.2.1.length c4)).cell? ⟨w.heap.size + 1, 0, none⟩ = some (.int .i64 z.1) := by rw [World.cell?_setCell_other _ _ _ _ (fun e => by injection e with _ e2; omega)]; exact World.cell?_setCell_same _ _ _ r0
            have hv1 : ((w12.setCell ⟨w.heap.size + 1, 0, none⟩ (.int .i64 z.1)).setCell ⟨w.heap.size + 1, 1, none⟩ (.slice A4 z.2.1.length c4)).cell? ⟨w.heap.size + 1, 1, none⟩ = some (.slice A4 z.2.1.length c4) := World.cell?_setCell_same (u := .slice none 0 0) _ _ _ (by rw [World.cell?_setCell_other _ _ _ _ (fun e => by injection e with _ e2; omega)]; exact r1)
            have HF := Lib.hid hfin
            have HV0 := Lib.hid hv0
            have HV1 := Lib.hid hv1
            clear hfin hv0 hv1
            go_wp2
            refine bodyPost_ret (v := .tuple #[.agg #[.int .i64 z.1, .slice A4 z.2.1.length c4], .slice (some ⟨gb4, 0, none⟩) z.2.2.length cb4]) (by simp [results, Try.results24, go_sem, HV0.out, HV1.out]) rfl ?_
            rw [HR.out]
            have h1 := HF.out.size
            have t1 : ∀ b, T14 b → w.heap.size + 2 ≤ b ∧ b < w10.heap.size ∧ b ≠ w3.heap.size := fun b hb => by
              rcases (HD41.out b hb).1 with h | h
              · have := HTI2.out b h; exact ⟨by omega, by omega, by omega⟩
              · subst h; exact ⟨by omega, by omega, by omega⟩
            have t2 : ∀ b, T24 b → w.heap.size + 2 ≤ b ∧ b < w10.heap.size := fun b hb => by
              rcases HD42.out b hb with h | h | h
              · have := HD2.out b h; omega
              · have := HTI2.out b h; omega
              · subst h; omega
            refine ⟨A4, c4, gb4, cb4, T14, (fun b => T24 b ∨ b = gb4), rfl, HB4.out.trans (HF.out.below (by omega) (fun k hk => by omega)), hcap4, fun b hb => ⟨by have := t1 b hb; omega, by have := t1 b hb; omega, fun h => ?_⟩, fun b hb => ?_, Sl.frame (R := EN true) EN.framed HS4.out HF.out (fun b hb h2 => by have := t1 b hb; omega), ((OwS.frame (R := EB true) EB.framed HO4.out HF.out (fun b hb h2 => by have := t2 b hb; omega) (fun a' ha' h2 => by injection ha' with ha'; subst ha'; simp only at h2; omega)).lower (by omega)).widerT (fun b h1 h2 => .inl h1), .inr rfl⟩
            · rcases h with h | h
              · exact (HD41.out b hb).2 h
              · have := t1 b hb; omega
            · rcases hb with h | h
              · have := t2 b h; omega
              · subst h; omega
        · have HR : Hid (rcvI st q body xs = (st, xs, [])) := Lib.hid (by unfold rcvI; rw [if_neg (fun h => by rw [← HP.out] at h; simp at h)])
          have hfin : Chg (fun b => b = w.heap.size + 1) w3 ((w3.setCell ⟨w.heap.size + 1, 0, none⟩ (.int .i64 st)).setCell ⟨w.heap.size + 1, 1, none⟩ (.slice A xs.length c)) := Chg.setCell_ (S := fun b => b = w.heap.size + 1) (Chg.setCell_ (S := fun b => b = w.heap.size + 1) (Chg.refl _ _) (p := ⟨w.heap.size + 1, 0, none⟩) rfl _) (p := ⟨w.heap.size + 1, 1, none⟩) rfl _
          have hv0 : ((w3.setCell ⟨w.heap.size + 1, 0, none⟩ (.int .i64 st)).setCell ⟨w.heap.size + 1, 1, none⟩ (.slice A xs.length c)).cell? ⟨w.heap.size + 1, 0, none⟩ = some (.int .i64 st) := by rw [World.cell?_setCell_other _ _ _ _ (fun e => by injection e with _ e2; omega)]; exact World.cell?_setCell_same _ _ _ r0
          have hv1 : ((w3.setCell ⟨w.heap.size + 1, 0, none⟩ (.int .i64 st)).setCell ⟨w.heap.size + 1, 1, none⟩ (.slice A xs.length c)).cell? ⟨w.heap.size + 1, 1, none⟩ = some (.slice A xs.length c) := World.cell?_setCell_same (u := .slice none 0 0) _ _ _ (by rw [World.cell?_setCell_other _ _ _ _ (fun e => by injection e with _ e2; omega)]; exact r1)
          have hal : Below w3.heap.size ((w3.setCell ⟨w.heap.size + 1, 0, none⟩ (.int .i64 st)).setCell ⟨w.heap.size + 1, 1, none⟩ (.slice A xs.length c)) (((w3.setCell ⟨w.heap.size + 1, 0, none⟩ (.int .i64 st)).setCell ⟨w.heap.size + 1, 1, none⟩ (.slice A xs.length c)).alloc (.cells #[] 38)) := Below.alloc (Below.refl _ _) hfin.size _
          have hl2 : w.heap.size + 1 < w3.heap.size := by omega
          have HF := Lib.hid hfin
          have HAL := Lib.hid hal
          have HV0 := Lib.hid ((hal.cell (p := ⟨w.heap.size + 1, 0, none⟩) hl2).trans hv0)
          have HV1 := Lib.hid ((hal.cell (p := ⟨w.heap.size + 1, 1, none⟩) hl2).trans hv1)
          have HBK : Hid ((((w3.setCell ⟨w.heap.size + 1, 0, none⟩ (.int .i64 st)).setCell ⟨w.heap.size + 1, 1, none⟩ (.slice A xs.length c)).alloc (.cells #[] 38)).heap[w3.heap.size]? = some (.cells #[] 38)) := Lib.hid (World.heap_new _ _ _ (by simp [World.setCell]))
          clear hfin hal hv0 hv1
          go_wp2
          refine bodyPost_ret (v := .tuple #[.agg #[.int .i64 st, .slice A xs.length c], .slice (some ⟨w3.heap.size, 0, none⟩) 0 0]) (by simp [results, Try.results24, go_sem, HV0.out, HV1.out]) rfl ?_
          rw [HR.out]
          have h1 := HF.out.size
          have h2 := HAL.out.size
          have hsz : (((w3.setCell ⟨w.heap.size + 1, 0, none⟩ (.int .i64 st)).setCell ⟨w.heap.size + 1, 1, none⟩ (.slice A xs.length c)).alloc (.cells #[] 38)).heap.size = w3.heap.size + 1 := by simp [World.setCell]
          refine ⟨A, c, w3.heap.size, 0, (fun b => w.heap.size + 2 ≤ b ∧ b < nb), (fun b => b = w3.heap.size), rfl, (HB3.out.trans (HF.out.below (by omega) (fun k hk => by omega))).trans (HAL.out.mono (by omega)), hcap, fun b hb => ⟨by omega, by omega, by omega⟩, fun b hb => ⟨by omega, by omega⟩, ?_, OwS.new (by have := HB3.out.size; exact this) HBK.out, rfl⟩
          exact Sl.frame (R := EN true) EN.framed (Sl.frame (R := EN true) EN.framed HI3.out HF.out (fun b hb h2 => by omega)) (chg_above HAL.out HF.out.size) (fun b hb h2 => by omega)
end Go.Proofs.Ytnfgdgmmbddmgaa
