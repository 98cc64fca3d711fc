/- ReceiveNumbered of the reference. -/
import Derived.Test.YtnfgdgmmbddmgaaRrcSa
import Derived.Test.YtnfgdgmmbddmgaaRrcSb
namespace Go.Proofs.Ytnfgdgmmbddmgaa
open Go.RowKit
set_option linter.unusedVariables false
set_option linter.unusedSimpArgs false

set_option maxRecDepth 10000 in
set_option maxHeartbeats 32000000 in
theorem specRN_any {T Tb : Nat → Prop} (st : Int) (A0 : Option Addr) (c0 : Nat) (xs : List NF) (q : Int) (B : Option Addr) (cb : Nat) (body : List Int) (w : World) (hx : Sl false 2 (EN false) w T A0 xs) (hm : xs.length ≤ 100000000) (hlx : ∀ x ∈ xs, x.2.length ≤ 1000000000)
    (hby : Rw false .u8 w Tb B body) (hbb : body.length ≤ 1000000000) :
    Calls Try.prog 22 #[.agg #[.int .i64 st, .slice A0 xs.length c0], .int .i64 q, .slice B body.length cb] w fun e w' => CpM w (rcvS st q body xs) e w' := by
  have HX := Lib.hid hx
  have HLX := Lib.hid hlx
  have HBY := Lib.hid hby
  have hm9 : xs.length ≤ 1000000000 := by omega
  clear hx hlx hby
  by_cases hgo : vROB st xs = true ∧ inR (seqD st q) 0 2047 = true ∧ body.length ≤ 100
  · by_cases h16 : 16 ≤ seqD st q
    · exact specRN_big st A0 c0 xs q B cb body w HX.out hm HLX.out HBY.out hbb hgo h16
    · exact specRN_small st A0 c0 xs q B cb body w HX.out hm HLX.out HBY.out hbb hgo h16
  have HGN := Lib.hid hgo
  clear hgo
  go_enter Try.func22, Try.ntmps22
  go_wp2_with fail
  refine (l22Copy_any st A0 c0 xs _ (Sl.below (R := EN false) EN.framed HX.out (by repeat (first | (with_reducible exact Below.refl _ _) | (with_reducible refine Below.ext ?_ (by go_size) _ _) | (with_reducible refine Below.alloc ?_ (by go_size) _) | (with_reducible refine Below.setCell ?_ (by go_size) _) | (with_reducible refine Below.drew ?_) | (with_reducible refine Below.drewN_ ?_ _)))) hm9 HLX.out).mono ?_
  rintro e w1 ⟨A, c, rfl, hb, hcap, hin⟩
  have hs1 := hb.size
  have x0 := hb.cell (p := ⟨w.heap.size, 0, none⟩) (by simp; try omega)
  have x1 := hb.cell (p := ⟨w.heap.size, 1, none⟩) (by simp; try omega)
  have r0 := hb.cell (p := ⟨w.heap.size + 1, 0, none⟩) (by simp)
  have r1 := hb.cell (p := ⟨w.heap.size + 1, 1, none⟩) (by simp)
  have z0 := hb.frozen (p := ⟨w.heap.size + 1, 0, none⟩) (by simp)
  have z1 := hb.frozen (p := ⟨w.heap.size + 1, 1, none⟩) (by simp)
  simp [go_sem] at x0 x1 r0 r1 z0 z1 hs1
  have hB1 : Below w.heap.size w w1 := Below.trans (by repeat (first | (with_reducible exact Below.refl _ _) | (with_reducible refine Below.ext ?_ (by go_size) _ _) | (with_reducible refine Below.alloc ?_ (by go_size) _) | (with_reducible refine Below.setCell ?_ (by go_size) _) | (with_reducible refine Below.drew ?_) | (with_reducible refine Below.drewN_ ?_ _))) (hb.mono (by simp; try omega))
  have hin1 := hin.wider (T' := fun b => w.heap.size + 2 ≤ b ∧ b < w1.heap.size) (fun b hb => by simp at hb; omega)
  obtain ⟨nb, hnb⟩ : ∃ nb, nb = w1.heap.size := ⟨_, rfl⟩
  have hal : Below w1.heap.size w1 (w1.alloc (.cells #[.int .i64 st, .slice A xs.length c] 28)) := Below.alloc (Below.refl _ _) (Nat.le_refl _) _
  have HBB := Lib.hid (hB1.trans (hal.mono (by omega)))
  have HIB := Lib.hid (Sl.below (R := EN true) EN.framed hin1 hal)
  have hl1 : w1.heap.size < (w1.alloc (.cells #[.int .i64 st, .slice A xs.length c] 28)).heap.size := by simp
  have N0 := Lib.hid (block_cell (World.heap_new w1 (.cells #[.int .i64 st, .slice A xs.length c] 28) _ rfl) 0).1
  have N1 := Lib.hid (block_cell (World.heap_new w1 (.cells #[.int .i64 st, .slice A xs.length c] 28) _ rfl) 1).1
  have N2 := Lib.hid (block_cell (World.heap_new w1 (.cells #[.int .i64 st, .slice A xs.length c] 28) _ rfl) 0).2
  have N3 := Lib.hid (block_cell (World.heap_new w1 (.cells #[.int .i64 st, .slice A xs.length c] 28) _ rfl) 1).2
  have XX0 := Lib.hid ((hal.cell (p := ⟨w.heap.size, 0, none⟩) (by simp only; omega)).trans x0)
  have XX1 := Lib.hid ((hal.cell (p := ⟨w.heap.size, 1, none⟩) (by simp only; omega)).trans x1)
  have RR0 := Lib.hid ((hal.cell (p := ⟨w.heap.size + 1, 0, none⟩) (by simp only; omega)).trans r0)
  have RR1 := Lib.hid ((hal.cell (p := ⟨w.heap.size + 1, 1, none⟩) (by simp only; omega)).trans r1)
  have ZZ0 := Lib.hid ((hal.frozen (p := ⟨w.heap.size + 1, 0, none⟩) (by simp only; omega)).trans z0)
  have ZZ1 := Lib.hid ((hal.frozen (p := ⟨w.heap.size + 1, 1, none⟩) (by simp only; omega)).trans z1)
  have hb2w : w.heap.size < w1.heap.size := by omega
  clear hb hin hin1 hB1 hal r0 r1 z0 z1
  go_wp2_with (go_at_call 51; refine (specDist_any st q _).mono ?_; rintro e w' ⟨rfl, rfl⟩)
  refine (specVR_any st A0 c0 xs _ (Sl.below (R := EN false) EN.framed HX.out HBB.out) hm9 HLX.out).mono ?_
  rintro e w2 ⟨rfl, hb⟩
  have hs2 := hb.size
  simp only [World.size_alloc] at hs2
  have HB2 := Lib.hid (HBB.out.trans (hb.mono (by simp; omega)))
  have HI2 := Lib.hid (Sl.below (R := EN true) EN.framed HIB.out hb)
  have n0 := (hb.cell (p := ⟨w1.heap.size, 0, none⟩) hl1).trans N0.out
  have n1 := (hb.cell (p := ⟨w1.heap.size, 1, none⟩) hl1).trans N1.out
  have n2 := (hb.frozen (p := ⟨w1.heap.size, 0, none⟩) hl1).trans N2.out
  have n3 := (hb.frozen (p := ⟨w1.heap.size, 1, none⟩) hl1).trans N3.out
  have x0 := (hb.cell (p := ⟨w.heap.size, 0, none⟩) (by simp; omega)).trans XX0.out
  have x1 := (hb.cell (p := ⟨w.heap.size, 1, none⟩) (by simp; omega)).trans XX1.out
  have r0 := (hb.cell (p := ⟨w.heap.size + 1, 0, none⟩) (by simp; omega)).trans RR0.out
  have r1 := (hb.cell (p := ⟨w.heap.size + 1, 1, none⟩) (by simp; omega)).trans RR1.out
  have z0 := (hb.frozen (p := ⟨w.heap.size + 1, 0, none⟩) (by simp; omega)).trans ZZ0.out
  have z1 := (hb.frozen (p := ⟨w.heap.size + 1, 1, none⟩) (by simp; omega)).trans ZZ1.out
  clear hb HIB HBB N0 N1 N2 N3 XX0 XX1 RR0 RR1 ZZ0 ZZ1 hl1
  rw [← hnb] at n0 n1 n2 n3 HI2 ⊢
  have n0' : w2.cell? ⟨nb, 0, none⟩ = some (.int .i64 st) := n0
  have n1' : w2.cell? ⟨nb, 1, none⟩ = some (.slice A xs.length c) := n1
  have n2' : w2.frozen? ⟨nb, 0, none⟩ = false := n2
  have n3' : w2.frozen? ⟨nb, 1, none⟩ = false := n3
  clear n0 n1 n2 n3
  have hnw : w.heap.size + 2 ≤ nb := by omega
  have hnw2 : nb < w2.heap.size := by omega
  clear hnb hs1 hs2 hb2w
  obtain ⟨bv, hbv⟩ : ∃ b, b = vROB st xs := ⟨_, rfl⟩
  rw [← hbv]
  have HV := Lib.hid hbv
  clear hbv
  cases bv
  · have HR : Hid (rcvS st q body xs = (st, xs, [])) := Lib.hid (by unfold rcvS; rw [if_neg (fun h => by rw [← HV.out] at h; simp at h)])
    have hfin : Chg (fun b => b = w.heap.size + 1) w2 ((w2.setCell ⟨w.heap.size + 1, 0, none⟩ (.int .i64 st)).setCell ⟨w.heap.size + 1, 1, none⟩ (.slice A xs.length c)) := Chg.setCell_ (S := fun b => b = w.heap.size + 1) (Chg.setCell_ (S := fun b => b = w.heap.size + 1) (Chg.refl _ _) (p := ⟨w.heap.size + 1, 0, none⟩) rfl _) (p := ⟨w.heap.size + 1, 1, none⟩) rfl _
    have hv0 : ((w2.setCell ⟨w.heap.size + 1, 0, none⟩ (.int .i64 st)).setCell ⟨w.heap.size + 1, 1, none⟩ (.slice A xs.length c)).cell? ⟨w.heap.size + 1, 0, none⟩ = some (.int .i64 st) := by rw [World.cell?_setCell_other _ _ _ _ (fun e => by injection e with _ e2; omega)]; exact World.cell?_setCell_same _ _ _ r0
    have hv1 : ((w2.setCell ⟨w.heap.size + 1, 0, none⟩ (.int .i64 st)).setCell ⟨w.heap.size + 1, 1, none⟩ (.slice A xs.length c)).cell? ⟨w.heap.size + 1, 1, none⟩ = some (.slice A xs.length c) := World.cell?_setCell_same (u := .slice none 0 0) _ _ _ (by rw [World.cell?_setCell_other _ _ _ _ (fun e => by injection e with _ e2; omega)]; exact r1)
    have hal : Below w2.heap.size ((w2.setCell ⟨w.heap.size + 1, 0, none⟩ (.int .i64 st)).setCell ⟨w.heap.size + 1, 1, none⟩ (.slice A xs.length c)) (((w2.setCell ⟨w.heap.size + 1, 0, none⟩ (.int .i64 st)).setCell ⟨w.heap.size + 1, 1, none⟩ (.slice A xs.length c)).alloc (.cells #[] 38)) := Below.alloc (Below.refl _ _) hfin.size _
    have hl2 : w.heap.size + 1 < w2.heap.size := by omega
    have HF := Lib.hid hfin
    have HAL := Lib.hid hal
    have HV0 := Lib.hid ((hal.cell (p := ⟨w.heap.size + 1, 0, none⟩) hl2).trans hv0)
    have HV1 := Lib.hid ((hal.cell (p := ⟨w.heap.size + 1, 1, none⟩) hl2).trans hv1)
    have HBK : Hid ((((w2.setCell ⟨w.heap.size + 1, 0, none⟩ (.int .i64 st)).setCell ⟨w.heap.size + 1, 1, none⟩ (.slice A xs.length c)).alloc (.cells #[] 38)).heap[w2.heap.size]? = some (.cells #[] 38)) := Lib.hid (World.heap_new _ _ _ (by simp [World.setCell]))
    clear hfin hal hv0 hv1
    go_wp2
    refine bodyPost_ret (v := .tuple #[.agg #[.int .i64 st, .slice A xs.length c], .slice (some ⟨w2.heap.size, 0, none⟩) 0 0]) (by simp [results, Try.results22, go_sem, HV0.out, HV1.out]) rfl ?_
    rw [HR.out]
    have h1 := HF.out.size
    have h2 := HAL.out.size
    have hsz : (((w2.setCell ⟨w.heap.size + 1, 0, none⟩ (.int .i64 st)).setCell ⟨w.heap.size + 1, 1, none⟩ (.slice A xs.length c)).alloc (.cells #[] 38)).heap.size = w2.heap.size + 1 := by simp [World.setCell]
    refine ⟨A, c, w2.heap.size, 0, (fun b => w.heap.size + 2 ≤ b ∧ b < nb), (fun b => b = w2.heap.size), rfl, (HB2.out.trans (HF.out.below (by omega) (fun k hk => by omega))).trans (HAL.out.mono (by omega)), hcap, fun b hb => ⟨by omega, by omega, by omega⟩, fun b hb => ⟨by omega, by omega⟩, ?_, OwS.new (by have := HB2.out.size; exact this) HBK.out, rfl⟩
    exact Sl.frame (R := EN true) EN.framed (Sl.frame (R := EN true) EN.framed HI2.out HF.out (fun b hb h2 => by omega)) (chg_above HAL.out HF.out.size) (fun b hb h2 => by omega)
  · cases hd : inR (seqD st q) 0 2047
    · have HD := Lib.hid hd
      have HR : Hid (rcvS st q body xs = (st, xs, [])) := Lib.hid (by unfold rcvS; rw [if_neg (fun h => by rw [hd] at h; simp at h)])
      have hfin : Chg (fun b => b = w.heap.size + 1) w2 ((w2.setCell ⟨w.heap.size + 1, 0, none⟩ (.int .i64 st)).setCell ⟨w.heap.size + 1, 1, none⟩ (.slice A xs.length c)) := Chg.setCell_ (S := fun b => b = w.heap.size + 1) (Chg.setCell_ (S := fun b => b = w.heap.size + 1) (Chg.refl _ _) (p := ⟨w.heap.size + 1, 0, none⟩) rfl _) (p := ⟨w.heap.size + 1, 1, none⟩) rfl _
      have hv0 : ((w2.setCell ⟨w.heap.size + 1, 0, none⟩ (.int .i64 st)).setCell ⟨w.heap.size + 1, 1, none⟩ (.slice A xs.length c)).cell? ⟨w.heap.size + 1, 0, none⟩ = some (.int .i64 st) := by rw [World.cell?_setCell_other _ _ _ _ (fun e => by injection e with _ e2; omega)]; exact World.cell?_setCell_same _ _ _ r0
      have hv1 : ((w2.setCell ⟨w.heap.size + 1, 0, none⟩ (.int .i64 st)).setCell ⟨w.heap.size + 1, 1, none⟩ (.slice A xs.length c)).cell? ⟨w.heap.size + 1, 1, none⟩ = some (.slice A xs.length c) := World.cell?_setCell_same (u := .slice none 0 0) _ _ _ (by rw [World.cell?_setCell_other _ _ _ _ (fun e => by injection e with _ e2; omega)]; exact r1)
      have hal : Below w2.heap.size ((w2.setCell ⟨w.heap.size + 1, 0, none⟩ (.int .i64 st)).setCell ⟨w.heap.size + 1, 1, none⟩ (.slice A xs.length c)) (((w2.setCell ⟨w.heap.size + 1, 0, none⟩ (.int .i64 st)).setCell ⟨w.heap.size + 1, 1, none⟩ (.slice A xs.length c)).alloc (.cells #[] 38)) := Below.alloc (Below.refl _ _) hfin.size _
      have hl2 : w.heap.size + 1 < w2.heap.size := by omega
      have HF := Lib.hid hfin
      have HAL := Lib.hid hal
      have HV0 := Lib.hid ((hal.cell (p := ⟨w.heap.size + 1, 0, none⟩) hl2).trans hv0)
      have HV1 := Lib.hid ((hal.cell (p := ⟨w.heap.size + 1, 1, none⟩) hl2).trans hv1)
      have HBK : Hid ((((w2.setCell ⟨w.heap.size + 1, 0, none⟩ (.int .i64 st)).setCell ⟨w.heap.size + 1, 1, none⟩ (.slice A xs.length c)).alloc (.cells #[] 38)).heap[w2.heap.size]? = some (.cells #[] 38)) := Lib.hid (World.heap_new _ _ _ (by simp [World.setCell]))
      clear hfin hal hv0 hv1
      go_wp2_with (go_at_call 54; refine (l1In_any _ _ _ _).mono ?_; rw [HD.out]; rintro e w' ⟨rfl, rfl⟩)
      refine bodyPost_ret (v := .tuple #[.agg #[.int .i64 st, .slice A xs.length c], .slice (some ⟨w2.heap.size, 0, none⟩) 0 0]) (by simp [results, Try.results22, go_sem, HV0.out, HV1.out]) rfl ?_
      rw [HR.out]
      have h1 := HF.out.size
      have h2 := HAL.out.size
      have hsz : (((w2.setCell ⟨w.heap.size + 1, 0, none⟩ (.int .i64 st)).setCell ⟨w.heap.size + 1, 1, none⟩ (.slice A xs.length c)).alloc (.cells #[] 38)).heap.size = w2.heap.size + 1 := by simp [World.setCell]
      refine ⟨A, c, w2.heap.size, 0, (fun b => w.heap.size + 2 ≤ b ∧ b < nb), (fun b => b = w2.heap.size), rfl, (HB2.out.trans (HF.out.below (by omega) (fun k hk => by omega))).trans (HAL.out.mono (by omega)), hcap, fun b hb => ⟨by omega, by omega, by omega⟩, fun b hb => ⟨by omega, by omega⟩, ?_, OwS.new (by have := HB2.out.size; exact this) HBK.out, rfl⟩
      exact Sl.frame (R := EN true) EN.framed (Sl.frame (R := EN true) EN.framed HI2.out HF.out (fun b hb h2 => by omega)) (chg_above HAL.out HF.out.size) (fun b hb h2 => by omega)
    · have HD := Lib.hid hd
      clear hd
      by_cases hbl : 100 < body.length
      · have hbl2 : (100 : Int) < (body.length : Int) := by omega
        have HR : Hid (rcvS st q body xs = (st, xs, [])) := Lib.hid (by unfold rcvS; rw [if_neg (fun h => by have := h.2.2; omega)])
        have hfin : Chg (fun b => b = w.heap.size + 1) w2 ((w2.setCell ⟨w.heap.size + 1, 0, none⟩ (.int .i64 st)).setCell ⟨w.heap.size + 1, 1, none⟩ (.slice A xs.length c)) := Chg.setCell_ (S := fun b => b = w.heap.size + 1) (Chg.setCell_ (S := fun b => b = w.heap.size + 1) (Chg.refl _ _) (p := ⟨w.heap.size + 1, 0, none⟩) rfl _) (p := ⟨w.heap.size + 1, 1, none⟩) rfl _
        have hv0 : ((w2.setCell ⟨w.heap.size + 1, 0, none⟩ (.int .i64 st)).setCell ⟨w.heap.size + 1, 1, none⟩ (.slice A xs.length c)).cell? ⟨w.heap.size + 1, 0, none⟩ = some (.int .i64 st) := by rw [World.cell?_setCell_other _ _ _ _ (fun e => by injection e with _ e2; omega)]; exact World.cell?_setCell_same _ _ _ r0
        have hv1 : ((w2.setCell ⟨w.heap.size + 1, 0, none⟩ (.int .i64 st)).setCell ⟨w.heap.size + 1, 1, none⟩ (.slice A xs.length c)).cell? ⟨w.heap.size + 1, 1, none⟩ = some (.slice A xs.length c) := World.cell?_setCell_same (u := .slice none 0 0) _ _ _ (by rw [World.cell?_setCell_other _ _ _ _ (fun e => by injection e with _ e2; omega)]; exact r1)
        have hal : Below w2.heap.size ((w2.setCell ⟨w.heap.size + 1, 0, none⟩ (.int .i64 st)).setCell ⟨w.heap.size + 1, 1, none⟩ (.slice A xs.length c)) (((w2.setCell ⟨w.heap.size + 1, 0, none⟩ (.int .i64 st)).setCell ⟨w.heap.size + 1, 1, none⟩ (.slice A xs.length c)).alloc (.cells #[] 38)) := Below.alloc (Below.refl _ _) hfin.size _
        have hl2 : w.heap.size + 1 < w2.heap.size := by omega
        have HF := Lib.hid hfin
        have HAL := Lib.hid hal
        have HV0 := Lib.hid ((hal.cell (p := ⟨w.heap.size + 1, 0, none⟩) hl2).trans hv0)
        have HV1 := Lib.hid ((hal.cell (p := ⟨w.heap.size + 1, 1, none⟩) hl2).trans hv1)
        have HBK : Hid ((((w2.setCell ⟨w.heap.size + 1, 0, none⟩ (.int .i64 st)).setCell ⟨w.heap.size + 1, 1, none⟩ (.slice A xs.length c)).alloc (.cells #[] 38)).heap[w2.heap.size]? = some (.cells #[] 38)) := Lib.hid (World.heap_new _ _ _ (by simp [World.setCell]))
        clear hfin hal hv0 hv1
        go_wp2_with (go_at_call 54; refine (l1In_any _ _ _ _).mono ?_; rw [HD.out]; rintro e w' ⟨rfl, rfl⟩)
        refine bodyPost_ret (v := .tuple #[.agg #[.int .i64 st, .slice A xs.length c], .slice (some ⟨w2.heap.size, 0, none⟩) 0 0]) (by simp [results, Try.results22, go_sem, HV0.out, HV1.out]) rfl ?_
        rw [HR.out]
        have h1 := HF.out.size
        have h2 := HAL.out.size
        have hsz : (((w2.setCell ⟨w.heap.size + 1, 0, none⟩ (.int .i64 st)).setCell ⟨w.heap.size + 1, 1, none⟩ (.slice A xs.length c)).alloc (.cells #[] 38)).heap.size = w2.heap.size + 1 := by simp [World.setCell]
        refine ⟨A, c, w2.heap.size, 0, (fun b => w.heap.size + 2 ≤ b ∧ b < nb), (fun b => b = w2.heap.size), rfl, (HB2.out.trans (HF.out.below (by omega) (fun k hk => by omega))).trans (HAL.out.mono (by omega)), hcap, fun b hb => ⟨by omega, by omega, by omega⟩, fun b hb => ⟨by omega, by omega⟩, ?_, OwS.new (by have := HB2.out.size; exact this) HBK.out, rfl⟩
        exact Sl.frame (R := EN true) EN.framed (Sl.frame (R := EN true) EN.framed HI2.out HF.out (fun b hb h2 => by omega)) (chg_above HAL.out HF.out.size) (fun b hb h2 => by omega)
      · exact absurd ⟨HV.out.symm, HD.out, by omega⟩ HGN.out

end Go.Proofs.Ytnfgdgmmbddmgaa
