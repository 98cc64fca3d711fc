/- PollFrame of the reference. -/
import Derived.Test.YtbfbjkcmehalhaaPpb
import Derived.Test.YtbfbjkcmehalhaaHeld
namespace Go.Proofs.Ytbfbjkcmehalhaa
open Go.RowKit
set_option linter.unusedVariables false
set_option linter.unusedSimpArgs false
theorem specsizeSS : ∀ w : World, (Go.sizeOf 38).run Try.prog w = .ok 1 w := fun _ => by kernel_rfl

set_option maxHeartbeats 8000000 in
theorem specPoll_any {T : Nat → Prop} (s : Int) (A0 : Option Addr) (c0 : Nat) (xs : List KT) (w : World) (hx : Sl true 4 (EK true) w T A0 xs) (hm : xs.length ≤ 1000000000) (hlx : ∀ x ∈ xs, x.fr.length ≤ 1000000000 ∧ ∀ f ∈ x.fr, f.length ≤ 1000000000) :
    Calls Try.prog 25 #[.agg #[.slice A0 xs.length c0], .int .i64 s] w fun e w' => CpP w (pollR s xs) e w' := by
  have HXT := Lib.hid hx
  have HX := Lib.hid (SlK.read hx)
  obtain ⟨j0, hj, hy0, hy1, hy2⟩ := info_parts infoU8
  have HLX := Lib.hid hlx
  clear hx hlx
  rcases fV_cases s xs with h | ⟨i, hi, h, _⟩
  · have HE := Lib.hid h
    have HR := Lib.hid (pollR_no h)
    clear h
    go_enter Try.func25, Try.ntmps25
    go_wp2_with fail
    refine (l26Copy_any A0 c0 xs _ (Sl.below (R := EK false) EK.framed HX.out (by repeat (first | (with_reducible exact Below.refl _ _) | (with_reducible refine Below.ext ?_ (by go_size) _ _) | (with_reducible refine Below.alloc ?_ (by go_size) _) | (with_reducible refine Below.setCell ?_ (by go_size) _) | (with_reducible refine Below.drew ?_) | (with_reducible refine Below.drewN_ ?_ _)))) hm HLX.out).mono ?_
    rintro e w1 ⟨A, c, rfl, hb, hin⟩
    have hs1 := hb.size
    have x0 := hb.cell (p := ⟨w.heap.size, 0, none⟩) (by simp; try omega)
    have x1 := hb.cell (p := ⟨w.heap.size + 1, 0, none⟩) (by simp)
    have f1 := hb.frozen (p := ⟨w.heap.size + 1, 0, none⟩) (by simp)
    simp [go_sem] at x0 x1 f1 hs1
    have hB1 : Below w.heap.size w w1 := Below.trans (by repeat (first | (with_reducible exact Below.refl _ _) | (with_reducible refine Below.ext ?_ (by go_size) _ _) | (with_reducible refine Below.alloc ?_ (by go_size) _) | (with_reducible refine Below.setCell ?_ (by go_size) _) | (with_reducible refine Below.drew ?_) | (with_reducible refine Below.drewN_ ?_ _))) (hb.mono (by simp; try omega))
    have hin1 := hin.wider (T' := fun b => w.heap.size + 2 ≤ b ∧ b < w1.heap.size) (fun b hb => by simp at hb; omega)
    obtain ⟨nb, hnb⟩ : ∃ nb, nb = w1.heap.size := ⟨_, rfl⟩
    have hal : Below w1.heap.size w1 (w1.alloc (.cells #[.slice A xs.length c] 29)) := Below.alloc (Below.refl _ _) (Nat.le_refl _) _
    have HBB := Lib.hid (hB1.trans (hal.mono (by omega)))
    have HIB := Lib.hid (Sl.below (R := EKO) EKO.framed hin1 hal)
    have hl1 : w1.heap.size < (w1.alloc (.cells #[.slice A xs.length c] 29)).heap.size := by simp
    have XB := Lib.hid (block_cell (World.heap_new w1 (.cells #[.slice A xs.length c] 29) _ rfl) 0).1
    have XB0 := Lib.hid ((hal.cell (p := ⟨w.heap.size, 0, none⟩) (by simp only; omega)).trans x0)
    have XB1 := Lib.hid ((hal.cell (p := ⟨w.heap.size + 1, 0, none⟩) (by simp only; omega)).trans x1)
    have FB1 := Lib.hid ((hal.frozen (p := ⟨w.heap.size + 1, 0, none⟩) (by simp only; omega)).trans f1)
    have hb2w : w.heap.size < w1.heap.size := by omega
    clear hb hin hin1 hB1 hal x1 f1
    go_wp2_with fail
    refine (specFind_any s A0 c0 xs _ (Sl.below (R := EK false) EK.framed HX.out HBB.out) hm).mono ?_
    rw [HE.out]
    rintro e w2 ⟨rfl, hb⟩
    have hs2 := hb.size
    simp only [World.size_alloc] at hs2
    have HB2 := Lib.hid (HBB.out.trans (hb.mono (by simp; omega)))
    have HI2 := Lib.hid (SlO.ek (Sl.below (R := EKO) EKO.framed HIB.out hb))
    have n0 : w2.cell? ⟨w1.heap.size, 0, none⟩ = some (.slice A xs.length c) := (hb.cell (p := ⟨w1.heap.size, 0, none⟩) hl1).trans XB.out
    have x0 := (hb.cell (p := ⟨w.heap.size, 0, none⟩) (by simp; omega)).trans XB0.out
    have x1 := (hb.cell (p := ⟨w.heap.size + 1, 0, none⟩) (by simp; omega)).trans XB1.out
    have f1 := (hb.frozen (p := ⟨w.heap.size + 1, 0, none⟩) (by simp; omega)).trans FB1.out
    clear hb HIB HBB XB XB0 XB1 FB1 hl1
    rw [← hnb] at n0 ⊢
    have hnw : w.heap.size + 2 ≤ nb := by omega
    have hnw2 : nb < w2.heap.size := by omega
    rw [← hnb] at HI2
    clear hnb hs1 hs2 hb2w
    have hfin : Chg (fun b => b = w.heap.size + 1) w2 (w2.setCell ⟨w.heap.size + 1, 0, none⟩ (.slice A xs.length c)) := Chg.setCell_ (S := fun b => b = w.heap.size + 1) (Chg.refl _ _) (p := ⟨w.heap.size + 1, 0, none⟩) rfl _
    have hal : Below w2.heap.size (w2.setCell ⟨w.heap.size + 1, 0, none⟩ (.slice A xs.length c)) ((w2.setCell ⟨w.heap.size + 1, 0, none⟩ (.slice A xs.length c)).alloc (.cells #[] 5)) := Below.alloc (Below.refl _ _) hfin.size _
    have hl2 : w.heap.size + 1 < w2.heap.size := by omega
    have hcf : ((w2.setCell ⟨w.heap.size + 1, 0, none⟩ (.slice A xs.length c)).alloc (.cells #[] 5)).cell? ⟨w.heap.size + 1, 0, none⟩ = some (.slice A xs.length c) := (hal.cell (p := ⟨w.heap.size + 1, 0, none⟩) hl2).trans (World.cell?_setCell_same _ _ _ x1)
    have HCF := Lib.hid hcf
    have HF := Lib.hid hfin
    have HAL := Lib.hid hal
    clear hfin hal hcf
    go_wp2
    refine bodyPost_ret (v := PollV A c (some ⟨w2.heap.size, 0, none⟩) 0 (xs, [], false, false)) (by simp [PollV, results, Try.results25, go_sem, HCF.out]) rfl ?_
    rw [HR.out]
    refine ⟨A, c, _, 0, fun _ => False, rfl, (HB2.out.trans (HF.out.below (by omega) (fun k hk => by omega))).trans (HAL.out.mono (by omega)), fun b hb => hb.elim, ?_, Rw.nil⟩
    refine (Sl.frame (R := EK true) EK.framed (Sl.frame (R := EK true) EK.framed HI2.out HF.out (fun b hb h2 => by omega)) (chg_above HAL.out HF.out.size) (fun b hb h2 => by omega)).wider (fun b hb => ?_)
    have h1 := HF.out.size
    have h2 := HAL.out.size
    exact ⟨⟨by omega, by omega⟩, fun h => h⟩
  · have HE := Lib.hid h
    cases hfr : xs[i].fr with
    | nil =>
      have HR := Lib.hid (pollR_nil hi h hfr)
      clear h
      go_enter Try.func25, Try.ntmps25
      go_wp2_with fail
      refine (l26Copy_any A0 c0 xs _ (Sl.below (R := EK false) EK.framed HX.out (by repeat (first | (with_reducible exact Below.refl _ _) | (with_reducible refine Below.ext ?_ (by go_size) _ _) | (with_reducible refine Below.alloc ?_ (by go_size) _) | (with_reducible refine Below.setCell ?_ (by go_size) _) | (with_reducible refine Below.drew ?_) | (with_reducible refine Below.drewN_ ?_ _)))) hm HLX.out).mono ?_
      rintro e w1 ⟨A, c, rfl, hb, hin⟩
      have hs1 := hb.size
      have x0 := hb.cell (p := ⟨w.heap.size, 0, none⟩) (by simp; try omega)
      have x1 := hb.cell (p := ⟨w.heap.size + 1, 0, none⟩) (by simp)
      have f1 := hb.frozen (p := ⟨w.heap.size + 1, 0, none⟩) (by simp)
      simp [go_sem] at x0 x1 f1 hs1
      have hB1 : Below w.heap.size w w1 := Below.trans (by repeat (first | (with_reducible exact Below.refl _ _) | (with_reducible refine Below.ext ?_ (by go_size) _ _) | (with_reducible refine Below.alloc ?_ (by go_size) _) | (with_reducible refine Below.setCell ?_ (by go_size) _) | (with_reducible refine Below.drew ?_) | (with_reducible refine Below.drewN_ ?_ _))) (hb.mono (by simp; try omega))
      have hin1 := hin.wider (T' := fun b => w.heap.size + 2 ≤ b ∧ b < w1.heap.size) (fun b hb => by simp at hb; omega)
      obtain ⟨nb, hnb⟩ : ∃ nb, nb = w1.heap.size := ⟨_, rfl⟩
      have hal : Below w1.heap.size w1 (w1.alloc (.cells #[.slice A xs.length c] 29)) := Below.alloc (Below.refl _ _) (Nat.le_refl _) _
      have HBB := Lib.hid (hB1.trans (hal.mono (by omega)))
      have HIB := Lib.hid (Sl.below (R := EKO) EKO.framed hin1 hal)
      have hl1 : w1.heap.size < (w1.alloc (.cells #[.slice A xs.length c] 29)).heap.size := by simp
      have XB := Lib.hid (block_cell (World.heap_new w1 (.cells #[.slice A xs.length c] 29) _ rfl) 0).1
      have XB0 := Lib.hid ((hal.cell (p := ⟨w.heap.size, 0, none⟩) (by simp only; omega)).trans x0)
      have XB1 := Lib.hid ((hal.cell (p := ⟨w.heap.size + 1, 0, none⟩) (by simp only; omega)).trans x1)
      have FB1 := Lib.hid ((hal.frozen (p := ⟨w.heap.size + 1, 0, none⟩) (by simp only; omega)).trans f1)
      have hb2w : w.heap.size < w1.heap.size := by omega
      clear hb hin hin1 hB1 hal x1 f1
      go_wp2_with fail
      refine (specFind_any s A0 c0 xs _ (Sl.below (R := EK false) EK.framed HX.out HBB.out) hm).mono ?_
      rw [HE.out]
      rintro e w2 ⟨rfl, hb⟩
      have hs2 := hb.size
      simp only [World.size_alloc] at hs2
      have HB2 := Lib.hid (HBB.out.trans (hb.mono (by simp; omega)))
      have HI2 := Lib.hid (SlO.ek (Sl.below (R := EKO) EKO.framed HIB.out hb))
      have n0 : w2.cell? ⟨w1.heap.size, 0, none⟩ = some (.slice A xs.length c) := (hb.cell (p := ⟨w1.heap.size, 0, none⟩) hl1).trans XB.out
      have x0 := (hb.cell (p := ⟨w.heap.size, 0, none⟩) (by simp; omega)).trans XB0.out
      have x1 := (hb.cell (p := ⟨w.heap.size + 1, 0, none⟩) (by simp; omega)).trans XB1.out
      have f1 := (hb.frozen (p := ⟨w.heap.size + 1, 0, none⟩) (by simp; omega)).trans FB1.out
      clear hb HIB HBB XB XB0 XB1 FB1 hl1
      rw [← hnb] at n0 ⊢
      have hnw : w.heap.size + 2 ≤ nb := by omega
      have hnw2 : nb < w2.heap.size := by omega
      rw [← hnb] at HI2
      clear hnb hs1 hs2 hb2w
      obtain ⟨g, o, Fk, rfl, hg, ⟨hgT, hgn⟩, hnF, hFT, ⟨hc0, hc1, hc3, hq, ⟨B1, c1, hc2, hq2, hr1⟩⟩, hset⟩ := Sl.open_new (R := EK true) EK.local_ HI2.out i hi
      obtain ⟨q0, q1, q3⟩ := hq rfl
      have q2 := (hq2 rfl).1
      have hcap := (hq2 rfl).2
      obtain ⟨g9, o9, F9, hA9, hg9, ⟨d0, d1, d3, _, ⟨B9, c9, d2, e2, r9⟩⟩, _, _⟩ := HXT.out.at_ i hi
      subst hA9
      have hcap9 := (e2 rfl).2
      replace d0 := (HB2.out.cell (p := ⟨g9, o9 + i * 4, none⟩) hg9).trans d0
      replace d1 := (HB2.out.cell (p := ⟨g9, o9 + i * 4 + 1, none⟩) hg9).trans d1
      replace d2 := (HB2.out.cell (p := ⟨g9, o9 + i * 4 + 2, none⟩) hg9).trans d2
      replace d3 := (HB2.out.cell (p := ⟨g9, o9 + i * 4 + 3, none⟩) hg9).trans d3
      replace r9 := Sl.below (R := EB true) EB.framed r9 HB2.out
      have hg92 : g9 < w2.heap.size := by have := HB2.out.size; omega
      have HSET := Lib.hid hset
      have HFT := Lib.hid hFT
      have hlt2 : (i : Int) < (xs.length : Int) := by omega
      have hii : ¬ (i : Int) < 0 := by omega
      have hiw : IntKind.i64.wrap (i : Int) = (i : Int) := by rw [IntKind.wrap_i64]; omega
      clear hset hFT hq hq2
      have hlx2 := HLX.out _ (List.getElem_mem hi)
      generalize hxe : xs[i] = x at *
      obtain ⟨sx, a, f, l⟩ := x
      simp only at hlx2 hfr hc0 hc1 hc2 hc3 hr1 hcap d0 d1 d2 d3 r9 hcap9

      have hf0 : (f.length : Int) = 0 := by rw [hfr]; rfl
      have hf0n : f.length = 0 := by rw [hfr]; rfl
      clear hfr

      have hfin : Chg (fun b => b = w.heap.size + 1) w2 (w2.setCell ⟨w.heap.size + 1, 0, none⟩ (.slice (some ⟨g, o, none⟩) xs.length c)) := Chg.setCell_ (S := fun b => b = w.heap.size + 1) (Chg.refl _ _) (p := ⟨w.heap.size + 1, 0, none⟩) rfl _
      have hal : Below w2.heap.size (w2.setCell ⟨w.heap.size + 1, 0, none⟩ (.slice (some ⟨g, o, none⟩) xs.length c)) ((w2.setCell ⟨w.heap.size + 1, 0, none⟩ (.slice (some ⟨g, o, none⟩) xs.length c)).alloc (.cells #[] 5)) := Below.alloc (Below.refl _ _) hfin.size _
      have hl2 : w.heap.size + 1 < w2.heap.size := by omega
      have hcf : ((w2.setCell ⟨w.heap.size + 1, 0, none⟩ (.slice (some ⟨g, o, none⟩) xs.length c)).alloc (.cells #[] 5)).cell? ⟨w.heap.size + 1, 0, none⟩ = some (.slice (some ⟨g, o, none⟩) xs.length c) := (hal.cell (p := ⟨w.heap.size + 1, 0, none⟩) hl2).trans (World.cell?_setCell_same _ _ _ x1)
      have HCF := Lib.hid hcf
      have HF := Lib.hid hfin
      have HAL := Lib.hid hal
      clear hfin hal hcf
      go_wp2
      refine bodyPost_ret (v := PollV (some ⟨g, o, none⟩) c (some ⟨w2.heap.size, 0, none⟩) 0 (xs, [], false, false)) (by simp [PollV, results, Try.results25, go_sem, HCF.out]) rfl ?_
      rw [HR.out]
      refine ⟨(some ⟨g, o, none⟩), c, _, 0, fun _ => False, rfl, (HB2.out.trans (HF.out.below (by omega) (fun k hk => by omega))).trans (HAL.out.mono (by omega)), fun b hb => hb.elim, ?_, Rw.nil⟩
      refine (Sl.frame (R := EK true) EK.framed (Sl.frame (R := EK true) EK.framed HI2.out HF.out (fun b hb h2 => by omega)) (chg_above HAL.out HF.out.size) (fun b hb h2 => by omega)).wider (fun b hb => ?_)
      have h1 := HF.out.size
      have h2 := HAL.out.size
      exact ⟨⟨by omega, by omega⟩, fun h => h⟩
    | cons f0 rest =>
      have HR1 := Lib.hid (pollR_yes hi h hfr)
      clear h
      go_enter Try.func25, Try.ntmps25
      go_wp2_with fail
      refine (l26Copy_any A0 c0 xs _ (Sl.below (R := EK false) EK.framed HX.out (by repeat (first | (with_reducible exact Below.refl _ _) | (with_reducible refine Below.ext ?_ (by go_size) _ _) | (with_reducible refine Below.alloc ?_ (by go_size) _) | (with_reducible refine Below.setCell ?_ (by go_size) _) | (with_reducible refine Below.drew ?_) | (with_reducible refine Below.drewN_ ?_ _)))) hm HLX.out).mono ?_
      rintro e w1 ⟨A, c, rfl, hb, hin⟩
      have hs1 := hb.size
      have x0 := hb.cell (p := ⟨w.heap.size, 0, none⟩) (by simp; try omega)
      have x1 := hb.cell (p := ⟨w.heap.size + 1, 0, none⟩) (by simp)
      have f1 := hb.frozen (p := ⟨w.heap.size + 1, 0, none⟩) (by simp)
      simp [go_sem] at x0 x1 f1 hs1
      have hB1 : Below w.heap.size w w1 := Below.trans (by repeat (first | (with_reducible exact Below.refl _ _) | (with_reducible refine Below.ext ?_ (by go_size) _ _) | (with_reducible refine Below.alloc ?_ (by go_size) _) | (with_reducible refine Below.setCell ?_ (by go_size) _) | (with_reducible refine Below.drew ?_) | (with_reducible refine Below.drewN_ ?_ _))) (hb.mono (by simp; try omega))
      have hin1 := hin.wider (T' := fun b => w.heap.size + 2 ≤ b ∧ b < w1.heap.size) (fun b hb => by simp at hb; omega)
      obtain ⟨nb, hnb⟩ : ∃ nb, nb = w1.heap.size := ⟨_, rfl⟩
      have hal : Below w1.heap.size w1 (w1.alloc (.cells #[.slice A xs.length c] 29)) := Below.alloc (Below.refl _ _) (Nat.le_refl _) _
      have HBB := Lib.hid (hB1.trans (hal.mono (by omega)))
      have HIB := Lib.hid (Sl.below (R := EKO) EKO.framed hin1 hal)
      have hl1 : w1.heap.size < (w1.alloc (.cells #[.slice A xs.length c] 29)).heap.size := by simp
      have XB := Lib.hid (block_cell (World.heap_new w1 (.cells #[.slice A xs.length c] 29) _ rfl) 0).1
      have XB0 := Lib.hid ((hal.cell (p := ⟨w.heap.size, 0, none⟩) (by simp only; omega)).trans x0)
      have XB1 := Lib.hid ((hal.cell (p := ⟨w.heap.size + 1, 0, none⟩) (by simp only; omega)).trans x1)
      have FB1 := Lib.hid ((hal.frozen (p := ⟨w.heap.size + 1, 0, none⟩) (by simp only; omega)).trans f1)
      have hb2w : w.heap.size < w1.heap.size := by omega
      clear hb hin hin1 hB1 hal x1 f1
      go_wp2_with fail
      refine (specFind_any s A0 c0 xs _ (Sl.below (R := EK false) EK.framed HX.out HBB.out) hm).mono ?_
      rw [HE.out]
      rintro e w2 ⟨rfl, hb⟩
      have hs2 := hb.size
      simp only [World.size_alloc] at hs2
      have HB2 := Lib.hid (HBB.out.trans (hb.mono (by simp; omega)))
      have HI2 := Lib.hid (SlO.ek (Sl.below (R := EKO) EKO.framed HIB.out hb))
      have n0 : w2.cell? ⟨w1.heap.size, 0, none⟩ = some (.slice A xs.length c) := (hb.cell (p := ⟨w1.heap.size, 0, none⟩) hl1).trans XB.out
      have x0 := (hb.cell (p := ⟨w.heap.size, 0, none⟩) (by simp; omega)).trans XB0.out
      have x1 := (hb.cell (p := ⟨w.heap.size + 1, 0, none⟩) (by simp; omega)).trans XB1.out
      have f1 := (hb.frozen (p := ⟨w.heap.size + 1, 0, none⟩) (by simp; omega)).trans FB1.out
      clear hb HIB HBB XB XB0 XB1 FB1 hl1
      rw [← hnb] at n0 ⊢
      have hnw : w.heap.size + 2 ≤ nb := by omega
      have hnw2 : nb < w2.heap.size := by omega
      rw [← hnb] at HI2
      clear hnb hs1 hs2 hb2w
      obtain ⟨g, o, Fk, rfl, hg, ⟨hgT, hgn⟩, hnF, hFT, ⟨hc0, hc1, hc3, hq, ⟨B1, c1, hc2, hq2, hr1⟩⟩, hset⟩ := Sl.open_new (R := EK true) EK.local_ HI2.out i hi
      obtain ⟨q0, q1, q3⟩ := hq rfl
      have q2 := (hq2 rfl).1
      have hcap := (hq2 rfl).2
      obtain ⟨g9, o9, F9, hA9, hg9, ⟨d0, d1, d3, _, ⟨B9, c9, d2, e2, r9⟩⟩, _, _⟩ := HXT.out.at_ i hi
      subst hA9
      have hcap9 := (e2 rfl).2
      replace d0 := (HB2.out.cell (p := ⟨g9, o9 + i * 4, none⟩) hg9).trans d0
      replace d1 := (HB2.out.cell (p := ⟨g9, o9 + i * 4 + 1, none⟩) hg9).trans d1
      replace d2 := (HB2.out.cell (p := ⟨g9, o9 + i * 4 + 2, none⟩) hg9).trans d2
      replace d3 := (HB2.out.cell (p := ⟨g9, o9 + i * 4 + 3, none⟩) hg9).trans d3
      replace r9 := Sl.below (R := EB true) EB.framed r9 HB2.out
      have hg92 : g9 < w2.heap.size := by have := HB2.out.size; omega
      have HSET := Lib.hid hset
      have HFT := Lib.hid hFT
      have hlt2 : (i : Int) < (xs.length : Int) := by omega
      have hii : ¬ (i : Int) < 0 := by omega
      have hiw : IntKind.i64.wrap (i : Int) = (i : Int) := by rw [IntKind.wrap_i64]; omega
      clear hset hFT hq hq2
      have hlx2 := HLX.out _ (List.getElem_mem hi)
      generalize hxe : xs[i] = x at *
      obtain ⟨sx, a, f, l⟩ := x
      simp only at hlx2 hfr hc0 hc1 hc2 hc3 hr1 hcap HR1 d0 d1 d2 d3 r9 hcap9

      obtain ⟨gr, og, F0, hB1, hgr, hgrF, hnF0, hF0F, ⟨Bf, cb0, hp0, _, hrf⟩, htl⟩ := Sl.uncons (by have := r9; rw [hfr] at this; exact this)
      subst hB1
      have RF := Lib.hid hrf
      have HFL : Hid (f.length = rest.length + 1 ∧ f.length ≤ c9) := Lib.hid ⟨by rw [hfr]; rfl, hcap9⟩
      obtain ⟨Ar, hsl, hAr⟩ := run_tail (P := Try.prog) (t := 49) (e := 38) Try.underlying49 specsizeSS gr og f.length rest.length c9 HFL.out.1 HFL.out.2
      have HSR : Hid (Sl false 1 (EB false) w2 (fun b => F9 b ∧ ¬ F0 b) Ar rest) := Lib.hid (SlB.read (u := true) (fun hne => by rw [hAr (by cases rest with | nil => exact absurd rfl hne | cons _ _ => simp)]; exact htl hne))
      have HRL : Hid (rest.length ≤ 1000000000) := Lib.hid (by have := HFL.out.1; omega)
      have HRX : Hid (∀ x ∈ rest, x.length ≤ 1000000000) := Lib.hid (fun x hx => hlx2.2 x (by rw [hfr]; exact List.mem_cons_of_mem _ hx))
      have hf0l : f0.length ≤ 1000000000 := hlx2.2 f0 (by rw [hfr]; exact List.mem_cons_self)
      have hf0 : ¬ (f.length : Int) = 0 := by have := HFL.out.1; omega
      have hf0n : ¬ f.length = 0 := by have := HFL.out.1; omega
      have hf0q : 0 < f.length := by have := HFL.out.1; omega
      have hf0e : ((f.length : Int) == 0) = false := by simp only [beq_eq_false_iff_ne]; exact hf0
      have hf0p : (0 : Int) < (f.length : Int) := by have := HFL.out.1; omega
      have hne1 : ¬ g = w.heap.size + 1 := by omega
      have hne2 : ¬ w.heap.size + 1 = g := by omega
      have hne3 : ¬ g = nb := by omega
      have hne4 : ¬ nb = g := by omega
      have hne5 : ¬ g9 = g := by omega
      have hw02 : w.heap.size < w2.heap.size := by omega
      have hne6 : ¬ g = g9 := by omega
      clear hr1 hrf htl hAr hfr hcap hcap9 r9 hlx2
      by_cases h1 : 0 < rest.length
      · have h12 : (1 : Int) < (f.length : Int) := by have := HFL.out.1; omega
        have HR : Hid (pollR s xs = (xs.set i ⟨sx, a, rest, l⟩, f0, true, true)) := Lib.hid (by rw [HR1.out, decide_eq_true h1])
        go_wp2_with (at_builtin; refine wpList_appR rfl (.tmp 30) (.tmp 38) 38 rfl 5 j0 (.int .u8 0) 1 Try.underlying38 hj hy0 hy1 hy2 rfl w2.heap.size _ _ _ rfl (OwR.new (f := Value.int .u8) (Nat.le_refl _) (World.heap_new _ _ _ rfl)) _ f0 _ (fun _ _ => rfl) rfl ((RF.out.below ((Below.refl _ _).alloc (Nat.le_refl _) _)).rwF) (by first | omega | (simp; done) | (simp; omega)) (by decide) (by first | omega | (simp; done) | (simp; omega)) ?_)
        intro g5 c5 w3 q5 HQ5 HO5 HG5 HC5
        obtain rfl : f0 = q5 := by simpa using HQ5.out.symm
        have hb3 : Below w2.heap.size w2 w3 := (Below.alloc (Below.refl _ _) (Nat.le_refl _) _).trans (HC5.out.below (by simp) (fun k hk => by subst hk; exact Nat.le_refl _))
        have hs3 := hb3.size
        have hg5l := HO5.out.lt
        have hg5e : w2.heap.size ≤ g5 := HO5.out.ge
        have HB3 := Lib.hid hb3
        have R3 := Lib.hid HO5.out.rwF.rw
        have n3 := (hb3.cell (p := ⟨nb, 0, none⟩) hnw2).trans n0
        have x3 := (hb3.cell (p := ⟨w.heap.size, 0, none⟩) (by simp only; omega)).trans x0
        have d23 := (hb3.cell (p := ⟨g9, o9 + i * 4 + 2, none⟩) hg92).trans d2
        clear HQ5 HO5 HG5 HC5 hb3
        go_wp2
        refine wp_region_held_drew (S := (fun w' => w'.cell? ⟨nb, 0, none⟩ = some (.slice (some ⟨g, o, none⟩) xs.length c) ∧ w'.cell? ⟨w.heap.size, 0, none⟩ = some (.slice (some ⟨g9, o9, none⟩) xs.length c0) ∧ w'.cell? ⟨g9, o9 + i * 4 + 2, none⟩ = some (.slice (some ⟨gr, og, none⟩) f.length c9))) (by kernel_rfl) ?_ (fun hHeld => ?_)
        · first | exact ⟨n3, x3, d23⟩ | exact ⟨n4, x4, d24⟩ | exact ⟨(World.cell?_setCell_far _ _ _ _ (by simp only; omega)).trans n4, (World.cell?_setCell_far _ _ _ _ (by simp only; omega)).trans x4, (World.cell?_setCell_far _ _ _ _ (by simp only; omega)).trans d24⟩ | (simp [go_sem, *]; done)
        refine wpAnyH_takeW (i := 0) (d := some 40) (v := ?_) (by simp only [List.getElem?_toArray, List.getElem?_cons_succ, List.getElem?_cons_zero]; rfl) (by rfl) (by kernel_rfl) (by kernel_rfl) (by kernel_rfl) (by intro _ _ _ h; exact h) (by rfl) ?_ (by assumption) ?_
        rotate_left 1
        · (intro w hSw; (try dsimp only at hSw); go_simp; try (with_reducible rfl))
        (try simp only [Act.put, List.setIfInBounds_toArray, List.set_cons_zero, List.set_cons_succ])
        refine wpAnyH_takeW (i := 1) (d := some 41) (v := ?_) (by simp only [List.getElem?_toArray, List.getElem?_cons_succ, List.getElem?_cons_zero]; rfl) (by rfl) (by kernel_rfl) (by kernel_rfl) (by kernel_rfl) (by intro _ _ _ h; exact h) (by rfl) ?_ (by assumption) ?_
        rotate_left 1
        · (intro w hSw; (try dsimp only at hSw); go_simp; try (with_reducible rfl))
        (try simp only [Act.put, List.setIfInBounds_toArray, List.set_cons_zero, List.set_cons_succ])
        refine wpAnyH_takeW (i := 2) (d := some 42) (v := ?_) (by simp only [List.getElem?_toArray, List.getElem?_cons_succ, List.getElem?_cons_zero]; rfl) (by rfl) (by kernel_rfl) (by kernel_rfl) (by kernel_rfl) (by intro _ _ _ h; exact h) (by rfl) ?_ (by assumption) ?_
        rotate_left 1
        · (intro w hSw; (try dsimp only at hSw); go_simp; try (with_reducible rfl))
        (try simp only [Act.put, List.setIfInBounds_toArray, List.set_cons_zero, List.set_cons_succ])
        refine wpAnyH_takeW (i := 3) (d := some 43) (v := ?_) (by simp only [List.getElem?_toArray, List.getElem?_cons_succ, List.getElem?_cons_zero]; rfl) (by rfl) (by kernel_rfl) (by kernel_rfl) (by kernel_rfl) (by intro _ _ _ h; exact h) (by rfl) ?_ (by assumption) ?_
        rotate_left 1
        · (intro w hSw; (try dsimp only at hSw); go_simp; try (with_reducible rfl))
        (try simp only [Act.put, List.setIfInBounds_toArray, List.set_cons_zero, List.set_cons_succ])
        refine wpAnyH_takeW (i := 4) (d := some 44) (v := ?_) (by simp only [List.getElem?_toArray, List.getElem?_cons_succ, List.getElem?_cons_zero]; rfl) (by rfl) (by kernel_rfl) (by kernel_rfl) (by kernel_rfl) (by intro _ _ _ h; exact h) (by rfl) ?_ (by assumption) ?_
        rotate_left 1
        · (intro w hSw; (try dsimp only at hSw); go_simp; try (with_reducible rfl))
        (try simp only [Act.put, List.setIfInBounds_toArray, List.set_cons_zero, List.set_cons_succ])
        refine wpAnyH_takeW (i := 5) (d := some 45) (v := ?_) (by simp only [List.getElem?_toArray, List.getElem?_cons_succ, List.getElem?_cons_zero]; rfl) (by rfl) (by kernel_rfl) (by kernel_rfl) (by kernel_rfl) (by intro _ _ _ h; exact h) (by rfl) ?_ (by assumption) ?_
        rotate_left 1
        · (intro w hSw; (try dsimp only at hSw); go_simp; try (with_reducible rfl))
        (try simp only [Act.put, List.setIfInBounds_toArray, List.set_cons_zero, List.set_cons_succ])
        refine wpAnyH_takeW (i := 6) (d := some 46) (v := ?_) (by simp only [List.getElem?_toArray, List.getElem?_cons_succ, List.getElem?_cons_zero]; rfl) (by rfl) (by kernel_rfl) (by kernel_rfl) (by kernel_rfl) (by intro _ _ _ h; exact h) (by rfl) ?_ (by assumption) ?_
        rotate_left 1
        · (intro w hSw; (try dsimp only at hSw); go_simp; try (with_reducible rfl))
        (try simp only [Act.put, List.setIfInBounds_toArray, List.set_cons_zero, List.set_cons_succ])
        refine wpAnyH_takeW (i := 7) (d := some 47) (v := ?_) (by simp only [List.getElem?_toArray, List.getElem?_cons_succ, List.getElem?_cons_zero]; rfl) (by rfl) (by kernel_rfl) (by kernel_rfl) (by kernel_rfl) (by intro _ _ _ h; exact h) (by rfl) ?_ (by assumption) ?_
        rotate_left 1
        · (intro w hSw; (try dsimp only at hSw); go_simp; try (with_reducible rfl))
        (try simp only [Act.put, List.setIfInBounds_toArray, List.set_cons_zero, List.set_cons_succ])
        refine wpAnyH_takeW (i := 8) (d := some 48) (v := ?_) (by simp only [List.getElem?_toArray, List.getElem?_cons_succ, List.getElem?_cons_zero]; rfl) (by rfl) (by kernel_rfl) (by kernel_rfl) (by kernel_rfl) (by intro _ _ _ h; exact h) (by rfl) ?_ (by assumption) ?_
        rotate_left 1
        · (intro w hSw; (try dsimp only at hSw); go_simp; try (with_reducible rfl))
        (try simp only [Act.put, List.setIfInBounds_toArray, List.set_cons_zero, List.set_cons_succ])
        refine wpAnyH_takeW (i := 9) (d := some 49) (v := ?_) (by simp only [List.getElem?_toArray, List.getElem?_cons_succ, List.getElem?_cons_zero]; rfl) (by rfl) (by kernel_rfl) (by kernel_rfl) (by kernel_rfl) (by intro _ _ _ h; exact h) (by rfl) ?_ (by assumption) ?_
        rotate_left 1
        · (intro w hSw; (try dsimp only at hSw); go_simp; try (with_reducible rfl))
        (try simp only [Act.put, List.setIfInBounds_toArray, List.set_cons_zero, List.set_cons_succ])
        refine wpAnyH_ready (rs := [10]) (by kernel_rfl) (by simp) ?_
        refine (AllReadyH.cons (i := 10) (by simp only [List.getElem?_toArray, List.getElem?_cons_succ, List.getElem?_cons_zero]; rfl) (fun K hK => ?_) AllReadyH.nil)
        go_simp
        (go_at_call 46; refine (l26Frames_any Ar (c9 - 1) rest _ (Sl.below (R := EB false) EB.framed HSR.out (Below.drew HB3.out)) HRL.out HRX.out).mono ?_)
        rintro e w4 ⟨g6, c6, rfl, hb4_, hcap6, hg6, hg6l, hr6, _⟩
        have hb4 : Below w3.heap.size w3 w4 := Below.trans (Below.drew (Below.refl _ _)) hb4_
        have hs4 := hb4.size
        have HB4 := Lib.hid (HB3.out.trans (hb4.mono hs3))
        have HR6 := Lib.hid hr6
        have hg6' : w3.heap.size ≤ g6 := hg6
        have n4 := (hb4.cell (p := ⟨nb, 0, none⟩) (by simp only; omega)).trans n3
        have x4 := (hb4.cell (p := ⟨w.heap.size, 0, none⟩) (by simp only; omega)).trans x3
        have d24 := (hb4.cell (p := ⟨g9, o9 + i * 4 + 2, none⟩) (by simp only; omega)).trans d23
        have m4 := (HB4.out.cell (p := ⟨w.heap.size + 1, 0, none⟩) (by simp only; omega)).trans x1
        have v4 := (HB4.out.frozen (p := ⟨w.heap.size + 1, 0, none⟩) (by simp only; omega)).trans f1
        have u0 := (HB4.out.cell (p := ⟨g, o + i * 4, none⟩) hg).trans hc0
        have u1 := (HB4.out.cell (p := ⟨g, o + i * 4 + 1, none⟩) hg).trans hc1
        have u2 := (HB4.out.cell (p := ⟨g, o + i * 4 + 2, none⟩) hg).trans hc2
        have u3 := (HB4.out.cell (p := ⟨g, o + i * 4 + 3, none⟩) hg).trans hc3
        have z2 := (HB4.out.frozen (p := ⟨g, o + i * 4 + 2, none⟩) hg).trans q2
        have U0 := Lib.hid u0
        have U1 := Lib.hid u1
        have U3 := Lib.hid u3
        have R4 := Lib.hid (R3.out.below hb4)
        clear hb4_ hb4 hr6 hg6
        go_wp2_with fail
        refine hK.out _ _ ?_ (fun hHeld => ?_)
        · ((try dsimp only); first | exact ⟨n3, x3, d23⟩ | exact ⟨n4, x4, d24⟩ | exact ⟨(World.cell?_setCell_far _ _ _ _ (by simp only; omega)).trans n4, (World.cell?_setCell_far _ _ _ _ (by simp only; omega)).trans x4, (World.cell?_setCell_far _ _ _ _ (by simp only; omega)).trans d24⟩ | (simp [go_sem, *]; done))
        clear hK K
        (try simp only [Act.put, List.setIfInBounds_toArray, List.set_cons_zero, List.set_cons_succ])
        refine wpAnyH_takeW (i := 11) (d := some 51) (v := ?_) (by simp only [List.getElem?_toArray, List.getElem?_cons_succ, List.getElem?_cons_zero]; rfl) (by rfl) (by kernel_rfl) (by kernel_rfl) (by kernel_rfl) (by intro _ _ _ h; exact h) (by rfl) ?_ (by assumption) ?_
        rotate_left 1
        · (intro w hSw; (try dsimp only at hSw); go_simp; try (with_reducible rfl))
        (try simp only [Act.put, List.setIfInBounds_toArray, List.set_cons_zero, List.set_cons_succ])
        refine wpAnyH_takeW (i := 12) (d := some 52) (v := ?_) (by simp only [List.getElem?_toArray, List.getElem?_cons_succ, List.getElem?_cons_zero]; rfl) (by rfl) (by kernel_rfl) (by kernel_rfl) (by kernel_rfl) (by intro _ _ _ h; exact h) (by rfl) ?_ (by assumption) ?_
        rotate_left 1
        · (intro w hSw; (try dsimp only at hSw); go_simp; try (with_reducible rfl))
        (try simp only [Act.put, List.setIfInBounds_toArray, List.set_cons_zero, List.set_cons_succ])
        refine wpAnyH_ready (rs := [13]) (by kernel_rfl) (by simp) ?_
        refine (AllReadyH.cons (i := 13) (by simp only [List.getElem?_toArray, List.getElem?_cons_succ, List.getElem?_cons_zero]; rfl) (fun K hK => ?_) AllReadyH.nil)
        go_simp
        go_wp2_with fail
        refine hK.out _ _ ?_ (fun hHeld => ?_)
        · ((try dsimp only); first | exact ⟨n3, x3, d23⟩ | exact ⟨n4, x4, d24⟩ | exact ⟨(World.cell?_setCell_far _ _ _ _ (by simp only; omega)).trans n4, (World.cell?_setCell_far _ _ _ _ (by simp only; omega)).trans x4, (World.cell?_setCell_far _ _ _ _ (by simp only; omega)).trans d24⟩ | (simp [go_sem, *]; done))
        clear hK K
        (try simp only [Act.put, List.setIfInBounds_toArray, List.set_cons_zero, List.set_cons_succ])
        refine wpAnyH_done (by kernel_rfl) ?_ _
        have n6 : (w4.setCell ⟨g, o + i * 4 + 2, none⟩ (.slice (some ⟨g6, 0, none⟩) rest.length c6)).cell? ⟨nb, 0, none⟩ = some (.slice (some ⟨g, o, none⟩) xs.length c) := (World.cell?_setCell_far _ _ _ _ (by simp only; omega)).trans n4
        have x6 : (w4.setCell ⟨g, o + i * 4 + 2, none⟩ (.slice (some ⟨g6, 0, none⟩) rest.length c6)).cell? ⟨w.heap.size, 0, none⟩ = some (.slice (some ⟨g9, o9, none⟩) xs.length c0) := (World.cell?_setCell_far _ _ _ _ (by simp only; omega)).trans x4
        have d26 : (w4.setCell ⟨g, o + i * 4 + 2, none⟩ (.slice (some ⟨g6, 0, none⟩) rest.length c6)).cell? ⟨g9, o9 + i * 4 + 2, none⟩ = some (.slice (some ⟨gr, og, none⟩) f.length c9) := (World.cell?_setCell_far _ _ _ _ (by simp only; omega)).trans d24
        have m6 : (w4.setCell ⟨g, o + i * 4 + 2, none⟩ (.slice (some ⟨g6, 0, none⟩) rest.length c6)).cell? ⟨w.heap.size + 1, 0, none⟩ = some (.slice none 0 0) := (World.cell?_setCell_far _ _ _ _ (by simp only; omega)).trans m4
        have y6 : (w4.setCell ⟨g, o + i * 4 + 2, none⟩ (.slice (some ⟨g6, 0, none⟩) rest.length c6)).frozen? ⟨w.heap.size + 1, 0, none⟩ = false := (World.frozen?_setCell _ _ _ _).trans v4
        go_wp2
        refine wp_region_held_drew (S := (fun w' => w'.cell? ⟨nb, 0, none⟩ = some (.slice (some ⟨g, o, none⟩) xs.length c) ∧ w'.cell? ⟨w.heap.size, 0, none⟩ = some (.slice (some ⟨g9, o9, none⟩) xs.length c0) ∧ w'.cell? ⟨g9, o9 + i * 4 + 2, none⟩ = some (.slice (some ⟨gr, og, none⟩) f.length c9))) (by kernel_rfl) ?_ (fun hHeld => ?_)
        · first | exact ⟨n6, x6, d26⟩ | exact ⟨(World.cell?_setCell_far _ _ _ _ (by simp only; omega)).trans n6, (World.cell?_setCell_far _ _ _ _ (by simp only; omega)).trans x6, (World.cell?_setCell_far _ _ _ _ (by simp only; omega)).trans d26⟩ | (simp [go_sem, *]; done)
        refine wpAnyH_takeW (i := 0) (d := some 53) (v := ?_) (by simp only [List.getElem?_toArray, List.getElem?_cons_succ, List.getElem?_cons_zero]; rfl) (by rfl) (by kernel_rfl) (by kernel_rfl) (by kernel_rfl) (by intro _ _ _ h; exact h) (by rfl) ?_ (by assumption) ?_
        rotate_left 1
        · (intro w hSw; (try dsimp only at hSw); go_simp; try (with_reducible rfl))
        (try simp only [Act.put, List.setIfInBounds_toArray, List.set_cons_zero, List.set_cons_succ])
        refine wpAnyH_takeW (i := 1) (d := some 54) (v := ?_) (by simp only [List.getElem?_toArray, List.getElem?_cons_succ, List.getElem?_cons_zero]; rfl) (by rfl) (by kernel_rfl) (by kernel_rfl) (by kernel_rfl) (by intro _ _ _ h; exact h) (by rfl) ?_ (by assumption) ?_
        rotate_left 1
        · (intro w hSw; (try dsimp only at hSw); go_simp; try (with_reducible rfl))
        (try simp only [Act.put, List.setIfInBounds_toArray, List.set_cons_zero, List.set_cons_succ])
        refine wpAnyH_takeW (i := 2) (d := some 55) (v := ?_) (by simp only [List.getElem?_toArray, List.getElem?_cons_succ, List.getElem?_cons_zero]; rfl) (by rfl) (by kernel_rfl) (by kernel_rfl) (by kernel_rfl) (by intro _ _ _ h; exact h) (by rfl) ?_ (by assumption) ?_
        rotate_left 1
        · (intro w hSw; (try dsimp only at hSw); go_simp; try (with_reducible rfl))
        (try simp only [Act.put, List.setIfInBounds_toArray, List.set_cons_zero, List.set_cons_succ])
        refine wpAnyH_takeW (i := 3) (d := some 56) (v := ?_) (by simp only [List.getElem?_toArray, List.getElem?_cons_succ, List.getElem?_cons_zero]; rfl) (by rfl) (by kernel_rfl) (by kernel_rfl) (by kernel_rfl) (by intro _ _ _ h; exact h) (by rfl) ?_ (by assumption) ?_
        rotate_left 1
        · (intro w hSw; (try dsimp only at hSw); go_simp; try (with_reducible rfl))
        (try simp only [Act.put, List.setIfInBounds_toArray, List.set_cons_zero, List.set_cons_succ])
        refine wpAnyH_takeW (i := 4) (d := some 57) (v := ?_) (by simp only [List.getElem?_toArray, List.getElem?_cons_succ, List.getElem?_cons_zero]; rfl) (by rfl) (by kernel_rfl) (by kernel_rfl) (by kernel_rfl) (by intro _ _ _ h; exact h) (by rfl) ?_ (by assumption) ?_
        rotate_left 1
        · (intro w hSw; (try dsimp only at hSw); go_simp; try (with_reducible rfl))
        (try simp only [Act.put, List.setIfInBounds_toArray, List.set_cons_zero, List.set_cons_succ])
        refine wpAnyH_takeW (i := 5) (d := some 58) (v := ?_) (by simp only [List.getElem?_toArray, List.getElem?_cons_succ, List.getElem?_cons_zero]; rfl) (by rfl) (by kernel_rfl) (by kernel_rfl) (by kernel_rfl) (by intro _ _ _ h; exact h) (by rfl) ?_ (by assumption) ?_
        rotate_left 1
        · (intro w hSw; (try dsimp only at hSw); go_simp; try (with_reducible rfl))
        (try simp only [Act.put, List.setIfInBounds_toArray, List.set_cons_zero, List.set_cons_succ])
        refine wpAnyH_takeW (i := 6) (d := some 59) (v := ?_) (by simp only [List.getElem?_toArray, List.getElem?_cons_succ, List.getElem?_cons_zero]; rfl) (by rfl) (by kernel_rfl) (by kernel_rfl) (by kernel_rfl) (by intro _ _ _ h; exact h) (by rfl) ?_ (by assumption) ?_
        rotate_left 1
        · (intro w hSw; (try dsimp only at hSw); go_simp; try (with_reducible rfl))
        (try simp only [Act.put, List.setIfInBounds_toArray, List.set_cons_zero, List.set_cons_succ])
        refine wpAnyH_takeW (i := 7) (d := some 60) (v := ?_) (by simp only [List.getElem?_toArray, List.getElem?_cons_succ, List.getElem?_cons_zero]; rfl) (by rfl) (by kernel_rfl) (by kernel_rfl) (by kernel_rfl) (by intro _ _ _ h; exact h) (by rfl) ?_ (by assumption) ?_
        rotate_left 1
        · (intro w hSw; (try dsimp only at hSw); go_simp; try (with_reducible rfl))
        (try simp only [Act.put, List.setIfInBounds_toArray, List.set_cons_zero, List.set_cons_succ])
        refine wpAnyH_takeW (i := 8) (d := some 61) (v := ?_) (by simp only [List.getElem?_toArray, List.getElem?_cons_succ, List.getElem?_cons_zero]; rfl) (by rfl) (by kernel_rfl) (by kernel_rfl) (by kernel_rfl) (by intro _ _ _ h; exact h) (by rfl) ?_ (by assumption) ?_
        rotate_left 1
        · (intro w hSw; (try dsimp only at hSw); go_simp; try (with_reducible rfl))
        (try simp only [Act.put, List.setIfInBounds_toArray, List.set_cons_zero, List.set_cons_succ])
        refine wpAnyH_takeW (i := 9) (d := some 62) (v := ?_) (by simp only [List.getElem?_toArray, List.getElem?_cons_succ, List.getElem?_cons_zero]; rfl) (by rfl) (by kernel_rfl) (by kernel_rfl) (by kernel_rfl) (by intro _ _ _ h; exact h) (by rfl) ?_ (by assumption) ?_
        rotate_left 1
        · (intro w hSw; (try dsimp only at hSw); go_simp; try (with_reducible rfl))
        (try simp only [Act.put, List.setIfInBounds_toArray, List.set_cons_zero, List.set_cons_succ])
        refine wpAnyH_ready (rs := [10]) (by kernel_rfl) (by simp) ?_
        refine (AllReadyH.cons (i := 10) (by simp only [List.getElem?_toArray, List.getElem?_cons_succ, List.getElem?_cons_zero]; rfl) (fun K hK => ?_) AllReadyH.nil)
        go_simp
        go_wp2_with fail
        refine hK.out _ _ ?_ (fun hHeld => ?_)
        · ((try dsimp only); first | exact ⟨n6, x6, d26⟩ | exact ⟨(World.cell?_setCell_far _ _ _ _ (by simp only; omega)).trans n6, (World.cell?_setCell_far _ _ _ _ (by simp only; omega)).trans x6, (World.cell?_setCell_far _ _ _ _ (by simp only; omega)).trans d26⟩ | (simp [go_sem, *]; done))
        clear hK K
        (try simp only [Act.put, List.setIfInBounds_toArray, List.set_cons_zero, List.set_cons_succ])
        refine wpAnyH_takeW (i := 11) (d := some 5) (v := ?_) (by simp only [List.getElem?_toArray, List.getElem?_cons_succ, List.getElem?_cons_zero]; rfl) (by rfl) (by kernel_rfl) (by kernel_rfl) (by kernel_rfl) (by intro _ _ _ h; exact h) (by rfl) ?_ (by assumption) ?_
        rotate_left 1
        · (intro w hSw; (try dsimp only at hSw); go_simp; try (with_reducible rfl))
        (try simp only [Act.put, List.setIfInBounds_toArray, List.set_cons_zero, List.set_cons_succ])
        refine wpAnyH_takeW (i := 12) (d := some 6) (v := ?_) (by simp only [List.getElem?_toArray, List.getElem?_cons_succ, List.getElem?_cons_zero]; rfl) (by rfl) (by kernel_rfl) (by kernel_rfl) (by kernel_rfl) (by intro _ _ _ h; exact h) (by rfl) ?_ (by assumption) ?_
        rotate_left 1
        · (intro w hSw; (try dsimp only at hSw); go_simp; try (with_reducible rfl))
        (try simp only [Act.put, List.setIfInBounds_toArray, List.set_cons_zero, List.set_cons_succ])
        refine wpAnyH_takeW (i := 13) (d := some 7) (v := ?_) (by simp only [List.getElem?_toArray, List.getElem?_cons_succ, List.getElem?_cons_zero]; rfl) (by rfl) (by kernel_rfl) (by kernel_rfl) (by kernel_rfl) (by intro _ _ _ h; exact h) (by rfl) ?_ (by assumption) ?_
        rotate_left 1
        · (intro w hSw; (try dsimp only at hSw); go_simp; try (with_reducible rfl))
        (try simp only [Act.put, List.setIfInBounds_toArray, List.set_cons_zero, List.set_cons_succ])
        refine wpAnyH_done (by kernel_rfl) ?_ _
        have hst : Chg (fun b => b = g) w4 (w4.setCell ⟨g, o + i * 4 + 2, none⟩ (.slice (some ⟨g6, 0, none⟩) rest.length c6)) := Chg.setCell_ (S := fun b => b = g) (Chg.refl _ _) (p := ⟨g, o + i * 4 + 2, none⟩) rfl _
        have oth : ∀ j, j ≠ o + i * 4 + 2 → (w4.setCell ⟨g, o + i * 4 + 2, none⟩ (.slice (some ⟨g6, 0, none⟩) rest.length c6)).cell? ⟨g, j, none⟩ = w4.cell? ⟨g, j, none⟩ := fun j hj => World.cell?_setCell_other _ _ _ _ (fun e => by injection e with _ e2; omega)
        have fz : ∀ j, (w4.setCell ⟨g, o + i * 4 + 2, none⟩ (.slice (some ⟨g6, 0, none⟩) rest.length c6)).frozen? ⟨g, j, none⟩ = w2.frozen? ⟨g, j, none⟩ := fun j => (World.frozen?_setCell _ _ _ _).trans (HB4.out.frozen (p := ⟨g, j, none⟩) hg)
        have hgn6 : g < w3.heap.size := by omega
        have hnew : Sl true 1 (EB true) (w4.setCell ⟨g, o + i * 4 + 2, none⟩ (.slice (some ⟨g6, 0, none⟩) rest.length c6)) (fun b => w3.heap.size ≤ b ∧ b < w4.heap.size) (some ⟨g6, 0, none⟩) rest := Sl.frame (R := EB true) EB.framed (HR6.out.wider (fun b hb => ⟨hb.1, hb.2⟩)) hst (fun b h1 h2 => by omega)
        have HS0 := HSET.out (w4.setCell ⟨g, o + i * 4 + 2, none⟩ (.slice (some ⟨g6, 0, none⟩) rest.length c6)) ⟨sx, a, rest, l⟩ (fun b => w3.heap.size ≤ b ∧ b < w4.heap.size) (fun b hb => .inr (by omega)) ((Chg.of_below HB4.out).trans (hst.mono (fun b _ hb => .inl hb))) (fun j hj => ⟨(oth j (by omega)).trans (HB4.out.cell (p := ⟨g, j, none⟩) hg), fz j⟩)
          ⟨(oth _ (by omega)).trans U0.out, (oth _ (by omega)).trans U1.out, (oth _ (by omega)).trans U3.out, fun _ => ⟨(fz _).trans q0, (fz _).trans q1, (fz _).trans q3⟩, some ⟨g6, 0, none⟩, c6, World.cell?_setCell_same _ _ _ u2, fun _ => ⟨(fz _).trans q2, hcap6⟩, hnew⟩
        have HS1 := Sl.wider (T' := fun b => (w.heap.size + 2 ≤ b ∧ b < w4.heap.size) ∧ ¬ b = g5) HS0 (fun b hb => by
          rcases hb with hb | hb
          · have := hb.1; exact ⟨by omega, by omega⟩
          · exact ⟨by omega, by omega⟩)
        have hfin : Chg (fun b => b = w.heap.size + 1) (w4.setCell ⟨g, o + i * 4 + 2, none⟩ (.slice (some ⟨g6, 0, none⟩) rest.length c6)) ((w4.setCell ⟨g, o + i * 4 + 2, none⟩ (.slice (some ⟨g6, 0, none⟩) rest.length c6)).setCell ⟨w.heap.size + 1, 0, none⟩ (.slice (some ⟨g, o, none⟩) xs.length c)) := Chg.setCell_ (S := fun b => b = w.heap.size + 1) (Chg.refl _ _) (p := ⟨w.heap.size + 1, 0, none⟩) rfl _
        have hs24 := HB4.out.size
        have hs46 := hst.size
        have hB8 : Below w.heap.size w ((w4.setCell ⟨g, o + i * 4 + 2, none⟩ (.slice (some ⟨g6, 0, none⟩) rest.length c6)).setCell ⟨w.heap.size + 1, 0, none⟩ (.slice (some ⟨g, o, none⟩) xs.length c)) := ((HB2.out.trans (HB4.out.mono (by omega))).trans (hst.below (by omega) (fun k hk => by omega))).trans (hfin.below (by omega) (fun k hk => by omega))
        have hs8 : w4.heap.size ≤ ((w4.setCell ⟨g, o + i * 4 + 2, none⟩ (.slice (some ⟨g6, 0, none⟩) rest.length c6)).setCell ⟨w.heap.size + 1, 0, none⟩ (.slice (some ⟨g, o, none⟩) xs.length c)).heap.size := Nat.le_trans hst.size hfin.size
        have HR0 := Lib.hid ((R4.out.frame hst (fun b h1 h2 => by omega)).frame hfin (fun b h1 h2 => by omega))
        have HS2 := Lib.hid (Sl.frame (R := EK true) EK.framed HS1 hfin (fun b h1 h2 => by omega))
        have X1F := Lib.hid m6
        have HB8 := Lib.hid hB8
        clear hst oth fz hnew HS0 HS1 hfin hB8
        go_wp2
        refine bodyPost_ret (v := PollV (some ⟨g, o, none⟩) c (some ⟨g5, 0, none⟩) c5 (xs.set i ⟨sx, a, rest, l⟩, f0, true, true)) (by simp [PollV, results, Try.results25, go_sem, World.cell?_setCell_same _ _ _ X1F.out]; try omega) rfl ?_
        rw [HR.out]
        refine ⟨some ⟨g, o, none⟩, c, _, c5, fun b => b = g5, rfl, Below.drew HB8.out, fun b hb => ?_, ?_, Rw.below HR0.out (Below.drew (Below.refl _ _))⟩
        · refine ⟨by omega, Nat.lt_of_lt_of_le (by omega : b < w4.heap.size) hs8⟩
        · refine (Sl.below (R := EK true) EK.framed HS2.out (Below.drew (Below.refl _ _))).wider (fun b hb => ⟨⟨by omega, Nat.lt_of_lt_of_le (by omega : b < w4.heap.size) hs8⟩, hb.2⟩)
      · have h12 : ¬ (1 : Int) < (f.length : Int) := by have := HFL.out.1; omega
        have HR : Hid (pollR s xs = (xs.set i ⟨sx, a, rest, l⟩, f0, false, true)) := Lib.hid (by rw [HR1.out, decide_eq_false h1])
        go_wp2_with (at_builtin; refine wpList_appR rfl (.tmp 30) (.tmp 38) 38 rfl 5 j0 (.int .u8 0) 1 Try.underlying38 hj hy0 hy1 hy2 rfl w2.heap.size _ _ _ rfl (OwR.new (f := Value.int .u8) (Nat.le_refl _) (World.heap_new _ _ _ rfl)) _ f0 _ (fun _ _ => rfl) rfl ((RF.out.below ((Below.refl _ _).alloc (Nat.le_refl _) _)).rwF) (by first | omega | (simp; done) | (simp; omega)) (by decide) (by first | omega | (simp; done) | (simp; omega)) ?_)
        intro g5 c5 w3 q5 HQ5 HO5 HG5 HC5
        obtain rfl : f0 = q5 := by simpa using HQ5.out.symm
        have hb3 : Below w2.heap.size w2 w3 := (Below.alloc (Below.refl _ _) (Nat.le_refl _) _).trans (HC5.out.below (by simp) (fun k hk => by subst hk; exact Nat.le_refl _))
        have hs3 := hb3.size
        have hg5l := HO5.out.lt
        have hg5e : w2.heap.size ≤ g5 := HO5.out.ge
        have HB3 := Lib.hid hb3
        have R3 := Lib.hid HO5.out.rwF.rw
        have n3 := (hb3.cell (p := ⟨nb, 0, none⟩) hnw2).trans n0
        have x3 := (hb3.cell (p := ⟨w.heap.size, 0, none⟩) (by simp only; omega)).trans x0
        have d23 := (hb3.cell (p := ⟨g9, o9 + i * 4 + 2, none⟩) hg92).trans d2
        clear HQ5 HO5 HG5 HC5 hb3
        go_wp2
        refine wp_region_held_drew (S := (fun w' => w'.cell? ⟨nb, 0, none⟩ = some (.slice (some ⟨g, o, none⟩) xs.length c) ∧ w'.cell? ⟨w.heap.size, 0, none⟩ = some (.slice (some ⟨g9, o9, none⟩) xs.length c0) ∧ w'.cell? ⟨g9, o9 + i * 4 + 2, none⟩ = some (.slice (some ⟨gr, og, none⟩) f.length c9))) (by kernel_rfl) ?_ (fun hHeld => ?_)
        · first | exact ⟨n3, x3, d23⟩ | exact ⟨n4, x4, d24⟩ | exact ⟨(World.cell?_setCell_far _ _ _ _ (by simp only; omega)).trans n4, (World.cell?_setCell_far _ _ _ _ (by simp only; omega)).trans x4, (World.cell?_setCell_far _ _ _ _ (by simp only; omega)).trans d24⟩ | (simp [go_sem, *]; done)
        refine wpAnyH_takeW (i := 0) (d := some 40) (v := ?_) (by simp only [List.getElem?_toArray, List.getElem?_cons_succ, List.getElem?_cons_zero]; rfl) (by rfl) (by kernel_rfl) (by kernel_rfl) (by kernel_rfl) (by intro _ _ _ h; exact h) (by rfl) ?_ (by assumption) ?_
        rotate_left 1
        · (intro w hSw; (try dsimp only at hSw); go_simp; try (with_reducible rfl))
        (try simp only [Act.put, List.setIfInBounds_toArray, List.set_cons_zero, List.set_cons_succ])
        refine wpAnyH_takeW (i := 1) (d := some 41) (v := ?_) (by simp only [List.getElem?_toArray, List.getElem?_cons_succ, List.getElem?_cons_zero]; rfl) (by rfl) (by kernel_rfl) (by kernel_rfl) (by kernel_rfl) (by intro _ _ _ h; exact h) (by rfl) ?_ (by assumption) ?_
        rotate_left 1
        · (intro w hSw; (try dsimp only at hSw); go_simp; try (with_reducible rfl))
        (try simp only [Act.put, List.setIfInBounds_toArray, List.set_cons_zero, List.set_cons_succ])
        refine wpAnyH_takeW (i := 2) (d := some 42) (v := ?_) (by simp only [List.getElem?_toArray, List.getElem?_cons_succ, List.getElem?_cons_zero]; rfl) (by rfl) (by kernel_rfl) (by kernel_rfl) (by kernel_rfl) (by intro _ _ _ h; exact h) (by rfl) ?_ (by assumption) ?_
        rotate_left 1
        · (intro w hSw; (try dsimp only at hSw); go_simp; try (with_reducible rfl))
        (try simp only [Act.put, List.setIfInBounds_toArray, List.set_cons_zero, List.set_cons_succ])
        refine wpAnyH_takeW (i := 3) (d := some 43) (v := ?_) (by simp only [List.getElem?_toArray, List.getElem?_cons_succ, List.getElem?_cons_zero]; rfl) (by rfl) (by kernel_rfl) (by kernel_rfl) (by kernel_rfl) (by intro _ _ _ h; exact h) (by rfl) ?_ (by assumption) ?_
        rotate_left 1
        · (intro w hSw; (try dsimp only at hSw); go_simp; try (with_reducible rfl))
        (try simp only [Act.put, List.setIfInBounds_toArray, List.set_cons_zero, List.set_cons_succ])
        refine wpAnyH_takeW (i := 4) (d := some 44) (v := ?_) (by simp only [List.getElem?_toArray, List.getElem?_cons_succ, List.getElem?_cons_zero]; rfl) (by rfl) (by kernel_rfl) (by kernel_rfl) (by kernel_rfl) (by intro _ _ _ h; exact h) (by rfl) ?_ (by assumption) ?_
        rotate_left 1
        · (intro w hSw; (try dsimp only at hSw); go_simp; try (with_reducible rfl))
        (try simp only [Act.put, List.setIfInBounds_toArray, List.set_cons_zero, List.set_cons_succ])
        refine wpAnyH_takeW (i := 5) (d := some 45) (v := ?_) (by simp only [List.getElem?_toArray, List.getElem?_cons_succ, List.getElem?_cons_zero]; rfl) (by rfl) (by kernel_rfl) (by kernel_rfl) (by kernel_rfl) (by intro _ _ _ h; exact h) (by rfl) ?_ (by assumption) ?_
        rotate_left 1
        · (intro w hSw; (try dsimp only at hSw); go_simp; try (with_reducible rfl))
        (try simp only [Act.put, List.setIfInBounds_toArray, List.set_cons_zero, List.set_cons_succ])
        refine wpAnyH_takeW (i := 6) (d := some 46) (v := ?_) (by simp only [List.getElem?_toArray, List.getElem?_cons_succ, List.getElem?_cons_zero]; rfl) (by rfl) (by kernel_rfl) (by kernel_rfl) (by kernel_rfl) (by intro _ _ _ h; exact h) (by rfl) ?_ (by assumption) ?_
        rotate_left 1
        · (intro w hSw; (try dsimp only at hSw); go_simp; try (with_reducible rfl))
        (try simp only [Act.put, List.setIfInBounds_toArray, List.set_cons_zero, List.set_cons_succ])
        refine wpAnyH_takeW (i := 7) (d := some 47) (v := ?_) (by simp only [List.getElem?_toArray, List.getElem?_cons_succ, List.getElem?_cons_zero]; rfl) (by rfl) (by kernel_rfl) (by kernel_rfl) (by kernel_rfl) (by intro _ _ _ h; exact h) (by rfl) ?_ (by assumption) ?_
        rotate_left 1
        · (intro w hSw; (try dsimp only at hSw); go_simp; try (with_reducible rfl))
        (try simp only [Act.put, List.setIfInBounds_toArray, List.set_cons_zero, List.set_cons_succ])
        refine wpAnyH_takeW (i := 8) (d := some 48) (v := ?_) (by simp only [List.getElem?_toArray, List.getElem?_cons_succ, List.getElem?_cons_zero]; rfl) (by rfl) (by kernel_rfl) (by kernel_rfl) (by kernel_rfl) (by intro _ _ _ h; exact h) (by rfl) ?_ (by assumption) ?_
        rotate_left 1
        · (intro w hSw; (try dsimp only at hSw); go_simp; try (with_reducible rfl))
        (try simp only [Act.put, List.setIfInBounds_toArray, List.set_cons_zero, List.set_cons_succ])
        refine wpAnyH_takeW (i := 9) (d := some 49) (v := ?_) (by simp only [List.getElem?_toArray, List.getElem?_cons_succ, List.getElem?_cons_zero]; rfl) (by rfl) (by kernel_rfl) (by kernel_rfl) (by kernel_rfl) (by intro _ _ _ h; exact h) (by rfl) ?_ (by assumption) ?_
        rotate_left 1
        · (intro w hSw; (try dsimp only at hSw); go_simp; try (with_reducible rfl))
        (try simp only [Act.put, List.setIfInBounds_toArray, List.set_cons_zero, List.set_cons_succ])
        refine wpAnyH_ready (rs := [10]) (by kernel_rfl) (by simp) ?_
        refine (AllReadyH.cons (i := 10) (by simp only [List.getElem?_toArray, List.getElem?_cons_succ, List.getElem?_cons_zero]; rfl) (fun K hK => ?_) AllReadyH.nil)
        go_simp
        (go_at_call 46; refine (l26Frames_any Ar (c9 - 1) rest _ (Sl.below (R := EB false) EB.framed HSR.out (Below.drew HB3.out)) HRL.out HRX.out).mono ?_)
        rintro e w4 ⟨g6, c6, rfl, hb4_, hcap6, hg6, hg6l, hr6, _⟩
        have hb4 : Below w3.heap.size w3 w4 := Below.trans (Below.drew (Below.refl _ _)) hb4_
        have hs4 := hb4.size
        have HB4 := Lib.hid (HB3.out.trans (hb4.mono hs3))
        have HR6 := Lib.hid hr6
        have hg6' : w3.heap.size ≤ g6 := hg6
        have n4 := (hb4.cell (p := ⟨nb, 0, none⟩) (by simp only; omega)).trans n3
        have x4 := (hb4.cell (p := ⟨w.heap.size, 0, none⟩) (by simp only; omega)).trans x3
        have d24 := (hb4.cell (p := ⟨g9, o9 + i * 4 + 2, none⟩) (by simp only; omega)).trans d23
        have m4 := (HB4.out.cell (p := ⟨w.heap.size + 1, 0, none⟩) (by simp only; omega)).trans x1
        have v4 := (HB4.out.frozen (p := ⟨w.heap.size + 1, 0, none⟩) (by simp only; omega)).trans f1
        have u0 := (HB4.out.cell (p := ⟨g, o + i * 4, none⟩) hg).trans hc0
        have u1 := (HB4.out.cell (p := ⟨g, o + i * 4 + 1, none⟩) hg).trans hc1
        have u2 := (HB4.out.cell (p := ⟨g, o + i * 4 + 2, none⟩) hg).trans hc2
        have u3 := (HB4.out.cell (p := ⟨g, o + i * 4 + 3, none⟩) hg).trans hc3
        have z2 := (HB4.out.frozen (p := ⟨g, o + i * 4 + 2, none⟩) hg).trans q2
        have U0 := Lib.hid u0
        have U1 := Lib.hid u1
        have U3 := Lib.hid u3
        have R4 := Lib.hid (R3.out.below hb4)
        clear hb4_ hb4 hr6 hg6
        go_wp2_with fail
        refine hK.out _ _ ?_ (fun hHeld => ?_)
        · ((try dsimp only); first | exact ⟨n3, x3, d23⟩ | exact ⟨n4, x4, d24⟩ | exact ⟨(World.cell?_setCell_far _ _ _ _ (by simp only; omega)).trans n4, (World.cell?_setCell_far _ _ _ _ (by simp only; omega)).trans x4, (World.cell?_setCell_far _ _ _ _ (by simp only; omega)).trans d24⟩ | (simp [go_sem, *]; done))
        clear hK K
        (try simp only [Act.put, List.setIfInBounds_toArray, List.set_cons_zero, List.set_cons_succ])
        refine wpAnyH_takeW (i := 11) (d := some 51) (v := ?_) (by simp only [List.getElem?_toArray, List.getElem?_cons_succ, List.getElem?_cons_zero]; rfl) (by rfl) (by kernel_rfl) (by kernel_rfl) (by kernel_rfl) (by intro _ _ _ h; exact h) (by rfl) ?_ (by assumption) ?_
        rotate_left 1
        · (intro w hSw; (try dsimp only at hSw); go_simp; try (with_reducible rfl))
        (try simp only [Act.put, List.setIfInBounds_toArray, List.set_cons_zero, List.set_cons_succ])
        refine wpAnyH_takeW (i := 12) (d := some 52) (v := ?_) (by simp only [List.getElem?_toArray, List.getElem?_cons_succ, List.getElem?_cons_zero]; rfl) (by rfl) (by kernel_rfl) (by kernel_rfl) (by kernel_rfl) (by intro _ _ _ h; exact h) (by rfl) ?_ (by assumption) ?_
        rotate_left 1
        · (intro w hSw; (try dsimp only at hSw); go_simp; try (with_reducible rfl))
        (try simp only [Act.put, List.setIfInBounds_toArray, List.set_cons_zero, List.set_cons_succ])
        refine wpAnyH_ready (rs := [13]) (by kernel_rfl) (by simp) ?_
        refine (AllReadyH.cons (i := 13) (by simp only [List.getElem?_toArray, List.getElem?_cons_succ, List.getElem?_cons_zero]; rfl) (fun K hK => ?_) AllReadyH.nil)
        go_simp
        go_wp2_with fail
        refine hK.out _ _ ?_ (fun hHeld => ?_)
        · ((try dsimp only); first | exact ⟨n3, x3, d23⟩ | exact ⟨n4, x4, d24⟩ | exact ⟨(World.cell?_setCell_far _ _ _ _ (by simp only; omega)).trans n4, (World.cell?_setCell_far _ _ _ _ (by simp only; omega)).trans x4, (World.cell?_setCell_far _ _ _ _ (by simp only; omega)).trans d24⟩ | (simp [go_sem, *]; done))
        clear hK K
        (try simp only [Act.put, List.setIfInBounds_toArray, List.set_cons_zero, List.set_cons_succ])
        refine wpAnyH_done (by kernel_rfl) ?_ _
        have n6 : (w4.setCell ⟨g, o + i * 4 + 2, none⟩ (.slice (some ⟨g6, 0, none⟩) rest.length c6)).cell? ⟨nb, 0, none⟩ = some (.slice (some ⟨g, o, none⟩) xs.length c) := (World.cell?_setCell_far _ _ _ _ (by simp only; omega)).trans n4
        have x6 : (w4.setCell ⟨g, o + i * 4 + 2, none⟩ (.slice (some ⟨g6, 0, none⟩) rest.length c6)).cell? ⟨w.heap.size, 0, none⟩ = some (.slice (some ⟨g9, o9, none⟩) xs.length c0) := (World.cell?_setCell_far _ _ _ _ (by simp only; omega)).trans x4
        have d26 : (w4.setCell ⟨g, o + i * 4 + 2, none⟩ (.slice (some ⟨g6, 0, none⟩) rest.length c6)).cell? ⟨g9, o9 + i * 4 + 2, none⟩ = some (.slice (some ⟨gr, og, none⟩) f.length c9) := (World.cell?_setCell_far _ _ _ _ (by simp only; omega)).trans d24
        have m6 : (w4.setCell ⟨g, o + i * 4 + 2, none⟩ (.slice (some ⟨g6, 0, none⟩) rest.length c6)).cell? ⟨w.heap.size + 1, 0, none⟩ = some (.slice none 0 0) := (World.cell?_setCell_far _ _ _ _ (by simp only; omega)).trans m4
        have y6 : (w4.setCell ⟨g, o + i * 4 + 2, none⟩ (.slice (some ⟨g6, 0, none⟩) rest.length c6)).frozen? ⟨w.heap.size + 1, 0, none⟩ = false := (World.frozen?_setCell _ _ _ _).trans v4
        go_wp2
        refine wp_region_held_drew (S := (fun w' => w'.cell? ⟨nb, 0, none⟩ = some (.slice (some ⟨g, o, none⟩) xs.length c) ∧ w'.cell? ⟨w.heap.size, 0, none⟩ = some (.slice (some ⟨g9, o9, none⟩) xs.length c0) ∧ w'.cell? ⟨g9, o9 + i * 4 + 2, none⟩ = some (.slice (some ⟨gr, og, none⟩) f.length c9))) (by kernel_rfl) ?_ (fun hHeld => ?_)
        · first | exact ⟨n6, x6, d26⟩ | exact ⟨(World.cell?_setCell_far _ _ _ _ (by simp only; omega)).trans n6, (World.cell?_setCell_far _ _ _ _ (by simp only; omega)).trans x6, (World.cell?_setCell_far _ _ _ _ (by simp only; omega)).trans d26⟩ | (simp [go_sem, *]; done)
        refine wpAnyH_takeW (i := 0) (d := some 53) (v := ?_) (by simp only [List.getElem?_toArray, List.getElem?_cons_succ, List.getElem?_cons_zero]; rfl) (by rfl) (by kernel_rfl) (by kernel_rfl) (by kernel_rfl) (by intro _ _ _ h; exact h) (by rfl) ?_ (by assumption) ?_
        rotate_left 1
        · (intro w hSw; (try dsimp only at hSw); go_simp; try (with_reducible rfl))
        (try simp only [Act.put, List.setIfInBounds_toArray, List.set_cons_zero, List.set_cons_succ])
        refine wpAnyH_takeW (i := 1) (d := some 54) (v := ?_) (by simp only [List.getElem?_toArray, List.getElem?_cons_succ, List.getElem?_cons_zero]; rfl) (by rfl) (by kernel_rfl) (by kernel_rfl) (by kernel_rfl) (by intro _ _ _ h; exact h) (by rfl) ?_ (by assumption) ?_
        rotate_left 1
        · (intro w hSw; (try dsimp only at hSw); go_simp; try (with_reducible rfl))
        (try simp only [Act.put, List.setIfInBounds_toArray, List.set_cons_zero, List.set_cons_succ])
        refine wpAnyH_takeW (i := 2) (d := some 55) (v := ?_) (by simp only [List.getElem?_toArray, List.getElem?_cons_succ, List.getElem?_cons_zero]; rfl) (by rfl) (by kernel_rfl) (by kernel_rfl) (by kernel_rfl) (by intro _ _ _ h; exact h) (by rfl) ?_ (by assumption) ?_
        rotate_left 1
        · (intro w hSw; (try dsimp only at hSw); go_simp; try (with_reducible rfl))
        (try simp only [Act.put, List.setIfInBounds_toArray, List.set_cons_zero, List.set_cons_succ])
        refine wpAnyH_takeW (i := 3) (d := some 56) (v := ?_) (by simp only [List.getElem?_toArray, List.getElem?_cons_succ, List.getElem?_cons_zero]; rfl) (by rfl) (by kernel_rfl) (by kernel_rfl) (by kernel_rfl) (by intro _ _ _ h; exact h) (by rfl) ?_ (by assumption) ?_
        rotate_left 1
        · (intro w hSw; (try dsimp only at hSw); go_simp; try (with_reducible rfl))
        (try simp only [Act.put, List.setIfInBounds_toArray, List.set_cons_zero, List.set_cons_succ])
        refine wpAnyH_takeW (i := 4) (d := some 57) (v := ?_) (by simp only [List.getElem?_toArray, List.getElem?_cons_succ, List.getElem?_cons_zero]; rfl) (by rfl) (by kernel_rfl) (by kernel_rfl) (by kernel_rfl) (by intro _ _ _ h; exact h) (by rfl) ?_ (by assumption) ?_
        rotate_left 1
        · (intro w hSw; (try dsimp only at hSw); go_simp; try (with_reducible rfl))
        (try simp only [Act.put, List.setIfInBounds_toArray, List.set_cons_zero, List.set_cons_succ])
        refine wpAnyH_takeW (i := 5) (d := some 58) (v := ?_) (by simp only [List.getElem?_toArray, List.getElem?_cons_succ, List.getElem?_cons_zero]; rfl) (by rfl) (by kernel_rfl) (by kernel_rfl) (by kernel_rfl) (by intro _ _ _ h; exact h) (by rfl) ?_ (by assumption) ?_
        rotate_left 1
        · (intro w hSw; (try dsimp only at hSw); go_simp; try (with_reducible rfl))
        (try simp only [Act.put, List.setIfInBounds_toArray, List.set_cons_zero, List.set_cons_succ])
        refine wpAnyH_takeW (i := 6) (d := some 59) (v := ?_) (by simp only [List.getElem?_toArray, List.getElem?_cons_succ, List.getElem?_cons_zero]; rfl) (by rfl) (by kernel_rfl) (by kernel_rfl) (by kernel_rfl) (by intro _ _ _ h; exact h) (by rfl) ?_ (by assumption) ?_
        rotate_left 1
        · (intro w hSw; (try dsimp only at hSw); go_simp; try (with_reducible rfl))
        (try simp only [Act.put, List.setIfInBounds_toArray, List.set_cons_zero, List.set_cons_succ])
        refine wpAnyH_takeW (i := 7) (d := some 60) (v := ?_) (by simp only [List.getElem?_toArray, List.getElem?_cons_succ, List.getElem?_cons_zero]; rfl) (by rfl) (by kernel_rfl) (by kernel_rfl) (by kernel_rfl) (by intro _ _ _ h; exact h) (by rfl) ?_ (by assumption) ?_
        rotate_left 1
        · (intro w hSw; (try dsimp only at hSw); go_simp; try (with_reducible rfl))
        (try simp only [Act.put, List.setIfInBounds_toArray, List.set_cons_zero, List.set_cons_succ])
        refine wpAnyH_takeW (i := 8) (d := some 61) (v := ?_) (by simp only [List.getElem?_toArray, List.getElem?_cons_succ, List.getElem?_cons_zero]; rfl) (by rfl) (by kernel_rfl) (by kernel_rfl) (by kernel_rfl) (by intro _ _ _ h; exact h) (by rfl) ?_ (by assumption) ?_
        rotate_left 1
        · (intro w hSw; (try dsimp only at hSw); go_simp; try (with_reducible rfl))
        (try simp only [Act.put, List.setIfInBounds_toArray, List.set_cons_zero, List.set_cons_succ])
        refine wpAnyH_takeW (i := 9) (d := some 62) (v := ?_) (by simp only [List.getElem?_toArray, List.getElem?_cons_succ, List.getElem?_cons_zero]; rfl) (by rfl) (by kernel_rfl) (by kernel_rfl) (by kernel_rfl) (by intro _ _ _ h; exact h) (by rfl) ?_ (by assumption) ?_
        rotate_left 1
        · (intro w hSw; (try dsimp only at hSw); go_simp; try (with_reducible rfl))
        (try simp only [Act.put, List.setIfInBounds_toArray, List.set_cons_zero, List.set_cons_succ])
        refine wpAnyH_ready (rs := [10]) (by kernel_rfl) (by simp) ?_
        refine (AllReadyH.cons (i := 10) (by simp only [List.getElem?_toArray, List.getElem?_cons_succ, List.getElem?_cons_zero]; rfl) (fun K hK => ?_) AllReadyH.nil)
        go_simp
        go_wp2_with fail
        refine hK.out _ _ ?_ (fun hHeld => ?_)
        · ((try dsimp only); first | exact ⟨n6, x6, d26⟩ | exact ⟨(World.cell?_setCell_far _ _ _ _ (by simp only; omega)).trans n6, (World.cell?_setCell_far _ _ _ _ (by simp only; omega)).trans x6, (World.cell?_setCell_far _ _ _ _ (by simp only; omega)).trans d26⟩ | (simp [go_sem, *]; done))
        clear hK K
        (try simp only [Act.put, List.setIfInBounds_toArray, List.set_cons_zero, List.set_cons_succ])
        refine wpAnyH_takeW (i := 11) (d := some 5) (v := ?_) (by simp only [List.getElem?_toArray, List.getElem?_cons_succ, List.getElem?_cons_zero]; rfl) (by rfl) (by kernel_rfl) (by kernel_rfl) (by kernel_rfl) (by intro _ _ _ h; exact h) (by rfl) ?_ (by assumption) ?_
        rotate_left 1
        · (intro w hSw; (try dsimp only at hSw); go_simp; try (with_reducible rfl))
        (try simp only [Act.put, List.setIfInBounds_toArray, List.set_cons_zero, List.set_cons_succ])
        refine wpAnyH_takeW (i := 12) (d := some 6) (v := ?_) (by simp only [List.getElem?_toArray, List.getElem?_cons_succ, List.getElem?_cons_zero]; rfl) (by rfl) (by kernel_rfl) (by kernel_rfl) (by kernel_rfl) (by intro _ _ _ h; exact h) (by rfl) ?_ (by assumption) ?_
        rotate_left 1
        · (intro w hSw; (try dsimp only at hSw); go_simp; try (with_reducible rfl))
        (try simp only [Act.put, List.setIfInBounds_toArray, List.set_cons_zero, List.set_cons_succ])
        refine wpAnyH_takeW (i := 13) (d := some 7) (v := ?_) (by simp only [List.getElem?_toArray, List.getElem?_cons_succ, List.getElem?_cons_zero]; rfl) (by rfl) (by kernel_rfl) (by kernel_rfl) (by kernel_rfl) (by intro _ _ _ h; exact h) (by rfl) ?_ (by assumption) ?_
        rotate_left 1
        · (intro w hSw; (try dsimp only at hSw); go_simp; try (with_reducible rfl))
        (try simp only [Act.put, List.setIfInBounds_toArray, List.set_cons_zero, List.set_cons_succ])
        refine wpAnyH_done (by kernel_rfl) ?_ _
        have hst : Chg (fun b => b = g) w4 (w4.setCell ⟨g, o + i * 4 + 2, none⟩ (.slice (some ⟨g6, 0, none⟩) rest.length c6)) := Chg.setCell_ (S := fun b => b = g) (Chg.refl _ _) (p := ⟨g, o + i * 4 + 2, none⟩) rfl _
        have oth : ∀ j, j ≠ o + i * 4 + 2 → (w4.setCell ⟨g, o + i * 4 + 2, none⟩ (.slice (some ⟨g6, 0, none⟩) rest.length c6)).cell? ⟨g, j, none⟩ = w4.cell? ⟨g, j, none⟩ := fun j hj => World.cell?_setCell_other _ _ _ _ (fun e => by injection e with _ e2; omega)
        have fz : ∀ j, (w4.setCell ⟨g, o + i * 4 + 2, none⟩ (.slice (some ⟨g6, 0, none⟩) rest.length c6)).frozen? ⟨g, j, none⟩ = w2.frozen? ⟨g, j, none⟩ := fun j => (World.frozen?_setCell _ _ _ _).trans (HB4.out.frozen (p := ⟨g, j, none⟩) hg)
        have hgn6 : g < w3.heap.size := by omega
        have hnew : Sl true 1 (EB true) (w4.setCell ⟨g, o + i * 4 + 2, none⟩ (.slice (some ⟨g6, 0, none⟩) rest.length c6)) (fun b => w3.heap.size ≤ b ∧ b < w4.heap.size) (some ⟨g6, 0, none⟩) rest := Sl.frame (R := EB true) EB.framed (HR6.out.wider (fun b hb => ⟨hb.1, hb.2⟩)) hst (fun b h1 h2 => by omega)
        have HS0 := HSET.out (w4.setCell ⟨g, o + i * 4 + 2, none⟩ (.slice (some ⟨g6, 0, none⟩) rest.length c6)) ⟨sx, a, rest, l⟩ (fun b => w3.heap.size ≤ b ∧ b < w4.heap.size) (fun b hb => .inr (by omega)) ((Chg.of_below HB4.out).trans (hst.mono (fun b _ hb => .inl hb))) (fun j hj => ⟨(oth j (by omega)).trans (HB4.out.cell (p := ⟨g, j, none⟩) hg), fz j⟩)
          ⟨(oth _ (by omega)).trans U0.out, (oth _ (by omega)).trans U1.out, (oth _ (by omega)).trans U3.out, fun _ => ⟨(fz _).trans q0, (fz _).trans q1, (fz _).trans q3⟩, some ⟨g6, 0, none⟩, c6, World.cell?_setCell_same _ _ _ u2, fun _ => ⟨(fz _).trans q2, hcap6⟩, hnew⟩
        have HS1 := Sl.wider (T' := fun b => (w.heap.size + 2 ≤ b ∧ b < w4.heap.size) ∧ ¬ b = g5) HS0 (fun b hb => by
          rcases hb with hb | hb
          · have := hb.1; exact ⟨by omega, by omega⟩
          · exact ⟨by omega, by omega⟩)
        have hfin : Chg (fun b => b = w.heap.size + 1) (w4.setCell ⟨g, o + i * 4 + 2, none⟩ (.slice (some ⟨g6, 0, none⟩) rest.length c6)) ((w4.setCell ⟨g, o + i * 4 + 2, none⟩ (.slice (some ⟨g6, 0, none⟩) rest.length c6)).setCell ⟨w.heap.size + 1, 0, none⟩ (.slice (some ⟨g, o, none⟩) xs.length c)) := Chg.setCell_ (S := fun b => b = w.heap.size + 1) (Chg.refl _ _) (p := ⟨w.heap.size + 1, 0, none⟩) rfl _
        have hs24 := HB4.out.size
        have hs46 := hst.size
        have hB8 : Below w.heap.size w ((w4.setCell ⟨g, o + i * 4 + 2, none⟩ (.slice (some ⟨g6, 0, none⟩) rest.length c6)).setCell ⟨w.heap.size + 1, 0, none⟩ (.slice (some ⟨g, o, none⟩) xs.length c)) := ((HB2.out.trans (HB4.out.mono (by omega))).trans (hst.below (by omega) (fun k hk => by omega))).trans (hfin.below (by omega) (fun k hk => by omega))
        have hs8 : w4.heap.size ≤ ((w4.setCell ⟨g, o + i * 4 + 2, none⟩ (.slice (some ⟨g6, 0, none⟩) rest.length c6)).setCell ⟨w.heap.size + 1, 0, none⟩ (.slice (some ⟨g, o, none⟩) xs.length c)).heap.size := Nat.le_trans hst.size hfin.size
        have HR0 := Lib.hid ((R4.out.frame hst (fun b h1 h2 => by omega)).frame hfin (fun b h1 h2 => by omega))
        have HS2 := Lib.hid (Sl.frame (R := EK true) EK.framed HS1 hfin (fun b h1 h2 => by omega))
        have X1F := Lib.hid m6
        have HB8 := Lib.hid hB8
        clear hst oth fz hnew HS0 HS1 hfin hB8
        go_wp2
        refine bodyPost_ret (v := PollV (some ⟨g, o, none⟩) c (some ⟨g5, 0, none⟩) c5 (xs.set i ⟨sx, a, rest, l⟩, f0, false, true)) (by simp [PollV, results, Try.results25, go_sem, World.cell?_setCell_same _ _ _ X1F.out]; try omega) rfl ?_
        rw [HR.out]
        refine ⟨some ⟨g, o, none⟩, c, _, c5, fun b => b = g5, rfl, Below.drew HB8.out, fun b hb => ?_, ?_, Rw.below HR0.out (Below.drew (Below.refl _ _))⟩
        · refine ⟨by omega, Nat.lt_of_lt_of_le (by omega : b < w4.heap.size) hs8⟩
        · refine (Sl.below (R := EK true) EK.framed HS2.out (Below.drew (Below.refl _ _))).wider (fun b hb => ⟨⟨by omega, Nat.lt_of_lt_of_le (by omega : b < w4.heap.size) hs8⟩, hb.2⟩)

end Go.Proofs.Ytbfbjkcmehalhaa
