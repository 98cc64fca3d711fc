/- PollFrame of the program. -/
import Derived.Test.YtbfbjkcmehalhaaPpb
import Derived.Test.YtbfbjkcmehalhaaHeld
namespace Go.Proofs.Ytbfbjkcmehalhaa
open Go.RowKit
set_option linter.unusedVariables false
set_option linter.unusedSimpArgs false
theorem implsizeSS : ∀ w : World, (Go.sizeOf 38).run Try.prog w = .ok 1 w := fun _ => by kernel_rfl

set_option maxHeartbeats 8000000 in
theorem implPoll_any {T : Nat → Prop} (s : Int) (A0 : Option Addr) (c0 : Nat) (xs : List KT) (w : World) (hx : Sl false 4 (EK false) w T A0 xs) (hm : xs.length ≤ 1000000000) (hlx : ∀ x ∈ xs, x.fr.length ≤ 1000000000 ∧ ∀ f ∈ x.fr, f.length ≤ 1000000000) :
    Calls Try.prog 26 #[.agg #[.slice A0 xs.length c0], .int .i64 s] w fun e w' => CpP w (pollR s xs) e w' := by
  have HX := Lib.hid hx
  have HLX := Lib.hid hlx
  clear hx hlx
  rcases fV_cases s xs with h | ⟨i, hi, h, _⟩
  · have HE := Lib.hid h
    have HR := Lib.hid (pollR_no h)
    clear h
    go_enter Try.func26, Try.ntmps26
    go_wp2_with fail
    refine (copyPB_any A0 c0 xs _ (Sl.below (R := EK false) EK.framed HX.out (by repeat (first | (with_reducible exact Below.refl _ _) | (with_reducible refine Below.ext ?_ (by go_size) _ _) | (with_reducible refine Below.alloc ?_ (by go_size) _) | (with_reducible refine Below.setCell ?_ (by go_size) _) | (with_reducible refine Below.drew ?_) | (with_reducible refine Below.drewN_ ?_ _)))) hm HLX.out).mono ?_
    rintro e w1 ⟨A, c, rfl, hb, hin⟩
    have hs1 := hb.size
    have x0 := hb.cell (p := ⟨w.heap.size, 0, none⟩) (by simp; try omega)
    have x1 := hb.cell (p := ⟨w.heap.size + 1, 0, none⟩) (by simp)
    have f1 := hb.frozen (p := ⟨w.heap.size + 1, 0, none⟩) (by simp)
    simp [go_sem] at x0 x1 f1 hs1
    have hB1 : Below w.heap.size w w1 := Below.trans (by repeat (first | (with_reducible exact Below.refl _ _) | (with_reducible refine Below.ext ?_ (by go_size) _ _) | (with_reducible refine Below.alloc ?_ (by go_size) _) | (with_reducible refine Below.setCell ?_ (by go_size) _) | (with_reducible refine Below.drew ?_) | (with_reducible refine Below.drewN_ ?_ _))) (hb.mono (by simp; try omega))
    have hin1 := hin.wider (T' := fun b => w.heap.size + 2 ≤ b ∧ b < w1.heap.size) (fun b hb => by simp at hb; omega)
    obtain ⟨nb, hnb⟩ : ∃ nb, nb = w1.heap.size := ⟨_, rfl⟩
    have hal : Below w1.heap.size w1 (w1.alloc (.cells #[.slice A xs.length c] 29)) := Below.alloc (Below.refl _ _) (Nat.le_refl _) _
    have HBB := Lib.hid (hB1.trans (hal.mono (by omega)))
    have HIB := Lib.hid (Sl.below (R := EKO) EKO.framed hin1 hal)
    have hl1 : w1.heap.size < (w1.alloc (.cells #[.slice A xs.length c] 29)).heap.size := by simp
    have XB := Lib.hid (block_cell (World.heap_new w1 (.cells #[.slice A xs.length c] 29) _ rfl) 0).1
    have XB0 := Lib.hid ((hal.cell (p := ⟨w.heap.size, 0, none⟩) (by simp only; omega)).trans x0)
    have XB1 := Lib.hid ((hal.cell (p := ⟨w.heap.size + 1, 0, none⟩) (by simp only; omega)).trans x1)
    have FB1 := Lib.hid ((hal.frozen (p := ⟨w.heap.size + 1, 0, none⟩) (by simp only; omega)).trans f1)
    have hb2w : w.heap.size < w1.heap.size := by omega
    clear hb hin hin1 hB1 hal x1 f1
    go_wp2_with fail
    refine (implFind_any s A c xs _ (SlK.read (SlO.ek HIB.out)) hm).mono ?_
    rw [HE.out]
    rintro e w2 ⟨rfl, hb⟩
    have hs2 := hb.size
    simp only [World.size_alloc] at hs2
    have HB2 := Lib.hid (HBB.out.trans (hb.mono (by simp; omega)))
    have HI2 := Lib.hid (SlO.ek (Sl.below (R := EKO) EKO.framed HIB.out hb))
    have n0 : w2.cell? ⟨w1.heap.size, 0, none⟩ = some (.slice A xs.length c) := (hb.cell (p := ⟨w1.heap.size, 0, none⟩) hl1).trans XB.out
    have x0 := (hb.cell (p := ⟨w.heap.size, 0, none⟩) (by simp; omega)).trans XB0.out
    have x1 := (hb.cell (p := ⟨w.heap.size + 1, 0, none⟩) (by simp; omega)).trans XB1.out
    have f1 := (hb.frozen (p := ⟨w.heap.size + 1, 0, none⟩) (by simp; omega)).trans FB1.out
    clear hb HIB HBB XB XB0 XB1 FB1 hl1
    rw [← hnb] at n0 ⊢
    have hnw : w.heap.size + 2 ≤ nb := by omega
    have hnw2 : nb < w2.heap.size := by omega
    rw [← hnb] at HI2
    clear hnb hs1 hs2 hb2w
    have hfin : Chg (fun b => b = w.heap.size + 1) w2 (w2.setCell ⟨w.heap.size + 1, 0, none⟩ (.slice A xs.length c)) := Chg.setCell_ (S := fun b => b = w.heap.size + 1) (Chg.refl _ _) (p := ⟨w.heap.size + 1, 0, none⟩) rfl _
    have hal : Below w2.heap.size (w2.setCell ⟨w.heap.size + 1, 0, none⟩ (.slice A xs.length c)) ((w2.setCell ⟨w.heap.size + 1, 0, none⟩ (.slice A xs.length c)).alloc (.cells #[] 5)) := Below.alloc (Below.refl _ _) hfin.size _
    have hl2 : w.heap.size + 1 < w2.heap.size := by omega
    have hcf : ((w2.setCell ⟨w.heap.size + 1, 0, none⟩ (.slice A xs.length c)).alloc (.cells #[] 5)).cell? ⟨w.heap.size + 1, 0, none⟩ = some (.slice A xs.length c) := (hal.cell (p := ⟨w.heap.size + 1, 0, none⟩) hl2).trans (World.cell?_setCell_same _ _ _ x1)
    have HCF := Lib.hid hcf
    have HF := Lib.hid hfin
    have HAL := Lib.hid hal
    clear hfin hal hcf
    go_wp2
    refine bodyPost_ret (v := PollV A c (some ⟨w2.heap.size, 0, none⟩) 0 (xs, [], false, false)) (by simp [PollV, results, Try.results26, go_sem, HCF.out]) rfl ?_
    rw [HR.out]
    refine ⟨A, c, _, 0, fun _ => False, rfl, (HB2.out.trans (HF.out.below (by omega) (fun k hk => by omega))).trans (HAL.out.mono (by omega)), fun b hb => hb.elim, ?_, Rw.nil⟩
    refine (Sl.frame (R := EK true) EK.framed (Sl.frame (R := EK true) EK.framed HI2.out HF.out (fun b hb h2 => by omega)) (chg_above HAL.out HF.out.size) (fun b hb h2 => by omega)).wider (fun b hb => ?_)
    have h1 := HF.out.size
    have h2 := HAL.out.size
    exact ⟨⟨by omega, by omega⟩, fun h => h⟩
  · have HE := Lib.hid h
    cases hfr : xs[i].fr with
    | nil =>
      have HR := Lib.hid (pollR_nil hi h hfr)
      clear h
      go_enter Try.func26, Try.ntmps26
      go_wp2_with fail
      refine (copyPB_any A0 c0 xs _ (Sl.below (R := EK false) EK.framed HX.out (by repeat (first | (with_reducible exact Below.refl _ _) | (with_reducible refine Below.ext ?_ (by go_size) _ _) | (with_reducible refine Below.alloc ?_ (by go_size) _) | (with_reducible refine Below.setCell ?_ (by go_size) _) | (with_reducible refine Below.drew ?_) | (with_reducible refine Below.drewN_ ?_ _)))) hm HLX.out).mono ?_
      rintro e w1 ⟨A, c, rfl, hb, hin⟩
      have hs1 := hb.size
      have x0 := hb.cell (p := ⟨w.heap.size, 0, none⟩) (by simp; try omega)
      have x1 := hb.cell (p := ⟨w.heap.size + 1, 0, none⟩) (by simp)
      have f1 := hb.frozen (p := ⟨w.heap.size + 1, 0, none⟩) (by simp)
      simp [go_sem] at x0 x1 f1 hs1
      have hB1 : Below w.heap.size w w1 := Below.trans (by repeat (first | (with_reducible exact Below.refl _ _) | (with_reducible refine Below.ext ?_ (by go_size) _ _) | (with_reducible refine Below.alloc ?_ (by go_size) _) | (with_reducible refine Below.setCell ?_ (by go_size) _) | (with_reducible refine Below.drew ?_) | (with_reducible refine Below.drewN_ ?_ _))) (hb.mono (by simp; try omega))
      have hin1 := hin.wider (T' := fun b => w.heap.size + 2 ≤ b ∧ b < w1.heap.size) (fun b hb => by simp at hb; omega)
      obtain ⟨nb, hnb⟩ : ∃ nb, nb = w1.heap.size := ⟨_, rfl⟩
      have hal : Below w1.heap.size w1 (w1.alloc (.cells #[.slice A xs.length c] 29)) := Below.alloc (Below.refl _ _) (Nat.le_refl _) _
      have HBB := Lib.hid (hB1.trans (hal.mono (by omega)))
      have HIB := Lib.hid (Sl.below (R := EKO) EKO.framed hin1 hal)
      have hl1 : w1.heap.size < (w1.alloc (.cells #[.slice A xs.length c] 29)).heap.size := by simp
      have XB := Lib.hid (block_cell (World.heap_new w1 (.cells #[.slice A xs.length c] 29) _ rfl) 0).1
      have XB0 := Lib.hid ((hal.cell (p := ⟨w.heap.size, 0, none⟩) (by simp only; omega)).trans x0)
      have XB1 := Lib.hid ((hal.cell (p := ⟨w.heap.size + 1, 0, none⟩) (by simp only; omega)).trans x1)
      have FB1 := Lib.hid ((hal.frozen (p := ⟨w.heap.size + 1, 0, none⟩) (by simp only; omega)).trans f1)
      have hb2w : w.heap.size < w1.heap.size := by omega
      clear hb hin hin1 hB1 hal x1 f1
      go_wp2_with fail
      refine (implFind_any s A c xs _ (SlK.read (SlO.ek HIB.out)) hm).mono ?_
      rw [HE.out]
      rintro e w2 ⟨rfl, hb⟩
      have hs2 := hb.size
      simp only [World.size_alloc] at hs2
      have HB2 := Lib.hid (HBB.out.trans (hb.mono (by simp; omega)))
      have HI2 := Lib.hid (SlO.ek (Sl.below (R := EKO) EKO.framed HIB.out hb))
      have n0 : w2.cell? ⟨w1.heap.size, 0, none⟩ = some (.slice A xs.length c) := (hb.cell (p := ⟨w1.heap.size, 0, none⟩) hl1).trans XB.out
      have x0 := (hb.cell (p := ⟨w.heap.size, 0, none⟩) (by simp; omega)).trans XB0.out
      have x1 := (hb.cell (p := ⟨w.heap.size + 1, 0, none⟩) (by simp; omega)).trans XB1.out
      have f1 := (hb.frozen (p := ⟨w.heap.size + 1, 0, none⟩) (by simp; omega)).trans FB1.out
      clear hb HIB HBB XB XB0 XB1 FB1 hl1
      rw [← hnb] at n0 ⊢
      have hnw : w.heap.size + 2 ≤ nb := by omega
      have hnw2 : nb < w2.heap.size := by omega
      rw [← hnb] at HI2
      clear hnb hs1 hs2 hb2w
      obtain ⟨g, o, Fk, rfl, hg, ⟨hgT, hgn⟩, hnF, hFT, ⟨hc0, hc1, hc3, hq, ⟨B1, c1, hc2, hq2, hr1⟩⟩, hset⟩ := Sl.open_new (R := EK true) EK.local_ HI2.out i hi
      obtain ⟨q0, q1, q3⟩ := hq rfl
      have q2 := (hq2 rfl).1
      have hcap := (hq2 rfl).2
      have HSET := Lib.hid hset
      have HFT := Lib.hid hFT
      have hlt2 : (i : Int) < (xs.length : Int) := by omega
      have hii : ¬ (i : Int) < 0 := by omega
      have hiw : IntKind.i64.wrap (i : Int) = (i : Int) := by rw [IntKind.wrap_i64]; omega
      clear hset hFT hq hq2
      have hlx2 := HLX.out _ (List.getElem_mem hi)
      generalize hxe : xs[i] = x at *
      obtain ⟨sx, a, f, l⟩ := x
      simp only at hlx2 hfr hc0 hc1 hc2 hc3 hr1 hcap 

      have hf0 : (f.length : Int) = 0 := by rw [hfr]; rfl
      have hf0n : f.length = 0 := by rw [hfr]; rfl
      clear hfr

      have hfin : Chg (fun b => b = w.heap.size + 1) w2 (w2.setCell ⟨w.heap.size + 1, 0, none⟩ (.slice (some ⟨g, o, none⟩) xs.length c)) := Chg.setCell_ (S := fun b => b = w.heap.size + 1) (Chg.refl _ _) (p := ⟨w.heap.size + 1, 0, none⟩) rfl _
      have hal : Below w2.heap.size (w2.setCell ⟨w.heap.size + 1, 0, none⟩ (.slice (some ⟨g, o, none⟩) xs.length c)) ((w2.setCell ⟨w.heap.size + 1, 0, none⟩ (.slice (some ⟨g, o, none⟩) xs.length c)).alloc (.cells #[] 5)) := Below.alloc (Below.refl _ _) hfin.size _
      have hl2 : w.heap.size + 1 < w2.heap.size := by omega
      have hcf : ((w2.setCell ⟨w.heap.size + 1, 0, none⟩ (.slice (some ⟨g, o, none⟩) xs.length c)).alloc (.cells #[] 5)).cell? ⟨w.heap.size + 1, 0, none⟩ = some (.slice (some ⟨g, o, none⟩) xs.length c) := (hal.cell (p := ⟨w.heap.size + 1, 0, none⟩) hl2).trans (World.cell?_setCell_same _ _ _ x1)
      have HCF := Lib.hid hcf
      have HF := Lib.hid hfin
      have HAL := Lib.hid hal
      clear hfin hal hcf
      go_wp2
      refine bodyPost_ret (v := PollV (some ⟨g, o, none⟩) c (some ⟨w2.heap.size, 0, none⟩) 0 (xs, [], false, false)) (by simp [PollV, results, Try.results26, go_sem, HCF.out]) rfl ?_
      rw [HR.out]
      refine ⟨(some ⟨g, o, none⟩), c, _, 0, fun _ => False, rfl, (HB2.out.trans (HF.out.below (by omega) (fun k hk => by omega))).trans (HAL.out.mono (by omega)), fun b hb => hb.elim, ?_, Rw.nil⟩
      refine (Sl.frame (R := EK true) EK.framed (Sl.frame (R := EK true) EK.framed HI2.out HF.out (fun b hb h2 => by omega)) (chg_above HAL.out HF.out.size) (fun b hb h2 => by omega)).wider (fun b hb => ?_)
      have h1 := HF.out.size
      have h2 := HAL.out.size
      exact ⟨⟨by omega, by omega⟩, fun h => h⟩
    | cons f0 rest =>
      have HR1 := Lib.hid (pollR_yes hi h hfr)
      clear h
      go_enter Try.func26, Try.ntmps26
      go_wp2_with fail
      refine (copyPB_any A0 c0 xs _ (Sl.below (R := EK false) EK.framed HX.out (by repeat (first | (with_reducible exact Below.refl _ _) | (with_reducible refine Below.ext ?_ (by go_size) _ _) | (with_reducible refine Below.alloc ?_ (by go_size) _) | (with_reducible refine Below.setCell ?_ (by go_size) _) | (with_reducible refine Below.drew ?_) | (with_reducible refine Below.drewN_ ?_ _)))) hm HLX.out).mono ?_
      rintro e w1 ⟨A, c, rfl, hb, hin⟩
      have hs1 := hb.size
      have x0 := hb.cell (p := ⟨w.heap.size, 0, none⟩) (by simp; try omega)
      have x1 := hb.cell (p := ⟨w.heap.size + 1, 0, none⟩) (by simp)
      have f1 := hb.frozen (p := ⟨w.heap.size + 1, 0, none⟩) (by simp)
      simp [go_sem] at x0 x1 f1 hs1
      have hB1 : Below w.heap.size w w1 := Below.trans (by repeat (first | (with_reducible exact Below.refl _ _) | (with_reducible refine Below.ext ?_ (by go_size) _ _) | (with_reducible refine Below.alloc ?_ (by go_size) _) | (with_reducible refine Below.setCell ?_ (by go_size) _) | (with_reducible refine Below.drew ?_) | (with_reducible refine Below.drewN_ ?_ _))) (hb.mono (by simp; try omega))
      have hin1 := hin.wider (T' := fun b => w.heap.size + 2 ≤ b ∧ b < w1.heap.size) (fun b hb => by simp at hb; omega)
      obtain ⟨nb, hnb⟩ : ∃ nb, nb = w1.heap.size := ⟨_, rfl⟩
      have hal : Below w1.heap.size w1 (w1.alloc (.cells #[.slice A xs.length c] 29)) := Below.alloc (Below.refl _ _) (Nat.le_refl _) _
      have HBB := Lib.hid (hB1.trans (hal.mono (by omega)))
      have HIB := Lib.hid (Sl.below (R := EKO) EKO.framed hin1 hal)
      have hl1 : w1.heap.size < (w1.alloc (.cells #[.slice A xs.length c] 29)).heap.size := by simp
      have XB := Lib.hid (block_cell (World.heap_new w1 (.cells #[.slice A xs.length c] 29) _ rfl) 0).1
      have XB0 := Lib.hid ((hal.cell (p := ⟨w.heap.size, 0, none⟩) (by simp only; omega)).trans x0)
      have XB1 := Lib.hid ((hal.cell (p := ⟨w.heap.size + 1, 0, none⟩) (by simp only; omega)).trans x1)
      have FB1 := Lib.hid ((hal.frozen (p := ⟨w.heap.size + 1, 0, none⟩) (by simp only; omega)).trans f1)
      have hb2w : w.heap.size < w1.heap.size := by omega
      clear hb hin hin1 hB1 hal x1 f1
      go_wp2_with fail
      refine (implFind_any s A c xs _ (SlK.read (SlO.ek HIB.out)) hm).mono ?_
      rw [HE.out]
      rintro e w2 ⟨rfl, hb⟩
      have hs2 := hb.size
      simp only [World.size_alloc] at hs2
      have HB2 := Lib.hid (HBB.out.trans (hb.mono (by simp; omega)))
      have HI2 := Lib.hid (SlO.ek (Sl.below (R := EKO) EKO.framed HIB.out hb))
      have n0 : w2.cell? ⟨w1.heap.size, 0, none⟩ = some (.slice A xs.length c) := (hb.cell (p := ⟨w1.heap.size, 0, none⟩) hl1).trans XB.out
      have x0 := (hb.cell (p := ⟨w.heap.size, 0, none⟩) (by simp; omega)).trans XB0.out
      have x1 := (hb.cell (p := ⟨w.heap.size + 1, 0, none⟩) (by simp; omega)).trans XB1.out
      have f1 := (hb.frozen (p := ⟨w.heap.size + 1, 0, none⟩) (by simp; omega)).trans FB1.out
      clear hb HIB HBB XB XB0 XB1 FB1 hl1
      rw [← hnb] at n0 ⊢
      have hnw : w.heap.size + 2 ≤ nb := by omega
      have hnw2 : nb < w2.heap.size := by omega
      rw [← hnb] at HI2
      clear hnb hs1 hs2 hb2w
      obtain ⟨g, o, Fk, rfl, hg, ⟨hgT, hgn⟩, hnF, hFT, ⟨hc0, hc1, hc3, hq, ⟨B1, c1, hc2, hq2, hr1⟩⟩, hset⟩ := Sl.open_new (R := EK true) EK.local_ HI2.out i hi
      obtain ⟨q0, q1, q3⟩ := hq rfl
      have q2 := (hq2 rfl).1
      have hcap := (hq2 rfl).2
      have HSET := Lib.hid hset
      have HFT := Lib.hid hFT
      have hlt2 : (i : Int) < (xs.length : Int) := by omega
      have hii : ¬ (i : Int) < 0 := by omega
      have hiw : IntKind.i64.wrap (i : Int) = (i : Int) := by rw [IntKind.wrap_i64]; omega
      clear hset hFT hq hq2
      have hlx2 := HLX.out _ (List.getElem_mem hi)
      generalize hxe : xs[i] = x at *
      obtain ⟨sx, a, f, l⟩ := x
      simp only at hlx2 hfr hc0 hc1 hc2 hc3 hr1 hcap HR1 

      obtain ⟨gr, og, F0, hB1, hgr, hgrF, hnF0, hF0F, ⟨Bf, cb0, hp0, _, hrf⟩, htl⟩ := Sl.uncons (by have := hr1; rw [hfr] at this; exact this)
      subst hB1
      have R0 := Lib.hid hrf
      have HTL := Lib.hid htl
      have HFL : Hid (f.length = rest.length + 1 ∧ f.length ≤ c1) := Lib.hid ⟨by rw [hfr]; rfl, hcap⟩
      obtain ⟨Ar, hsl, hAr⟩ := run_tail (P := Try.prog) (t := 49) (e := 38) Try.underlying49 implsizeSS gr og f.length rest.length c1 HFL.out.1 HFL.out.2
      have HAR := Lib.hid hAr
      have HRC : Hid (rest.length ≤ c1 - 1) := Lib.hid (by have := HFL.out.1; have := HFL.out.2; omega)
      have hf0 : ¬ (f.length : Int) = 0 := by have := HFL.out.1; omega
      have hf0n : ¬ f.length = 0 := by have := HFL.out.1; omega
      have hf0q : 0 < f.length := by have := HFL.out.1; omega
      have hf0e : ((f.length : Int) == 0) = false := by simp only [beq_eq_false_iff_ne]; exact hf0
      have hf0p : (0 : Int) < (f.length : Int) := by have := HFL.out.1; omega
      have hgrg : ¬ gr = g := fun h => hnF (h ▸ hgrF)
      have hgrg' : ¬ g = gr := fun h => hgrg h.symm
      have hgrT := HFT.out gr hgrF
      have hne1 : ¬ g = w.heap.size + 1 := by omega
      have hne2 : ¬ w.heap.size + 1 = g := by omega
      have hne3 : ¬ g = nb := by omega
      have hne4 : ¬ nb = g := by omega
      clear hr1 hrf htl hAr hfr hcap
      by_cases h1 : 0 < rest.length
      · have h12 : (1 : Int) < (f.length : Int) := by have := HFL.out.1; omega
        have HR : Hid (pollR s xs = (xs.set i ⟨sx, a, rest, l⟩, f0, true, true)) := Lib.hid (by rw [HR1.out, decide_eq_true h1])
        go_wp2
        refine wp_region_held_drew (S := (fun w' => w'.cell? ⟨nb, 0, none⟩ = some (.slice (some ⟨g, o, none⟩) xs.length c))) (by kernel_rfl) ?_ (fun hHeld => ?_)
        · first | exact n0 | exact (World.cell?_setCell_far _ _ _ _ (by simp only; omega)).trans n0 | (simp [go_sem, *]; done)
        refine wpAnyH_takeW (i := 0) (d := some 36) (v := ?_) (by simp only [List.getElem?_toArray, List.getElem?_cons_succ, List.getElem?_cons_zero]; rfl) (by rfl) (by kernel_rfl) (by kernel_rfl) (by kernel_rfl) (by intro _ _ _ h; exact h) (by rfl) ?_ (by assumption) ?_
        rotate_left 1
        · (intro w hSw; (try dsimp only at hSw); go_simp; try (with_reducible rfl))
        (try simp only [Act.put, List.setIfInBounds_toArray, List.set_cons_zero, List.set_cons_succ])
        refine wpAnyH_takeW (i := 1) (d := some 37) (v := ?_) (by simp only [List.getElem?_toArray, List.getElem?_cons_succ, List.getElem?_cons_zero]; rfl) (by rfl) (by kernel_rfl) (by kernel_rfl) (by kernel_rfl) (by intro _ _ _ h; exact h) (by rfl) ?_ (by assumption) ?_
        rotate_left 1
        · (intro w hSw; (try dsimp only at hSw); go_simp; try (with_reducible rfl))
        (try simp only [Act.put, List.setIfInBounds_toArray, List.set_cons_zero, List.set_cons_succ])
        refine wpAnyH_takeW (i := 2) (d := some 38) (v := ?_) (by simp only [List.getElem?_toArray, List.getElem?_cons_succ, List.getElem?_cons_zero]; rfl) (by rfl) (by kernel_rfl) (by kernel_rfl) (by kernel_rfl) (by intro _ _ _ h; exact h) (by rfl) ?_ (by assumption) ?_
        rotate_left 1
        · (intro w hSw; (try dsimp only at hSw); go_simp; try (with_reducible rfl))
        (try simp only [Act.put, List.setIfInBounds_toArray, List.set_cons_zero, List.set_cons_succ])
        refine wpAnyH_takeW (i := 3) (d := some 39) (v := ?_) (by simp only [List.getElem?_toArray, List.getElem?_cons_succ, List.getElem?_cons_zero]; rfl) (by rfl) (by kernel_rfl) (by kernel_rfl) (by kernel_rfl) (by intro _ _ _ h; exact h) (by rfl) ?_ (by assumption) ?_
        rotate_left 1
        · (intro w hSw; (try dsimp only at hSw); go_simp; try (with_reducible rfl))
        (try simp only [Act.put, List.setIfInBounds_toArray, List.set_cons_zero, List.set_cons_succ])
        refine wpAnyH_takeW (i := 4) (d := some 40) (v := ?_) (by simp only [List.getElem?_toArray, List.getElem?_cons_succ, List.getElem?_cons_zero]; rfl) (by rfl) (by kernel_rfl) (by kernel_rfl) (by kernel_rfl) (by intro _ _ _ h; exact h) (by rfl) ?_ (by assumption) ?_
        rotate_left 1
        · (intro w hSw; (try dsimp only at hSw); go_simp; try (with_reducible rfl))
        (try simp only [Act.put, List.setIfInBounds_toArray, List.set_cons_zero, List.set_cons_succ])
        refine wpAnyH_takeW (i := 5) (d := some 41) (v := ?_) (by simp only [List.getElem?_toArray, List.getElem?_cons_succ, List.getElem?_cons_zero]; rfl) (by rfl) (by kernel_rfl) (by kernel_rfl) (by kernel_rfl) (by intro _ _ _ h; exact h) (by rfl) ?_ (by assumption) ?_
        rotate_left 1
        · (intro w hSw; (try dsimp only at hSw); go_simp; try (with_reducible rfl))
        (try simp only [Act.put, List.setIfInBounds_toArray, List.set_cons_zero, List.set_cons_succ])
        refine wpAnyH_takeW (i := 6) (d := some 42) (v := ?_) (by simp only [List.getElem?_toArray, List.getElem?_cons_succ, List.getElem?_cons_zero]; rfl) (by rfl) (by kernel_rfl) (by kernel_rfl) (by kernel_rfl) (by intro _ _ _ h; exact h) (by rfl) ?_ (by assumption) ?_
        rotate_left 1
        · (intro w hSw; (try dsimp only at hSw); go_simp; try (with_reducible rfl))
        (try simp only [Act.put, List.setIfInBounds_toArray, List.set_cons_zero, List.set_cons_succ])
        refine wpAnyH_ready (rs := [7]) (by kernel_rfl) (by simp) ?_
        refine (AllReadyH.cons (i := 7) (by simp only [List.getElem?_toArray, List.getElem?_cons_succ, List.getElem?_cons_zero]; rfl) (fun K hK => ?_) AllReadyH.nil)
        go_simp
        go_wp2_with fail
        refine hK.out _ _ ?_ (fun hHeld => ?_)
        · ((try dsimp only); first | exact n0 | exact (World.cell?_setCell_far _ _ _ _ (by simp only; omega)).trans n0 | (simp [go_sem, *]; done))
        clear hK K
        (try simp only [Act.put, List.setIfInBounds_toArray, List.set_cons_zero, List.set_cons_succ])
        refine wpAnyH_done (by kernel_rfl) ?_ _
        have n6 : (w2.setCell ⟨g, o + i * 4 + 2, none⟩ (.slice Ar rest.length (c1 - 1))).cell? ⟨nb, 0, none⟩ = some (.slice (some ⟨g, o, none⟩) xs.length c) := (World.cell?_setCell_far _ _ _ _ (by simp only; omega)).trans n0
        have p6 : (w2.setCell ⟨g, o + i * 4 + 2, none⟩ (.slice Ar rest.length (c1 - 1))).cell? ⟨gr, og, none⟩ = some (.slice Bf f0.length cb0) := (World.cell?_setCell_far _ _ _ _ (by simp only; omega)).trans hp0
        have x6 : (w2.setCell ⟨g, o + i * 4 + 2, none⟩ (.slice Ar rest.length (c1 - 1))).cell? ⟨w.heap.size + 1, 0, none⟩ = some (.slice none 0 0) := (World.cell?_setCell_far _ _ _ _ (by simp only; omega)).trans x1
        have y6 : (w2.setCell ⟨g, o + i * 4 + 2, none⟩ (.slice Ar rest.length (c1 - 1))).frozen? ⟨w.heap.size + 1, 0, none⟩ = false := (World.frozen?_setCell _ _ _ _).trans f1
        go_wp2
        refine wp_region_held_drew (S := (fun w' => w'.cell? ⟨nb, 0, none⟩ = some (.slice (some ⟨g, o, none⟩) xs.length c) ∧ w'.cell? ⟨gr, og, none⟩ = some (.slice Bf f0.length cb0))) (by kernel_rfl) ?_ (fun hHeld => ?_)
        · first | exact ⟨n6, p6⟩ | exact ⟨(World.cell?_setCell_far _ _ _ _ (by simp only; omega)).trans n6, (World.cell?_setCell_far _ _ _ _ (by simp only; omega)).trans p6⟩ | (simp [go_sem, *]; done)
        refine wpAnyH_takeW (i := 0) (d := some 43) (v := ?_) (by simp only [List.getElem?_toArray, List.getElem?_cons_succ, List.getElem?_cons_zero]; rfl) (by rfl) (by kernel_rfl) (by kernel_rfl) (by kernel_rfl) (by intro _ _ _ h; exact h) (by rfl) ?_ (by assumption) ?_
        rotate_left 1
        · (intro w hSw; (try dsimp only at hSw); go_simp; try (with_reducible rfl))
        (try simp only [Act.put, List.setIfInBounds_toArray, List.set_cons_zero, List.set_cons_succ])
        refine wpAnyH_takeW (i := 1) (d := some 44) (v := ?_) (by simp only [List.getElem?_toArray, List.getElem?_cons_succ, List.getElem?_cons_zero]; rfl) (by rfl) (by kernel_rfl) (by kernel_rfl) (by kernel_rfl) (by intro _ _ _ h; exact h) (by rfl) ?_ (by assumption) ?_
        rotate_left 1
        · (intro w hSw; (try dsimp only at hSw); go_simp; try (with_reducible rfl))
        (try simp only [Act.put, List.setIfInBounds_toArray, List.set_cons_zero, List.set_cons_succ])
        refine wpAnyH_takeW (i := 2) (d := some 45) (v := ?_) (by simp only [List.getElem?_toArray, List.getElem?_cons_succ, List.getElem?_cons_zero]; rfl) (by rfl) (by kernel_rfl) (by kernel_rfl) (by kernel_rfl) (by intro _ _ _ h; exact h) (by rfl) ?_ (by assumption) ?_
        rotate_left 1
        · (intro w hSw; (try dsimp only at hSw); go_simp; try (with_reducible rfl))
        (try simp only [Act.put, List.setIfInBounds_toArray, List.set_cons_zero, List.set_cons_succ])
        refine wpAnyH_takeW (i := 3) (d := some 46) (v := ?_) (by simp only [List.getElem?_toArray, List.getElem?_cons_succ, List.getElem?_cons_zero]; rfl) (by rfl) (by kernel_rfl) (by kernel_rfl) (by kernel_rfl) (by intro _ _ _ h; exact h) (by rfl) ?_ (by assumption) ?_
        rotate_left 1
        · (intro w hSw; (try dsimp only at hSw); go_simp; try (with_reducible rfl))
        (try simp only [Act.put, List.setIfInBounds_toArray, List.set_cons_zero, List.set_cons_succ])
        refine wpAnyH_takeW (i := 4) (d := some 47) (v := ?_) (by simp only [List.getElem?_toArray, List.getElem?_cons_succ, List.getElem?_cons_zero]; rfl) (by rfl) (by kernel_rfl) (by kernel_rfl) (by kernel_rfl) (by intro _ _ _ h; exact h) (by rfl) ?_ (by assumption) ?_
        rotate_left 1
        · (intro w hSw; (try dsimp only at hSw); go_simp; try (with_reducible rfl))
        (try simp only [Act.put, List.setIfInBounds_toArray, List.set_cons_zero, List.set_cons_succ])
        refine wpAnyH_takeW (i := 5) (d := some 48) (v := ?_) (by simp only [List.getElem?_toArray, List.getElem?_cons_succ, List.getElem?_cons_zero]; rfl) (by rfl) (by kernel_rfl) (by kernel_rfl) (by kernel_rfl) (by intro _ _ _ h; exact h) (by rfl) ?_ (by assumption) ?_
        rotate_left 1
        · (intro w hSw; (try dsimp only at hSw); go_simp; try (with_reducible rfl))
        (try simp only [Act.put, List.setIfInBounds_toArray, List.set_cons_zero, List.set_cons_succ])
        refine wpAnyH_takeW (i := 6) (d := some 49) (v := ?_) (by simp only [List.getElem?_toArray, List.getElem?_cons_succ, List.getElem?_cons_zero]; rfl) (by rfl) (by kernel_rfl) (by kernel_rfl) (by kernel_rfl) (by intro _ _ _ h; exact h) (by rfl) ?_ (by assumption) ?_
        rotate_left 1
        · (intro w hSw; (try dsimp only at hSw); go_simp; try (with_reducible rfl))
        (try simp only [Act.put, List.setIfInBounds_toArray, List.set_cons_zero, List.set_cons_succ])
        refine wpAnyH_ready (rs := [7]) (by kernel_rfl) (by simp) ?_
        refine (AllReadyH.cons (i := 7) (by simp only [List.getElem?_toArray, List.getElem?_cons_succ, List.getElem?_cons_zero]; rfl) (fun K hK => ?_) AllReadyH.nil)
        go_simp
        go_wp2_with fail
        refine hK.out _ _ ?_ (fun hHeld => ?_)
        · ((try dsimp only); first | exact ⟨n6, p6⟩ | exact ⟨(World.cell?_setCell_far _ _ _ _ (by simp only; omega)).trans n6, (World.cell?_setCell_far _ _ _ _ (by simp only; omega)).trans p6⟩ | (simp [go_sem, *]; done))
        clear hK K
        (try simp only [Act.put, List.setIfInBounds_toArray, List.set_cons_zero, List.set_cons_succ])
        refine wpAnyH_takeW (i := 8) (d := some 5) (v := ?_) (by simp only [List.getElem?_toArray, List.getElem?_cons_succ, List.getElem?_cons_zero]; rfl) (by rfl) (by kernel_rfl) (by kernel_rfl) (by kernel_rfl) (by intro _ _ _ h; exact h) (by rfl) ?_ (by assumption) ?_
        rotate_left 1
        · (intro w hSw; (try dsimp only at hSw); go_simp; try (with_reducible rfl))
        (try simp only [Act.put, List.setIfInBounds_toArray, List.set_cons_zero, List.set_cons_succ])
        refine wpAnyH_takeW (i := 9) (d := some 6) (v := ?_) (by simp only [List.getElem?_toArray, List.getElem?_cons_succ, List.getElem?_cons_zero]; rfl) (by rfl) (by kernel_rfl) (by kernel_rfl) (by kernel_rfl) (by intro _ _ _ h; exact h) (by rfl) ?_ (by assumption) ?_
        rotate_left 1
        · (intro w hSw; (try dsimp only at hSw); go_simp; try (with_reducible rfl))
        (try simp only [Act.put, List.setIfInBounds_toArray, List.set_cons_zero, List.set_cons_succ])
        refine wpAnyH_takeW (i := 10) (d := some 7) (v := ?_) (by simp only [List.getElem?_toArray, List.getElem?_cons_succ, List.getElem?_cons_zero]; rfl) (by rfl) (by kernel_rfl) (by kernel_rfl) (by kernel_rfl) (by intro _ _ _ h; exact h) (by rfl) ?_ (by assumption) ?_
        rotate_left 1
        · (intro w hSw; (try dsimp only at hSw); go_simp; try (with_reducible rfl))
        (try simp only [Act.put, List.setIfInBounds_toArray, List.set_cons_zero, List.set_cons_succ])
        refine wpAnyH_done (by kernel_rfl) ?_ _
        have hst : Chg (fun b => b = g) w2 (w2.setCell ⟨g, o + i * 4 + 2, none⟩ (.slice Ar rest.length (c1 - 1))) := Chg.setCell_ (S := fun b => b = g) (Chg.refl _ _) (p := ⟨g, o + i * 4 + 2, none⟩) rfl _
        have oth : ∀ j, j ≠ o + i * 4 + 2 → (w2.setCell ⟨g, o + i * 4 + 2, none⟩ (.slice Ar rest.length (c1 - 1))).cell? ⟨g, j, none⟩ = w2.cell? ⟨g, j, none⟩ := fun j hj => World.cell?_setCell_other _ _ _ _ (fun e => by injection e with _ e2; omega)
        have fz : ∀ p v, w2.frozen? p = v → (w2.setCell ⟨g, o + i * 4 + 2, none⟩ (.slice Ar rest.length (c1 - 1))).frozen? p = v := fun p v h => (World.frozen?_setCell _ _ _ _).trans h
        have hnew : Sl true 1 (EB true) (w2.setCell ⟨g, o + i * 4 + 2, none⟩ (.slice Ar rest.length (c1 - 1))) (fun b => Fk b ∧ ¬ F0 b) Ar rest := Sl.frame (R := EB true) EB.framed (fun hne => by rw [HAR.out (by cases rest with | nil => exact absurd rfl hne | cons _ _ => simp)]; exact HTL.out hne) hst (fun b h1 h2 => by subst h2; exact hnF h1.1)
        have HS0 := HSET.out (w2.setCell ⟨g, o + i * 4 + 2, none⟩ (.slice Ar rest.length (c1 - 1))) ⟨sx, a, rest, l⟩ (fun b => Fk b ∧ ¬ F0 b) (fun b hb => .inl hb.1) (hst.mono (fun b _ hb => .inl hb)) (fun j hj => ⟨oth j (by omega), World.frozen?_setCell _ _ _ _⟩)
          ⟨(oth _ (by omega)).trans hc0, (oth _ (by omega)).trans hc1, (oth _ (by omega)).trans hc3, fun _ => ⟨fz _ _ q0, fz _ _ q1, fz _ _ q3⟩, Ar, c1 - 1, World.cell?_setCell_same _ _ _ hc2, fun _ => ⟨fz _ _ q2, HRC.out⟩, hnew⟩
        have hF0T : ∀ b, F0 b → w.heap.size + 2 ≤ b ∧ b < nb := fun b hb => HFT.out b (hF0F b hb)
        have hF0g : ¬ F0 g := fun h => hnF (hF0F g h)
        have HS1 := Sl.wider (T' := fun b => (w.heap.size + 2 ≤ b ∧ b < nb) ∧ ¬ F0 b) HS0 (fun b hb => by
          rcases hb with hb | hb
          · exact ⟨hb.1, fun h => hb.2 (hF0F b h)⟩
          · exact ⟨HFT.out b hb.1, hb.2⟩)
        have hfin : Chg (fun b => b = w.heap.size + 1) (w2.setCell ⟨g, o + i * 4 + 2, none⟩ (.slice Ar rest.length (c1 - 1))) ((w2.setCell ⟨g, o + i * 4 + 2, none⟩ (.slice Ar rest.length (c1 - 1))).setCell ⟨w.heap.size + 1, 0, none⟩ (.slice (some ⟨g, o, none⟩) xs.length c)) := Chg.setCell_ (S := fun b => b = w.heap.size + 1) (Chg.refl _ _) (p := ⟨w.heap.size + 1, 0, none⟩) rfl _
        have x1f := (hst.cell (p := ⟨w.heap.size + 1, 0, none⟩) (by simp only; omega) (by simp only; omega)).trans x1
        have hB8 : Below w.heap.size w ((w2.setCell ⟨g, o + i * 4 + 2, none⟩ (.slice Ar rest.length (c1 - 1))).setCell ⟨w.heap.size + 1, 0, none⟩ (.slice (some ⟨g, o, none⟩) xs.length c)) := (HB2.out.trans (hst.below (by omega) (fun k hk => by omega))).trans (hfin.below (by have := hst.size; omega) (fun k hk => by omega))
        have hs8 : w2.heap.size ≤ ((w2.setCell ⟨g, o + i * 4 + 2, none⟩ (.slice Ar rest.length (c1 - 1))).setCell ⟨w.heap.size + 1, 0, none⟩ (.slice (some ⟨g, o, none⟩) xs.length c)).heap.size := Nat.le_trans hst.size hfin.size
        have HR0 := Lib.hid ((R0.out.frame hst (fun b h1 h2 => by subst h2; exact hF0g h1)).frame hfin (fun b h1 h2 => by have := hF0T b h1; omega))
        have HS2 := Lib.hid (Sl.frame (R := EK true) EK.framed HS1 hfin (fun b h1 h2 => by omega))
        have X1F := Lib.hid x1f
        have HB8 := Lib.hid hB8
        have HF0T := Lib.hid hF0T
        clear hst oth fz hnew HS0 HS1 hfin x1f hB8
        go_wp2
        refine bodyPost_ret (v := PollV (some ⟨g, o, none⟩) c Bf cb0 (xs.set i ⟨sx, a, rest, l⟩, f0, true, true)) (by simp [PollV, results, Try.results26, go_sem, World.cell?_setCell_same _ _ _ X1F.out]; try omega) rfl ?_
        rw [HR.out]
        refine ⟨some ⟨g, o, none⟩, c, Bf, cb0, F0, rfl, Below.drew (Below.drew HB8.out), fun b hb => ?_, ?_, Rw.below HR0.out (Below.drew (Below.drew (Below.refl _ _)))⟩
        · have := HF0T.out b hb
          refine ⟨by omega, Nat.lt_of_lt_of_le (by omega : b < w2.heap.size) hs8⟩
        · refine (Sl.below (R := EK true) EK.framed HS2.out (Below.drew (Below.drew (Below.refl _ _)))).wider (fun b hb => ⟨⟨by omega, Nat.lt_of_lt_of_le (by omega : b < w2.heap.size) hs8⟩, hb.2⟩)
      · have h12 : ¬ (1 : Int) < (f.length : Int) := by have := HFL.out.1; omega
        have HR : Hid (pollR s xs = (xs.set i ⟨sx, a, rest, l⟩, f0, false, true)) := Lib.hid (by rw [HR1.out, decide_eq_false h1])
        go_wp2
        refine wp_region_held_drew (S := (fun w' => w'.cell? ⟨nb, 0, none⟩ = some (.slice (some ⟨g, o, none⟩) xs.length c))) (by kernel_rfl) ?_ (fun hHeld => ?_)
        · first | exact n0 | exact (World.cell?_setCell_far _ _ _ _ (by simp only; omega)).trans n0 | (simp [go_sem, *]; done)
        refine wpAnyH_takeW (i := 0) (d := some 36) (v := ?_) (by simp only [List.getElem?_toArray, List.getElem?_cons_succ, List.getElem?_cons_zero]; rfl) (by rfl) (by kernel_rfl) (by kernel_rfl) (by kernel_rfl) (by intro _ _ _ h; exact h) (by rfl) ?_ (by assumption) ?_
        rotate_left 1
        · (intro w hSw; (try dsimp only at hSw); go_simp; try (with_reducible rfl))
        (try simp only [Act.put, List.setIfInBounds_toArray, List.set_cons_zero, List.set_cons_succ])
        refine wpAnyH_takeW (i := 1) (d := some 37) (v := ?_) (by simp only [List.getElem?_toArray, List.getElem?_cons_succ, List.getElem?_cons_zero]; rfl) (by rfl) (by kernel_rfl) (by kernel_rfl) (by kernel_rfl) (by intro _ _ _ h; exact h) (by rfl) ?_ (by assumption) ?_
        rotate_left 1
        · (intro w hSw; (try dsimp only at hSw); go_simp; try (with_reducible rfl))
        (try simp only [Act.put, List.setIfInBounds_toArray, List.set_cons_zero, List.set_cons_succ])
        refine wpAnyH_takeW (i := 2) (d := some 38) (v := ?_) (by simp only [List.getElem?_toArray, List.getElem?_cons_succ, List.getElem?_cons_zero]; rfl) (by rfl) (by kernel_rfl) (by kernel_rfl) (by kernel_rfl) (by intro _ _ _ h; exact h) (by rfl) ?_ (by assumption) ?_
        rotate_left 1
        · (intro w hSw; (try dsimp only at hSw); go_simp; try (with_reducible rfl))
        (try simp only [Act.put, List.setIfInBounds_toArray, List.set_cons_zero, List.set_cons_succ])
        refine wpAnyH_takeW (i := 3) (d := some 39) (v := ?_) (by simp only [List.getElem?_toArray, List.getElem?_cons_succ, List.getElem?_cons_zero]; rfl) (by rfl) (by kernel_rfl) (by kernel_rfl) (by kernel_rfl) (by intro _ _ _ h; exact h) (by rfl) ?_ (by assumption) ?_
        rotate_left 1
        · (intro w hSw; (try dsimp only at hSw); go_simp; try (with_reducible rfl))
        (try simp only [Act.put, List.setIfInBounds_toArray, List.set_cons_zero, List.set_cons_succ])
        refine wpAnyH_takeW (i := 4) (d := some 40) (v := ?_) (by simp only [List.getElem?_toArray, List.getElem?_cons_succ, List.getElem?_cons_zero]; rfl) (by rfl) (by kernel_rfl) (by kernel_rfl) (by kernel_rfl) (by intro _ _ _ h; exact h) (by rfl) ?_ (by assumption) ?_
        rotate_left 1
        · (intro w hSw; (try dsimp only at hSw); go_simp; try (with_reducible rfl))
        (try simp only [Act.put, List.setIfInBounds_toArray, List.set_cons_zero, List.set_cons_succ])
        refine wpAnyH_takeW (i := 5) (d := some 41) (v := ?_) (by simp only [List.getElem?_toArray, List.getElem?_cons_succ, List.getElem?_cons_zero]; rfl) (by rfl) (by kernel_rfl) (by kernel_rfl) (by kernel_rfl) (by intro _ _ _ h; exact h) (by rfl) ?_ (by assumption) ?_
        rotate_left 1
        · (intro w hSw; (try dsimp only at hSw); go_simp; try (with_reducible rfl))
        (try simp only [Act.put, List.setIfInBounds_toArray, List.set_cons_zero, List.set_cons_succ])
        refine wpAnyH_takeW (i := 6) (d := some 42) (v := ?_) (by simp only [List.getElem?_toArray, List.getElem?_cons_succ, List.getElem?_cons_zero]; rfl) (by rfl) (by kernel_rfl) (by kernel_rfl) (by kernel_rfl) (by intro _ _ _ h; exact h) (by rfl) ?_ (by assumption) ?_
        rotate_left 1
        · (intro w hSw; (try dsimp only at hSw); go_simp; try (with_reducible rfl))
        (try simp only [Act.put, List.setIfInBounds_toArray, List.set_cons_zero, List.set_cons_succ])
        refine wpAnyH_ready (rs := [7]) (by kernel_rfl) (by simp) ?_
        refine (AllReadyH.cons (i := 7) (by simp only [List.getElem?_toArray, List.getElem?_cons_succ, List.getElem?_cons_zero]; rfl) (fun K hK => ?_) AllReadyH.nil)
        go_simp
        go_wp2_with fail
        refine hK.out _ _ ?_ (fun hHeld => ?_)
        · ((try dsimp only); first | exact n0 | exact (World.cell?_setCell_far _ _ _ _ (by simp only; omega)).trans n0 | (simp [go_sem, *]; done))
        clear hK K
        (try simp only [Act.put, List.setIfInBounds_toArray, List.set_cons_zero, List.set_cons_succ])
        refine wpAnyH_done (by kernel_rfl) ?_ _
        have n6 : (w2.setCell ⟨g, o + i * 4 + 2, none⟩ (.slice Ar rest.length (c1 - 1))).cell? ⟨nb, 0, none⟩ = some (.slice (some ⟨g, o, none⟩) xs.length c) := (World.cell?_setCell_far _ _ _ _ (by simp only; omega)).trans n0
        have p6 : (w2.setCell ⟨g, o + i * 4 + 2, none⟩ (.slice Ar rest.length (c1 - 1))).cell? ⟨gr, og, none⟩ = some (.slice Bf f0.length cb0) := (World.cell?_setCell_far _ _ _ _ (by simp only; omega)).trans hp0
        have x6 : (w2.setCell ⟨g, o + i * 4 + 2, none⟩ (.slice Ar rest.length (c1 - 1))).cell? ⟨w.heap.size + 1, 0, none⟩ = some (.slice none 0 0) := (World.cell?_setCell_far _ _ _ _ (by simp only; omega)).trans x1
        have y6 : (w2.setCell ⟨g, o + i * 4 + 2, none⟩ (.slice Ar rest.length (c1 - 1))).frozen? ⟨w.heap.size + 1, 0, none⟩ = false := (World.frozen?_setCell _ _ _ _).trans f1
        go_wp2
        refine wp_region_held_drew (S := (fun w' => w'.cell? ⟨nb, 0, none⟩ = some (.slice (some ⟨g, o, none⟩) xs.length c) ∧ w'.cell? ⟨gr, og, none⟩ = some (.slice Bf f0.length cb0))) (by kernel_rfl) ?_ (fun hHeld => ?_)
        · first | exact ⟨n6, p6⟩ | exact ⟨(World.cell?_setCell_far _ _ _ _ (by simp only; omega)).trans n6, (World.cell?_setCell_far _ _ _ _ (by simp only; omega)).trans p6⟩ | (simp [go_sem, *]; done)
        refine wpAnyH_takeW (i := 0) (d := some 43) (v := ?_) (by simp only [List.getElem?_toArray, List.getElem?_cons_succ, List.getElem?_cons_zero]; rfl) (by rfl) (by kernel_rfl) (by kernel_rfl) (by kernel_rfl) (by intro _ _ _ h; exact h) (by rfl) ?_ (by assumption) ?_
        rotate_left 1
        · (intro w hSw; (try dsimp only at hSw); go_simp; try (with_reducible rfl))
        (try simp only [Act.put, List.setIfInBounds_toArray, List.set_cons_zero, List.set_cons_succ])
        refine wpAnyH_takeW (i := 1) (d := some 44) (v := ?_) (by simp only [List.getElem?_toArray, List.getElem?_cons_succ, List.getElem?_cons_zero]; rfl) (by rfl) (by kernel_rfl) (by kernel_rfl) (by kernel_rfl) (by intro _ _ _ h; exact h) (by rfl) ?_ (by assumption) ?_
        rotate_left 1
        · (intro w hSw; (try dsimp only at hSw); go_simp; try (with_reducible rfl))
        (try simp only [Act.put, List.setIfInBounds_toArray, List.set_cons_zero, List.set_cons_succ])
        refine wpAnyH_takeW (i := 2) (d := some 45) (v := ?_) (by simp only [List.getElem?_toArray, List.getElem?_cons_succ, List.getElem?_cons_zero]; rfl) (by rfl) (by kernel_rfl) (by kernel_rfl) (by kernel_rfl) (by intro _ _ _ h; exact h) (by rfl) ?_ (by assumption) ?_
        rotate_left 1
        · (intro w hSw; (try dsimp only at hSw); go_simp; try (with_reducible rfl))
        (try simp only [Act.put, List.setIfInBounds_toArray, List.set_cons_zero, List.set_cons_succ])
        refine wpAnyH_takeW (i := 3) (d := some 46) (v := ?_) (by simp only [List.getElem?_toArray, List.getElem?_cons_succ, List.getElem?_cons_zero]; rfl) (by rfl) (by kernel_rfl) (by kernel_rfl) (by kernel_rfl) (by intro _ _ _ h; exact h) (by rfl) ?_ (by assumption) ?_
        rotate_left 1
        · (intro w hSw; (try dsimp only at hSw); go_simp; try (with_reducible rfl))
        (try simp only [Act.put, List.setIfInBounds_toArray, List.set_cons_zero, List.set_cons_succ])
        refine wpAnyH_takeW (i := 4) (d := some 47) (v := ?_) (by simp only [List.getElem?_toArray, List.getElem?_cons_succ, List.getElem?_cons_zero]; rfl) (by rfl) (by kernel_rfl) (by kernel_rfl) (by kernel_rfl) (by intro _ _ _ h; exact h) (by rfl) ?_ (by assumption) ?_
        rotate_left 1
        · (intro w hSw; (try dsimp only at hSw); go_simp; try (with_reducible rfl))
        (try simp only [Act.put, List.setIfInBounds_toArray, List.set_cons_zero, List.set_cons_succ])
        refine wpAnyH_takeW (i := 5) (d := some 48) (v := ?_) (by simp only [List.getElem?_toArray, List.getElem?_cons_succ, List.getElem?_cons_zero]; rfl) (by rfl) (by kernel_rfl) (by kernel_rfl) (by kernel_rfl) (by intro _ _ _ h; exact h) (by rfl) ?_ (by assumption) ?_
        rotate_left 1
        · (intro w hSw; (try dsimp only at hSw); go_simp; try (with_reducible rfl))
        (try simp only [Act.put, List.setIfInBounds_toArray, List.set_cons_zero, List.set_cons_succ])
        refine wpAnyH_takeW (i := 6) (d := some 49) (v := ?_) (by simp only [List.getElem?_toArray, List.getElem?_cons_succ, List.getElem?_cons_zero]; rfl) (by rfl) (by kernel_rfl) (by kernel_rfl) (by kernel_rfl) (by intro _ _ _ h; exact h) (by rfl) ?_ (by assumption) ?_
        rotate_left 1
        · (intro w hSw; (try dsimp only at hSw); go_simp; try (with_reducible rfl))
        (try simp only [Act.put, List.setIfInBounds_toArray, List.set_cons_zero, List.set_cons_succ])
        refine wpAnyH_ready (rs := [7]) (by kernel_rfl) (by simp) ?_
        refine (AllReadyH.cons (i := 7) (by simp only [List.getElem?_toArray, List.getElem?_cons_succ, List.getElem?_cons_zero]; rfl) (fun K hK => ?_) AllReadyH.nil)
        go_simp
        go_wp2_with fail
        refine hK.out _ _ ?_ (fun hHeld => ?_)
        · ((try dsimp only); first | exact ⟨n6, p6⟩ | exact ⟨(World.cell?_setCell_far _ _ _ _ (by simp only; omega)).trans n6, (World.cell?_setCell_far _ _ _ _ (by simp only; omega)).trans p6⟩ | (simp [go_sem, *]; done))
        clear hK K
        (try simp only [Act.put, List.setIfInBounds_toArray, List.set_cons_zero, List.set_cons_succ])
        refine wpAnyH_takeW (i := 8) (d := some 5) (v := ?_) (by simp only [List.getElem?_toArray, List.getElem?_cons_succ, List.getElem?_cons_zero]; rfl) (by rfl) (by kernel_rfl) (by kernel_rfl) (by kernel_rfl) (by intro _ _ _ h; exact h) (by rfl) ?_ (by assumption) ?_
        rotate_left 1
        · (intro w hSw; (try dsimp only at hSw); go_simp; try (with_reducible rfl))
        (try simp only [Act.put, List.setIfInBounds_toArray, List.set_cons_zero, List.set_cons_succ])
        refine wpAnyH_takeW (i := 9) (d := some 6) (v := ?_) (by simp only [List.getElem?_toArray, List.getElem?_cons_succ, List.getElem?_cons_zero]; rfl) (by rfl) (by kernel_rfl) (by kernel_rfl) (by kernel_rfl) (by intro _ _ _ h; exact h) (by rfl) ?_ (by assumption) ?_
        rotate_left 1
        · (intro w hSw; (try dsimp only at hSw); go_simp; try (with_reducible rfl))
        (try simp only [Act.put, List.setIfInBounds_toArray, List.set_cons_zero, List.set_cons_succ])
        refine wpAnyH_takeW (i := 10) (d := some 7) (v := ?_) (by simp only [List.getElem?_toArray, List.getElem?_cons_succ, List.getElem?_cons_zero]; rfl) (by rfl) (by kernel_rfl) (by kernel_rfl) (by kernel_rfl) (by intro _ _ _ h; exact h) (by rfl) ?_ (by assumption) ?_
        rotate_left 1
        · (intro w hSw; (try dsimp only at hSw); go_simp; try (with_reducible rfl))
        (try simp only [Act.put, List.setIfInBounds_toArray, List.set_cons_zero, List.set_cons_succ])
        refine wpAnyH_done (by kernel_rfl) ?_ _
        have hst : Chg (fun b => b = g) w2 (w2.setCell ⟨g, o + i * 4 + 2, none⟩ (.slice Ar rest.length (c1 - 1))) := Chg.setCell_ (S := fun b => b = g) (Chg.refl _ _) (p := ⟨g, o + i * 4 + 2, none⟩) rfl _
        have oth : ∀ j, j ≠ o + i * 4 + 2 → (w2.setCell ⟨g, o + i * 4 + 2, none⟩ (.slice Ar rest.length (c1 - 1))).cell? ⟨g, j, none⟩ = w2.cell? ⟨g, j, none⟩ := fun j hj => World.cell?_setCell_other _ _ _ _ (fun e => by injection e with _ e2; omega)
        have fz : ∀ p v, w2.frozen? p = v → (w2.setCell ⟨g, o + i * 4 + 2, none⟩ (.slice Ar rest.length (c1 - 1))).frozen? p = v := fun p v h => (World.frozen?_setCell _ _ _ _).trans h
        have hnew : Sl true 1 (EB true) (w2.setCell ⟨g, o + i * 4 + 2, none⟩ (.slice Ar rest.length (c1 - 1))) (fun b => Fk b ∧ ¬ F0 b) Ar rest := Sl.frame (R := EB true) EB.framed (fun hne => by rw [HAR.out (by cases rest with | nil => exact absurd rfl hne | cons _ _ => simp)]; exact HTL.out hne) hst (fun b h1 h2 => by subst h2; exact hnF h1.1)
        have HS0 := HSET.out (w2.setCell ⟨g, o + i * 4 + 2, none⟩ (.slice Ar rest.length (c1 - 1))) ⟨sx, a, rest, l⟩ (fun b => Fk b ∧ ¬ F0 b) (fun b hb => .inl hb.1) (hst.mono (fun b _ hb => .inl hb)) (fun j hj => ⟨oth j (by omega), World.frozen?_setCell _ _ _ _⟩)
          ⟨(oth _ (by omega)).trans hc0, (oth _ (by omega)).trans hc1, (oth _ (by omega)).trans hc3, fun _ => ⟨fz _ _ q0, fz _ _ q1, fz _ _ q3⟩, Ar, c1 - 1, World.cell?_setCell_same _ _ _ hc2, fun _ => ⟨fz _ _ q2, HRC.out⟩, hnew⟩
        have hF0T : ∀ b, F0 b → w.heap.size + 2 ≤ b ∧ b < nb := fun b hb => HFT.out b (hF0F b hb)
        have hF0g : ¬ F0 g := fun h => hnF (hF0F g h)
        have HS1 := Sl.wider (T' := fun b => (w.heap.size + 2 ≤ b ∧ b < nb) ∧ ¬ F0 b) HS0 (fun b hb => by
          rcases hb with hb | hb
          · exact ⟨hb.1, fun h => hb.2 (hF0F b h)⟩
          · exact ⟨HFT.out b hb.1, hb.2⟩)
        have hfin : Chg (fun b => b = w.heap.size + 1) (w2.setCell ⟨g, o + i * 4 + 2, none⟩ (.slice Ar rest.length (c1 - 1))) ((w2.setCell ⟨g, o + i * 4 + 2, none⟩ (.slice Ar rest.length (c1 - 1))).setCell ⟨w.heap.size + 1, 0, none⟩ (.slice (some ⟨g, o, none⟩) xs.length c)) := Chg.setCell_ (S := fun b => b = w.heap.size + 1) (Chg.refl _ _) (p := ⟨w.heap.size + 1, 0, none⟩) rfl _
        have x1f := (hst.cell (p := ⟨w.heap.size + 1, 0, none⟩) (by simp only; omega) (by simp only; omega)).trans x1
        have hB8 : Below w.heap.size w ((w2.setCell ⟨g, o + i * 4 + 2, none⟩ (.slice Ar rest.length (c1 - 1))).setCell ⟨w.heap.size + 1, 0, none⟩ (.slice (some ⟨g, o, none⟩) xs.length c)) := (HB2.out.trans (hst.below (by omega) (fun k hk => by omega))).trans (hfin.below (by have := hst.size; omega) (fun k hk => by omega))
        have hs8 : w2.heap.size ≤ ((w2.setCell ⟨g, o + i * 4 + 2, none⟩ (.slice Ar rest.length (c1 - 1))).setCell ⟨w.heap.size + 1, 0, none⟩ (.slice (some ⟨g, o, none⟩) xs.length c)).heap.size := Nat.le_trans hst.size hfin.size
        have HR0 := Lib.hid ((R0.out.frame hst (fun b h1 h2 => by subst h2; exact hF0g h1)).frame hfin (fun b h1 h2 => by have := hF0T b h1; omega))
        have HS2 := Lib.hid (Sl.frame (R := EK true) EK.framed HS1 hfin (fun b h1 h2 => by omega))
        have X1F := Lib.hid x1f
        have HB8 := Lib.hid hB8
        have HF0T := Lib.hid hF0T
        clear hst oth fz hnew HS0 HS1 hfin x1f hB8
        go_wp2
        refine bodyPost_ret (v := PollV (some ⟨g, o, none⟩) c Bf cb0 (xs.set i ⟨sx, a, rest, l⟩, f0, false, true)) (by simp [PollV, results, Try.results26, go_sem, World.cell?_setCell_same _ _ _ X1F.out]; try omega) rfl ?_
        rw [HR.out]
        refine ⟨some ⟨g, o, none⟩, c, Bf, cb0, F0, rfl, Below.drew (Below.drew HB8.out), fun b hb => ?_, ?_, Rw.below HR0.out (Below.drew (Below.drew (Below.refl _ _)))⟩
        · have := HF0T.out b hb
          refine ⟨by omega, Nat.lt_of_lt_of_le (by omega : b < w2.heap.size) hs8⟩
        · refine (Sl.below (R := EK true) EK.framed HS2.out (Below.drew (Below.drew (Below.refl _ _)))).wider (fun b hb => ⟨⟨by omega, Nat.lt_of_lt_of_le (by omega : b < w2.heap.size) hs8⟩, hb.2⟩)

end Go.Proofs.Ytbfbjkcmehalhaa
