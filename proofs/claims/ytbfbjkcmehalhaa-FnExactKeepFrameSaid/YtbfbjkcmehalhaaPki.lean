/- KeepFrame of the program. -/
import Derived.Test.YtbfbjkcmehalhaaPkb
import Derived.Test.YtbfbjkcmehalhaaHeld
namespace Go.Proofs.Ytbfbjkcmehalhaa
open Go.RowKit
set_option linter.unusedVariables false
set_option linter.unusedSimpArgs false

set_option maxHeartbeats 8000000 in
theorem implKeep_any {T T2 : Nat → Prop} {ub : Bool} (s : Int) (A0 : Option Addr) (c0 : Nat) (xs : List KT) (B : Option Addr) (cb : Nat) (body : List Int) (w : World) (hx : Sl false 4 (EK false) w T A0 xs) (hm : xs.length ≤ 1000000000) (hlx : ∀ x ∈ xs, x.fr.length ≤ 1000000000 ∧ ∀ f ∈ x.fr, f.length ≤ 1000000000) (hbd : Rw ub .u8 w T2 B body) (hbl : body.length ≤ 1000000000) :
    Calls Try.prog 32 #[.agg #[.slice A0 xs.length c0], .int .i64 s, .slice B body.length cb] w fun e w' => CpK w (keepR s body xs) e w' := by
  obtain ⟨i0, hI0, hz0, hz1, hz2⟩ := info_parts infoByteSS
  obtain ⟨j0, hj, hy0, hy1, hy2⟩ := info_parts infoU8
  have HX := Lib.hid hx
  have HLX := Lib.hid hlx
  have RB := Lib.hid hbd
  clear hx hlx hbd
  rcases fV_cases s xs with h | ⟨i, hi, h, _⟩
  · have HE := Lib.hid h
    have HR := Lib.hid (keepR_no (b := body) h)
    clear h
    go_enter Try.func32, Try.ntmps32
    go_wp2_with fail
    refine (copyPB_any A0 c0 xs _ (Sl.below (R := EK false) EK.framed HX.out (by repeat (first | (with_reducible exact Below.refl _ _) | (with_reducible refine Below.ext ?_ (by go_size) _ _) | (with_reducible refine Below.alloc ?_ (by go_size) _) | (with_reducible refine Below.setCell ?_ (by go_size) _) | (with_reducible refine Below.drew ?_) | (with_reducible refine Below.drewN_ ?_ _)))) hm HLX.out).mono ?_
    rintro e w1 ⟨A, c, rfl, hb, hin⟩
    have hs1 := hb.size
    have x0 := hb.cell (p := ⟨w.heap.size, 0, none⟩) (by simp; try omega)
    have x1 := hb.cell (p := ⟨w.heap.size + 1, 0, none⟩) (by simp)
    have f1 := hb.frozen (p := ⟨w.heap.size + 1, 0, none⟩) (by simp)
    simp [go_sem] at x0 x1 f1 hs1
    have hB1 : Below w.heap.size w w1 := Below.trans (by repeat (first | (with_reducible exact Below.refl _ _) | (with_reducible refine Below.ext ?_ (by go_size) _ _) | (with_reducible refine Below.alloc ?_ (by go_size) _) | (with_reducible refine Below.setCell ?_ (by go_size) _) | (with_reducible refine Below.drew ?_) | (with_reducible refine Below.drewN_ ?_ _))) (hb.mono (by simp; try omega))
    have hin1 := hin.wider (T' := fun b => w.heap.size + 2 ≤ b ∧ b < w1.heap.size) (fun b hb => by simp at hb; omega)
    obtain ⟨nb, hnb⟩ : ∃ nb, nb = w1.heap.size := ⟨_, rfl⟩
    have hal : Below w1.heap.size w1 (w1.alloc (.cells #[.slice A xs.length c] 29)) := Below.alloc (Below.refl _ _) (Nat.le_refl _) _
    have HBB := Lib.hid (hB1.trans (hal.mono (by omega)))
    have HIB := Lib.hid (Sl.below (R := EKO) EKO.framed hin1 hal)
    have hl1 : w1.heap.size < (w1.alloc (.cells #[.slice A xs.length c] 29)).heap.size := by simp
    have XB := Lib.hid (block_cell (World.heap_new w1 (.cells #[.slice A xs.length c] 29) _ rfl) 0).1
    have XB0 := Lib.hid ((hal.cell (p := ⟨w.heap.size, 0, none⟩) (by simp only; omega)).trans x0)
    have XB1 := Lib.hid ((hal.cell (p := ⟨w.heap.size + 1, 0, none⟩) (by simp only; omega)).trans x1)
    have FB1 := Lib.hid ((hal.frozen (p := ⟨w.heap.size + 1, 0, none⟩) (by simp only; omega)).trans f1)
    have hb2w : w.heap.size < w1.heap.size := by omega
    clear hb hin hin1 hB1 hal x1 f1
    go_wp2_with fail
    refine (implFind_any s A c xs _ (SlK.read (SlO.ek HIB.out)) hm).mono ?_
    rw [HE.out]
    rintro e w2 ⟨rfl, hb⟩
    have hs2 := hb.size
    simp only [World.size_alloc] at hs2
    have HB2 := Lib.hid (HBB.out.trans (hb.mono (by simp; omega)))
    have HI2 := Lib.hid (Sl.below (R := EKO) EKO.framed HIB.out hb)
    have n0 : w2.cell? ⟨w1.heap.size, 0, none⟩ = some (.slice A xs.length c) := (hb.cell (p := ⟨w1.heap.size, 0, none⟩) hl1).trans XB.out
    have x0 := (hb.cell (p := ⟨w.heap.size, 0, none⟩) (by simp; omega)).trans XB0.out
    have x1 := (hb.cell (p := ⟨w.heap.size + 1, 0, none⟩) (by simp; omega)).trans XB1.out
    have f1 := (hb.frozen (p := ⟨w.heap.size + 1, 0, none⟩) (by simp; omega)).trans FB1.out
    clear hb HIB HBB XB XB0 XB1 FB1 hl1
    rw [← hnb] at n0 ⊢
    have hnw : w.heap.size + 2 ≤ nb := by omega
    have hnw2 : nb < w2.heap.size := by omega
    rw [← hnb] at HI2
    clear hnb hs1 hs2 hb2w
    have hfin : Chg (fun b => b = w.heap.size + 1) w2 (w2.setCell ⟨w.heap.size + 1, 0, none⟩ (.slice A xs.length c)) := Chg.setCell_ (S := fun b => b = w.heap.size + 1) (Chg.refl _ _) (p := ⟨w.heap.size + 1, 0, none⟩) rfl _
    have HF := Lib.hid hfin
    clear hfin
    go_wp2
    refine bodyPost_ret (v := .tuple #[.agg #[.slice A xs.length c], .bool true]) (by simp [results, Try.results32, go_sem, World.cell?_setCell_same _ _ _ x1]) rfl ?_
    rw [HR.out]
    refine ⟨A, c, rfl, HB2.out.trans (HF.out.below (by omega) (fun k hk => by omega)), ?_⟩
    refine (Sl.frame (R := EK true) EK.framed (SlO.ek HI2.out) HF.out (fun b hb h2 => by omega)).wider (fun b hb => ?_)
    have := HF.out.size
    omega
  · have HE := Lib.hid h
    cases haz : xs[i].az
    · have HR := Lib.hid (keepR_az (b := body) hi h haz)
      clear h
      go_enter Try.func32, Try.ntmps32
      go_wp2_with fail
      refine (copyPB_any A0 c0 xs _ (Sl.below (R := EK false) EK.framed HX.out (by repeat (first | (with_reducible exact Below.refl _ _) | (with_reducible refine Below.ext ?_ (by go_size) _ _) | (with_reducible refine Below.alloc ?_ (by go_size) _) | (with_reducible refine Below.setCell ?_ (by go_size) _) | (with_reducible refine Below.drew ?_) | (with_reducible refine Below.drewN_ ?_ _)))) hm HLX.out).mono ?_
      rintro e w1 ⟨A, c, rfl, hb, hin⟩
      have hs1 := hb.size
      have x0 := hb.cell (p := ⟨w.heap.size, 0, none⟩) (by simp; try omega)
      have x1 := hb.cell (p := ⟨w.heap.size + 1, 0, none⟩) (by simp)
      have f1 := hb.frozen (p := ⟨w.heap.size + 1, 0, none⟩) (by simp)
      simp [go_sem] at x0 x1 f1 hs1
      have hB1 : Below w.heap.size w w1 := Below.trans (by repeat (first | (with_reducible exact Below.refl _ _) | (with_reducible refine Below.ext ?_ (by go_size) _ _) | (with_reducible refine Below.alloc ?_ (by go_size) _) | (with_reducible refine Below.setCell ?_ (by go_size) _) | (with_reducible refine Below.drew ?_) | (with_reducible refine Below.drewN_ ?_ _))) (hb.mono (by simp; try omega))
      have hin1 := hin.wider (T' := fun b => w.heap.size + 2 ≤ b ∧ b < w1.heap.size) (fun b hb => by simp at hb; omega)
      obtain ⟨nb, hnb⟩ : ∃ nb, nb = w1.heap.size := ⟨_, rfl⟩
      have hal : Below w1.heap.size w1 (w1.alloc (.cells #[.slice A xs.length c] 29)) := Below.alloc (Below.refl _ _) (Nat.le_refl _) _
      have HBB := Lib.hid (hB1.trans (hal.mono (by omega)))
      have HIB := Lib.hid (Sl.below (R := EKO) EKO.framed hin1 hal)
      have hl1 : w1.heap.size < (w1.alloc (.cells #[.slice A xs.length c] 29)).heap.size := by simp
      have XB := Lib.hid (block_cell (World.heap_new w1 (.cells #[.slice A xs.length c] 29) _ rfl) 0).1
      have XB0 := Lib.hid ((hal.cell (p := ⟨w.heap.size, 0, none⟩) (by simp only; omega)).trans x0)
      have XB1 := Lib.hid ((hal.cell (p := ⟨w.heap.size + 1, 0, none⟩) (by simp only; omega)).trans x1)
      have FB1 := Lib.hid ((hal.frozen (p := ⟨w.heap.size + 1, 0, none⟩) (by simp only; omega)).trans f1)
      have hb2w : w.heap.size < w1.heap.size := by omega
      clear hb hin hin1 hB1 hal x1 f1
      go_wp2_with fail
      refine (implFind_any s A c xs _ (SlK.read (SlO.ek HIB.out)) hm).mono ?_
      rw [HE.out]
      rintro e w2 ⟨rfl, hb⟩
      have hs2 := hb.size
      simp only [World.size_alloc] at hs2
      have HB2 := Lib.hid (HBB.out.trans (hb.mono (by simp; omega)))
      have HI2 := Lib.hid (Sl.below (R := EKO) EKO.framed HIB.out hb)
      have n0 : w2.cell? ⟨w1.heap.size, 0, none⟩ = some (.slice A xs.length c) := (hb.cell (p := ⟨w1.heap.size, 0, none⟩) hl1).trans XB.out
      have x0 := (hb.cell (p := ⟨w.heap.size, 0, none⟩) (by simp; omega)).trans XB0.out
      have x1 := (hb.cell (p := ⟨w.heap.size + 1, 0, none⟩) (by simp; omega)).trans XB1.out
      have f1 := (hb.frozen (p := ⟨w.heap.size + 1, 0, none⟩) (by simp; omega)).trans FB1.out
      clear hb HIB HBB XB XB0 XB1 FB1 hl1
      rw [← hnb] at n0 ⊢
      have hnw : w.heap.size + 2 ≤ nb := by omega
      have hnw2 : nb < w2.heap.size := by omega
      rw [← hnb] at HI2
      clear hnb hs1 hs2 hb2w
      obtain ⟨g, o, Fk, rfl, hg, ⟨hgT, hgn⟩, hnF, hFT, hel, hset⟩ := Sl.open_new (R := EKO) EKO.local_ HI2.out i hi
      obtain ⟨hc0, hc1, hc3, q0, q1, q3, q2, gr, cf, hc2, hgr, hof⟩ := hel
      have HSET := Lib.hid hset
      have HOF := Lib.hid hof
      have HFT := Lib.hid hFT
      have hgrT := hFT gr hgr
      have hlt2 : (i : Int) < (xs.length : Int) := by omega
      have hii : ¬ (i : Int) < 0 := by omega
      have hiw : IntKind.i64.wrap (i : Int) = (i : Int) := by rw [IntKind.wrap_i64]; omega
      clear hset hof hFT
      generalize hxe : xs[i] = x at *
      obtain ⟨sx, a, f, l⟩ := x
      simp only at haz
      subst haz
      simp only at hc0 hc1 hc2 hc3 HOF 

      have hfin : Chg (fun b => b = w.heap.size + 1) w2 (w2.setCell ⟨w.heap.size + 1, 0, none⟩ (.slice (some ⟨g, o, none⟩) xs.length c)) := Chg.setCell_ (S := fun b => b = w.heap.size + 1) (Chg.refl _ _) (p := ⟨w.heap.size + 1, 0, none⟩) rfl _
      have HF := Lib.hid hfin
      clear hfin
      go_wp2
      refine bodyPost_ret (v := .tuple #[.agg #[.slice (some ⟨g, o, none⟩) xs.length c], .bool true]) (by simp [results, Try.results32, go_sem, World.cell?_setCell_same _ _ _ x1]) rfl ?_
      rw [HR.out]
      refine ⟨some ⟨g, o, none⟩, c, rfl, HB2.out.trans (HF.out.below (by omega) (fun k hk => by omega)), ?_⟩
      refine (Sl.frame (R := EK true) EK.framed (SlO.ek HI2.out) HF.out (fun b hb h2 => by omega)).wider (fun b hb => ?_)
      have := HF.out.size
      omega
    · have HR0 := Lib.hid (keepR_yes (b := body) hi h haz)
      clear h
      have HFL : Hid (xs[i].fr.length ≤ 1000000000) := Lib.hid (HLX.out _ (List.getElem_mem hi)).1
      by_cases hfull : 6 ≤ xs[i].fr.length ∨ 100 < body.length
      · have HR : Hid (keepR s body xs = (xs.set i ⟨xs[i].st, xs[i].az, xs[i].fr, wrap64 (xs[i].lo + 1)⟩, false)) := Lib.hid (by rw [HR0.out, keepK, if_pos hfull])
        clear HR0
        go_enter Try.func32, Try.ntmps32
        go_wp2_with fail
        refine (copyPB_any A0 c0 xs _ (Sl.below (R := EK false) EK.framed HX.out (by repeat (first | (with_reducible exact Below.refl _ _) | (with_reducible refine Below.ext ?_ (by go_size) _ _) | (with_reducible refine Below.alloc ?_ (by go_size) _) | (with_reducible refine Below.setCell ?_ (by go_size) _) | (with_reducible refine Below.drew ?_) | (with_reducible refine Below.drewN_ ?_ _)))) hm HLX.out).mono ?_
        rintro e w1 ⟨A, c, rfl, hb, hin⟩
        have hs1 := hb.size
        have x0 := hb.cell (p := ⟨w.heap.size, 0, none⟩) (by simp; try omega)
        have x1 := hb.cell (p := ⟨w.heap.size + 1, 0, none⟩) (by simp)
        have f1 := hb.frozen (p := ⟨w.heap.size + 1, 0, none⟩) (by simp)
        simp [go_sem] at x0 x1 f1 hs1
        have hB1 : Below w.heap.size w w1 := Below.trans (by repeat (first | (with_reducible exact Below.refl _ _) | (with_reducible refine Below.ext ?_ (by go_size) _ _) | (with_reducible refine Below.alloc ?_ (by go_size) _) | (with_reducible refine Below.setCell ?_ (by go_size) _) | (with_reducible refine Below.drew ?_) | (with_reducible refine Below.drewN_ ?_ _))) (hb.mono (by simp; try omega))
        have hin1 := hin.wider (T' := fun b => w.heap.size + 2 ≤ b ∧ b < w1.heap.size) (fun b hb => by simp at hb; omega)
        obtain ⟨nb, hnb⟩ : ∃ nb, nb = w1.heap.size := ⟨_, rfl⟩
        have hal : Below w1.heap.size w1 (w1.alloc (.cells #[.slice A xs.length c] 29)) := Below.alloc (Below.refl _ _) (Nat.le_refl _) _
        have HBB := Lib.hid (hB1.trans (hal.mono (by omega)))
        have HIB := Lib.hid (Sl.below (R := EKO) EKO.framed hin1 hal)
        have hl1 : w1.heap.size < (w1.alloc (.cells #[.slice A xs.length c] 29)).heap.size := by simp
        have XB := Lib.hid (block_cell (World.heap_new w1 (.cells #[.slice A xs.length c] 29) _ rfl) 0).1
        have XB0 := Lib.hid ((hal.cell (p := ⟨w.heap.size, 0, none⟩) (by simp only; omega)).trans x0)
        have XB1 := Lib.hid ((hal.cell (p := ⟨w.heap.size + 1, 0, none⟩) (by simp only; omega)).trans x1)
        have FB1 := Lib.hid ((hal.frozen (p := ⟨w.heap.size + 1, 0, none⟩) (by simp only; omega)).trans f1)
        have hb2w : w.heap.size < w1.heap.size := by omega
        clear hb hin hin1 hB1 hal x1 f1
        go_wp2_with fail
        refine (implFind_any s A c xs _ (SlK.read (SlO.ek HIB.out)) hm).mono ?_
        rw [HE.out]
        rintro e w2 ⟨rfl, hb⟩
        have hs2 := hb.size
        simp only [World.size_alloc] at hs2
        have HB2 := Lib.hid (HBB.out.trans (hb.mono (by simp; omega)))
        have HI2 := Lib.hid (Sl.below (R := EKO) EKO.framed HIB.out hb)
        have n0 : w2.cell? ⟨w1.heap.size, 0, none⟩ = some (.slice A xs.length c) := (hb.cell (p := ⟨w1.heap.size, 0, none⟩) hl1).trans XB.out
        have x0 := (hb.cell (p := ⟨w.heap.size, 0, none⟩) (by simp; omega)).trans XB0.out
        have x1 := (hb.cell (p := ⟨w.heap.size + 1, 0, none⟩) (by simp; omega)).trans XB1.out
        have f1 := (hb.frozen (p := ⟨w.heap.size + 1, 0, none⟩) (by simp; omega)).trans FB1.out
        clear hb HIB HBB XB XB0 XB1 FB1 hl1
        rw [← hnb] at n0 ⊢
        have hnw : w.heap.size + 2 ≤ nb := by omega
        have hnw2 : nb < w2.heap.size := by omega
        rw [← hnb] at HI2
        clear hnb hs1 hs2 hb2w
        obtain ⟨g, o, Fk, rfl, hg, ⟨hgT, hgn⟩, hnF, hFT, hel, hset⟩ := Sl.open_new (R := EKO) EKO.local_ HI2.out i hi
        obtain ⟨hc0, hc1, hc3, q0, q1, q3, q2, gr, cf, hc2, hgr, hof⟩ := hel
        have HSET := Lib.hid hset
        have HOF := Lib.hid hof
        have HFT := Lib.hid hFT
        have hgrT := hFT gr hgr
        have hlt2 : (i : Int) < (xs.length : Int) := by omega
        have hii : ¬ (i : Int) < 0 := by omega
        have hiw : IntKind.i64.wrap (i : Int) = (i : Int) := by rw [IntKind.wrap_i64]; omega
        clear hset hof hFT
        generalize hxe : xs[i] = x at *
        obtain ⟨sx, a, f, l⟩ := x
        simp only at haz
        subst haz
        simp only at hc0 hc1 hc2 hc3 HOF HFL hfull HR 

        by_cases h6 : 6 ≤ f.length
        · have h62 : (6 : Int) ≤ (f.length : Int) := by omega
          have hst : Chg (fun b => b = g) w2 (w2.setCell ⟨g, o + i * 4 + 3, none⟩ (.int .i64 (wrap64 (l + 1)))) := Chg.setCell_ (S := fun b => b = g) (Chg.refl _ _) (p := ⟨g, o + i * 4 + 3, none⟩) rfl _
          have oth : ∀ j, j ≠ o + i * 4 + 3 → (w2.setCell ⟨g, o + i * 4 + 3, none⟩ (.int .i64 (wrap64 (l + 1)))).cell? ⟨g, j, none⟩ = w2.cell? ⟨g, j, none⟩ := fun j hj => World.cell?_setCell_other _ _ _ _ (fun e => by injection e with _ e2; omega)
          have fz : ∀ p v, w2.frozen? p = v → (w2.setCell ⟨g, o + i * 4 + 3, none⟩ (.int .i64 (wrap64 (l + 1)))).frozen? p = v := fun p v h => (World.frozen?_setCell _ _ _ _).trans h
          have HS0 := HSET.out (w2.setCell ⟨g, o + i * 4 + 3, none⟩ (.int .i64 (wrap64 (l + 1)))) ⟨sx, true, f, wrap64 (l + 1)⟩ Fk (fun b hb => .inl hb) (hst.mono (fun b _ hb => .inl hb)) (fun j hj => ⟨oth j (by omega), World.frozen?_setCell _ _ _ _⟩)
            ⟨(oth _ (by omega)).trans hc0, (oth _ (by omega)).trans hc1, World.cell?_setCell_same _ _ _ hc3, fz _ _ q0, fz _ _ q1, fz _ _ q3, fz _ _ q2, gr, cf, (oth _ (by omega)).trans hc2, hgr, OwS.frame (R := EB true) EB.framed HOF.out hst (fun b h1 h2 => by subst h2; exact hnF h1) (fun a' ha' h2 => by injection ha' with ha'; subst ha'; exact hnF (by simp only at h2; rw [← h2]; exact hgr))⟩
          have HS : Hid (Sl true 4 (EK true) (w2.setCell ⟨g, o + i * 4 + 3, none⟩ (.int .i64 (wrap64 (l + 1)))) (fun b => w.heap.size + 2 ≤ b ∧ b < nb) (some ⟨g, o, none⟩) (xs.set i ⟨sx, true, f, wrap64 (l + 1)⟩)) := Lib.hid ((SlO.ek HS0).wider (fun b hb => by rcases hb with hb | hb; exact hb.1; exact HFT.out b hb))
          have HBF := Lib.hid (HB2.out.trans (hst.below (by omega) (fun k hk => by omega)))
          have hne1 : ¬ g = w.heap.size + 1 := by omega
          have hne2 : ¬ w.heap.size + 1 = g := by omega
          have hne3 : ¬ g = nb := by omega
          have hne4 : ¬ nb = g := by omega
          have x1f : (w2.setCell ⟨g, o + i * 4 + 3, none⟩ (.int .i64 (wrap64 (l + 1)))).cell? ⟨w.heap.size + 1, 0, none⟩ = some (.slice none 0 0) := (hst.cell (p := ⟨w.heap.size + 1, 0, none⟩) (by simp only; omega) (by simp only; omega)).trans x1
          have f1f : (w2.setCell ⟨g, o + i * 4 + 3, none⟩ (.int .i64 (wrap64 (l + 1)))).frozen? ⟨w.heap.size + 1, 0, none⟩ = false := (hst.frozen (p := ⟨w.heap.size + 1, 0, none⟩) (by simp only; omega) (by simp only; omega)).trans f1
          have n0f : (w2.setCell ⟨g, o + i * 4 + 3, none⟩ (.int .i64 (wrap64 (l + 1)))).cell? ⟨nb, 0, none⟩ = some (.slice (some ⟨g, o, none⟩) xs.length c) := (hst.cell (p := ⟨nb, 0, none⟩) (by simp only; omega) (by simp only; omega)).trans n0
          have X1f := Lib.hid x1f
          have hnwl : w2.heap.size ≤ (w2.setCell ⟨g, o + i * 4 + 3, none⟩ (.int .i64 (wrap64 (l + 1)))).heap.size := hst.size
          clear hst oth fz HS0
          have hfin : Chg (fun b => b = w.heap.size + 1) (w2.setCell ⟨g, o + i * 4 + 3, none⟩ (.int .i64 (wrap64 (l + 1)))) ((w2.setCell ⟨g, o + i * 4 + 3, none⟩ (.int .i64 (wrap64 (l + 1)))).setCell ⟨w.heap.size + 1, 0, none⟩ (.slice (some ⟨g, o, none⟩) xs.length c)) := Chg.setCell_ (S := fun b => b = w.heap.size + 1) (Chg.refl _ _) (p := ⟨w.heap.size + 1, 0, none⟩) rfl _
          have HF := Lib.hid hfin
          clear hfin
          go_wp2
          refine bodyPost_ret (v := .tuple #[.agg #[.slice (some ⟨g, o, none⟩) xs.length c], .bool false]) (by simp [results, Try.results32, go_sem, World.cell?_setCell_same _ _ _ X1f.out]) rfl ?_
          rw [HR.out]
          refine ⟨some ⟨g, o, none⟩, c, by simp, HBF.out.trans (HF.out.below (by have := HBF.out.size; omega) (fun k hk => by omega)), ?_⟩
          refine (Sl.frame (R := EK true) EK.framed HS.out HF.out (fun b hb h2 => by omega)).wider (fun b hb => ?_)
          have := HF.out.size
          omega
        · have h62 : ¬ (6 : Int) ≤ (f.length : Int) := by omega
          have h100 : (100 : Int) < (body.length : Int) := by omega
          have hst : Chg (fun b => b = g) w2 (w2.setCell ⟨g, o + i * 4 + 3, none⟩ (.int .i64 (wrap64 (l + 1)))) := Chg.setCell_ (S := fun b => b = g) (Chg.refl _ _) (p := ⟨g, o + i * 4 + 3, none⟩) rfl _
          have oth : ∀ j, j ≠ o + i * 4 + 3 → (w2.setCell ⟨g, o + i * 4 + 3, none⟩ (.int .i64 (wrap64 (l + 1)))).cell? ⟨g, j, none⟩ = w2.cell? ⟨g, j, none⟩ := fun j hj => World.cell?_setCell_other _ _ _ _ (fun e => by injection e with _ e2; omega)
          have fz : ∀ p v, w2.frozen? p = v → (w2.setCell ⟨g, o + i * 4 + 3, none⟩ (.int .i64 (wrap64 (l + 1)))).frozen? p = v := fun p v h => (World.frozen?_setCell _ _ _ _).trans h
          have HS0 := HSET.out (w2.setCell ⟨g, o + i * 4 + 3, none⟩ (.int .i64 (wrap64 (l + 1)))) ⟨sx, true, f, wrap64 (l + 1)⟩ Fk (fun b hb => .inl hb) (hst.mono (fun b _ hb => .inl hb)) (fun j hj => ⟨oth j (by omega), World.frozen?_setCell _ _ _ _⟩)
            ⟨(oth _ (by omega)).trans hc0, (oth _ (by omega)).trans hc1, World.cell?_setCell_same _ _ _ hc3, fz _ _ q0, fz _ _ q1, fz _ _ q3, fz _ _ q2, gr, cf, (oth _ (by omega)).trans hc2, hgr, OwS.frame (R := EB true) EB.framed HOF.out hst (fun b h1 h2 => by subst h2; exact hnF h1) (fun a' ha' h2 => by injection ha' with ha'; subst ha'; exact hnF (by simp only at h2; rw [← h2]; exact hgr))⟩
          have HS : Hid (Sl true 4 (EK true) (w2.setCell ⟨g, o + i * 4 + 3, none⟩ (.int .i64 (wrap64 (l + 1)))) (fun b => w.heap.size + 2 ≤ b ∧ b < nb) (some ⟨g, o, none⟩) (xs.set i ⟨sx, true, f, wrap64 (l + 1)⟩)) := Lib.hid ((SlO.ek HS0).wider (fun b hb => by rcases hb with hb | hb; exact hb.1; exact HFT.out b hb))
          have HBF := Lib.hid (HB2.out.trans (hst.below (by omega) (fun k hk => by omega)))
          have hne1 : ¬ g = w.heap.size + 1 := by omega
          have hne2 : ¬ w.heap.size + 1 = g := by omega
          have hne3 : ¬ g = nb := by omega
          have hne4 : ¬ nb = g := by omega
          have x1f : (w2.setCell ⟨g, o + i * 4 + 3, none⟩ (.int .i64 (wrap64 (l + 1)))).cell? ⟨w.heap.size + 1, 0, none⟩ = some (.slice none 0 0) := (hst.cell (p := ⟨w.heap.size + 1, 0, none⟩) (by simp only; omega) (by simp only; omega)).trans x1
          have f1f : (w2.setCell ⟨g, o + i * 4 + 3, none⟩ (.int .i64 (wrap64 (l + 1)))).frozen? ⟨w.heap.size + 1, 0, none⟩ = false := (hst.frozen (p := ⟨w.heap.size + 1, 0, none⟩) (by simp only; omega) (by simp only; omega)).trans f1
          have n0f : (w2.setCell ⟨g, o + i * 4 + 3, none⟩ (.int .i64 (wrap64 (l + 1)))).cell? ⟨nb, 0, none⟩ = some (.slice (some ⟨g, o, none⟩) xs.length c) := (hst.cell (p := ⟨nb, 0, none⟩) (by simp only; omega) (by simp only; omega)).trans n0
          have X1f := Lib.hid x1f
          have hnwl : w2.heap.size ≤ (w2.setCell ⟨g, o + i * 4 + 3, none⟩ (.int .i64 (wrap64 (l + 1)))).heap.size := hst.size
          clear hst oth fz HS0
          have hfin : Chg (fun b => b = w.heap.size + 1) (w2.setCell ⟨g, o + i * 4 + 3, none⟩ (.int .i64 (wrap64 (l + 1)))) ((w2.setCell ⟨g, o + i * 4 + 3, none⟩ (.int .i64 (wrap64 (l + 1)))).setCell ⟨w.heap.size + 1, 0, none⟩ (.slice (some ⟨g, o, none⟩) xs.length c)) := Chg.setCell_ (S := fun b => b = w.heap.size + 1) (Chg.refl _ _) (p := ⟨w.heap.size + 1, 0, none⟩) rfl _
          have HF := Lib.hid hfin
          clear hfin
          go_wp2
          refine bodyPost_ret (v := .tuple #[.agg #[.slice (some ⟨g, o, none⟩) xs.length c], .bool false]) (by simp [results, Try.results32, go_sem, World.cell?_setCell_same _ _ _ X1f.out]) rfl ?_
          rw [HR.out]
          refine ⟨some ⟨g, o, none⟩, c, by simp, HBF.out.trans (HF.out.below (by have := HBF.out.size; omega) (fun k hk => by omega)), ?_⟩
          refine (Sl.frame (R := EK true) EK.framed HS.out HF.out (fun b hb h2 => by omega)).wider (fun b hb => ?_)
          have := HF.out.size
          omega
      · have HR : Hid (keepR s body xs = (xs.set i ⟨xs[i].st, xs[i].az, xs[i].fr ++ [body], xs[i].lo⟩, false)) := Lib.hid (by rw [HR0.out, keepK, if_neg hfull])
        clear HR0
        go_enter Try.func32, Try.ntmps32
        go_wp2_with fail
        refine (copyPB_any A0 c0 xs _ (Sl.below (R := EK false) EK.framed HX.out (by repeat (first | (with_reducible exact Below.refl _ _) | (with_reducible refine Below.ext ?_ (by go_size) _ _) | (with_reducible refine Below.alloc ?_ (by go_size) _) | (with_reducible refine Below.setCell ?_ (by go_size) _) | (with_reducible refine Below.drew ?_) | (with_reducible refine Below.drewN_ ?_ _)))) hm HLX.out).mono ?_
        rintro e w1 ⟨A, c, rfl, hb, hin⟩
        have hs1 := hb.size
        have x0 := hb.cell (p := ⟨w.heap.size, 0, none⟩) (by simp; try omega)
        have x1 := hb.cell (p := ⟨w.heap.size + 1, 0, none⟩) (by simp)
        have f1 := hb.frozen (p := ⟨w.heap.size + 1, 0, none⟩) (by simp)
        simp [go_sem] at x0 x1 f1 hs1
        have hB1 : Below w.heap.size w w1 := Below.trans (by repeat (first | (with_reducible exact Below.refl _ _) | (with_reducible refine Below.ext ?_ (by go_size) _ _) | (with_reducible refine Below.alloc ?_ (by go_size) _) | (with_reducible refine Below.setCell ?_ (by go_size) _) | (with_reducible refine Below.drew ?_) | (with_reducible refine Below.drewN_ ?_ _))) (hb.mono (by simp; try omega))
        have hin1 := hin.wider (T' := fun b => w.heap.size + 2 ≤ b ∧ b < w1.heap.size) (fun b hb => by simp at hb; omega)
        obtain ⟨nb, hnb⟩ : ∃ nb, nb = w1.heap.size := ⟨_, rfl⟩
        have hal : Below w1.heap.size w1 (w1.alloc (.cells #[.slice A xs.length c] 29)) := Below.alloc (Below.refl _ _) (Nat.le_refl _) _
        have HBB := Lib.hid (hB1.trans (hal.mono (by omega)))
        have HIB := Lib.hid (Sl.below (R := EKO) EKO.framed hin1 hal)
        have hl1 : w1.heap.size < (w1.alloc (.cells #[.slice A xs.length c] 29)).heap.size := by simp
        have XB := Lib.hid (block_cell (World.heap_new w1 (.cells #[.slice A xs.length c] 29) _ rfl) 0).1
        have XB0 := Lib.hid ((hal.cell (p := ⟨w.heap.size, 0, none⟩) (by simp only; omega)).trans x0)
        have XB1 := Lib.hid ((hal.cell (p := ⟨w.heap.size + 1, 0, none⟩) (by simp only; omega)).trans x1)
        have FB1 := Lib.hid ((hal.frozen (p := ⟨w.heap.size + 1, 0, none⟩) (by simp only; omega)).trans f1)
        have hb2w : w.heap.size < w1.heap.size := by omega
        clear hb hin hin1 hB1 hal x1 f1
        go_wp2_with fail
        refine (implFind_any s A c xs _ (SlK.read (SlO.ek HIB.out)) hm).mono ?_
        rw [HE.out]
        rintro e w2 ⟨rfl, hb⟩
        have hs2 := hb.size
        simp only [World.size_alloc] at hs2
        have HB2 := Lib.hid (HBB.out.trans (hb.mono (by simp; omega)))
        have HI2 := Lib.hid (Sl.below (R := EKO) EKO.framed HIB.out hb)
        have n0 : w2.cell? ⟨w1.heap.size, 0, none⟩ = some (.slice A xs.length c) := (hb.cell (p := ⟨w1.heap.size, 0, none⟩) hl1).trans XB.out
        have x0 := (hb.cell (p := ⟨w.heap.size, 0, none⟩) (by simp; omega)).trans XB0.out
        have x1 := (hb.cell (p := ⟨w.heap.size + 1, 0, none⟩) (by simp; omega)).trans XB1.out
        have f1 := (hb.frozen (p := ⟨w.heap.size + 1, 0, none⟩) (by simp; omega)).trans FB1.out
        clear hb HIB HBB XB XB0 XB1 FB1 hl1
        rw [← hnb] at n0 ⊢
        have hnw : w.heap.size + 2 ≤ nb := by omega
        have hnw2 : nb < w2.heap.size := by omega
        rw [← hnb] at HI2
        clear hnb hs1 hs2 hb2w
        obtain ⟨g, o, Fk, rfl, hg, ⟨hgT, hgn⟩, hnF, hFT, hel, hset⟩ := Sl.open_new (R := EKO) EKO.local_ HI2.out i hi
        obtain ⟨hc0, hc1, hc3, q0, q1, q3, q2, gr, cf, hc2, hgr, hof⟩ := hel
        have HSET := Lib.hid hset
        have HOF := Lib.hid hof
        have HFT := Lib.hid hFT
        have hgrT := hFT gr hgr
        have hlt2 : (i : Int) < (xs.length : Int) := by omega
        have hii : ¬ (i : Int) < 0 := by omega
        have hiw : IntKind.i64.wrap (i : Int) = (i : Int) := by rw [IntKind.wrap_i64]; omega
        clear hset hof hFT
        generalize hxe : xs[i] = x at *
        obtain ⟨sx, a, f, l⟩ := x
        simp only at haz
        subst haz
        simp only at hc0 hc1 hc2 hc3 HOF HFL hfull HR 

        have h62 : ¬ (6 : Int) ≤ (f.length : Int) := by omega
        have h100 : ¬ (100 : Int) < (body.length : Int) := by omega
        have HOW := Lib.hid (HOF.out.widerT (T' := (fun b => Fk b ∨ w2.heap.size ≤ b)) (fun b hb _ => .inl hb))
        have hfl := HFL.out
        go_wp2
        refine wp_region_held_drew (S := (fun w' => w'.cell? ⟨nb, 0, none⟩ = some (.slice (some ⟨g, o, none⟩) xs.length c))) (by kernel_rfl) ?_ (fun hHeld => ?_)
        · first | exact n0 | exact n3 | exact m0 | exact (World.cell?_setCell_far _ _ _ _ (by simp only; omega)).trans M0.out | (simp [go_sem, *]; done)
        refine wpAnyH_takeW (i := 0) (d := some 49) (v := ?_) (by simp only [List.getElem?_toArray, List.getElem?_cons_succ, List.getElem?_cons_zero]; rfl) (by rfl) (by kernel_rfl) (by kernel_rfl) (by kernel_rfl) (by intro _ _ _ h; exact h) (by rfl) ?_ (by assumption) ?_
        rotate_left 1
        · (intro w hSw; (try dsimp only at hSw); go_simp; try (with_reducible rfl))
        (try simp only [Act.put, List.setIfInBounds_toArray, List.set_cons_zero, List.set_cons_succ])
        refine wpAnyH_takeW (i := 1) (d := some 50) (v := ?_) (by simp only [List.getElem?_toArray, List.getElem?_cons_succ, List.getElem?_cons_zero]; rfl) (by rfl) (by kernel_rfl) (by kernel_rfl) (by kernel_rfl) (by intro _ _ _ h; exact h) (by rfl) ?_ (by assumption) ?_
        rotate_left 1
        · (intro w hSw; (try dsimp only at hSw); go_simp; try (with_reducible rfl))
        (try simp only [Act.put, List.setIfInBounds_toArray, List.set_cons_zero, List.set_cons_succ])
        refine wpAnyH_takeW (i := 2) (d := some 51) (v := ?_) (by simp only [List.getElem?_toArray, List.getElem?_cons_succ, List.getElem?_cons_zero]; rfl) (by rfl) (by kernel_rfl) (by kernel_rfl) (by kernel_rfl) (by intro _ _ _ h; exact h) (by rfl) ?_ (by assumption) ?_
        rotate_left 1
        · (intro w hSw; (try dsimp only at hSw); go_simp; try (with_reducible rfl))
        (try simp only [Act.put, List.setIfInBounds_toArray, List.set_cons_zero, List.set_cons_succ])
        refine wpAnyH_takeW (i := 3) (d := some 52) (v := ?_) (by simp only [List.getElem?_toArray, List.getElem?_cons_succ, List.getElem?_cons_zero]; rfl) (by rfl) (by kernel_rfl) (by kernel_rfl) (by kernel_rfl) (by intro _ _ _ h; exact h) (by rfl) ?_ (by assumption) ?_
        rotate_left 1
        · (intro w hSw; (try dsimp only at hSw); go_simp; try (with_reducible rfl))
        (try simp only [Act.put, List.setIfInBounds_toArray, List.set_cons_zero, List.set_cons_succ])
        refine wpAnyH_takeW (i := 4) (d := some 53) (v := ?_) (by simp only [List.getElem?_toArray, List.getElem?_cons_succ, List.getElem?_cons_zero]; rfl) (by rfl) (by kernel_rfl) (by kernel_rfl) (by kernel_rfl) (by intro _ _ _ h; exact h) (by rfl) ?_ (by assumption) ?_
        rotate_left 1
        · (intro w hSw; (try dsimp only at hSw); go_simp; try (with_reducible rfl))
        (try simp only [Act.put, List.setIfInBounds_toArray, List.set_cons_zero, List.set_cons_succ])
        refine wpAnyH_takeW (i := 5) (d := some 54) (v := ?_) (by simp only [List.getElem?_toArray, List.getElem?_cons_succ, List.getElem?_cons_zero]; rfl) (by rfl) (by kernel_rfl) (by kernel_rfl) (by kernel_rfl) (by intro _ _ _ h; exact h) (by rfl) ?_ (by assumption) ?_
        rotate_left 1
        · (intro w hSw; (try dsimp only at hSw); go_simp; try (with_reducible rfl))
        (try simp only [Act.put, List.setIfInBounds_toArray, List.set_cons_zero, List.set_cons_succ])
        refine wpAnyH_takeW (i := 6) (d := some 55) (v := ?_) (by simp only [List.getElem?_toArray, List.getElem?_cons_succ, List.getElem?_cons_zero]; rfl) (by rfl) (by kernel_rfl) (by kernel_rfl) (by kernel_rfl) (by intro _ _ _ h; exact h) (by rfl) ?_ (by assumption) ?_
        rotate_left 1
        · (intro w hSw; (try dsimp only at hSw); go_simp; try (with_reducible rfl))
        (try simp only [Act.put, List.setIfInBounds_toArray, List.set_cons_zero, List.set_cons_succ])
        refine wpAnyH_takeW (i := 7) (d := some 56) (v := ?_) (by simp only [List.getElem?_toArray, List.getElem?_cons_succ, List.getElem?_cons_zero]; rfl) (by rfl) (by kernel_rfl) (by kernel_rfl) (by kernel_rfl) (by intro _ _ _ h; exact h) (by rfl) ?_ (by assumption) ?_
        rotate_left 1
        · (intro w hSw; (try dsimp only at hSw); go_simp; try (with_reducible rfl))
        (try simp only [Act.put, List.setIfInBounds_toArray, List.set_cons_zero, List.set_cons_succ])
        refine wpAnyH_takeW (i := 9) (d := some 58) (v := ?_) (by simp only [List.getElem?_toArray, List.getElem?_cons_succ, List.getElem?_cons_zero]; rfl) (by rfl) (by kernel_rfl) (by kernel_rfl) (by kernel_rfl) (by intro _ _ _ h; exact h) (by rfl) ?_ (by assumption) ?_
        rotate_left 1
        · (intro w hSw; (try dsimp only at hSw); go_simp; try (with_reducible rfl))
        (try simp only [Act.put, List.setIfInBounds_toArray, List.set_cons_zero, List.set_cons_succ])
        refine wpAnyH_ready (rs := [8, 10]) (by kernel_rfl) (by simp) ?_
        refine (AllReadyH.cons (i := 8) (by simp only [List.getElem?_toArray, List.getElem?_cons_succ, List.getElem?_cons_zero]; rfl) (fun K hK => ?_) (AllReadyH.cons (i := 10) (by simp only [List.getElem?_toArray, List.getElem?_cons_succ, List.getElem?_cons_zero]; rfl) (fun K hK => ?_) AllReadyH.nil))
        · go_simp
          go_wp2_with fail
          refine hK.out _ _ ?_ (fun hHeld => ?_)
          · ((try dsimp only); first | exact n0 | exact n3 | exact m0 | exact (World.cell?_setCell_far _ _ _ _ (by simp only; omega)).trans M0.out | (simp [go_sem, *]; done))
          clear hK K
          (try simp only [Act.put, List.setIfInBounds_toArray, List.set_cons_zero, List.set_cons_succ])
          refine wpAnyH_ready (rs := [10]) (by kernel_rfl) (by simp) ?_
          refine (AllReadyH.cons (i := 10) (by simp only [List.getElem?_toArray, List.getElem?_cons_succ, List.getElem?_cons_zero]; rfl) (fun K hK => ?_) AllReadyH.nil)
          go_simp
          (go_at_call 48; refine (copyBytes_any B cb body _ (RB.out.below (Below.drew HB2.out)) (by omega)).mono ?_)
          intro e w3 hnew
          obtain ⟨g5, c5, rfl, hb3_, ho5⟩ := hnew.owr
          have hb3 : Below w2.heap.size w2 w3 := Below.trans (Below.drew (Below.refl _ _)) hb3_
          clear hb3_ hnew
          have hs3 := hb3.size
          have hg5l := ho5.lt
          have hg5e : w2.heap.size ≤ g5 := ho5.ge
          have R5 := Lib.hid ho5.rwF.rw
          have HB3 := Lib.hid hb3
          have hal3 : Below w3.heap.size w3 (w3.alloc (.cells #[.slice (some ⟨g5, 0, none⟩) body.length c5] 38)) := Below.alloc (Below.refl _ _) (Nat.le_refl _) _
          have HWB : Hid (Below w2.heap.size w2 (w3.alloc (.cells #[.slice (some ⟨g5, 0, none⟩) body.length c5] 38))) := Lib.hid (hb3.trans (hal3.mono hs3))
          have HBK : Hid ((w3.alloc (.cells #[.slice (some ⟨g5, 0, none⟩) body.length c5] 38)).heap[w3.heap.size]? = some (.cells #[.slice (some ⟨g5, 0, none⟩) body.length c5] 38)) := Lib.hid (World.heap_new _ _ _ rfl)
          have HFC : Hid (EB true (w3.alloc (.cells #[.slice (some ⟨g5, 0, none⟩) body.length c5] 38)) (fun b => b = g5) w3.heap.size 0 body) := Lib.hid (by
            have e := block_cell HBK.out 0
            exact ⟨_, _, e.1, fun _ => e.2, R5.out.below hal3⟩)
          have HFF : Hid (∀ b, b = g5 → (fun b => Fk b ∨ w2.heap.size ≤ b) b ∧ b < (w3.alloc (.cells #[.slice (some ⟨g5, 0, none⟩) body.length c5] 38)).heap.size ∧ Off (some ⟨gr, 0, none⟩) b ∧ w2.heap.size ≤ b) := Lib.hid (by
            rintro b rfl
            refine ⟨.inr (by omega), by simp; omega, fun a' ha' => ?_, by omega⟩
            injection ha' with ha'
            subst ha'
            simp only
            omega)
          have n3 : w3.cell? ⟨nb, 0, none⟩ = some (.slice (some ⟨g, o, none⟩) xs.length c) := (hb3.cell (p := ⟨nb, 0, none⟩) hnw2).trans n0
          have p3 : w3.cell? ⟨g, o + i * 4 + 2, none⟩ = some (.slice (some ⟨gr, 0, none⟩) f.length cf) := (hb3.cell (p := ⟨g, o + i * 4 + 2, none⟩) hg).trans hc2
          have hlt3 : nb < w3.heap.size := by omega
          have hlg3 : g < w3.heap.size := by omega
          clear hal3
          go_wp2_with fail
          refine hK.out _ _ ?_ (fun hHeld => ?_)
          · ((try dsimp only); first | exact n0 | exact n3 | exact m0 | exact (World.cell?_setCell_far _ _ _ _ (by simp only; omega)).trans M0.out | (simp [go_sem, *]; done))
          clear hK K
          (try simp only [Act.put, List.setIfInBounds_toArray, List.set_cons_zero, List.set_cons_succ])
          refine wpAnyH_ready (rs := [11]) (by kernel_rfl) (by simp) ?_
          refine (AllReadyH.cons (i := 11) (by simp only [List.getElem?_toArray, List.getElem?_cons_succ, List.getElem?_cons_zero]; rfl) (fun K hK => ?_) AllReadyH.nil)
          go_simp
          go_wp2_with fail
          refine hK.out _ _ ?_ (fun hHeld => ?_)
          · ((try dsimp only); first | exact n0 | exact n3 | exact m0 | exact (World.cell?_setCell_far _ _ _ _ (by simp only; omega)).trans M0.out | (simp [go_sem, *]; done))
          clear hK K
          (try simp only [Act.put, List.setIfInBounds_toArray, List.set_cons_zero, List.set_cons_succ])
          refine wpAnyH_ready (rs := [12]) (by kernel_rfl) (by simp) ?_
          refine (AllReadyH.cons (i := 12) (by simp only [List.getElem?_toArray, List.getElem?_cons_succ, List.getElem?_cons_zero]; rfl) (fun K hK => ?_) AllReadyH.nil)
          (refine step_appS (R := EB true) (u := true) (w0 := w2) (xs := f) (y := body) (Fn := fun b => b = g5) (T := (fun b => Fk b ∨ w2.heap.size ≤ b)) (gb := w3.heap.size) rfl EB.mov (.tmp 57) (.tmp 60) 49 rfl 38 i0 (.slice none 0 0) 24 Try.underlying49 hI0 hz0 hz1 hz2 rfl (by decide) rfl HOW.out HWB.out #[.slice (some ⟨g5, 0, none⟩) body.length c5] 38 HBK.out rfl (by simp [Value.oneCell']) rfl HFC.out (fun b hb => ⟨(HFF.out b hb).1, (HFF.out b hb).2.1, (HFF.out b hb).2.2.1, fun _ => (HFF.out b hb).2.2.2⟩) (by omega) (by decide) (Nat.zero_le _) ?_)
          intro g6 c6 w6 q6 HQ6 HO6 HG6 HC6 HB6
          have hWs := HWB.out.size
          have hs6 := HC6.out.size
          have hgl6 := HO6.out.lt
          have hgr6 : g6 = gr ∨ g6 = (w3.alloc (.cells #[.slice (some ⟨g5, 0, none⟩) body.length c5] 38)).heap.size := by
            rcases HG6.out with h | h
            · left; injection h with h; injection h with h; exact h.symm
            · right; exact h
          have rowc : ∀ p : Addr, p.block < (w3.alloc (.cells #[.slice (some ⟨g5, 0, none⟩) body.length c5] 38)).heap.size → p.block ≠ gr → w6.cell? p = (w3.alloc (.cells #[.slice (some ⟨g5, 0, none⟩) body.length c5] 38)).cell? p ∧ w6.frozen? p = (w3.alloc (.cells #[.slice (some ⟨g5, 0, none⟩) body.length c5] 38)).frozen? p := fun p hp hne => ⟨HC6.out.cell hp (fun ⟨a', ha', hb'⟩ => by injection ha' with ha'; subst ha'; exact hne hb'), HC6.out.frozen hp (fun ⟨a', ha', hb'⟩ => by injection ha' with ha'; subst ha'; exact hne hb')⟩
          have hggr : g ≠ gr := fun e => hnF (e ▸ hgr)
          have hggr' : ¬ gr = g := fun e => hggr e.symm
          have to6 : ∀ p : Addr, p.block < w2.heap.size → p.block ≠ gr → w6.cell? p = w2.cell? p ∧ w6.frozen? p = w2.frozen? p := fun p hp hne => ⟨(rowc p (by omega) hne).1.trans (HWB.out.cell hp), (rowc p (by omega) hne).2.trans (HWB.out.frozen hp)⟩
          have s0 := (to6 ⟨g, o + i * 4, none⟩ hg hggr).1.trans hc0
          have s1 := (to6 ⟨g, o + i * 4 + 1, none⟩ hg hggr).1.trans hc1
          have s2 := (to6 ⟨g, o + i * 4 + 2, none⟩ hg hggr).1.trans hc2
          have s3 := (to6 ⟨g, o + i * 4 + 3, none⟩ hg hggr).1.trans hc3
          have z2 := (to6 ⟨g, o + i * 4 + 2, none⟩ hg hggr).2.trans q2
          have m0 := (to6 ⟨nb, 0, none⟩ hnw2 (by simp only; omega)).1.trans n0
          have m1 := (to6 ⟨w.heap.size + 1, 0, none⟩ (by simp only; omega) (by simp only; omega)).1.trans x1
          have v1 := (to6 ⟨w.heap.size + 1, 0, none⟩ (by simp only; omega) (by simp only; omega)).2.trans f1
          have TO6 := Lib.hid to6
          have HGR6 := Lib.hid hgr6
          have hng6 : g6 ≠ g := by rcases hgr6 with h | h <;> omega
          have M0 := Lib.hid m0
          have M1 := Lib.hid m1
          have V1 := Lib.hid v1
          have S0 := Lib.hid s0
          have S1 := Lib.hid s1
          have S3 := Lib.hid s3
          have hne1 : ¬ g = w.heap.size + 1 := by omega
          have hne2 : ¬ w.heap.size + 1 = g := by omega
          have hne3 : ¬ g = nb := by omega
          have hne4 : ¬ nb = g := by omega
          clear to6 rowc hgr6
          go_wp2_with fail
          refine hK.out _ _ ?_ (fun hHeld => ?_)
          · ((try dsimp only); first | exact n0 | exact n3 | exact m0 | exact (World.cell?_setCell_far _ _ _ _ (by simp only; omega)).trans M0.out | (simp [go_sem, *]; done))
          clear hK K
          (try simp only [Act.put, List.setIfInBounds_toArray, List.set_cons_zero, List.set_cons_succ])
          refine wpAnyH_takeW (i := 13) (d := some 62) (v := ?_) (by simp only [List.getElem?_toArray, List.getElem?_cons_succ, List.getElem?_cons_zero]; rfl) (by rfl) (by kernel_rfl) (by kernel_rfl) (by kernel_rfl) (by intro _ _ _ h; exact h) (by rfl) ?_ (by assumption) ?_
          rotate_left 1
          · (intro w hSw; (try dsimp only at hSw); go_simp; try (with_reducible rfl))
          (try simp only [Act.put, List.setIfInBounds_toArray, List.set_cons_zero, List.set_cons_succ])
          refine wpAnyH_takeW (i := 14) (d := some 63) (v := ?_) (by simp only [List.getElem?_toArray, List.getElem?_cons_succ, List.getElem?_cons_zero]; rfl) (by rfl) (by kernel_rfl) (by kernel_rfl) (by kernel_rfl) (by intro _ _ _ h; exact h) (by rfl) ?_ (by assumption) ?_
          rotate_left 1
          · (intro w hSw; (try dsimp only at hSw); go_simp; try (with_reducible rfl))
          (try simp only [Act.put, List.setIfInBounds_toArray, List.set_cons_zero, List.set_cons_succ])
          refine wpAnyH_ready (rs := [15]) (by kernel_rfl) (by simp) ?_
          refine (AllReadyH.cons (i := 15) (by simp only [List.getElem?_toArray, List.getElem?_cons_succ, List.getElem?_cons_zero]; rfl) (fun K hK => ?_) AllReadyH.nil)
          go_simp
          go_wp2_with fail
          refine hK.out _ _ ?_ (fun hHeld => ?_)
          · ((try dsimp only); first | exact n0 | exact n3 | exact m0 | exact (World.cell?_setCell_far _ _ _ _ (by simp only; omega)).trans M0.out | (simp [go_sem, *]; done))
          clear hK K
          (try simp only [Act.put, List.setIfInBounds_toArray, List.set_cons_zero, List.set_cons_succ])
          refine wpAnyH_done (by kernel_rfl) ?_ _
          have hst : Chg (fun b => b = g) w6 (w6.setCell ⟨g, o + i * 4 + 2, none⟩ (.slice (some ⟨g6, 0, none⟩) q6.length c6)) := Chg.setCell_ (S := fun b => b = g) (Chg.refl _ _) (p := ⟨g, o + i * 4 + 2, none⟩) rfl _
          have hlt6 : g < w6.heap.size := by omega
          have oth : ∀ j, j ≠ o + i * 4 + 2 → (w6.setCell ⟨g, o + i * 4 + 2, none⟩ (.slice (some ⟨g6, 0, none⟩) q6.length c6)).cell? ⟨g, j, none⟩ = w6.cell? ⟨g, j, none⟩ := fun j hj => World.cell?_setCell_other _ _ _ _ (fun e => by injection e with _ e2; omega)
          have fz : ∀ j, (w6.setCell ⟨g, o + i * 4 + 2, none⟩ (.slice (some ⟨g6, 0, none⟩) q6.length c6)).frozen? ⟨g, j, none⟩ = w2.frozen? ⟨g, j, none⟩ := fun j => (World.frozen?_setCell _ _ _ _).trans (TO6.out ⟨g, j, none⟩ hg hggr).2
          have hsz7 : (w6.setCell ⟨g, o + i * 4 + 2, none⟩ (.slice (some ⟨g6, 0, none⟩) q6.length c6)).heap.size = w6.heap.size := by simp [World.setCell]
          have hc26 : Chg (fun b => b = gr ∨ w2.heap.size ≤ b) w2 w6 := ((Chg.of_below HWB.out).trans (HC6.out.mono (fun b _ hb => by obtain ⟨a', ha', hb⟩ := hb; injection ha' with ha'; subst ha'; exact .inl hb))).mono (fun b _ hb => hb)
          have hown : OwS true 1 (EB true) 38 (w6.setCell ⟨g, o + i * 4 + 2, none⟩ (.slice (some ⟨g6, 0, none⟩) q6.length c6)) (fun b => Fk b ∨ (w2.heap.size ≤ b ∧ b < w6.heap.size)) 0 (some ⟨g6, 0, none⟩) c6 q6 :=
            (OwS.frame (R := EB true) EB.framed HO6.out hst (fun b h1 h2 => by subst h2; rcases h1 with h1 | h1; exact hnF h1; omega) (fun a' ha' h2 => by injection ha' with ha'; subst ha'; exact hng6 h2)).widerT (fun b h1 h2 => by rcases h1 with h1 | h1; exact .inl h1; exact .inr ⟨h1, by omega⟩)
          have hnrow : Fk g6 ∨ (w2.heap.size ≤ g6 ∧ g6 < w6.heap.size) := by
            rcases HGR6.out with h | h
            · left; rw [h]; exact hgr
            · right; omega
          have HS0 := HSET.out (w6.setCell ⟨g, o + i * 4 + 2, none⟩ (.slice (some ⟨g6, 0, none⟩) q6.length c6)) ⟨sx, true, q6, l⟩ (fun b => Fk b ∨ (w2.heap.size ≤ b ∧ b < w6.heap.size)) (fun b hb => by rcases hb with hb | hb; exact .inl hb; exact .inr (by omega)) ((hc26.mono (fun b _ hb => by rcases hb with hb | hb; exact .inr (.inl (hb ▸ hgr)); exact .inr (.inr (by omega)))).trans (hst.mono (fun b _ hb => .inl hb))) (fun j hj => ⟨(oth j (by omega)).trans (TO6.out ⟨g, j, none⟩ hg hggr).1, fz j⟩)
            ⟨(oth _ (by omega)).trans S0.out, (oth _ (by omega)).trans S1.out, (oth _ (by omega)).trans S3.out, (fz _).trans q0, (fz _).trans q1, (fz _).trans q3, (fz _).trans q2, g6, c6, World.cell?_setCell_same _ _ _ s2, hnrow, hown⟩
          have hq6 : q6 = f ++ [body] := HQ6.out
          have HS : Hid (Sl true 4 (EK true) (w6.setCell ⟨g, o + i * 4 + 2, none⟩ (.slice (some ⟨g6, 0, none⟩) q6.length c6)) (fun b => w.heap.size + 2 ≤ b ∧ b ≠ nb ∧ b < w6.heap.size) (some ⟨g, o, none⟩) (xs.set i ⟨sx, true, f ++ [body], l⟩)) := Lib.hid (by
            rw [← hq6]
            refine (SlO.ek HS0).wider (fun b hb => ?_)
            rcases hb with hb | hb | hb
            · have := hb.1; omega
            · have := HFT.out b hb; omega
            · omega)
          have HBF := Lib.hid ((HB2.out.trans ((HWB.out.mono (by omega)).trans (HC6.out.below (by omega) (fun k hk => by obtain ⟨a', ha', hk⟩ := hk; injection ha' with ha'; subst ha'; simp only at hk; omega)))).trans (hst.below (by omega) (fun k hk => by omega)))
          have x1f : (w6.setCell ⟨g, o + i * 4 + 2, none⟩ (.slice (some ⟨g6, 0, none⟩) q6.length c6)).cell? ⟨w.heap.size + 1, 0, none⟩ = some (.slice none 0 0) := (hst.cell (p := ⟨w.heap.size + 1, 0, none⟩) (by simp only; omega) (by simp only; omega)).trans M1.out
          have f1f : (w6.setCell ⟨g, o + i * 4 + 2, none⟩ (.slice (some ⟨g6, 0, none⟩) q6.length c6)).frozen? ⟨w.heap.size + 1, 0, none⟩ = false := (hst.frozen (p := ⟨w.heap.size + 1, 0, none⟩) (by simp only; omega) (by simp only; omega)).trans V1.out
          have n0f : (w6.setCell ⟨g, o + i * 4 + 2, none⟩ (.slice (some ⟨g6, 0, none⟩) q6.length c6)).cell? ⟨nb, 0, none⟩ = some (.slice (some ⟨g, o, none⟩) xs.length c) := (hst.cell (p := ⟨nb, 0, none⟩) (by simp only; omega) (by simp only; omega)).trans M0.out
          have X1f := Lib.hid x1f
          have hnwl : w2.heap.size ≤ (w6.setCell ⟨g, o + i * 4 + 2, none⟩ (.slice (some ⟨g6, 0, none⟩) q6.length c6)).heap.size := by omega
          clear hst oth fz HS0 hown hc26 hq6
          have hfin : Chg (fun b => b = w.heap.size + 1) (w6.setCell ⟨g, o + i * 4 + 2, none⟩ (.slice (some ⟨g6, 0, none⟩) q6.length c6)) ((w6.setCell ⟨g, o + i * 4 + 2, none⟩ (.slice (some ⟨g6, 0, none⟩) q6.length c6)).setCell ⟨w.heap.size + 1, 0, none⟩ (.slice (some ⟨g, o, none⟩) xs.length c)) := Chg.setCell_ (S := fun b => b = w.heap.size + 1) (Chg.refl _ _) (p := ⟨w.heap.size + 1, 0, none⟩) rfl _
          have HF := Lib.hid hfin
          clear hfin
          go_wp2
          refine bodyPost_ret (v := .tuple #[.agg #[.slice (some ⟨g, o, none⟩) xs.length c], .bool false]) (by simp [results, Try.results32, go_sem, World.cell?_setCell_same _ _ _ X1f.out]) rfl ?_
          rw [HR.out]
          refine ⟨some ⟨g, o, none⟩, c, by simp, HBF.out.trans (HF.out.below (by have := HBF.out.size; omega) (fun k hk => by omega)), ?_⟩
          refine (Sl.frame (R := EK true) EK.framed HS.out HF.out (fun b hb h2 => by omega)).wider (fun b hb => ?_)
          have := HF.out.size
          omega
        · go_simp
          (go_at_call 48; refine (copyBytes_any B cb body _ (RB.out.below (Below.drew HB2.out)) (by omega)).mono ?_)
          intro e w3 hnew
          obtain ⟨g5, c5, rfl, hb3_, ho5⟩ := hnew.owr
          have hb3 : Below w2.heap.size w2 w3 := Below.trans (Below.drew (Below.refl _ _)) hb3_
          clear hb3_ hnew
          have hs3 := hb3.size
          have hg5l := ho5.lt
          have hg5e : w2.heap.size ≤ g5 := ho5.ge
          have R5 := Lib.hid ho5.rwF.rw
          have HB3 := Lib.hid hb3
          have hal3 : Below w3.heap.size w3 (w3.alloc (.cells #[.slice (some ⟨g5, 0, none⟩) body.length c5] 38)) := Below.alloc (Below.refl _ _) (Nat.le_refl _) _
          have HWB : Hid (Below w2.heap.size w2 (w3.alloc (.cells #[.slice (some ⟨g5, 0, none⟩) body.length c5] 38))) := Lib.hid (hb3.trans (hal3.mono hs3))
          have HBK : Hid ((w3.alloc (.cells #[.slice (some ⟨g5, 0, none⟩) body.length c5] 38)).heap[w3.heap.size]? = some (.cells #[.slice (some ⟨g5, 0, none⟩) body.length c5] 38)) := Lib.hid (World.heap_new _ _ _ rfl)
          have HFC : Hid (EB true (w3.alloc (.cells #[.slice (some ⟨g5, 0, none⟩) body.length c5] 38)) (fun b => b = g5) w3.heap.size 0 body) := Lib.hid (by
            have e := block_cell HBK.out 0
            exact ⟨_, _, e.1, fun _ => e.2, R5.out.below hal3⟩)
          have HFF : Hid (∀ b, b = g5 → (fun b => Fk b ∨ w2.heap.size ≤ b) b ∧ b < (w3.alloc (.cells #[.slice (some ⟨g5, 0, none⟩) body.length c5] 38)).heap.size ∧ Off (some ⟨gr, 0, none⟩) b ∧ w2.heap.size ≤ b) := Lib.hid (by
            rintro b rfl
            refine ⟨.inr (by omega), by simp; omega, fun a' ha' => ?_, by omega⟩
            injection ha' with ha'
            subst ha'
            simp only
            omega)
          have n3 : w3.cell? ⟨nb, 0, none⟩ = some (.slice (some ⟨g, o, none⟩) xs.length c) := (hb3.cell (p := ⟨nb, 0, none⟩) hnw2).trans n0
          have p3 : w3.cell? ⟨g, o + i * 4 + 2, none⟩ = some (.slice (some ⟨gr, 0, none⟩) f.length cf) := (hb3.cell (p := ⟨g, o + i * 4 + 2, none⟩) hg).trans hc2
          have hlt3 : nb < w3.heap.size := by omega
          have hlg3 : g < w3.heap.size := by omega
          clear hal3
          go_wp2_with fail
          refine hK.out _ _ ?_ (fun hHeld => ?_)
          · ((try dsimp only); first | exact n0 | exact n3 | exact m0 | exact (World.cell?_setCell_far _ _ _ _ (by simp only; omega)).trans M0.out | (simp [go_sem, *]; done))
          clear hK K
          (try simp only [Act.put, List.setIfInBounds_toArray, List.set_cons_zero, List.set_cons_succ])
          refine wpAnyH_ready (rs := [8, 11]) (by kernel_rfl) (by simp) ?_
          refine (AllReadyH.cons (i := 8) (by simp only [List.getElem?_toArray, List.getElem?_cons_succ, List.getElem?_cons_zero]; rfl) (fun K hK => ?_) (AllReadyH.cons (i := 11) (by simp only [List.getElem?_toArray, List.getElem?_cons_succ, List.getElem?_cons_zero]; rfl) (fun K hK => ?_) AllReadyH.nil))
          · go_simp
            go_wp2_with fail
            refine hK.out _ _ ?_ (fun hHeld => ?_)
            · ((try dsimp only); first | exact n0 | exact n3 | exact m0 | exact (World.cell?_setCell_far _ _ _ _ (by simp only; omega)).trans M0.out | (simp [go_sem, *]; done))
            clear hK K
            (try simp only [Act.put, List.setIfInBounds_toArray, List.set_cons_zero, List.set_cons_succ])
            refine wpAnyH_ready (rs := [11]) (by kernel_rfl) (by simp) ?_
            refine (AllReadyH.cons (i := 11) (by simp only [List.getElem?_toArray, List.getElem?_cons_succ, List.getElem?_cons_zero]; rfl) (fun K hK => ?_) AllReadyH.nil)
            go_simp
            go_wp2_with fail
            refine hK.out _ _ ?_ (fun hHeld => ?_)
            · ((try dsimp only); first | exact n0 | exact n3 | exact m0 | exact (World.cell?_setCell_far _ _ _ _ (by simp only; omega)).trans M0.out | (simp [go_sem, *]; done))
            clear hK K
            (try simp only [Act.put, List.setIfInBounds_toArray, List.set_cons_zero, List.set_cons_succ])
            refine wpAnyH_ready (rs := [12]) (by kernel_rfl) (by simp) ?_
            refine (AllReadyH.cons (i := 12) (by simp only [List.getElem?_toArray, List.getElem?_cons_succ, List.getElem?_cons_zero]; rfl) (fun K hK => ?_) AllReadyH.nil)
            (refine step_appS (R := EB true) (u := true) (w0 := w2) (xs := f) (y := body) (Fn := fun b => b = g5) (T := (fun b => Fk b ∨ w2.heap.size ≤ b)) (gb := w3.heap.size) rfl EB.mov (.tmp 57) (.tmp 60) 49 rfl 38 i0 (.slice none 0 0) 24 Try.underlying49 hI0 hz0 hz1 hz2 rfl (by decide) rfl HOW.out HWB.out #[.slice (some ⟨g5, 0, none⟩) body.length c5] 38 HBK.out rfl (by simp [Value.oneCell']) rfl HFC.out (fun b hb => ⟨(HFF.out b hb).1, (HFF.out b hb).2.1, (HFF.out b hb).2.2.1, fun _ => (HFF.out b hb).2.2.2⟩) (by omega) (by decide) (Nat.zero_le _) ?_)
            intro g6 c6 w6 q6 HQ6 HO6 HG6 HC6 HB6
            have hWs := HWB.out.size
            have hs6 := HC6.out.size
            have hgl6 := HO6.out.lt
            have hgr6 : g6 = gr ∨ g6 = (w3.alloc (.cells #[.slice (some ⟨g5, 0, none⟩) body.length c5] 38)).heap.size := by
              rcases HG6.out with h | h
              · left; injection h with h; injection h with h; exact h.symm
              · right; exact h
            have rowc : ∀ p : Addr, p.block < (w3.alloc (.cells #[.slice (some ⟨g5, 0, none⟩) body.length c5] 38)).heap.size → p.block ≠ gr → w6.cell? p = (w3.alloc (.cells #[.slice (some ⟨g5, 0, none⟩) body.length c5] 38)).cell? p ∧ w6.frozen? p = (w3.alloc (.cells #[.slice (some ⟨g5, 0, none⟩) body.length c5] 38)).frozen? p := fun p hp hne => ⟨HC6.out.cell hp (fun ⟨a', ha', hb'⟩ => by injection ha' with ha'; subst ha'; exact hne hb'), HC6.out.frozen hp (fun ⟨a', ha', hb'⟩ => by injection ha' with ha'; subst ha'; exact hne hb')⟩
            have hggr : g ≠ gr := fun e => hnF (e ▸ hgr)
            have hggr' : ¬ gr = g := fun e => hggr e.symm
            have to6 : ∀ p : Addr, p.block < w2.heap.size → p.block ≠ gr → w6.cell? p = w2.cell? p ∧ w6.frozen? p = w2.frozen? p := fun p hp hne => ⟨(rowc p (by omega) hne).1.trans (HWB.out.cell hp), (rowc p (by omega) hne).2.trans (HWB.out.frozen hp)⟩
            have s0 := (to6 ⟨g, o + i * 4, none⟩ hg hggr).1.trans hc0
            have s1 := (to6 ⟨g, o + i * 4 + 1, none⟩ hg hggr).1.trans hc1
            have s2 := (to6 ⟨g, o + i * 4 + 2, none⟩ hg hggr).1.trans hc2
            have s3 := (to6 ⟨g, o + i * 4 + 3, none⟩ hg hggr).1.trans hc3
            have z2 := (to6 ⟨g, o + i * 4 + 2, none⟩ hg hggr).2.trans q2
            have m0 := (to6 ⟨nb, 0, none⟩ hnw2 (by simp only; omega)).1.trans n0
            have m1 := (to6 ⟨w.heap.size + 1, 0, none⟩ (by simp only; omega) (by simp only; omega)).1.trans x1
            have v1 := (to6 ⟨w.heap.size + 1, 0, none⟩ (by simp only; omega) (by simp only; omega)).2.trans f1
            have TO6 := Lib.hid to6
            have HGR6 := Lib.hid hgr6
            have hng6 : g6 ≠ g := by rcases hgr6 with h | h <;> omega
            have M0 := Lib.hid m0
            have M1 := Lib.hid m1
            have V1 := Lib.hid v1
            have S0 := Lib.hid s0
            have S1 := Lib.hid s1
            have S3 := Lib.hid s3
            have hne1 : ¬ g = w.heap.size + 1 := by omega
            have hne2 : ¬ w.heap.size + 1 = g := by omega
            have hne3 : ¬ g = nb := by omega
            have hne4 : ¬ nb = g := by omega
            clear to6 rowc hgr6
            go_wp2_with fail
            refine hK.out _ _ ?_ (fun hHeld => ?_)
            · ((try dsimp only); first | exact n0 | exact n3 | exact m0 | exact (World.cell?_setCell_far _ _ _ _ (by simp only; omega)).trans M0.out | (simp [go_sem, *]; done))
            clear hK K
            (try simp only [Act.put, List.setIfInBounds_toArray, List.set_cons_zero, List.set_cons_succ])
            refine wpAnyH_takeW (i := 13) (d := some 62) (v := ?_) (by simp only [List.getElem?_toArray, List.getElem?_cons_succ, List.getElem?_cons_zero]; rfl) (by rfl) (by kernel_rfl) (by kernel_rfl) (by kernel_rfl) (by intro _ _ _ h; exact h) (by rfl) ?_ (by assumption) ?_
            rotate_left 1
            · (intro w hSw; (try dsimp only at hSw); go_simp; try (with_reducible rfl))
            (try simp only [Act.put, List.setIfInBounds_toArray, List.set_cons_zero, List.set_cons_succ])
            refine wpAnyH_takeW (i := 14) (d := some 63) (v := ?_) (by simp only [List.getElem?_toArray, List.getElem?_cons_succ, List.getElem?_cons_zero]; rfl) (by rfl) (by kernel_rfl) (by kernel_rfl) (by kernel_rfl) (by intro _ _ _ h; exact h) (by rfl) ?_ (by assumption) ?_
            rotate_left 1
            · (intro w hSw; (try dsimp only at hSw); go_simp; try (with_reducible rfl))
            (try simp only [Act.put, List.setIfInBounds_toArray, List.set_cons_zero, List.set_cons_succ])
            refine wpAnyH_ready (rs := [15]) (by kernel_rfl) (by simp) ?_
            refine (AllReadyH.cons (i := 15) (by simp only [List.getElem?_toArray, List.getElem?_cons_succ, List.getElem?_cons_zero]; rfl) (fun K hK => ?_) AllReadyH.nil)
            go_simp
            go_wp2_with fail
            refine hK.out _ _ ?_ (fun hHeld => ?_)
            · ((try dsimp only); first | exact n0 | exact n3 | exact m0 | exact (World.cell?_setCell_far _ _ _ _ (by simp only; omega)).trans M0.out | (simp [go_sem, *]; done))
            clear hK K
            (try simp only [Act.put, List.setIfInBounds_toArray, List.set_cons_zero, List.set_cons_succ])
            refine wpAnyH_done (by kernel_rfl) ?_ _
            have hst : Chg (fun b => b = g) w6 (w6.setCell ⟨g, o + i * 4 + 2, none⟩ (.slice (some ⟨g6, 0, none⟩) q6.length c6)) := Chg.setCell_ (S := fun b => b = g) (Chg.refl _ _) (p := ⟨g, o + i * 4 + 2, none⟩) rfl _
            have hlt6 : g < w6.heap.size := by omega
            have oth : ∀ j, j ≠ o + i * 4 + 2 → (w6.setCell ⟨g, o + i * 4 + 2, none⟩ (.slice (some ⟨g6, 0, none⟩) q6.length c6)).cell? ⟨g, j, none⟩ = w6.cell? ⟨g, j, none⟩ := fun j hj => World.cell?_setCell_other _ _ _ _ (fun e => by injection e with _ e2; omega)
            have fz : ∀ j, (w6.setCell ⟨g, o + i * 4 + 2, none⟩ (.slice (some ⟨g6, 0, none⟩) q6.length c6)).frozen? ⟨g, j, none⟩ = w2.frozen? ⟨g, j, none⟩ := fun j => (World.frozen?_setCell _ _ _ _).trans (TO6.out ⟨g, j, none⟩ hg hggr).2
            have hsz7 : (w6.setCell ⟨g, o + i * 4 + 2, none⟩ (.slice (some ⟨g6, 0, none⟩) q6.length c6)).heap.size = w6.heap.size := by simp [World.setCell]
            have hc26 : Chg (fun b => b = gr ∨ w2.heap.size ≤ b) w2 w6 := ((Chg.of_below HWB.out).trans (HC6.out.mono (fun b _ hb => by obtain ⟨a', ha', hb⟩ := hb; injection ha' with ha'; subst ha'; exact .inl hb))).mono (fun b _ hb => hb)
            have hown : OwS true 1 (EB true) 38 (w6.setCell ⟨g, o + i * 4 + 2, none⟩ (.slice (some ⟨g6, 0, none⟩) q6.length c6)) (fun b => Fk b ∨ (w2.heap.size ≤ b ∧ b < w6.heap.size)) 0 (some ⟨g6, 0, none⟩) c6 q6 :=
              (OwS.frame (R := EB true) EB.framed HO6.out hst (fun b h1 h2 => by subst h2; rcases h1 with h1 | h1; exact hnF h1; omega) (fun a' ha' h2 => by injection ha' with ha'; subst ha'; exact hng6 h2)).widerT (fun b h1 h2 => by rcases h1 with h1 | h1; exact .inl h1; exact .inr ⟨h1, by omega⟩)
            have hnrow : Fk g6 ∨ (w2.heap.size ≤ g6 ∧ g6 < w6.heap.size) := by
              rcases HGR6.out with h | h
              · left; rw [h]; exact hgr
              · right; omega
            have HS0 := HSET.out (w6.setCell ⟨g, o + i * 4 + 2, none⟩ (.slice (some ⟨g6, 0, none⟩) q6.length c6)) ⟨sx, true, q6, l⟩ (fun b => Fk b ∨ (w2.heap.size ≤ b ∧ b < w6.heap.size)) (fun b hb => by rcases hb with hb | hb; exact .inl hb; exact .inr (by omega)) ((hc26.mono (fun b _ hb => by rcases hb with hb | hb; exact .inr (.inl (hb ▸ hgr)); exact .inr (.inr (by omega)))).trans (hst.mono (fun b _ hb => .inl hb))) (fun j hj => ⟨(oth j (by omega)).trans (TO6.out ⟨g, j, none⟩ hg hggr).1, fz j⟩)
              ⟨(oth _ (by omega)).trans S0.out, (oth _ (by omega)).trans S1.out, (oth _ (by omega)).trans S3.out, (fz _).trans q0, (fz _).trans q1, (fz _).trans q3, (fz _).trans q2, g6, c6, World.cell?_setCell_same _ _ _ s2, hnrow, hown⟩
            have hq6 : q6 = f ++ [body] := HQ6.out
            have HS : Hid (Sl true 4 (EK true) (w6.setCell ⟨g, o + i * 4 + 2, none⟩ (.slice (some ⟨g6, 0, none⟩) q6.length c6)) (fun b => w.heap.size + 2 ≤ b ∧ b ≠ nb ∧ b < w6.heap.size) (some ⟨g, o, none⟩) (xs.set i ⟨sx, true, f ++ [body], l⟩)) := Lib.hid (by
              rw [← hq6]
              refine (SlO.ek HS0).wider (fun b hb => ?_)
              rcases hb with hb | hb | hb
              · have := hb.1; omega
              · have := HFT.out b hb; omega
              · omega)
            have HBF := Lib.hid ((HB2.out.trans ((HWB.out.mono (by omega)).trans (HC6.out.below (by omega) (fun k hk => by obtain ⟨a', ha', hk⟩ := hk; injection ha' with ha'; subst ha'; simp only at hk; omega)))).trans (hst.below (by omega) (fun k hk => by omega)))
            have x1f : (w6.setCell ⟨g, o + i * 4 + 2, none⟩ (.slice (some ⟨g6, 0, none⟩) q6.length c6)).cell? ⟨w.heap.size + 1, 0, none⟩ = some (.slice none 0 0) := (hst.cell (p := ⟨w.heap.size + 1, 0, none⟩) (by simp only; omega) (by simp only; omega)).trans M1.out
            have f1f : (w6.setCell ⟨g, o + i * 4 + 2, none⟩ (.slice (some ⟨g6, 0, none⟩) q6.length c6)).frozen? ⟨w.heap.size + 1, 0, none⟩ = false := (hst.frozen (p := ⟨w.heap.size + 1, 0, none⟩) (by simp only; omega) (by simp only; omega)).trans V1.out
            have n0f : (w6.setCell ⟨g, o + i * 4 + 2, none⟩ (.slice (some ⟨g6, 0, none⟩) q6.length c6)).cell? ⟨nb, 0, none⟩ = some (.slice (some ⟨g, o, none⟩) xs.length c) := (hst.cell (p := ⟨nb, 0, none⟩) (by simp only; omega) (by simp only; omega)).trans M0.out
            have X1f := Lib.hid x1f
            have hnwl : w2.heap.size ≤ (w6.setCell ⟨g, o + i * 4 + 2, none⟩ (.slice (some ⟨g6, 0, none⟩) q6.length c6)).heap.size := by omega
            clear hst oth fz HS0 hown hc26 hq6
            have hfin : Chg (fun b => b = w.heap.size + 1) (w6.setCell ⟨g, o + i * 4 + 2, none⟩ (.slice (some ⟨g6, 0, none⟩) q6.length c6)) ((w6.setCell ⟨g, o + i * 4 + 2, none⟩ (.slice (some ⟨g6, 0, none⟩) q6.length c6)).setCell ⟨w.heap.size + 1, 0, none⟩ (.slice (some ⟨g, o, none⟩) xs.length c)) := Chg.setCell_ (S := fun b => b = w.heap.size + 1) (Chg.refl _ _) (p := ⟨w.heap.size + 1, 0, none⟩) rfl _
            have HF := Lib.hid hfin
            clear hfin
            go_wp2
            refine bodyPost_ret (v := .tuple #[.agg #[.slice (some ⟨g, o, none⟩) xs.length c], .bool false]) (by simp [results, Try.results32, go_sem, World.cell?_setCell_same _ _ _ X1f.out]) rfl ?_
            rw [HR.out]
            refine ⟨some ⟨g, o, none⟩, c, by simp, HBF.out.trans (HF.out.below (by have := HBF.out.size; omega) (fun k hk => by omega)), ?_⟩
            refine (Sl.frame (R := EK true) EK.framed HS.out HF.out (fun b hb h2 => by omega)).wider (fun b hb => ?_)
            have := HF.out.size
            omega
          · go_simp
            go_wp2_with fail
            refine hK.out _ _ ?_ (fun hHeld => ?_)
            · ((try dsimp only); first | exact n0 | exact n3 | exact m0 | exact (World.cell?_setCell_far _ _ _ _ (by simp only; omega)).trans M0.out | (simp [go_sem, *]; done))
            clear hK K
            (try simp only [Act.put, List.setIfInBounds_toArray, List.set_cons_zero, List.set_cons_succ])
            refine wpAnyH_ready (rs := [8]) (by kernel_rfl) (by simp) ?_
            refine (AllReadyH.cons (i := 8) (by simp only [List.getElem?_toArray, List.getElem?_cons_succ, List.getElem?_cons_zero]; rfl) (fun K hK => ?_) AllReadyH.nil)
            go_simp
            go_wp2_with fail
            refine hK.out _ _ ?_ (fun hHeld => ?_)
            · ((try dsimp only); first | exact n0 | exact n3 | exact m0 | exact (World.cell?_setCell_far _ _ _ _ (by simp only; omega)).trans M0.out | (simp [go_sem, *]; done))
            clear hK K
            (try simp only [Act.put, List.setIfInBounds_toArray, List.set_cons_zero, List.set_cons_succ])
            refine wpAnyH_ready (rs := [12]) (by kernel_rfl) (by simp) ?_
            refine (AllReadyH.cons (i := 12) (by simp only [List.getElem?_toArray, List.getElem?_cons_succ, List.getElem?_cons_zero]; rfl) (fun K hK => ?_) AllReadyH.nil)
            (refine step_appS (R := EB true) (u := true) (w0 := w2) (xs := f) (y := body) (Fn := fun b => b = g5) (T := (fun b => Fk b ∨ w2.heap.size ≤ b)) (gb := w3.heap.size) rfl EB.mov (.tmp 57) (.tmp 60) 49 rfl 38 i0 (.slice none 0 0) 24 Try.underlying49 hI0 hz0 hz1 hz2 rfl (by decide) rfl HOW.out HWB.out #[.slice (some ⟨g5, 0, none⟩) body.length c5] 38 HBK.out rfl (by simp [Value.oneCell']) rfl HFC.out (fun b hb => ⟨(HFF.out b hb).1, (HFF.out b hb).2.1, (HFF.out b hb).2.2.1, fun _ => (HFF.out b hb).2.2.2⟩) (by omega) (by decide) (Nat.zero_le _) ?_)
            intro g6 c6 w6 q6 HQ6 HO6 HG6 HC6 HB6
            have hWs := HWB.out.size
            have hs6 := HC6.out.size
            have hgl6 := HO6.out.lt
            have hgr6 : g6 = gr ∨ g6 = (w3.alloc (.cells #[.slice (some ⟨g5, 0, none⟩) body.length c5] 38)).heap.size := by
              rcases HG6.out with h | h
              · left; injection h with h; injection h with h; exact h.symm
              · right; exact h
            have rowc : ∀ p : Addr, p.block < (w3.alloc (.cells #[.slice (some ⟨g5, 0, none⟩) body.length c5] 38)).heap.size → p.block ≠ gr → w6.cell? p = (w3.alloc (.cells #[.slice (some ⟨g5, 0, none⟩) body.length c5] 38)).cell? p ∧ w6.frozen? p = (w3.alloc (.cells #[.slice (some ⟨g5, 0, none⟩) body.length c5] 38)).frozen? p := fun p hp hne => ⟨HC6.out.cell hp (fun ⟨a', ha', hb'⟩ => by injection ha' with ha'; subst ha'; exact hne hb'), HC6.out.frozen hp (fun ⟨a', ha', hb'⟩ => by injection ha' with ha'; subst ha'; exact hne hb')⟩
            have hggr : g ≠ gr := fun e => hnF (e ▸ hgr)
            have hggr' : ¬ gr = g := fun e => hggr e.symm
            have to6 : ∀ p : Addr, p.block < w2.heap.size → p.block ≠ gr → w6.cell? p = w2.cell? p ∧ w6.frozen? p = w2.frozen? p := fun p hp hne => ⟨(rowc p (by omega) hne).1.trans (HWB.out.cell hp), (rowc p (by omega) hne).2.trans (HWB.out.frozen hp)⟩
            have s0 := (to6 ⟨g, o + i * 4, none⟩ hg hggr).1.trans hc0
            have s1 := (to6 ⟨g, o + i * 4 + 1, none⟩ hg hggr).1.trans hc1
            have s2 := (to6 ⟨g, o + i * 4 + 2, none⟩ hg hggr).1.trans hc2
            have s3 := (to6 ⟨g, o + i * 4 + 3, none⟩ hg hggr).1.trans hc3
            have z2 := (to6 ⟨g, o + i * 4 + 2, none⟩ hg hggr).2.trans q2
            have m0 := (to6 ⟨nb, 0, none⟩ hnw2 (by simp only; omega)).1.trans n0
            have m1 := (to6 ⟨w.heap.size + 1, 0, none⟩ (by simp only; omega) (by simp only; omega)).1.trans x1
            have v1 := (to6 ⟨w.heap.size + 1, 0, none⟩ (by simp only; omega) (by simp only; omega)).2.trans f1
            have TO6 := Lib.hid to6
            have HGR6 := Lib.hid hgr6
            have hng6 : g6 ≠ g := by rcases hgr6 with h | h <;> omega
            have M0 := Lib.hid m0
            have M1 := Lib.hid m1
            have V1 := Lib.hid v1
            have S0 := Lib.hid s0
            have S1 := Lib.hid s1
            have S3 := Lib.hid s3
            have hne1 : ¬ g = w.heap.size + 1 := by omega
            have hne2 : ¬ w.heap.size + 1 = g := by omega
            have hne3 : ¬ g = nb := by omega
            have hne4 : ¬ nb = g := by omega
            clear to6 rowc hgr6
            go_wp2_with fail
            refine hK.out _ _ ?_ (fun hHeld => ?_)
            · ((try dsimp only); first | exact n0 | exact n3 | exact m0 | exact (World.cell?_setCell_far _ _ _ _ (by simp only; omega)).trans M0.out | (simp [go_sem, *]; done))
            clear hK K
            (try simp only [Act.put, List.setIfInBounds_toArray, List.set_cons_zero, List.set_cons_succ])
            refine wpAnyH_takeW (i := 13) (d := some 62) (v := ?_) (by simp only [List.getElem?_toArray, List.getElem?_cons_succ, List.getElem?_cons_zero]; rfl) (by rfl) (by kernel_rfl) (by kernel_rfl) (by kernel_rfl) (by intro _ _ _ h; exact h) (by rfl) ?_ (by assumption) ?_
            rotate_left 1
            · (intro w hSw; (try dsimp only at hSw); go_simp; try (with_reducible rfl))
            (try simp only [Act.put, List.setIfInBounds_toArray, List.set_cons_zero, List.set_cons_succ])
            refine wpAnyH_takeW (i := 14) (d := some 63) (v := ?_) (by simp only [List.getElem?_toArray, List.getElem?_cons_succ, List.getElem?_cons_zero]; rfl) (by rfl) (by kernel_rfl) (by kernel_rfl) (by kernel_rfl) (by intro _ _ _ h; exact h) (by rfl) ?_ (by assumption) ?_
            rotate_left 1
            · (intro w hSw; (try dsimp only at hSw); go_simp; try (with_reducible rfl))
            (try simp only [Act.put, List.setIfInBounds_toArray, List.set_cons_zero, List.set_cons_succ])
            refine wpAnyH_ready (rs := [15]) (by kernel_rfl) (by simp) ?_
            refine (AllReadyH.cons (i := 15) (by simp only [List.getElem?_toArray, List.getElem?_cons_succ, List.getElem?_cons_zero]; rfl) (fun K hK => ?_) AllReadyH.nil)
            go_simp
            go_wp2_with fail
            refine hK.out _ _ ?_ (fun hHeld => ?_)
            · ((try dsimp only); first | exact n0 | exact n3 | exact m0 | exact (World.cell?_setCell_far _ _ _ _ (by simp only; omega)).trans M0.out | (simp [go_sem, *]; done))
            clear hK K
            (try simp only [Act.put, List.setIfInBounds_toArray, List.set_cons_zero, List.set_cons_succ])
            refine wpAnyH_done (by kernel_rfl) ?_ _
            have hst : Chg (fun b => b = g) w6 (w6.setCell ⟨g, o + i * 4 + 2, none⟩ (.slice (some ⟨g6, 0, none⟩) q6.length c6)) := Chg.setCell_ (S := fun b => b = g) (Chg.refl _ _) (p := ⟨g, o + i * 4 + 2, none⟩) rfl _
            have hlt6 : g < w6.heap.size := by omega
            have oth : ∀ j, j ≠ o + i * 4 + 2 → (w6.setCell ⟨g, o + i * 4 + 2, none⟩ (.slice (some ⟨g6, 0, none⟩) q6.length c6)).cell? ⟨g, j, none⟩ = w6.cell? ⟨g, j, none⟩ := fun j hj => World.cell?_setCell_other _ _ _ _ (fun e => by injection e with _ e2; omega)
            have fz : ∀ j, (w6.setCell ⟨g, o + i * 4 + 2, none⟩ (.slice (some ⟨g6, 0, none⟩) q6.length c6)).frozen? ⟨g, j, none⟩ = w2.frozen? ⟨g, j, none⟩ := fun j => (World.frozen?_setCell _ _ _ _).trans (TO6.out ⟨g, j, none⟩ hg hggr).2
            have hsz7 : (w6.setCell ⟨g, o + i * 4 + 2, none⟩ (.slice (some ⟨g6, 0, none⟩) q6.length c6)).heap.size = w6.heap.size := by simp [World.setCell]
            have hc26 : Chg (fun b => b = gr ∨ w2.heap.size ≤ b) w2 w6 := ((Chg.of_below HWB.out).trans (HC6.out.mono (fun b _ hb => by obtain ⟨a', ha', hb⟩ := hb; injection ha' with ha'; subst ha'; exact .inl hb))).mono (fun b _ hb => hb)
            have hown : OwS true 1 (EB true) 38 (w6.setCell ⟨g, o + i * 4 + 2, none⟩ (.slice (some ⟨g6, 0, none⟩) q6.length c6)) (fun b => Fk b ∨ (w2.heap.size ≤ b ∧ b < w6.heap.size)) 0 (some ⟨g6, 0, none⟩) c6 q6 :=
              (OwS.frame (R := EB true) EB.framed HO6.out hst (fun b h1 h2 => by subst h2; rcases h1 with h1 | h1; exact hnF h1; omega) (fun a' ha' h2 => by injection ha' with ha'; subst ha'; exact hng6 h2)).widerT (fun b h1 h2 => by rcases h1 with h1 | h1; exact .inl h1; exact .inr ⟨h1, by omega⟩)
            have hnrow : Fk g6 ∨ (w2.heap.size ≤ g6 ∧ g6 < w6.heap.size) := by
              rcases HGR6.out with h | h
              · left; rw [h]; exact hgr
              · right; omega
            have HS0 := HSET.out (w6.setCell ⟨g, o + i * 4 + 2, none⟩ (.slice (some ⟨g6, 0, none⟩) q6.length c6)) ⟨sx, true, q6, l⟩ (fun b => Fk b ∨ (w2.heap.size ≤ b ∧ b < w6.heap.size)) (fun b hb => by rcases hb with hb | hb; exact .inl hb; exact .inr (by omega)) ((hc26.mono (fun b _ hb => by rcases hb with hb | hb; exact .inr (.inl (hb ▸ hgr)); exact .inr (.inr (by omega)))).trans (hst.mono (fun b _ hb => .inl hb))) (fun j hj => ⟨(oth j (by omega)).trans (TO6.out ⟨g, j, none⟩ hg hggr).1, fz j⟩)
              ⟨(oth _ (by omega)).trans S0.out, (oth _ (by omega)).trans S1.out, (oth _ (by omega)).trans S3.out, (fz _).trans q0, (fz _).trans q1, (fz _).trans q3, (fz _).trans q2, g6, c6, World.cell?_setCell_same _ _ _ s2, hnrow, hown⟩
            have hq6 : q6 = f ++ [body] := HQ6.out
            have HS : Hid (Sl true 4 (EK true) (w6.setCell ⟨g, o + i * 4 + 2, none⟩ (.slice (some ⟨g6, 0, none⟩) q6.length c6)) (fun b => w.heap.size + 2 ≤ b ∧ b ≠ nb ∧ b < w6.heap.size) (some ⟨g, o, none⟩) (xs.set i ⟨sx, true, f ++ [body], l⟩)) := Lib.hid (by
              rw [← hq6]
              refine (SlO.ek HS0).wider (fun b hb => ?_)
              rcases hb with hb | hb | hb
              · have := hb.1; omega
              · have := HFT.out b hb; omega
              · omega)
            have HBF := Lib.hid ((HB2.out.trans ((HWB.out.mono (by omega)).trans (HC6.out.below (by omega) (fun k hk => by obtain ⟨a', ha', hk⟩ := hk; injection ha' with ha'; subst ha'; simp only at hk; omega)))).trans (hst.below (by omega) (fun k hk => by omega)))
            have x1f : (w6.setCell ⟨g, o + i * 4 + 2, none⟩ (.slice (some ⟨g6, 0, none⟩) q6.length c6)).cell? ⟨w.heap.size + 1, 0, none⟩ = some (.slice none 0 0) := (hst.cell (p := ⟨w.heap.size + 1, 0, none⟩) (by simp only; omega) (by simp only; omega)).trans M1.out
            have f1f : (w6.setCell ⟨g, o + i * 4 + 2, none⟩ (.slice (some ⟨g6, 0, none⟩) q6.length c6)).frozen? ⟨w.heap.size + 1, 0, none⟩ = false := (hst.frozen (p := ⟨w.heap.size + 1, 0, none⟩) (by simp only; omega) (by simp only; omega)).trans V1.out
            have n0f : (w6.setCell ⟨g, o + i * 4 + 2, none⟩ (.slice (some ⟨g6, 0, none⟩) q6.length c6)).cell? ⟨nb, 0, none⟩ = some (.slice (some ⟨g, o, none⟩) xs.length c) := (hst.cell (p := ⟨nb, 0, none⟩) (by simp only; omega) (by simp only; omega)).trans M0.out
            have X1f := Lib.hid x1f
            have hnwl : w2.heap.size ≤ (w6.setCell ⟨g, o + i * 4 + 2, none⟩ (.slice (some ⟨g6, 0, none⟩) q6.length c6)).heap.size := by omega
            clear hst oth fz HS0 hown hc26 hq6
            have hfin : Chg (fun b => b = w.heap.size + 1) (w6.setCell ⟨g, o + i * 4 + 2, none⟩ (.slice (some ⟨g6, 0, none⟩) q6.length c6)) ((w6.setCell ⟨g, o + i * 4 + 2, none⟩ (.slice (some ⟨g6, 0, none⟩) q6.length c6)).setCell ⟨w.heap.size + 1, 0, none⟩ (.slice (some ⟨g, o, none⟩) xs.length c)) := Chg.setCell_ (S := fun b => b = w.heap.size + 1) (Chg.refl _ _) (p := ⟨w.heap.size + 1, 0, none⟩) rfl _
            have HF := Lib.hid hfin
            clear hfin
            go_wp2
            refine bodyPost_ret (v := .tuple #[.agg #[.slice (some ⟨g, o, none⟩) xs.length c], .bool false]) (by simp [results, Try.results32, go_sem, World.cell?_setCell_same _ _ _ X1f.out]) rfl ?_
            rw [HR.out]
            refine ⟨some ⟨g, o, none⟩, c, by simp, HBF.out.trans (HF.out.below (by have := HBF.out.size; omega) (fun k hk => by omega)), ?_⟩
            refine (Sl.frame (R := EK true) EK.framed HS.out HF.out (fun b hb h2 => by omega)).wider (fun b hb => ?_)
            have := HF.out.size
            omega

end Go.Proofs.Ytbfbjkcmehalhaa
