/- DropStation of the reference. -/
import Derived.Test.YtbfbjkcmehalhaaPcq
import Derived.Test.YtbfbjkcmehalhaaHeld
namespace Go.Proofs.Ytbfbjkcmehalhaa
open Go.RowKit
set_option linter.unusedVariables false
set_option linter.unusedSimpArgs false

def CpF (w : World) (xs : List KT) (e : Ending) (w' : World) : Prop := ∃ A c, e = .returned (.agg #[.slice A xs.length c]) ∧ Below w.heap.size w w' ∧ Sl false 4 (EK false) w' (fun b => w.heap.size ≤ b ∧ b < w'.heap.size) A xs
theorem chg_above {B : Nat} {a b : World} (h : Below B a b) (hB : B ≤ a.heap.size) : Chg (fun k => B ≤ k) a b := ⟨h.os, h.tape, h.output, h.size, fun k hk hn => h.block k (by omega)⟩
set_option maxHeartbeats 4000000 in
theorem specDrop_any {T : Nat → Prop} (st0 : Int) (A : Option Addr) (c : Nat) (xs : List KT) (w : World) (hx : Sl false 4 (EK false) w T A xs) (hm : xs.length ≤ 1000000000) (hlx : ∀ x ∈ xs, x.fr.length ≤ 1000000000 ∧ ∀ f ∈ x.fr, f.length ≤ 1000000000) :
    Calls Try.prog 21 #[.agg #[.slice A xs.length c], .int .i64 st0] w fun e w' => CpF w (xs.filter fun x => x.st != st0) e w' := by
  obtain ⟨i0, hI0, hz0, hz1, hz2⟩ := info_parts infoKT
  have HX := Lib.hid hx
  have HLX := Lib.hid hlx
  clear hx hlx
  go_enter Try.func21, Try.ntmps21
  go_wp2_with fail
  refine (l26Copy_any A c xs _ (Sl.below (R := EK false) EK.framed HX.out (by repeat (first | (with_reducible exact Below.refl _ _) | (with_reducible refine Below.ext ?_ (by go_size) _ _) | (with_reducible refine Below.alloc ?_ (by go_size) _) | (with_reducible refine Below.setCell ?_ (by go_size) _) | (with_reducible refine Below.drew ?_) | (with_reducible refine Below.drewN_ ?_ _)))) hm HLX.out).mono ?_
  rintro e w1 ⟨Ain, cin, rfl, hb, hin⟩
  replace hin := SlO.ek hin
  have hs1 := hb.size
  have x1 := hb.cell (p := ⟨w.heap.size + 1, 0, none⟩) (by simp)
  have x2 := hb.cell (p := ⟨w.heap.size + 2, 0, none⟩) (by simp)
  have f1 := hb.frozen (p := ⟨w.heap.size + 1, 0, none⟩) (by simp)
  have f2 := hb.frozen (p := ⟨w.heap.size + 2, 0, none⟩) (by simp)
  simp [go_sem] at x1 x2 f1 f2 hs1
  have HB1 : Hid (Below w.heap.size w w1) := Lib.hid (Below.trans (by repeat (first | (with_reducible exact Below.refl _ _) | (with_reducible refine Below.ext ?_ (by go_size) _ _) | (with_reducible refine Below.alloc ?_ (by go_size) _) | (with_reducible refine Below.setCell ?_ (by go_size) _) | (with_reducible refine Below.drew ?_) | (with_reducible refine Below.drewN_ ?_ _))) (hb.mono (by simp; omega)))
  have HIN1 := Lib.hid (hin.wider (T' := fun b => w.heap.size + 3 ≤ b ∧ b < w1.heap.size) (fun b hb => by simp at hb; omega))
  clear hb hin HX
  obtain ⟨nb, hnb⟩ : ∃ nb, nb = w1.heap.size := ⟨_, rfl⟩
  go_wp2
  go_loopw [7] (fun p wr => ∃ (i : Nat) (A' : Option Addr) (c' : Nat) (q : List KT), i ≤ xs.length ∧ p = .int .i64 (i : Int) ∧ Hid (q = (xs.take i).filter fun x => x.st != st0) ∧ Hid (Below w.heap.size w wr) ∧ Hid (OwS false 4 (EK false) 51 wr (fun b => w.heap.size + 3 ≤ b ∧ b < nb) (nb + 1) A' c' q) ∧ nb < wr.heap.size ∧
      wr.cell? ⟨nb, 0, none⟩ = some (.slice Ain xs.length cin) ∧ wr.cell? ⟨w.heap.size + 1, 0, none⟩ = some (.slice none 0 0) ∧ wr.cell? ⟨w.heap.size + 2, 0, none⟩ = some (.slice A' q.length c') ∧ wr.frozen? ⟨w.heap.size + 1, 0, none⟩ = false ∧ wr.frozen? ⟨w.heap.size + 2, 0, none⟩ = false ∧ Hid (Sl true 4 (EK true) wr (fun b => w.heap.size + 3 ≤ b ∧ b < nb) Ain xs))
    (fun p _ => xs.length - (intOf p).toNat)
  case atStart =>
    have hal : Below w1.heap.size w1 (w1.alloc (.cells #[.slice Ain xs.length cin] 29)) := Below.alloc (Below.refl _ _) (Nat.le_refl _) _
    refine ⟨0, none, 0, [], Nat.zero_le _, rfl, Lib.hid (by simp), Lib.hid (HB1.out.trans (hal.mono (by omega))), Lib.hid OwS.nil, by simp [hnb], by rw [hnb]; exact (block_cell (World.heap_new _ _ _ rfl) 0).1, (hal.cell (p := ⟨w.heap.size + 1, 0, none⟩) (by simp only; omega)).trans x1, (hal.cell (p := ⟨w.heap.size + 2, 0, none⟩) (by simp only; omega)).trans x2, (hal.frozen (p := ⟨w.heap.size + 1, 0, none⟩) (by simp only; omega)).trans f1, (hal.frozen (p := ⟨w.heap.size + 2, 0, none⟩) (by simp only; omega)).trans f2, Lib.hid ?_⟩
    rw [hnb]
    exact Sl.below (R := EK true) EK.framed HIN1.out hal
  case round =>
    have hnw : w.heap.size + 3 ≤ nb := by omega
    rw [← hnb]
    clear x1 x2 f1 f2 HIN1 HB1 hnb
    obtain ⟨i, A', c', q, hi, rfl, HQ, HB, HO, hws, hx0, hx1, hx2, hy1, hy2, HIN⟩ := hrel
    have hqi : q.length ≤ 1000000000 := by rw [HQ.out]; refine Nat.le_trans ?_ hm; exact Nat.le_trans (List.length_filter_le _ _) (by rw [List.length_take]; omega)
    by_cases hlt : i < xs.length
    · obtain ⟨g, o, F, rfl, hg, hel, hT, hFT⟩ := HIN.out.at_ i hlt
      have HEL := Lib.hid hel.read
      obtain ⟨hc0, hc1, hc3, _, ⟨B1, d1, hc2, _, hr1⟩⟩ := hel
      have htk : xs.take (i + 1) = xs.take i ++ [xs[i]] := by rw [List.take_add_one, List.getElem?_eq_getElem hlt]; rfl
      have HTK := Lib.hid htk
      have hlt2 : (i : Int) < (xs.length : Int) := by omega
      have HFT := Lib.hid hFT
      clear hr1 htk hFT
      generalize xs[i] = x at *
      obtain ⟨s, a, f, l⟩ := x
      simp only at hc0 hc1 hc2 hc3 hT
      obtain ⟨hgT, hgn⟩ := hT
      by_cases hst : s = st0
      · subst hst
        have HSN : Hid ((s != s) = false) := Lib.hid (by simp)
        go_wp2
        go_roundw
        case rel => exact ⟨i + 1, A', c', q, by omega, by go_num, Lib.hid (by rw [HQ.out, HTK.out, List.filter_append]; simp [HSN.out]), HB, HO, hws, hx0, hx1, hx2, hy1, hy2, HIN⟩
        case measure => simp [intOf]; omega
      · have HSN : Hid ((s != st0) = true) := Lib.hid (by simp [hst])
        have hst' : (s == st0) = false := by simp [hst]
        have hbW : Below wr.heap.size wr (wr.drew.alloc (.cells #[.int .i64 s, .bool a, .slice B1 f.length d1, .int .i64 l] 51)) := Below.alloc (Below.drew (Below.refl _ _)) (Nat.le_refl _) _
        have HBW := Lib.hid hbW
        have HBK : Hid ((wr.drew.alloc (.cells #[.int .i64 s, .bool a, .slice B1 f.length d1, .int .i64 l] 51)).heap[wr.heap.size]? = some (.cells #[.int .i64 s, .bool a, .slice B1 f.length d1, .int .i64 l] 51)) := Lib.hid (World.heap_new _ _ _ rfl)
        have HBA : Hid (nb + 1 ≤ (wr.drew.alloc (.cells #[.int .i64 s, .bool a, .slice B1 f.length d1, .int .i64 l] 51)).heap.size) := Lib.hid (by simp; omega)
        have HFC : Hid (EK false (wr.drew.alloc (.cells #[.int .i64 s, .bool a, .slice B1 f.length d1, .int .i64 l] 51)) F wr.heap.size 0 ⟨s, a, f, l⟩) := Lib.hid (by
          refine EK.mov HEL.out hbW.size (fun j hj => ?_) (fun b hb1 _ => hbW.block b hb1)
          have e0 := block_cell HBK.out (0 + j)
          refine ⟨e0.1.trans ?_, e0.2⟩
          match j, hj with
          | 0, _ => exact hc0.symm
          | 1, _ => exact hc1.symm
          | 2, _ => exact hc2.symm
          | 3, _ => exact hc3.symm)
        have HFF : Hid (∀ b, F b → (fun b => w.heap.size + 3 ≤ b ∧ b < nb) b ∧ b < (wr.drew.alloc (.cells #[.int .i64 s, .bool a, .slice B1 f.length d1, .int .i64 l] 51)).heap.size ∧ Off A' b) := Lib.hid (by
          intro b hb
          have h1 := HFT.out b hb
          refine ⟨h1, by simp; omega, fun a' ha' => ?_⟩
          obtain ⟨vs, F', h2, _⟩ := HO.out
          have := own_ge h2 a'.block (by rw [ha']; rfl)
          omega)
        have y0 := (hbW.cell (p := ⟨nb, 0, none⟩) hws).trans hx0
        have y1 := (hbW.cell (p := ⟨g, o + i * 4, none⟩) (by simp only; omega)).trans hc0
        have y2 := (hbW.cell (p := ⟨g, o + i * 4 + 1, none⟩) (by simp only; omega)).trans hc1
        have y3 := (hbW.cell (p := ⟨g, o + i * 4 + 2, none⟩) (by simp only; omega)).trans hc2
        have y4 := (hbW.cell (p := ⟨g, o + i * 4 + 3, none⟩) (by simp only; omega)).trans hc3
        have Y0 := Lib.hid y0
        have Y1 := Lib.hid y1
        have Y2 := Lib.hid y2
        have Y3 := Lib.hid y3
        have Y4 := Lib.hid y4
        have Z1 := Lib.hid ((hbW.cell (p := ⟨w.heap.size + 1, 0, none⟩) (by simp only; omega)).trans hx1)
        have Z2 := Lib.hid ((hbW.cell (p := ⟨w.heap.size + 2, 0, none⟩) (by simp only; omega)).trans hx2)
        have V1 := Lib.hid ((hbW.frozen (p := ⟨w.heap.size + 1, 0, none⟩) (by simp only; omega)).trans hy1)
        have V2 := Lib.hid ((hbW.frozen (p := ⟨w.heap.size + 2, 0, none⟩) (by simp only; omega)).trans hy2)
        have hgw : g < wr.heap.size := by omega
        clear hbW HEL
        have hb2w : w.heap.size + 2 < wr.heap.size := by omega
        have hb2w' : w.heap.size + 1 + 1 < wr.heap.size := by omega
        go_wp2
        refine wp_region_held_drew (S := (fun w' => w'.cell? ⟨nb, 0, none⟩ = some (.slice (some ⟨g, o, none⟩) xs.length cin) ∧ w'.cell? ⟨g, o + i * 4, none⟩ = some (.int .i64 s) ∧ w'.cell? ⟨g, o + i * 4 + 1, none⟩ = some (.bool a) ∧ w'.cell? ⟨g, o + i * 4 + 2, none⟩ = some (.slice B1 f.length d1) ∧ w'.cell? ⟨g, o + i * 4 + 3, none⟩ = some (.int .i64 l))) (by kernel_rfl) ?_ (fun hHeld => ?_)
        · first | exact ⟨hx0, hc0, hc1, hc2, hc3⟩ | exact ⟨a0, a1, a2, a3, a4⟩ | exact ⟨y0, y1, y2, y3, y4⟩ | exact ⟨(World.cell?_setCell_far _ _ _ _ (by simp only; omega)).trans a0, (World.cell?_setCell_far _ _ _ _ (by simp only; omega)).trans a1, (World.cell?_setCell_far _ _ _ _ (by simp only; omega)).trans a2, (World.cell?_setCell_far _ _ _ _ (by simp only; omega)).trans a3, (World.cell?_setCell_far _ _ _ _ (by simp only; omega)).trans a4⟩
        refine wpAnyH_takeW (i := 0) (d := some 26) (v := ?_) (by simp only [List.getElem?_toArray, List.getElem?_cons_succ, List.getElem?_cons_zero]; rfl) (by rfl) (by kernel_rfl) (by kernel_rfl) (by kernel_rfl) (by intro _ _ _ h; exact h) (by rfl) ?_ (by assumption) ?_
        rotate_left 1
        · (intro w hSw; (try dsimp only at hSw); go_simp; try (with_reducible rfl))
        (try simp only [Act.put, List.setIfInBounds_toArray, List.set_cons_zero, List.set_cons_succ])
        refine wpAnyH_takeW (i := 2) (d := some 28) (v := ?_) (by simp only [List.getElem?_toArray, List.getElem?_cons_succ, List.getElem?_cons_zero]; rfl) (by rfl) (by kernel_rfl) (by kernel_rfl) (by kernel_rfl) (by intro _ _ _ h; exact h) (by rfl) ?_ (by assumption) ?_
        rotate_left 1
        · (intro w hSw; (try dsimp only at hSw); go_simp; try (with_reducible rfl))
        (try simp only [Act.put, List.setIfInBounds_toArray, List.set_cons_zero, List.set_cons_succ])
        refine wpAnyH_takeW (i := 3) (d := some 29) (v := ?_) (by simp only [List.getElem?_toArray, List.getElem?_cons_succ, List.getElem?_cons_zero]; rfl) (by rfl) (by kernel_rfl) (by kernel_rfl) (by kernel_rfl) (by intro _ _ _ h; exact h) (by rfl) ?_ (by assumption) ?_
        rotate_left 1
        · (intro w hSw; (try dsimp only at hSw); go_simp; try (with_reducible rfl))
        (try simp only [Act.put, List.setIfInBounds_toArray, List.set_cons_zero, List.set_cons_succ])
        refine wpAnyH_takeW (i := 4) (d := some 30) (v := ?_) (by simp only [List.getElem?_toArray, List.getElem?_cons_succ, List.getElem?_cons_zero]; rfl) (by rfl) (by kernel_rfl) (by kernel_rfl) (by kernel_rfl) (by intro _ _ _ h; exact h) (by rfl) ?_ (by assumption) ?_
        rotate_left 1
        · (intro w hSw; (try dsimp only at hSw); go_simp; try (with_reducible rfl))
        (try simp only [Act.put, List.setIfInBounds_toArray, List.set_cons_zero, List.set_cons_succ])
        refine wpAnyH_takeW (i := 5) (d := some 31) (v := ?_) (by simp only [List.getElem?_toArray, List.getElem?_cons_succ, List.getElem?_cons_zero]; rfl) (by rfl) (by kernel_rfl) (by kernel_rfl) (by kernel_rfl) (by intro _ _ _ h; exact h) (by rfl) ?_ (by assumption) ?_
        rotate_left 1
        · (intro w hSw; (try dsimp only at hSw); go_simp; try (with_reducible rfl))
        (try simp only [Act.put, List.setIfInBounds_toArray, List.set_cons_zero, List.set_cons_succ])
        refine wpAnyH_takeW (i := 6) (d := some 32) (v := ?_) (by simp only [List.getElem?_toArray, List.getElem?_cons_succ, List.getElem?_cons_zero]; rfl) (by rfl) (by kernel_rfl) (by kernel_rfl) (by kernel_rfl) (by intro _ _ _ h; exact h) (by rfl) ?_ (by assumption) ?_
        rotate_left 1
        · (intro w hSw; (try dsimp only at hSw); go_simp; try (with_reducible rfl))
        (try simp only [Act.put, List.setIfInBounds_toArray, List.set_cons_zero, List.set_cons_succ])
        refine wpAnyH_ready (rs := [1, 7]) (by kernel_rfl) (by simp) ?_
        refine (AllReadyH.cons (i := 1) (by simp only [List.getElem?_toArray, List.getElem?_cons_succ, List.getElem?_cons_zero]; rfl) (fun K hK => ?_) (AllReadyH.cons (i := 7) (by simp only [List.getElem?_toArray, List.getElem?_cons_succ, List.getElem?_cons_zero]; rfl) (fun K hK => ?_) AllReadyH.nil))
        · go_simp
          go_wp2_with fail
          refine hK.out _ _ ?_ (fun hHeld => ?_)
          · ((try dsimp only); first | exact ⟨hx0, hc0, hc1, hc2, hc3⟩ | exact ⟨a0, a1, a2, a3, a4⟩ | exact ⟨y0, y1, y2, y3, y4⟩ | exact ⟨(World.cell?_setCell_far _ _ _ _ (by simp only; omega)).trans a0, (World.cell?_setCell_far _ _ _ _ (by simp only; omega)).trans a1, (World.cell?_setCell_far _ _ _ _ (by simp only; omega)).trans a2, (World.cell?_setCell_far _ _ _ _ (by simp only; omega)).trans a3, (World.cell?_setCell_far _ _ _ _ (by simp only; omega)).trans a4⟩)
          clear hK K
          (try simp only [Act.put, List.setIfInBounds_toArray, List.set_cons_zero, List.set_cons_succ])
          refine wpAnyH_ready (rs := [7]) (by kernel_rfl) (by simp) ?_
          refine (AllReadyH.cons (i := 7) (by simp only [List.getElem?_toArray, List.getElem?_cons_succ, List.getElem?_cons_zero]; rfl) (fun K hK => ?_) AllReadyH.nil)
          go_simp
          go_wp2_with fail
          refine hK.out _ _ ?_ (fun hHeld => ?_)
          · ((try dsimp only); first | exact ⟨hx0, hc0, hc1, hc2, hc3⟩ | exact ⟨a0, a1, a2, a3, a4⟩ | exact ⟨y0, y1, y2, y3, y4⟩ | exact ⟨(World.cell?_setCell_far _ _ _ _ (by simp only; omega)).trans a0, (World.cell?_setCell_far _ _ _ _ (by simp only; omega)).trans a1, (World.cell?_setCell_far _ _ _ _ (by simp only; omega)).trans a2, (World.cell?_setCell_far _ _ _ _ (by simp only; omega)).trans a3, (World.cell?_setCell_far _ _ _ _ (by simp only; omega)).trans a4⟩)
          clear hK K
          (try simp only [Act.put, List.setIfInBounds_toArray, List.set_cons_zero, List.set_cons_succ])
          refine wpAnyH_ready (rs := [8]) (by kernel_rfl) (by simp) ?_
          refine (AllReadyH.cons (i := 8) (by simp only [List.getElem?_toArray, List.getElem?_cons_succ, List.getElem?_cons_zero]; rfl) (fun K hK => ?_) AllReadyH.nil)
          (refine step_appS (R := EK false) (u := false) (w0 := wr) (xs := q) (y := ⟨s, a, f, l⟩) (Fn := F) (T := (fun b => w.heap.size + 3 ≤ b ∧ b < nb)) (gb := wr.heap.size) rfl EK.mov (.tmp 27) (.tmp 33) 27 rfl 51 i0 (.agg #[.int .i64 0, .bool false, .slice none 0 0, .int .i64 0]) 48 Try.underlying27 hI0 hz0 hz1 hz2 (by simp [Value.cells]) (by decide) rfl HO.out HBW.out #[.int .i64 s, .bool a, .slice B1 f.length d1, .int .i64 l] 51 HBK.out rfl (by simp [Value.oneCell']) rfl HFC.out (fun b hb => ⟨(HFF.out b hb).1, (HFF.out b hb).2.1, (HFF.out b hb).2.2, fun h => by cases h⟩) hqi (by decide) HBA.out ?_)
          intro g4 c4 w4 q4 HQ4 HO4 HG4 HC4 HB4
          have hbase : nb < nb + 1 := by omega
          have a0 := (HB4.out.cell (p := ⟨nb, 0, none⟩) hbase).trans Y0.out
          have a1 := (HB4.out.cell (p := ⟨g, o + i * 4, none⟩) (by simp only; omega)).trans Y1.out
          have a2 := (HB4.out.cell (p := ⟨g, o + i * 4 + 1, none⟩) (by simp only; omega)).trans Y2.out
          have a3 := (HB4.out.cell (p := ⟨g, o + i * 4 + 2, none⟩) (by simp only; omega)).trans Y3.out
          have a4 := (HB4.out.cell (p := ⟨g, o + i * 4 + 3, none⟩) (by simp only; omega)).trans Y4.out
          have b1 := (HB4.out.cell (p := ⟨w.heap.size + 1, 0, none⟩) (by simp only; omega)).trans Z1.out
          have b2 := (HB4.out.cell (p := ⟨w.heap.size + 2, 0, none⟩) (by simp only; omega)).trans Z2.out
          have v1 := (HB4.out.frozen (p := ⟨w.heap.size + 1, 0, none⟩) (by simp only; omega)).trans V1.out
          have v2 := (HB4.out.frozen (p := ⟨w.heap.size + 2, 0, none⟩) (by simp only; omega)).trans V2.out
          have hne1 : ¬ nb = w.heap.size + 2 := by omega
          have hne2 : ¬ g = w.heap.size + 2 := by omega
          have hne3 : ¬ w.heap.size + 2 = nb := by omega
          have hne4 : ¬ w.heap.size + 2 = g := by omega
          go_wp2_with fail
          refine hK.out _ _ ?_ (fun hHeld => ?_)
          · ((try dsimp only); first | exact ⟨hx0, hc0, hc1, hc2, hc3⟩ | exact ⟨a0, a1, a2, a3, a4⟩ | exact ⟨y0, y1, y2, y3, y4⟩ | exact ⟨(World.cell?_setCell_far _ _ _ _ (by simp only; omega)).trans a0, (World.cell?_setCell_far _ _ _ _ (by simp only; omega)).trans a1, (World.cell?_setCell_far _ _ _ _ (by simp only; omega)).trans a2, (World.cell?_setCell_far _ _ _ _ (by simp only; omega)).trans a3, (World.cell?_setCell_far _ _ _ _ (by simp only; omega)).trans a4⟩)
          clear hK K
          (try simp only [Act.put, List.setIfInBounds_toArray, List.set_cons_zero, List.set_cons_succ])
          refine wpAnyH_takeW (i := 9) (d := some 35) (v := ?_) (by simp only [List.getElem?_toArray, List.getElem?_cons_succ, List.getElem?_cons_zero]; rfl) (by rfl) (by kernel_rfl) (by kernel_rfl) (by kernel_rfl) (by intro _ _ _ h; exact h) (by rfl) ?_ (by assumption) ?_
          rotate_left 1
          · (intro w hSw; (try dsimp only at hSw); go_simp; try (with_reducible rfl))
          (try simp only [Act.put, List.setIfInBounds_toArray, List.set_cons_zero, List.set_cons_succ])
          refine wpAnyH_ready (rs := [10]) (by kernel_rfl) (by simp) ?_
          refine (AllReadyH.cons (i := 10) (by simp only [List.getElem?_toArray, List.getElem?_cons_succ, List.getElem?_cons_zero]; rfl) (fun K hK => ?_) AllReadyH.nil)
          go_simp
          go_wp2_with fail
          refine hK.out _ _ ?_ (fun hHeld => ?_)
          · ((try dsimp only); first | exact ⟨hx0, hc0, hc1, hc2, hc3⟩ | exact ⟨a0, a1, a2, a3, a4⟩ | exact ⟨y0, y1, y2, y3, y4⟩ | exact ⟨(World.cell?_setCell_far _ _ _ _ (by simp only; omega)).trans a0, (World.cell?_setCell_far _ _ _ _ (by simp only; omega)).trans a1, (World.cell?_setCell_far _ _ _ _ (by simp only; omega)).trans a2, (World.cell?_setCell_far _ _ _ _ (by simp only; omega)).trans a3, (World.cell?_setCell_far _ _ _ _ (by simp only; omega)).trans a4⟩)
          clear hK K
          (try simp only [Act.put, List.setIfInBounds_toArray, List.set_cons_zero, List.set_cons_succ])
          refine wpAnyH_done (by kernel_rfl) ?_ _
          go_wp2
          go_roundw
          case rel =>
            have hfin : Chg (fun b => b = w.heap.size + 2) w4 (w4.setCell ⟨w.heap.size + 2, 0, none⟩ (.slice (some ⟨g4, 0, none⟩) q4.length c4)) := Chg.setCell_ (S := fun b => b = w.heap.size + 2) (Chg.refl _ _) (p := ⟨w.heap.size + 2, 0, none⟩) rfl _
            have hs4 := HB4.out.size
            have hs4' := HBA.out
            have hge4 := HO4.out.ge
            have hlt4 := HO4.out.lt
            have hw4 : Below w.heap.size w w4 := (HB.out.trans (HBW.out.mono (by omega))).trans (HB4.out.mono (by omega))
            refine ⟨i + 1, some ⟨g4, 0, none⟩, c4, q4, by omega, by go_num, Lib.hid (by rw [HQ4.out, HQ.out, HTK.out, List.filter_append]; simp [HSN.out]), Lib.hid (hw4.trans (hfin.below (by omega) (fun k hk => by omega))), Lib.hid (OwS.frame (R := EK false) EK.framed HO4.out hfin (fun b hb h2 => by omega) (fun a' ha' h2 => by injection ha' with ha'; subst ha'; simp only at h2; omega)), by simp [World.setCell]; omega, (World.cell?_setCell_far _ _ _ _ (by simp only; omega)).trans a0, (World.cell?_setCell_far _ _ _ _ (by simp only; omega)).trans b1, World.cell?_setCell_same _ _ _ b2, (World.frozen?_setCell _ _ _ _).trans v1, (World.frozen?_setCell _ _ _ _).trans v2, Lib.hid ?_⟩
            refine Sl.frame (R := EK true) EK.framed (Sl.frame (R := EK true) EK.framed HIN.out ((Chg.of_below HBW.out).trans (chg_above HB4.out (by omega))) (fun b hb h2 => by omega)) hfin (fun b hb h2 => by omega)
          case measure => simp [intOf]; omega
        · go_simp
          go_wp2_with fail
          refine hK.out _ _ ?_ (fun hHeld => ?_)
          · ((try dsimp only); first | exact ⟨hx0, hc0, hc1, hc2, hc3⟩ | exact ⟨a0, a1, a2, a3, a4⟩ | exact ⟨y0, y1, y2, y3, y4⟩ | exact ⟨(World.cell?_setCell_far _ _ _ _ (by simp only; omega)).trans a0, (World.cell?_setCell_far _ _ _ _ (by simp only; omega)).trans a1, (World.cell?_setCell_far _ _ _ _ (by simp only; omega)).trans a2, (World.cell?_setCell_far _ _ _ _ (by simp only; omega)).trans a3, (World.cell?_setCell_far _ _ _ _ (by simp only; omega)).trans a4⟩)
          clear hK K
          (try simp only [Act.put, List.setIfInBounds_toArray, List.set_cons_zero, List.set_cons_succ])
          refine wpAnyH_ready (rs := [1]) (by kernel_rfl) (by simp) ?_
          refine (AllReadyH.cons (i := 1) (by simp only [List.getElem?_toArray, List.getElem?_cons_succ, List.getElem?_cons_zero]; rfl) (fun K hK => ?_) AllReadyH.nil)
          go_simp
          go_wp2_with fail
          refine hK.out _ _ ?_ (fun hHeld => ?_)
          · ((try dsimp only); first | exact ⟨hx0, hc0, hc1, hc2, hc3⟩ | exact ⟨a0, a1, a2, a3, a4⟩ | exact ⟨y0, y1, y2, y3, y4⟩ | exact ⟨(World.cell?_setCell_far _ _ _ _ (by simp only; omega)).trans a0, (World.cell?_setCell_far _ _ _ _ (by simp only; omega)).trans a1, (World.cell?_setCell_far _ _ _ _ (by simp only; omega)).trans a2, (World.cell?_setCell_far _ _ _ _ (by simp only; omega)).trans a3, (World.cell?_setCell_far _ _ _ _ (by simp only; omega)).trans a4⟩)
          clear hK K
          (try simp only [Act.put, List.setIfInBounds_toArray, List.set_cons_zero, List.set_cons_succ])
          refine wpAnyH_ready (rs := [8]) (by kernel_rfl) (by simp) ?_
          refine (AllReadyH.cons (i := 8) (by simp only [List.getElem?_toArray, List.getElem?_cons_succ, List.getElem?_cons_zero]; rfl) (fun K hK => ?_) AllReadyH.nil)
          (refine step_appS (R := EK false) (u := false) (w0 := wr) (xs := q) (y := ⟨s, a, f, l⟩) (Fn := F) (T := (fun b => w.heap.size + 3 ≤ b ∧ b < nb)) (gb := wr.heap.size) rfl EK.mov (.tmp 27) (.tmp 33) 27 rfl 51 i0 (.agg #[.int .i64 0, .bool false, .slice none 0 0, .int .i64 0]) 48 Try.underlying27 hI0 hz0 hz1 hz2 (by simp [Value.cells]) (by decide) rfl HO.out HBW.out #[.int .i64 s, .bool a, .slice B1 f.length d1, .int .i64 l] 51 HBK.out rfl (by simp [Value.oneCell']) rfl HFC.out (fun b hb => ⟨(HFF.out b hb).1, (HFF.out b hb).2.1, (HFF.out b hb).2.2, fun h => by cases h⟩) hqi (by decide) HBA.out ?_)
          intro g4 c4 w4 q4 HQ4 HO4 HG4 HC4 HB4
          have hbase : nb < nb + 1 := by omega
          have a0 := (HB4.out.cell (p := ⟨nb, 0, none⟩) hbase).trans Y0.out
          have a1 := (HB4.out.cell (p := ⟨g, o + i * 4, none⟩) (by simp only; omega)).trans Y1.out
          have a2 := (HB4.out.cell (p := ⟨g, o + i * 4 + 1, none⟩) (by simp only; omega)).trans Y2.out
          have a3 := (HB4.out.cell (p := ⟨g, o + i * 4 + 2, none⟩) (by simp only; omega)).trans Y3.out
          have a4 := (HB4.out.cell (p := ⟨g, o + i * 4 + 3, none⟩) (by simp only; omega)).trans Y4.out
          have b1 := (HB4.out.cell (p := ⟨w.heap.size + 1, 0, none⟩) (by simp only; omega)).trans Z1.out
          have b2 := (HB4.out.cell (p := ⟨w.heap.size + 2, 0, none⟩) (by simp only; omega)).trans Z2.out
          have v1 := (HB4.out.frozen (p := ⟨w.heap.size + 1, 0, none⟩) (by simp only; omega)).trans V1.out
          have v2 := (HB4.out.frozen (p := ⟨w.heap.size + 2, 0, none⟩) (by simp only; omega)).trans V2.out
          have hne1 : ¬ nb = w.heap.size + 2 := by omega
          have hne2 : ¬ g = w.heap.size + 2 := by omega
          have hne3 : ¬ w.heap.size + 2 = nb := by omega
          have hne4 : ¬ w.heap.size + 2 = g := by omega
          go_wp2_with fail
          refine hK.out _ _ ?_ (fun hHeld => ?_)
          · ((try dsimp only); first | exact ⟨hx0, hc0, hc1, hc2, hc3⟩ | exact ⟨a0, a1, a2, a3, a4⟩ | exact ⟨y0, y1, y2, y3, y4⟩ | exact ⟨(World.cell?_setCell_far _ _ _ _ (by simp only; omega)).trans a0, (World.cell?_setCell_far _ _ _ _ (by simp only; omega)).trans a1, (World.cell?_setCell_far _ _ _ _ (by simp only; omega)).trans a2, (World.cell?_setCell_far _ _ _ _ (by simp only; omega)).trans a3, (World.cell?_setCell_far _ _ _ _ (by simp only; omega)).trans a4⟩)
          clear hK K
          (try simp only [Act.put, List.setIfInBounds_toArray, List.set_cons_zero, List.set_cons_succ])
          refine wpAnyH_takeW (i := 9) (d := some 35) (v := ?_) (by simp only [List.getElem?_toArray, List.getElem?_cons_succ, List.getElem?_cons_zero]; rfl) (by rfl) (by kernel_rfl) (by kernel_rfl) (by kernel_rfl) (by intro _ _ _ h; exact h) (by rfl) ?_ (by assumption) ?_
          rotate_left 1
          · (intro w hSw; (try dsimp only at hSw); go_simp; try (with_reducible rfl))
          (try simp only [Act.put, List.setIfInBounds_toArray, List.set_cons_zero, List.set_cons_succ])
          refine wpAnyH_ready (rs := [10]) (by kernel_rfl) (by simp) ?_
          refine (AllReadyH.cons (i := 10) (by simp only [List.getElem?_toArray, List.getElem?_cons_succ, List.getElem?_cons_zero]; rfl) (fun K hK => ?_) AllReadyH.nil)
          go_simp
          go_wp2_with fail
          refine hK.out _ _ ?_ (fun hHeld => ?_)
          · ((try dsimp only); first | exact ⟨hx0, hc0, hc1, hc2, hc3⟩ | exact ⟨a0, a1, a2, a3, a4⟩ | exact ⟨y0, y1, y2, y3, y4⟩ | exact ⟨(World.cell?_setCell_far _ _ _ _ (by simp only; omega)).trans a0, (World.cell?_setCell_far _ _ _ _ (by simp only; omega)).trans a1, (World.cell?_setCell_far _ _ _ _ (by simp only; omega)).trans a2, (World.cell?_setCell_far _ _ _ _ (by simp only; omega)).trans a3, (World.cell?_setCell_far _ _ _ _ (by simp only; omega)).trans a4⟩)
          clear hK K
          (try simp only [Act.put, List.setIfInBounds_toArray, List.set_cons_zero, List.set_cons_succ])
          refine wpAnyH_done (by kernel_rfl) ?_ _
          go_wp2
          go_roundw
          case rel =>
            have hfin : Chg (fun b => b = w.heap.size + 2) w4 (w4.setCell ⟨w.heap.size + 2, 0, none⟩ (.slice (some ⟨g4, 0, none⟩) q4.length c4)) := Chg.setCell_ (S := fun b => b = w.heap.size + 2) (Chg.refl _ _) (p := ⟨w.heap.size + 2, 0, none⟩) rfl _
            have hs4 := HB4.out.size
            have hs4' := HBA.out
            have hge4 := HO4.out.ge
            have hlt4 := HO4.out.lt
            have hw4 : Below w.heap.size w w4 := (HB.out.trans (HBW.out.mono (by omega))).trans (HB4.out.mono (by omega))
            refine ⟨i + 1, some ⟨g4, 0, none⟩, c4, q4, by omega, by go_num, Lib.hid (by rw [HQ4.out, HQ.out, HTK.out, List.filter_append]; simp [HSN.out]), Lib.hid (hw4.trans (hfin.below (by omega) (fun k hk => by omega))), Lib.hid (OwS.frame (R := EK false) EK.framed HO4.out hfin (fun b hb h2 => by omega) (fun a' ha' h2 => by injection ha' with ha'; subst ha'; simp only at h2; omega)), by simp [World.setCell]; omega, (World.cell?_setCell_far _ _ _ _ (by simp only; omega)).trans a0, (World.cell?_setCell_far _ _ _ _ (by simp only; omega)).trans b1, World.cell?_setCell_same _ _ _ b2, (World.frozen?_setCell _ _ _ _).trans v1, (World.frozen?_setCell _ _ _ _).trans v2, Lib.hid ?_⟩
            refine Sl.frame (R := EK true) EK.framed (Sl.frame (R := EK true) EK.framed HIN.out ((Chg.of_below HBW.out).trans (chg_above HB4.out (by omega))) (fun b hb h2 => by omega)) hfin (fun b hb h2 => by omega)
          case measure => simp [intOf]; omega
    · obtain rfl : i = xs.length := by omega
      have hqe : q = xs.filter fun x => x.st != st0 := by rw [HQ.out, List.take_length]
      have HS2 := Lib.hid HO.out.sl
      have hfin : Chg (fun b => b = w.heap.size + 1) wr (wr.setCell ⟨w.heap.size + 1, 0, none⟩ (.slice A' q.length c')) := Chg.setCell_ (S := fun b => b = w.heap.size + 1) (Chg.refl _ _) (p := ⟨w.heap.size + 1, 0, none⟩) rfl _
      have HF := Lib.hid hfin
      have HQE := Lib.hid hqe
      clear hfin hqe
      go_wp2
      refine bodyPost_ret (v := .agg #[.slice A' q.length c']) (by simp [results, Try.results21, go_sem, World.cell?_setCell_same _ _ _ hx1]) rfl ?_
      rw [← HQE.out]
      refine ⟨A', c', rfl, HB.out.trans (HF.out.below (by omega) (fun k hk => by omega)), ?_⟩
      refine (Sl.frame (R := EK false) EK.framed HS2.out HF.out (fun b hb h2 => by omega)).wider (fun b hb => ?_)
      have := HF.out.size
      omega

end Go.Proofs.Ytbfbjkcmehalhaa
