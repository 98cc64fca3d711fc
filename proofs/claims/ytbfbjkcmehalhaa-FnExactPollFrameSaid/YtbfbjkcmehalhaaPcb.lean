/- copyPowerBuffer of the program. -/
import Derived.Test.YtbfbjkcmehalhaaPcq
namespace Go.Proofs.Ytbfbjkcmehalhaa
open Go.RowKit
set_option linter.unusedVariables false
set_option linter.unusedSimpArgs false

set_option maxHeartbeats 2000000 in
theorem copyPB_any {T : Nat → Prop} (A : Option Addr) (c : Nat) (xs : List KT) (w : World) (hx : Sl false 4 (EK false) w T A xs) (hm : xs.length ≤ 1000000000) (hlx : ∀ x ∈ xs, x.fr.length ≤ 1000000000 ∧ ∀ f ∈ x.fr, f.length ≤ 1000000000) :
    Calls Try.prog 47 #[.agg #[.slice A xs.length c]] w fun e w' => CpPB w xs e w' := by
  obtain ⟨i0, hi, hz0, hz1, hz2⟩ := info_parts infoKT
  have HX := Lib.hid hx
  have HLX := Lib.hid hlx
  clear hx hlx
  have hmk : ∀ W : World, (Instr.makeSlice 27 (.int .i64 (xs.length : Int)) (.int .i64 (xs.length : Int))).run Try.prog W = .ok (.slice (some ⟨W.heap.size, 0, none⟩) xs.length xs.length) (W.alloc (.cells (madeCells #[.int .i64 0, .bool false, .slice none 0 0, .int .i64 0] (xs.length * 4)) 51)) := by
    intro W
    have h1 := run_make (P := Try.prog) W 27 51 i0 (.agg #[.int .i64 0, .bool false, .slice none 0 0, .int .i64 0]) Try.underlying27 hi hz0 .i64 .i64 (xs.length : Int) (xs.length : Int) (by omega) (by omega) (by rw [hz2]; omega) (by omega)
    rw [hz1] at h1
    simpa [Value.cells] using h1
  have HMS : Hid ((madeCells #[.int .i64 0, .bool false, .slice none 0 0, .int .i64 0] (xs.length * 4)).size = xs.length * 4) := Lib.hid (by rw [size_madeCells])
  generalize madeCells #[.int .i64 0, .bool false, .slice none 0 0, .int .i64 0] (xs.length * 4) = cur0 at *
  go_enter Try.func47, Try.ntmps47
  go_wp2
  go_loopw [14] (fun p wr => ∃ (i : Nat) (cur : Array Value), i ≤ xs.length ∧ p = .int .i64 (i : Int) ∧ Hid (Below w.heap.size w wr) ∧ Hid (wr.heap[w.heap.size + 2]? = some (.cells cur 51 (0, 0)) ∧ cur.size = xs.length * 4) ∧ Hid (Sl true 4 EKO wr (fun b => w.heap.size + 2 ≤ b ∧ b ≠ w.heap.size + 3 ∧ b < wr.heap.size) (some ⟨w.heap.size + 2, 0, none⟩) (xs.take i)) ∧ w.heap.size + 3 < wr.heap.size ∧
      wr.cell? ⟨w.heap.size + 1, 0, none⟩ = some (.slice none 0 0) ∧ wr.cell? ⟨w.heap.size + 3, 0, none⟩ = some (.slice (some ⟨w.heap.size + 2, 0, none⟩) xs.length xs.length) ∧ wr.frozen? ⟨w.heap.size + 1, 0, none⟩ = false)
    (fun p _ => xs.length - (intOf p).toNat)
  case atStart =>
    refine ⟨0, cur0, Nat.zero_le _, rfl, Lib.hid (by repeat (first | (with_reducible exact Below.refl _ _) | (with_reducible refine Below.ext ?_ (by go_size) _ _) | (with_reducible refine Below.alloc ?_ (by go_size) _) | (with_reducible refine Below.setCell ?_ (by go_size) _) | (with_reducible refine Below.drew ?_) | (with_reducible refine Below.drewN_ ?_ _))), Lib.hid ⟨((Below.alloc (Below.refl _ _) (Nat.le_refl _) _).block _ (by simp)).trans (World.heap_new _ _ _ (by simp)), HMS.out⟩, Lib.hid (by rw [List.take_zero]; exact Sl.nil), by simp, ?_, ?_, ?_⟩
    all_goals (simp [go_sem]; try done)
  case round =>
    obtain ⟨i, cur, hi, rfl, HB, HC, HS, hws, hx1, hx3, hy1⟩ := hrel
    by_cases hlt : i < xs.length
    · obtain ⟨g, o, F, rfl, hg, ⟨hc0, hc1, hc3, _, ⟨B1, d1, hc2, _, hr1⟩⟩, _, _⟩ := HX.out.at_ i hlt
      replace hc0 := (HB.out.cell (p := ⟨g, o + i * 4, none⟩) hg).trans hc0
      replace hc1 := (HB.out.cell (p := ⟨g, o + i * 4 + 1, none⟩) hg).trans hc1
      replace hc2 := (HB.out.cell (p := ⟨g, o + i * 4 + 2, none⟩) hg).trans hc2
      replace hc3 := (HB.out.cell (p := ⟨g, o + i * 4 + 3, none⟩) hg).trans hc3
      have R1 := Lib.hid (Sl.below (R := EB false) EB.framed hr1 HB.out)
      have hfl := (HLX.out _ (List.getElem_mem hlt)).1
      have HXL := Lib.hid (HLX.out _ (List.getElem_mem hlt)).2
      have htk : xs.take (i + 1) = xs.take i ++ [xs[i]] := by rw [List.take_add_one, List.getElem?_eq_getElem hlt]; rfl
      have HTK := Lib.hid htk
      have hlt2 : (i : Int) < (xs.length : Int) := by omega
      have hgw : g < wr.heap.size := by omega
      clear hr1 htk
      generalize xs[i] = x at *
      obtain ⟨s, a, f, l⟩ := x
      simp only at hc0 hc1 hc2 hc3 R1 HXL hfl
      have HEL : Hid (Below wr.heap.size wr (wr.alloc (.cells #[.int .i64 s, .bool a, .slice B1 f.length d1, .int .i64 l] 51))) := Lib.hid (Below.alloc (Below.refl _ _) (Nat.le_refl _) _)
      go_wp2_with fail
      refine (copyFrames_any B1 d1 f _ (Sl.below (R := EB false) EB.framed R1.out HEL.out) hfl HXL.out).mono ?_
      rintro e w2 ⟨g3, c3, rfl, hb2, hcap3, hg3, hg3l, hr2, ho2⟩
      have hs2 := hb2.size
      have hlast : wr.heap.size < (wr.alloc (.cells #[.int .i64 s, .bool a, .slice B1 f.length d1, .int .i64 l] 51)).heap.size := by simp
      have hblk : w2.heap[wr.heap.size]? = some (.cells #[.int .i64 s, .bool a, .slice B1 f.length d1, .int .i64 l] 51) := (hb2.block _ hlast).trans (World.heap_new _ _ _ rfl)
      have e0 := block_cell hblk 0
      have e1 := block_cell hblk 1
      have e2 := block_cell hblk 2
      have e3 := block_cell hblk 3
      simp only [World.size_alloc] at hs2 hg3
      have HB2 : Hid (Below wr.heap.size wr w2) := Lib.hid (HEL.out.trans (hb2.mono (by simp)))
      have k0 : w2.cell? ⟨wr.heap.size, 0, none⟩ = some (.int .i64 s) := e0.1
      have k1 : w2.cell? ⟨wr.heap.size, 1, none⟩ = some (.bool a) := e1.1
      have k2 : w2.cell? ⟨wr.heap.size, 2, none⟩ = some (.slice B1 f.length d1) := e2.1
      have k3 : w2.cell? ⟨wr.heap.size, 3, none⟩ = some (.int .i64 l) := e3.1
      have kf : w2.frozen? ⟨wr.heap.size, 2, none⟩ = false := e2.2
      have x1 := (HB2.out.cell (p := ⟨w.heap.size + 1, 0, none⟩) (by simp only; omega)).trans hx1
      have x3 := (HB2.out.cell (p := ⟨w.heap.size + 3, 0, none⟩) (by simp only; omega)).trans hx3
      have y1 := (HB2.out.frozen (p := ⟨w.heap.size + 1, 0, none⟩) (by simp only; omega)).trans hy1
      have HR2 := Lib.hid ho2
      have hc2k : w2.heap[w.heap.size + 2]? = some (.cells cur 51 (0, 0)) := (HB2.out.block _ (by omega)).trans HC.out.1
      have HC2 := Lib.hid hc2k
      obtain ⟨u0, hu0⟩ : ∃ u, cur[i * 4]? = some u := ⟨_, Array.getElem?_eq_getElem (by rw [HC.out.2]; omega)⟩
      have hcell0 : w2.cell? ⟨w.heap.size + 2, i * 4, none⟩ = some u0 := by simp [World.cell?, HC2.out, hu0]
      have hfr0 : w2.frozen? ⟨w.heap.size + 2, i * 4, none⟩ = false := by simp [World.frozen?, HC2.out]
      clear hu0
      obtain ⟨u1, hu1⟩ : ∃ u, cur[i * 4 + 1]? = some u := ⟨_, Array.getElem?_eq_getElem (by rw [HC.out.2]; omega)⟩
      have hcell1 : w2.cell? ⟨w.heap.size + 2, i * 4 + 1, none⟩ = some u1 := by simp [World.cell?, HC2.out, hu1]
      have hfr1 : w2.frozen? ⟨w.heap.size + 2, i * 4 + 1, none⟩ = false := by simp [World.frozen?, HC2.out]
      clear hu1
      obtain ⟨u2, hu2⟩ : ∃ u, cur[i * 4 + 2]? = some u := ⟨_, Array.getElem?_eq_getElem (by rw [HC.out.2]; omega)⟩
      have hcell2 : w2.cell? ⟨w.heap.size + 2, i * 4 + 2, none⟩ = some u2 := by simp [World.cell?, HC2.out, hu2]
      have hfr2 : w2.frozen? ⟨w.heap.size + 2, i * 4 + 2, none⟩ = false := by simp [World.frozen?, HC2.out]
      clear hu2
      obtain ⟨u3, hu3⟩ : ∃ u, cur[i * 4 + 3]? = some u := ⟨_, Array.getElem?_eq_getElem (by rw [HC.out.2]; omega)⟩
      have hcell3 : w2.cell? ⟨w.heap.size + 2, i * 4 + 3, none⟩ = some u3 := by simp [World.cell?, HC2.out, hu3]
      have hfr3 : w2.frozen? ⟨w.heap.size + 2, i * 4 + 3, none⟩ = false := by simp [World.frozen?, HC2.out]
      clear hu3
      have hne2 : ¬ wr.heap.size = w.heap.size + 2 := by omega
      have hne2' : ¬ w.heap.size + 2 = wr.heap.size := by omega
      have hne3 : ¬ wr.heap.size = w.heap.size + 3 := by omega
      have hne3' : ¬ w.heap.size + 3 = wr.heap.size := by omega
      have hW3 : Chg (fun b => b = wr.heap.size) w2 (w2.setCell ⟨wr.heap.size, 2, none⟩ (.slice (some ⟨g3, 0, none⟩) f.length c3)) := Chg.setCell_ (S := fun b => b = wr.heap.size) (Chg.refl _ _) (p := ⟨wr.heap.size, 2, none⟩) rfl _
      have HW3 := Lib.hid hW3
      have X1' := Lib.hid x1
      have X3' := Lib.hid x3
      have Y1' := Lib.hid y1
      clear e0 e1 e2 e3 hb2 hblk hlast hr2 ho2 hx1 hx3 hy1 hW3 hc2k hc0 hc1 hc2 hc3
      go_wp2
      go_roundw
      case rel =>
        have hblk0 : (w2.setCell ⟨wr.heap.size, 2, none⟩ (.slice (some ⟨g3, 0, none⟩) f.length c3)).heap[w.heap.size + 2]? = some (.cells cur 51 (0, 0)) := (HW3.out.block _ (by omega) (by omega)).trans HC2.out
        have hblk := (set_block (a := i * 4 + 3) (v := .int .i64 l) (set_block (a := i * 4 + 2) (v := .slice (some ⟨g3, 0, none⟩) f.length c3) (set_block (a := i * 4 + 1) (v := .bool a) (set_block (a := i * 4) (v := .int .i64 s) hblk0))))
        have hchg : Chg (fun k => k = w.heap.size + 2) (w2.setCell ⟨wr.heap.size, 2, none⟩ (.slice (some ⟨g3, 0, none⟩) f.length c3)) (((((w2.setCell ⟨wr.heap.size, 2, none⟩ (.slice (some ⟨g3, 0, none⟩) f.length c3)).setCell ⟨w.heap.size + 2, i * 4, none⟩ (.int .i64 s)).setCell ⟨w.heap.size + 2, i * 4 + 1, none⟩ (.bool a)).setCell ⟨w.heap.size + 2, i * 4 + 2, none⟩ (.slice (some ⟨g3, 0, none⟩) f.length c3)).setCell ⟨w.heap.size + 2, i * 4 + 3, none⟩ (.int .i64 l)) := (Chg.setCell_ (S := fun k => k = w.heap.size + 2) (Chg.setCell_ (S := fun k => k = w.heap.size + 2) (Chg.setCell_ (S := fun k => k = w.heap.size + 2) (Chg.setCell_ (S := fun k => k = w.heap.size + 2) (Chg.refl _ _) (p := ⟨w.heap.size + 2, i * 4, none⟩) rfl _) (p := ⟨w.heap.size + 2, i * 4 + 1, none⟩) rfl _) (p := ⟨w.heap.size + 2, i * 4 + 2, none⟩) rfl _) (p := ⟨w.heap.size + 2, i * 4 + 3, none⟩) rfl _)
        have hsz : (((((w2.setCell ⟨wr.heap.size, 2, none⟩ (.slice (some ⟨g3, 0, none⟩) f.length c3)).setCell ⟨w.heap.size + 2, i * 4, none⟩ (.int .i64 s)).setCell ⟨w.heap.size + 2, i * 4 + 1, none⟩ (.bool a)).setCell ⟨w.heap.size + 2, i * 4 + 2, none⟩ (.slice (some ⟨g3, 0, none⟩) f.length c3)).setCell ⟨w.heap.size + 2, i * 4 + 3, none⟩ (.int .i64 l)).heap.size = w2.heap.size := by simp [World.setCell]
        have hcs := HC.out.2
        have hb3 : Below wr.heap.size wr (w2.setCell ⟨wr.heap.size, 2, none⟩ (.slice (some ⟨g3, 0, none⟩) f.length c3)) := HB2.out.trans (HW3.out.below (by omega) (fun k hk => by omega))
        have hall : Chg (fun k => k = wr.heap.size ∨ k = w.heap.size + 2) w2 (((((w2.setCell ⟨wr.heap.size, 2, none⟩ (.slice (some ⟨g3, 0, none⟩) f.length c3)).setCell ⟨w.heap.size + 2, i * 4, none⟩ (.int .i64 s)).setCell ⟨w.heap.size + 2, i * 4 + 1, none⟩ (.bool a)).setCell ⟨w.heap.size + 2, i * 4 + 2, none⟩ (.slice (some ⟨g3, 0, none⟩) f.length c3)).setCell ⟨w.heap.size + 2, i * 4 + 3, none⟩ (.int .i64 l)) := (HW3.out.mono (fun k _ hk => .inl hk)).trans (hchg.mono (fun k _ hk => .inr hk))
        refine ⟨i + 1, _, by omega, by go_num, Lib.hid ((HB.out.trans (hb3.mono (by omega))).trans (hchg.below (by simp [World.setCell]; omega) (fun k hk => by omega))), Lib.hid ⟨hblk, by simpa using HC.out.2⟩, Lib.hid ?_, by rw [hsz]; omega, (hall.cell (p := ⟨w.heap.size + 1, 0, none⟩) (by simp only; omega) (by simp only; omega)).trans X1'.out, (hall.cell (p := ⟨w.heap.size + 3, 0, none⟩) (by simp only; omega) (by simp only; omega)).trans X3'.out, (hall.frozen (p := ⟨w.heap.size + 1, 0, none⟩) (by simp only; omega) (by simp only; omega)).trans Y1'.out⟩
        have hlen : (xs.take i).length = i := by rw [List.length_take]; omega
        rw [HTK.out]
        refine (Sl.snoc (Fn := fun k => wr.heap.size + 1 ≤ k ∧ k < w2.heap.size) (R := EKO) EKO.local_ HS.out (by omega) ⟨Nat.le_refl _, by omega, by omega⟩ (fun k hk => hk.2.2) (fun k hk => by omega) ((Chg.of_below hb3).trans hchg) (fun j hj => ?_) ?_).wider ?_
        · rw [hlen, Nat.zero_add] at hj
          have e1 := block_cell hblk j
          have e2 := block_cell HC.out.1 j
          rw [e1.1, e1.2, e2.1, e2.2]
          refine ⟨?_, rfl⟩
          rw [Array.getElem?_setIfInBounds_ne (by omega), Array.getElem?_setIfInBounds_ne (by omega), Array.getElem?_setIfInBounds_ne (by omega), Array.getElem?_setIfInBounds_ne (by omega)]
        · rw [hlen, Nat.zero_add]
          have e0 := block_cell hblk (i * 4)
          have e1 := block_cell hblk (i * 4 + 1)
          have e2 := block_cell hblk (i * 4 + 2)
          have e3 := block_cell hblk (i * 4 + 3)
          have hr3 := HR2.out.widerT (T' := fun k => wr.heap.size + 1 ≤ k ∧ k < w2.heap.size) (fun k hk _ => by simp only [World.size_alloc] at hk; exact hk)
          refine ⟨?_, ?_, ?_, e0.2, e1.2, e3.2, e2.2, g3, c3, ?_, ⟨hg3, hg3l⟩, OwS.frame (R := EB true) EB.framed hr3 hall (fun k h1 h2 => by omega) (fun a' ha' h2 => by injection ha' with ha'; subst ha'; simp only at h2; omega)⟩
          · rw [e0.1, Array.getElem?_setIfInBounds_ne (by omega), Array.getElem?_setIfInBounds_ne (by omega), Array.getElem?_setIfInBounds_ne (by omega), Array.getElem?_setIfInBounds_self_of_lt (by omega)]
          · rw [e1.1, Array.getElem?_setIfInBounds_ne (by omega), Array.getElem?_setIfInBounds_ne (by omega), Array.getElem?_setIfInBounds_self_of_lt (by simp; omega)]
          · rw [e3.1, Array.getElem?_setIfInBounds_self_of_lt (by simp; omega)]
          · rw [e2.1, Array.getElem?_setIfInBounds_ne (by omega), Array.getElem?_setIfInBounds_self_of_lt (by simp; omega)]
        · intro k hk
          rw [hsz]
          rcases hk with hk | hk <;> omega
      case measure => simp [intOf]; omega
    · obtain rfl : i = xs.length := by omega
      have HS2 : Hid (Sl true 4 EKO wr (fun b => w.heap.size + 2 ≤ b ∧ b ≠ w.heap.size + 3 ∧ b < wr.heap.size) (some ⟨w.heap.size + 2, 0, none⟩) xs) := Lib.hid (by have := HS.out; rwa [List.take_length] at this)
      have hfin : Chg (fun b => b = w.heap.size + 1) wr (wr.setCell ⟨w.heap.size + 1, 0, none⟩ (.slice (some ⟨w.heap.size + 2, 0, none⟩) xs.length xs.length)) := Chg.setCell_ (S := fun b => b = w.heap.size + 1) (Chg.refl _ _) (p := ⟨w.heap.size + 1, 0, none⟩) rfl _
      have HF := Lib.hid hfin
      clear hfin
      go_wp2
      refine bodyPost_ret (v := .agg #[.slice (some ⟨w.heap.size + 2, 0, none⟩) xs.length xs.length]) (by simp [results, Try.results47, go_sem, World.cell?_setCell_same _ _ _ hx1]) rfl ?_
      refine ⟨_, _, rfl, HB.out.trans (HF.out.below (by omega) (fun k hk => by omega)), ?_⟩
      refine (Sl.frame (R := EKO) EKO.framed HS2.out HF.out (fun b hb h2 => by omega)).wider (fun b hb => ?_)
      have := HF.out.size
      omega

end Go.Proofs.Ytbfbjkcmehalhaa
