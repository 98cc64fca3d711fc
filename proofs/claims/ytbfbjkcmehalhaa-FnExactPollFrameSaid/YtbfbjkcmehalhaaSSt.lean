/- toByteSS and szByteSS of the laws: rows of rows of bytes. -/
import Derived.Test.YtbfbjkcmehalhaaNest
import Derived.Test.YtbfbjkcmehalhaaToByteS
namespace Go.Proofs.Ytbfbjkcmehalhaa
open Go.RowKit
set_option linter.unusedVariables false
set_option linter.unusedSimpArgs false

theorem infoByteSS : (Try.prog.info? 38).map (fun i => (i.zero, i.size, i.bytes)) = some (some (.slice none 0 0), 1, 24) := by kernel_rfl
def szO (n : Nat) (left : Int) : Int := if (n : Int) ≤ left then left - (n : Int) else -1
theorem szByteS_any (A : Option Addr) (n c : Nat) (left : Int) (w : World) (hn : n ≤ 9223372036854775807) (h0 : 0 ≤ left) (h1 : left ≤ 1000000000000) :
    Calls Try.prog 60 #[.slice A n c, .int .i64 left] w fun e w' => e = .returned (.int .i64 (szO n left)) ∧ w = w' := by
  by_cases h : (n : Int) ≤ left
  · have hE : Hid (szO n left = left - (n : Int)) := Lib.hid (if_pos h)
    go_enter Try.func60, Try.ntmps60
    go_wp2
    go_ret
    exact ⟨by rw [hE.out]; rfl, rfl⟩
  · have hE : Hid (szO n left = -1) := Lib.hid (if_neg h)
    have h2 : left < (n : Int) := by omega
    go_enter Try.func60, Try.ntmps60
    go_wp2
    go_ret
    exact ⟨by rw [hE.out]; rfl, rfl⟩
set_option maxHeartbeats 1000000 in
theorem szByteSS_any {T : Nat → Prop} (A : Option Addr) (c : Nat) (xs : List (List Int)) (left : Int) (w : World) (hx : Sl false 1 (EB false) w T A xs) (hl : xs.length ≤ 9223372036854775807) (hlx : ∀ x ∈ xs, x.length ≤ 9223372036854775807) (h0 : 0 ≤ left) (h1 : left ≤ 1000000000000) :
    Calls Try.prog 57 #[.slice A xs.length c, .int .i64 left] w fun e w' => e = .returned (.int .i64 (szO (szSS xs) left)) ∧ w = w' := by
  have HX := Lib.hid hx
  have HLX := Lib.hid hlx
  clear hx hlx
  by_cases h : (xs.length : Int) ≤ left
  · have h2 : ¬ left - (xs.length : Int) < 0 := by omega
    go_enter Try.func57, Try.ntmps57
    go_wp2
    go_loop [1, 5] (fun q p => ∃ i : Nat, i ≤ xs.length ∧ p = .int .i64 (i : Int) ∧ q = .int .i64 (left - (xs.length : Int) - (sumL (xs.take i) : Int)) ∧ (sumL (xs.take i) : Int) ≤ left - (xs.length : Int)) (fun _ p => xs.length - (intOf p).toNat)
    case atStart => exact ⟨0, Nat.zero_le _, rfl, by simp [sumL], by simp [sumL]; omega⟩
    case round =>
      obtain ⟨i, hi, rfl, rfl, hle⟩ := hrel
      by_cases hlt : i < xs.length
      · obtain ⟨g, o, F, rfl, hg, ⟨B1, d1, hc1, _, hr1⟩, _, _⟩ := HX.out.at_ i hlt
        have hsum := sumL_take xs i hlt
        have hsle := sumL_le xs (i + 1)
        have hxl := HLX.out _ (List.getElem_mem hlt)
        rw [Nat.mul_one] at hc1
        have hlt2 : (i : Int) < (xs.length : Int) := by omega
        have HSUM := Lib.hid hsum
        clear hr1 hsum
        generalize xs[i] = x at *
        by_cases hx2 : (x.length : Int) ≤ left - (xs.length : Int) - (sumL (xs.take i) : Int)
        · have hE : Hid (szO x.length (left - (xs.length : Int) - (sumL (xs.take i) : Int)) = left - (xs.length : Int) - (sumL (xs.take i) : Int) - (x.length : Int)) := Lib.hid (if_pos hx2)
          go_wp2_with (go_at_call 60; refine (szByteS_any _ _ _ _ _ hxl (by omega) (by omega)).mono ?_; rw [hE.out]; rintro e w' ⟨rfl, rfl⟩)
          go_round
          case rel => exact ⟨i + 1, by omega, by go_num, by rw [HSUM.out]; go_num, by rw [HSUM.out]; omega⟩
          case measure => simp [intOf]; omega
        · have hE : Hid (szO x.length (left - (xs.length : Int) - (sumL (xs.take i) : Int)) = -1) := Lib.hid (if_neg hx2)
          have hT : Hid (szO (szSS xs) left = -1) := Lib.hid (if_neg (by have := HSUM.out; unfold szSS; omega))
          go_wp2_with (go_at_call 60; refine (szByteS_any _ _ _ _ _ hxl (by omega) (by omega)).mono ?_; rw [hE.out]; rintro e w' ⟨rfl, rfl⟩)
          go_ret
          exact ⟨by rw [hT.out]; rfl, rfl⟩
      · obtain rfl : i = xs.length := by omega
        rw [List.take_length] at hle ⊢
        have hT : Hid (szO (szSS xs) left = left - (xs.length : Int) - (sumL xs : Int)) := Lib.hid (by rw [szO, if_pos (by unfold szSS; omega)]; unfold szSS; omega)
        go_wp2
        go_ret
        exact ⟨by rw [hT.out]; rfl, rfl⟩
  · have hT : Hid (szO (szSS xs) left = -1) := Lib.hid (if_neg (by unfold szSS; omega))
    have h2 : left < (xs.length : Int) := by omega
    clear h
    go_enter Try.func57, Try.ntmps57
    go_wp2
    go_ret
    exact ⟨by rw [hT.out]; rfl, rfl⟩

def NewSS (w : World) (xs : List (List Int)) (e : Ending) (w' : World) : Prop := e = .returned (.slice (some ⟨w.heap.size, 0, none⟩) xs.length xs.length) ∧ Below w.heap.size w w' ∧ w.heap.size < w'.heap.size ∧ Sl true 1 (EB true) w' (fun b => w.heap.size ≤ b ∧ b < w'.heap.size) (some ⟨w.heap.size, 0, none⟩) xs
set_option maxHeartbeats 1000000 in
theorem toByteSS_any {T : Nat → Prop} (A : Option Addr) (c : Nat) (xs : List (List Int)) (w : World) (hx : Sl false 1 (EB false) w T A xs) (hm : xs.length ≤ 1000000000000) (hlx : ∀ x ∈ xs, x.length ≤ 1000000000000) :
    Calls Try.prog 58 #[.slice A xs.length c] w fun e w' => NewSS w xs e w' := by
  obtain ⟨i0, hi, hz0, hz1, hz2⟩ := info_parts infoByteSS
  have HX := Lib.hid hx
  have HLX := Lib.hid hlx
  clear hx hlx
  have hmk : ∀ W : World, (Instr.makeSlice 49 (.int .i64 (xs.length : Int)) (.int .i64 (xs.length : Int))).run Try.prog W = .ok (.slice (some ⟨W.heap.size, 0, none⟩) xs.length xs.length) (W.alloc (.cells (madeCells #[.slice none 0 0] (xs.length * 1)) 38)) := by
    intro W
    have h1 := run_make (P := Try.prog) W 49 38 i0 (.slice none 0 0) Try.underlying49 hi hz0 .i64 .i64 (xs.length : Int) (xs.length : Int) (by omega) (by omega) (by rw [hz2]; omega) (by omega)
    rw [hz1] at h1
    simpa [Value.cells] using h1
  have HMS := Lib.hid (made_size (.slice none 0 0) xs.length)
  generalize madeCells #[.slice none 0 0] (xs.length * 1) = cur0 at *
  go_enter Try.func58, Try.ntmps58
  go_wp2
  go_loopw [4] (fun p wr => ∃ (i : Nat) (cur : Array Value), i ≤ xs.length ∧ p = .int .i64 (i : Int) ∧ Hid (Below w.heap.size w wr) ∧ Hid (wr.heap[w.heap.size]? = some (.cells cur 38 (0, 0)) ∧ cur.size = xs.length) ∧ Hid (Sl true 1 (EB true) wr (fun b => w.heap.size ≤ b ∧ b < wr.heap.size) (some ⟨w.heap.size, 0, none⟩) (xs.take i)))
    (fun p _ => xs.length - (intOf p).toNat)
  case atStart => exact ⟨0, cur0, Nat.zero_le _, rfl, Lib.hid ((Below.refl _ _).alloc (Nat.le_refl _) _), Lib.hid ⟨World.heap_new _ _ _ rfl, HMS.out⟩, Lib.hid (by rw [List.take_zero]; exact Sl.nil)⟩
  case round =>
    obtain ⟨i, cur, hi, rfl, HB, HC, HS⟩ := hrel
    have hgs : w.heap.size < wr.heap.size := by
      rcases Nat.lt_or_ge w.heap.size wr.heap.size with h | h
      · exact h
      · have := HC.out.1; rw [Array.getElem?_eq_none h] at this; cases this
    by_cases hlt : i < xs.length
    · obtain ⟨g, o, F, rfl, hg, ⟨B1, d1, hc1, _, hr1⟩, _, _⟩ := HX.out.at_ i hlt
      rw [Nat.mul_one] at hc1
      have hc2 : wr.cell? ⟨g, o + i, none⟩ = some (.slice B1 xs[i].length d1) := (HB.out.cell (p := ⟨g, o + i, none⟩) hg).trans hc1
      have R1 := Lib.hid (hr1.below HB.out)
      have hxl := HLX.out _ (List.getElem_mem hlt)
      have htk : xs.take (i + 1) = xs.take i ++ [xs[i]] := by rw [List.take_add_one, List.getElem?_eq_getElem hlt]; rfl
      have HTK := Lib.hid htk
      have hlt2 : (i : Int) < (xs.length : Int) := by omega
      obtain ⟨u, hu⟩ : ∃ u, cur[i]? = some u := ⟨_, Array.getElem?_eq_getElem (by rw [HC.out.2]; exact hlt)⟩
      have hcell : wr.cell? ⟨w.heap.size, i, none⟩ = some u := by simp [World.cell?, HC.out.1, hu]
      have hfr : wr.frozen? ⟨w.heap.size, i, none⟩ = false := by simp [World.frozen?, HC.out.1]
      clear hr1 hc1 htk hu
      generalize xs[i] = x at *
      go_wp2_with fail
      refine (toByteS_any B1 d1 x _ R1.out.rwF hxl).mono ?_
      rintro e w2 ⟨X, d, rfl, rfl, hr2⟩
      have HR2 := Lib.hid hr2.rw
      clear hr2
      go_wp2
      go_roundw
      case rel =>
        rw [← World.setCell_ext _ _ _ _ _ _ hgs]
        have hchg : Chg (fun b => b = w.heap.size) wr ((World.ext wr X d).setCell ⟨w.heap.size, i, none⟩ (.slice (some ⟨wr.heap.size, 0, none⟩) x.length x.length)) :=
          Chg.setCell_ (S := fun b => b = w.heap.size) (Chg.of_below (Below.ext (Below.refl _ _) (Nat.le_refl _) X d)) (p := ⟨w.heap.size, i, none⟩) rfl _
        refine ⟨i + 1, cur.setIfInBounds i (.slice (some ⟨wr.heap.size, 0, none⟩) x.length x.length), by omega, by go_num, Lib.hid ?_, Lib.hid ⟨?_, by simpa using HC.out.2⟩, Lib.hid ?_⟩
        · exact (Below.ext HB.out (by omega) X d).setCell (Nat.le_refl _) _
        · simp only [World.setCell, Array.getElem?_modify, if_true]
          rw [World.heap_ext _ _ _ _ hgs, HC.out.1]
          rfl
        · rw [HTK.out]
          have hlen : (xs.take i).length = i := by rw [List.length_take]; omega
          refine (Sl.snoc (Fn := fun b => b = wr.heap.size ∧ b < wr.heap.size + X.length) (R := EB true) EB.local_ HS.out hgs ⟨Nat.le_refl _, hgs⟩ (fun b hb => hb.2) (fun b hb => by omega) hchg (fun j hj => ?_) ?_).wider ?_
          · rw [hlen, Nat.zero_add, Nat.mul_one] at hj
            refine ⟨?_, ?_⟩
            · rw [World.cell?_setCell_other _ _ _ _ (fun e => by injection e with _ e2; omega), World.cell?_ext _ _ _ _ _ hgs]
            · rw [World.frozen?_setCell, World.frozen?_ext _ _ _ _ _ hgs]
          · rw [hlen, Nat.zero_add, Nat.mul_one]
            have hne : ∀ k, (k = wr.heap.size ∧ k < wr.heap.size + X.length) → ¬ k = w.heap.size := fun k h1 h2 => by omega
            have hr3 : Rw true .u8 (World.ext wr X d) (fun b => b = wr.heap.size ∧ b < wr.heap.size + X.length) (some ⟨wr.heap.size, 0, none⟩) x := (HR2.out.inW).wider (fun k hk => ⟨hk.1, by simpa using hk.2⟩)
            refine ⟨_, _, World.cell?_setCell_same _ _ _ (by rw [World.cell?_ext _ _ _ _ _ hgs]; exact hcell), fun _ => by rw [World.frozen?_setCell, World.frozen?_ext _ _ _ _ _ hgs]; exact hfr, hr3.frame (Chg.setCell_ (S := fun b => b = w.heap.size) (Chg.refl _ _) (p := ⟨w.heap.size, i, none⟩) rfl _) hne⟩
          · intro b hb
            have hsz : ((World.ext wr X d).setCell ⟨w.heap.size, i, none⟩ (.slice (some ⟨wr.heap.size, 0, none⟩) x.length x.length)).heap.size = wr.heap.size + X.length := by simp [World.setCell]
            rw [hsz]
            rcases hb with hb | hb <;> omega
      case measure => simp [intOf]; omega
    · obtain rfl : i = xs.length := by omega
      have HS2 : Hid (Sl true 1 (EB true) wr (fun b => w.heap.size ≤ b ∧ b < wr.heap.size) (some ⟨w.heap.size, 0, none⟩) xs) := Lib.hid (by have := HS.out; rwa [List.take_length] at this)
      go_wp2
      go_ret
      exact ⟨rfl, HB.out, hgs, HS2.out⟩

end Go.Proofs.Ytbfbjkcmehalhaa
