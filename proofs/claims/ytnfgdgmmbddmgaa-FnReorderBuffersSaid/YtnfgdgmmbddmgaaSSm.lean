/- markByteSS and heldByteSS of the laws: rows of rows of bytes. -/
import Derived.Test.YtnfgdgmmbddmgaaNest
import Derived.Test.YtnfgdgmmbddmgaaByteS
namespace Go.Proofs.Ytnfgdgmmbddmgaa
open Go.RowKit
set_option linter.unusedVariables false
set_option linter.unusedSimpArgs false

/- what markByteSS leaves -/
def marksSS : Int → List (List Int) → List (List Int)
  | _, [] => []
  | k, x :: xs => marksByteS k x.length :: marksSS (k + (x.length : Int)) xs
theorem marksSS_len : ∀ (xs : List (List Int)) (k : Int), (marksSS k xs).length = xs.length
  | [], _ => rfl
  | x :: xs, k => by simp [marksSS, marksSS_len xs]
theorem marksSS_at : ∀ (xs : List (List Int)) (k : Int) (i : Nat) (h : i < xs.length), (marksSS k xs)[i]? = some (marksByteS (k + (sumL (xs.take i) : Int)) xs[i].length)
  | [], k, i, h => by simp at h
  | x :: xs, k, 0, _ => by simp [marksSS, sumL]
  | x :: xs, k, i + 1, h => by
    have := marksSS_at xs (k + (x.length : Int)) i (by simpa using h)
    rw [marksSS, List.getElem?_cons_succ, this]
    simp only [List.take_succ_cons, List.getElem_cons_succ, sumL, List.map_cons, List.sum_cons]
    congr 2
    omega
def mixSS (k : Int) (xs : List (List Int)) (i : Nat) : List (List Int) := (marksSS k xs).take i ++ xs.drop i
theorem mixSS_len (k : Int) (xs : List (List Int)) (i : Nat) (h : i ≤ xs.length) : (mixSS k xs i).length = xs.length := by
  simp [mixSS, marksSS_len]; omega
theorem mixSS_zero (k : Int) (xs : List (List Int)) : mixSS k xs 0 = xs := by simp [mixSS]
theorem mixSS_all (k : Int) (xs : List (List Int)) : mixSS k xs xs.length = marksSS k xs := by
  simp [mixSS, List.take_of_length_le, marksSS_len]
theorem mixSS_here (k : Int) (xs : List (List Int)) (i : Nat) (h : i < xs.length) (h2 : i < (mixSS k xs i).length) : (mixSS k xs i)[i] = xs[i] := by
  have e : (mixSS k xs i)[i]? = xs[i]? := by
    rw [mixSS, List.getElem?_append_right (by simp [marksSS_len]; omega)]
    simp [marksSS_len, Nat.min_eq_left (Nat.le_of_lt h)]
  rw [List.getElem?_eq_getElem h2, List.getElem?_eq_getElem h] at e
  exact Option.some.inj e
theorem mixSS_step (k : Int) (xs : List (List Int)) (i : Nat) (h : i < xs.length) : mixSS k xs (i + 1) = (mixSS k xs i).set i (marksByteS (k + (sumL (xs.take i) : Int)) xs[i].length) := by
  have h1 := marksSS_at xs k i h
  apply List.ext_getElem?
  intro j
  rw [List.getElem?_set, mixSS_len k xs i (by omega)]
  unfold mixSS
  by_cases hj : i = j
  · subst hj
    rw [if_pos rfl, if_pos h, List.getElem?_append_left (by simp [marksSS_len]; omega), List.getElem?_take, if_pos (by omega), h1]
  · rw [if_neg hj]
    rcases Nat.lt_or_ge j i with hlt | hge
    · rw [List.getElem?_append_left (by simp [marksSS_len]; omega), List.getElem?_append_left (by simp [marksSS_len]; omega), List.getElem?_take, List.getElem?_take, if_pos (by omega), if_pos hlt]
    · rw [List.getElem?_append_right (by simp [marksSS_len]; omega), List.getElem?_append_right (by simp [marksSS_len]; omega), List.getElem?_drop, List.getElem?_drop]
      simp only [List.length_take, marksSS_len]
      congr 1
      omega

set_option maxHeartbeats 1000000 in
theorem markByteSS_any {T : Nat → Prop} (A : Option Addr) (c : Nat) (xs : List (List Int)) (k : Int) (w : World) (hx : Sl true 1 (EB true) w T A xs) (hm : xs.length ≤ 1000000000000) (hs : sumL xs ≤ 1000000000000) (hk0 : 0 ≤ k) (hk1 : k ≤ 1000000000000) (hks : k + (sumL xs : Int) ≤ 1000000000000) :
    Calls Try.prog 19 #[.slice A xs.length c, .int .i64 k] w fun e w' => e = .returned (.int .i64 (k + (sumL xs : Int))) ∧ Chg T w w' ∧ Sl true 1 (EB true) w' T A (marksSS k xs) := by
  have HX := Lib.hid hx
  clear hx
  go_enter Try.func19, Try.ntmps19
  go_wp2
  go_loopw [1, 5] (fun q p wr => ∃ i : Nat, i ≤ xs.length ∧ p = .int .i64 (i : Int) ∧ q = .int .i64 (k + (sumL (xs.take i) : Int)) ∧ Hid (Chg T w wr) ∧ Hid (Sl true 1 (EB true) wr T A (mixSS k xs i))) (fun _ p _ => xs.length - (intOf p).toNat)
  case atStart => exact ⟨0, Nat.zero_le _, rfl, by simp [sumL], Lib.hid (Chg.refl _ _), Lib.hid (by rw [mixSS_zero]; exact HX.out)⟩
  case round =>
    obtain ⟨i, hi, rfl, rfl, HC, HS⟩ := hrel
    by_cases hlt : i < xs.length
    · have hlm : i < (mixSS k xs i).length := by rw [mixSS_len k xs i hi]; exact hlt
      obtain ⟨g, o, F, rfl, hg, hT, hnF, hFT, ⟨B1, d1, hc1, hf1, hr1⟩, hset⟩ := Sl.open_at (R := EB true) EB.local_ HS.out i hlm
      have hst := mixSS_step k xs i hlt
      have hsum := sumL_take xs i hlt
      have hsle := sumL_le xs (i + 1)
      rw [mixSS_here k xs i hlt hlm] at hc1 hr1
      rw [Nat.mul_one] at hc1 hset
      have hlt2 : (i : Int) < (xs.length : Int) := by omega
      have R1 := Lib.hid hr1
      have HST := Lib.hid hst
      have HSET := Lib.hid hset
      have HC1 := Lib.hid hc1
      have hf2 := hf1 rfl
      rw [Nat.mul_one] at hf2
      have HF1 := Lib.hid hf2
      have HSUM := Lib.hid hsum
      clear hr1 hst hset hf1 hf2 hsum
      generalize xs[i] = x at *
      have hb1 : sumL (xs.take i) + x.length ≤ 1000000000000 := by have := HSUM.out; omega
      have hb2 : k + (sumL (xs.take i) : Int) + (x.length : Int) ≤ 1000000000000 := by have := HSUM.out; omega
      go_wp2_with fail
      refine (markByteS_any B1 d1 x _ _ R1.out (by omega) (by omega) (by omega)).mono ?_
      rintro e w2 ⟨rfl, hc2, hr2⟩
      have HC2 := Lib.hid hc2
      have HR2 := Lib.hid hr2
      clear hc2 hr2
      go_wp2
      go_roundw
      case rel =>
        refine ⟨i + 1, by omega, by go_num, ?_, Lib.hid (HC.out.trans (HC2.out.mono (fun b _ hb => hFT b hb))), Lib.hid ?_⟩
        · rw [HSUM.out]; go_num
        · rw [HST.out]
          refine HSET.out w2 _ (HC2.out.mono (fun b _ hb => .inr hb)) (fun j _ => ⟨HC2.out.cell (p := ⟨g, j, none⟩) hg hnF, HC2.out.frozen (p := ⟨g, j, none⟩) hg hnF⟩) ?_
          refine ⟨B1, d1, ?_, fun _ => ?_, HR2.out⟩
          · rw [marksByteS_len]; exact (HC2.out.cell (p := ⟨g, o + i, none⟩) hg hnF).trans HC1.out
          · exact (HC2.out.frozen (p := ⟨g, o + i, none⟩) hg hnF).trans HF1.out
      case measure => simp [intOf]; omega
    · obtain rfl : i = xs.length := by omega
      have HS2 : Hid (Sl true 1 (EB true) wr T A (marksSS k xs)) := Lib.hid (by rw [← mixSS_all]; exact HS.out)
      rw [List.take_length]
      go_wp2
      go_ret
      exact ⟨rfl, HC.out, HS2.out⟩

theorem heldByteS_ql {u : Bool} {T : Nat → Prop} (A : Option Addr) (n c : Nat) (k : Int) (xs : List Int) (w : World) (he : xs = marksByteS k n) (hx : Rw u .u8 w T A xs) (hm : n ≤ 1000000000000) (hk0 : 0 ≤ k) (hk1 : k ≤ 1000000000000) :
    Calls Try.prog 65 #[.slice A n c, .int .i64 k] w fun e w' => e = .returned (.int .i64 (k + (n : Int))) ∧ Dr w w' := by
  subst he
  exact heldByteS_q A n c k w hx hm hk0 hk1
set_option maxHeartbeats 1000000 in
theorem heldByteSS_q {T : Nat → Prop} (A : Option Addr) (n c : Nat) (xs : List (List Int)) (k : Int) (w : World) (hn : n = xs.length) (hx : Sl false 1 (EB false) w T A (marksSS k xs)) (hm : xs.length ≤ 1000000000000) (hs : sumL xs ≤ 1000000000000) (hk0 : 0 ≤ k) (hk1 : k ≤ 1000000000000) (hks : k + (sumL xs : Int) ≤ 1000000000000) :
    Calls Try.prog 21 #[.slice A n c, .int .i64 k] w fun e w' => e = .returned (.int .i64 (k + (sumL xs : Int))) ∧ Dr w w' := by
  subst hn
  have HX := Lib.hid hx
  clear hx
  go_enter Try.func21, Try.ntmps21
  go_wp2
  go_loopw [1, 5] (fun q p wr => ∃ i : Nat, i ≤ xs.length ∧ p = .int .i64 (i : Int) ∧ q = .int .i64 (k + (sumL (xs.take i) : Int)) ∧ Hid (Dr w wr)) (fun _ p _ => xs.length - (intOf p).toNat)
  case atStart => exact ⟨0, Nat.zero_le _, rfl, by simp [sumL], Lib.hid (Dr.refl _)⟩
  case round =>
    obtain ⟨i, hi, rfl, rfl, HD⟩ := hrel
    by_cases hlt : i < xs.length
    · have hlm : i < (marksSS k xs).length := by rw [marksSS_len]; exact hlt
      obtain ⟨g, o, F, rfl, hg, ⟨B1, d1, hc1, _, hr1⟩, _, _⟩ := HX.out.at_ i hlm
      have hat := marksSS_at xs k i hlt
      rw [List.getElem?_eq_getElem hlm] at hat
      have hat2 := Option.some.inj hat
      rw [hat2] at hc1 hr1
      rw [marksByteS_len, Nat.mul_one, ← HD.out.cell] at hc1
      have R1 := Lib.hid (hr1.below HD.out.below)
      have hsum := sumL_take xs i hlt
      have hsle := sumL_le xs (i + 1)
      have hlt2 : (i : Int) < (xs.length : Int) := by omega
      have HSUM := Lib.hid hsum
      clear hr1 hat hat2 hsum
      generalize xs[i] = x at *
      have hb1 : sumL (xs.take i) + x.length ≤ 1000000000000 := by have := HSUM.out; omega
      have hb2 : k + (sumL (xs.take i) : Int) + (x.length : Int) ≤ 1000000000000 := by have := HSUM.out; omega
      go_wp2_with fail
      refine (heldByteS_q B1 x.length d1 _ _ R1.out (by omega) (by omega) (by omega)).mono ?_
      rintro e w2 ⟨rfl, hd2⟩
      have HD2 := Lib.hid hd2
      clear hd2
      go_wp2
      go_roundw
      case rel => exact ⟨i + 1, by omega, by go_num, by rw [HSUM.out]; go_num, Lib.hid (HD.out.trans HD2.out)⟩
      case measure => simp [intOf]; omega
    · obtain rfl : i = xs.length := by omega
      rw [List.take_length]
      go_wp2
      go_ret
      exact ⟨rfl, HD.out⟩

end Go.Proofs.Ytnfgdgmmbddmgaa
