/- Plain facts on rate states: two hundred successes, twenty failures, one step. -/
import Derived.Test.YtkjkhlncdopndaaRateD
namespace Go.Proofs.Ytkjkhlncdopndaa
open Go.RowKit
set_option linter.unusedVariables false
set_option linter.unusedSimpArgs false

theorem RS.bd {s : RS} (h : s.v = true) : (s.th = 10 ∨ s.th = 20 ∨ s.th = 40) ∧ 0 ≤ s.r ∧ s.r ≤ 3 ∧ 0 ≤ s.go ∧ s.go ≤ s.th ∧ 0 ≤ s.b ∧ s.b ≤ 1 ∧ (s.go = 0 ∨ s.b = 0) ∧ (s.pr = true → s.go = 0 ∧ s.b = 0) := by
  have := vRate_true h
  exact this
theorem RS.v_of {s : RS} (h1 : s.th = 10 ∨ s.th = 20 ∨ s.th = 40) (h2 : 0 ≤ s.r ∧ s.r ≤ 3) (h3 : 0 ≤ s.go ∧ s.go ≤ s.th) (h4 : 0 ≤ s.b ∧ s.b ≤ 1) (h5 : s.go = 0 ∨ s.b = 0) (h6 : s.pr = true → s.go = 0 ∧ s.b = 0) : s.v = true := by
  have e1 : thB s.th = true := by simp [thB]; omega
  have e2 : inR s.r 0 3 = true := inR_of h2
  have e3 : inR s.go 0 s.th = true := inR_of h3
  have e4 : inR s.b 0 1 = true := inR_of h4
  have e5 : (!(!(s.go == 0) && !(s.b == 0))) = true := by rcases h5 with h | h <;> simp [h]
  have e6 : (!s.pr || (s.go == 0 && s.b == 0)) = true := by
    cases hp : s.pr
    · rfl
    · obtain ⟨a, b⟩ := h6 hp; simp [a, b]
  unfold RS.v vRate
  rw [e1, e2, e3, e4, e5, e6]
  rfl
theorem succ_v {s : RS} (h : s.v = true) : (sSucc s).v = true := by
  obtain ⟨a1, a2, a3, a4, a5, a6, a7, a8, a9⟩ := s.bd h
  rw [sSucc, if_pos h]
  split
  · exact RS.v_of a1 ⟨a2, a3⟩ ⟨by show 0 ≤ s.go + 1; omega, by show s.go + 1 ≤ s.th; omega⟩ ⟨by show (0 : Int) ≤ 0; omega, by show (0 : Int) ≤ 1; omega⟩ (.inr rfl) (fun h => by cases h)
  · split
    · exact RS.v_of a1 ⟨by show 0 ≤ s.r + 1; omega, by show s.r + 1 ≤ 3; omega⟩ ⟨by show (0 : Int) ≤ 0; omega, by show 0 ≤ s.th; omega⟩ ⟨by show (0 : Int) ≤ 0; omega, by show (0 : Int) ≤ 1; omega⟩ (.inr rfl) (fun _ => ⟨rfl, rfl⟩)
    · exact RS.v_of a1 ⟨a2, a3⟩ ⟨by show 0 ≤ s.th; omega, by show s.th ≤ s.th; omega⟩ ⟨by show (0 : Int) ≤ 0; omega, by show (0 : Int) ≤ 1; omega⟩ (.inr rfl) (fun h => by cases h)
theorem succ_P {s : RS} (h : s.v = true) : (3 - (sSucc s).r) * 41 + ((sSucc s).th - (sSucc s).go) ≤ max ((3 - s.r) * 41 + (s.th - s.go) - 1) 0 := by
  obtain ⟨a1, a2, a3, a4, a5, a6, a7, a8, a9⟩ := s.bd h
  rw [sSucc, if_pos h]
  split
  · dsimp only; omega
  · split
    · dsimp only; omega
    · dsimp only; omega
theorem up_all : ∀ (k : Nat) (s : RS), s.v = true → (3 - s.r) * 41 + (s.th - s.go) ≤ (k : Int) → (sApply s (List.replicate k true)).r = 3
  | 0, s, h, hk => by
    obtain ⟨a1, a2, a3, a4, a5, a6, a7, a8, a9⟩ := s.bd h
    show s.r = 3
    omega
  | k + 1, s, h, hk => by
    have h1 := up_all k (sSucc s) (succ_v h) (by have := succ_P h; omega)
    rw [List.replicate_succ]
    exact h1
theorem up_200 {s : RS} (h : s.v = true) : (sApply s (List.replicate 200 true)).r = 3 := by
  obtain ⟨a1, a2, a3, a4, a5, a6, a7, a8, a9⟩ := s.bd h
  exact up_all 200 s h (by omega)

theorem fail_v {s : RS} (h : s.v = true) : (sFail s).v = true := by
  obtain ⟨a1, a2, a3, a4, a5, a6, a7, a8, a9⟩ := s.bd h
  rw [sFail, if_pos h]
  split
  · rename_i hp
    simp only [Bool.and_eq_true, decide_eq_true_eq] at hp
    refine RS.v_of ?_ ⟨by show 0 ≤ s.r - 1; omega, by show s.r - 1 ≤ 3; omega⟩ ⟨by show (0 : Int) ≤ 0; omega, ?_⟩ ⟨by show (0 : Int) ≤ 0; omega, by show (0 : Int) ≤ 1; omega⟩ (.inr rfl) (fun h => by cases h)
    · show (if s.th == 10 then (20 : Int) else 40) = 10 ∨ (if s.th == 10 then (20 : Int) else 40) = 20 ∨ (if s.th == 10 then (20 : Int) else 40) = 40
      split <;> omega
    · show (0 : Int) ≤ (if s.th == 10 then (20 : Int) else 40)
      split <;> omega
  · split
    · exact RS.v_of a1 ⟨a2, a3⟩ ⟨by show (0 : Int) ≤ 0; omega, by show 0 ≤ s.th; omega⟩ ⟨by show (0 : Int) ≤ 1; omega, by show (1 : Int) ≤ 1; omega⟩ (.inl rfl) (fun h => by cases h)
    · refine RS.v_of (.inl rfl) ⟨?_, ?_⟩ ⟨by show (0 : Int) ≤ 0; omega, by show (0 : Int) ≤ 10; omega⟩ ⟨by show (0 : Int) ≤ 0; omega, by show (0 : Int) ≤ 1; omega⟩ (.inr rfl) (fun h => by cases h)
      · show 0 ≤ (if s.r == 0 then 0 else s.r - 1)
        split
        · omega
        · rename_i h0; simp at h0; omega
      · show (if s.r == 0 then 0 else s.r - 1) ≤ 3
        split <;> omega
theorem fail_Q {s : RS} (h : s.v = true) : 2 * (sFail s).r - (sFail s).b ≤ max (2 * s.r - s.b - 1) 0 := by
  obtain ⟨a1, a2, a3, a4, a5, a6, a7, a8, a9⟩ := s.bd h
  rw [sFail, if_pos h]
  split
  · rename_i hp
    simp only [Bool.and_eq_true, decide_eq_true_eq] at hp
    have := a9 hp.1
    dsimp only; omega
  · split
    · rename_i hb
      simp at hb
      dsimp only; omega
    · rename_i hb
      simp at hb
      dsimp only
      split
      · omega
      · omega
theorem down_all : ∀ (k : Nat) (s : RS), s.v = true → 2 * s.r - s.b ≤ (k : Int) → (sApply s (List.replicate k false)).r = 0
  | 0, s, h, hk => by
    obtain ⟨a1, a2, a3, a4, a5, a6, a7, a8, a9⟩ := s.bd h
    show s.r = 0
    omega
  | k + 1, s, h, hk => by
    have h1 := down_all k (sFail s) (fail_v h) (by have := fail_Q h; omega)
    rw [List.replicate_succ]
    exact h1
theorem down_20 {s : RS} (h : s.v = true) : (sApply s (List.replicate 20 false)).r = 0 := by
  obtain ⟨a1, a2, a3, a4, a5, a6, a7, a8, a9⟩ := s.bd h
  exact down_all 20 s h (by omega)
theorem succ_r {s : RS} (h : s.v = true) : s.r ≤ (sSucc s).r ∧ (sSucc s).r ≤ s.r + 1 ∧ decide (s.r < (sSucc s).r) = (decide (s.th ≤ s.go + 1) && decide (s.r < 3)) ∧ (sSucc s).pr = decide (s.r < (sSucc s).r) := by
  obtain ⟨a1, a2, a3, a4, a5, a6, a7, a8, a9⟩ := s.bd h
  rw [sSucc, if_pos h]
  split
  · rename_i h1
    refine ⟨by dsimp only; omega, by dsimp only; omega, ?_, ?_⟩
    · have e : ¬ s.th ≤ s.go + 1 := by omega
      simp [e]
    · simp
  · rename_i h1
    have e : s.th ≤ s.go + 1 := by omega
    split
    · rename_i h2
      refine ⟨by dsimp only; omega, by dsimp only; omega, ?_, ?_⟩
      · simp [e, h2]; omega
      · simp; omega
    · rename_i h2
      refine ⟨by dsimp only; omega, by dsimp only; omega, ?_, ?_⟩
      · simp [h2]
      · simp
theorem fail_r {s : RS} (h : s.v = true) : (sFail s).r ≤ s.r ∧ s.r - 1 ≤ (sFail s).r ∧ (s.pr = true → 0 < s.r → (sFail s).r = s.r - 1 ∧ s.th ≤ (sFail s).th) := by
  obtain ⟨a1, a2, a3, a4, a5, a6, a7, a8, a9⟩ := s.bd h
  rw [sFail, if_pos h]
  split
  · rename_i hp
    refine ⟨by dsimp only; omega, by dsimp only; omega, fun _ _ => ⟨rfl, ?_⟩⟩
    dsimp only
    split
    · rename_i h10; simp at h10; omega
    · omega
  · rename_i hp
    have hno : s.pr = true → 0 < s.r → False := fun h1 h2 => hp (by simp [h1, h2])
    split
    · exact ⟨by dsimp only; omega, by dsimp only; omega, fun h1 h2 => (hno h1 h2).elim⟩
    · refine ⟨?_, ?_, fun h1 h2 => (hno h1 h2).elim⟩
      · dsimp only; split <;> omega
      · dsimp only; split
        · rename_i h0; simp at h0; omega
        · omega
theorem succ_not {s : RS} (h : s.v = false) : sSucc s = s := by rw [sSucc, if_neg (by rw [h]; decide)]
theorem fail_not {s : RS} (h : s.v = false) : sFail s = s := by rw [sFail, if_neg (by rw [h]; decide)]

end Go.Proofs.Ytkjkhlncdopndaa
