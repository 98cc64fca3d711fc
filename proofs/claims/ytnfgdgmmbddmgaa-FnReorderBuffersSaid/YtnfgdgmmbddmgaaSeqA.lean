/- The contracts of SeqDistance, NextSeq and addSeq. -/
import Derived.Test.YtnfgdgmmbddmgaaSeqMod
namespace Go.Proofs.Ytnfgdgmmbddmgaa
open Go.RowKit
set_option linter.unusedVariables false
set_option linter.unusedSimpArgs false

def seqD (a b : Int) : Int := if inR a 0 4095 && inR b 0 4095 then (b - a) % 4096 else -1
def seqN (s : Int) : Int := if inR s 0 4095 then (s + 1) % 4096 else 0
theorem seqD_bd (a b : Int) : -1 ≤ seqD a b ∧ seqD a b ≤ 4095 := by unfold seqD; split <;> omega
theorem seqD_pos {a b : Int} (h : 0 ≤ seqD a b) : 0 ≤ a ∧ a ≤ 4095 ∧ 0 ≤ b ∧ b ≤ 4095 ∧ seqD a b = (b - a) % 4096 := by
  unfold seqD at h ⊢
  split at h
  · rename_i hh
    simp only [Bool.and_eq_true] at hh
    have h1 := inR_true hh.1; have h2 := inR_true hh.2
    rw [if_pos (by simp [hh.1, hh.2])]
    omega
  · omega
theorem seqD_of {a b : Int} (ha : 0 ≤ a ∧ a ≤ 4095) (hb : 0 ≤ b ∧ b ≤ 4095) : seqD a b = (b - a) % 4096 := by
  unfold seqD; rw [if_pos (by simp [inR_of ha, inR_of hb])]
theorem seqN_bd (s : Int) : 0 ≤ seqN s ∧ seqN s ≤ 4095 := by unfold seqN; split <;> omega
theorem seqN_of {s : Int} (h : 0 ≤ s ∧ s ≤ 4095) : seqN s = (s + 1) % 4096 := by unfold seqN; rw [if_pos (inR_of h)]

theorem q4096 : inR 4096 1 1000000000000 = true := by decide

theorem implDist_any (a b : Int) (w : World) :
    Calls Try.prog 59 #[.int .i64 a, .int .i64 b] w fun e w' => e = .returned (.int .i64 (seqD a b)) ∧ w = w' := by
  have q0 := q4096
  cases h1 : inR a 0 4095
  · go_enter Try.func59, Try.ntmps59
    go_wp2_with (go_at_call 60; refine (inRange_any _ _ _ _).mono ?_; rintro e w' ⟨rfl, rfl⟩)
    go_ret
    exact ⟨ret_int (by simp [seqD, h1]), rfl⟩
  · have b1 := inR_true h1
    cases h2 : inR b 0 4095
    · go_enter Try.func59, Try.ntmps59
      go_wp2_with (go_at_call 60; refine (inRange_any _ _ _ _).mono ?_; rintro e w' ⟨rfl, rfl⟩)
      go_ret
      exact ⟨ret_int (by simp [seqD, h2]), rfl⟩
    · have b2 := inR_true h2
      go_enter Try.func59, Try.ntmps59
      go_wp2_with (first | (go_at_call 60; refine (inRange_any _ _ _ _).mono ?_; rintro e w' ⟨rfl, rfl⟩) | (go_at_call 85; refine (implMod_any _ _ (by unfold I64; omega) q0 _).mono ?_; rintro e w' ⟨rfl, rfl⟩))
      go_ret
      exact ⟨ret_int (by simp [seqD, h1, h2]), rfl⟩

theorem specDist_any (a b : Int) (w : World) :
    Calls Try.prog 51 #[.int .i64 a, .int .i64 b] w fun e w' => e = .returned (.int .i64 (seqD a b)) ∧ w = w' := by
  have q0 := q4096
  cases h1 : inR a 0 4095
  · go_enter Try.func51, Try.ntmps51
    go_wp2_with (go_at_call 54; refine (l1In_any _ _ _ _).mono ?_; rintro e w' ⟨rfl, rfl⟩)
    go_ret
    exact ⟨ret_int (by simp [seqD, h1]), rfl⟩
  · have b1 := inR_true h1
    cases h2 : inR b 0 4095
    · go_enter Try.func51, Try.ntmps51
      go_wp2_with (go_at_call 54; refine (l1In_any _ _ _ _).mono ?_; rintro e w' ⟨rfl, rfl⟩)
      go_ret
      exact ⟨ret_int (by simp [seqD, h2]), rfl⟩
    · have b2 := inR_true h2
      go_enter Try.func51, Try.ntmps51
      go_wp2_with (first | (go_at_call 54; refine (l1In_any _ _ _ _).mono ?_; rintro e w' ⟨rfl, rfl⟩) | (go_at_call 41; refine (specMod_any _ _ (by unfold I64; omega) q0 _).mono ?_; rintro e w' ⟨rfl, rfl⟩))
      go_ret
      exact ⟨ret_int (by simp [seqD, h1, h2]), rfl⟩

theorem implNext_any (s : Int) (w : World) :
    Calls Try.prog 73 #[.int .i64 s] w fun e w' => e = .returned (.int .i64 (seqN s)) ∧ w = w' := by
  cases h1 : inR s 0 4095
  · go_enter Try.func73, Try.ntmps73
    go_wp2_with (go_at_call 60; refine (inRange_any _ _ _ _).mono ?_; rintro e w' ⟨rfl, rfl⟩)
    go_ret
    exact ⟨ret_int (by simp [seqN, h1]), rfl⟩
  · have b1 := inR_true h1
    go_enter Try.func73, Try.ntmps73
    go_wp2_with (go_at_call 60; refine (inRange_any _ _ _ _).mono ?_; rintro e w' ⟨rfl, rfl⟩)
    go_ret
    exact ⟨ret_int (by simp [seqN, h1]), rfl⟩

theorem specNext_any (s : Int) (w : World) :
    Calls Try.prog 77 #[.int .i64 s] w fun e w' => e = .returned (.int .i64 (seqN s)) ∧ w = w' := by
  cases h1 : inR s 0 4095
  · go_enter Try.func77, Try.ntmps77
    go_wp2_with (go_at_call 54; refine (l1In_any _ _ _ _).mono ?_; rintro e w' ⟨rfl, rfl⟩)
    go_ret
    exact ⟨ret_int (by simp [seqN, h1]), rfl⟩
  · have b1 := inR_true h1
    go_enter Try.func77, Try.ntmps77
    go_wp2_with (go_at_call 54; refine (l1In_any _ _ _ _).mono ?_; rintro e w' ⟨rfl, rfl⟩)
    go_ret
    exact ⟨ret_int (by simp [seqN, h1]), rfl⟩

theorem implAdd_any (s c : Int) (hs : 0 ≤ s ∧ s ≤ 4095) (hc : -100 ≤ c ∧ c ≤ 4100) (w : World) :
    Calls Try.prog 67 #[.int .i64 s, .int .i64 c] w fun e w' => e = .returned (.int .i64 ((s + c) % 4096)) ∧ w = w' := by
  have q0 := q4096
  obtain ⟨s1, s2⟩ := hs; obtain ⟨c1, c2⟩ := hc
  go_enter Try.func67, Try.ntmps67
  go_wp2_with (go_at_call 85; refine (implMod_any _ _ (by unfold I64; omega) q0 _).mono ?_; rintro e w' ⟨rfl, rfl⟩)
  go_ret
  exact ⟨rfl, rfl⟩

end Go.Proofs.Ytnfgdgmmbddmgaa
