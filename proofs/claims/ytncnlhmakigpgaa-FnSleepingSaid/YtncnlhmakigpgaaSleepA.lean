/- The contracts of the functions under the statements on sleeping stations. -/
import Derived.Test.YtncnlhmakigpgaaRange
namespace Go.Proofs.Ytncnlhmakigpgaa
open Go.RowKit

def mustB (p : Int) (g : Bool) : Bool := p == 1 || g
def vSleep (l : Int) (a : Bool) (b p : Int) (g : Bool) : Bool := inR l 1 8 && inR b 0 (l - 1) && inR p 0 1 && (a || !mustB p g)
theorem vSleep_true {l : Int} {a : Bool} {b p : Int} {g : Bool} (h : vSleep l a b p g = true) : 1 ≤ l ∧ l ≤ 8 ∧ 0 ≤ b ∧ b ≤ l - 1 ∧ 0 ≤ p ∧ p ≤ 1 := by
  simp only [vSleep, inR, Bool.and_eq_true, decide_eq_true_eq] at h
  omega

theorem implMust_any (l : Int) (a : Bool) (b p : Int) (g : Bool) (w : World) :
    Calls Try.prog 37 #[.agg #[.int .i64 l, .bool a, .int .i64 b, .int .i64 p, .bool g]] w fun e w' => e = .returned (.bool (mustB p g)) ∧ Below w.heap.size w w' := by
  unfold mustB
  cases h1 : p == 1 <;> cases g
  all_goals
    go_enter Try.func37, Try.ntmps37
    go_wp2
    go_ret
    exact ⟨by simp, by go_grown⟩

theorem implValid_any (l : Int) (a : Bool) (b p : Int) (g : Bool) (w : World) :
    Calls Try.prog 14 #[.agg #[.int .i64 l, .bool a, .int .i64 b, .int .i64 p, .bool g]] w fun e w' => e = .returned (.bool (vSleep l a b p g)) ∧ Below w.heap.size w w' := by
  unfold vSleep
  cases h1 : inR l 1 8
  · go_enter Try.func14, Try.ntmps14
    go_wp2_with (go_at_call 36; refine (inRange_any _ _ _ _).mono ?_; rintro e w' ⟨rfl, rfl⟩)
    go_ret
    exact ⟨by simp, by go_grown⟩
  · have b1 := inR_true h1
    cases h2 : inR b 0 (l - 1)
    · go_enter Try.func14, Try.ntmps14
      go_wp2_with (go_at_call 36; refine (inRange_any _ _ _ _).mono ?_; rintro e w' ⟨rfl, rfl⟩)
      go_ret
      exact ⟨by simp, by go_grown⟩
    · cases h3 : inR p 0 1
      · go_enter Try.func14, Try.ntmps14
        go_wp2_with (go_at_call 36; refine (inRange_any _ _ _ _).mono ?_; rintro e w' ⟨rfl, rfl⟩)
        go_ret
        exact ⟨by simp, by go_grown⟩
      · cases a
        · go_enter Try.func14, Try.ntmps14
          go_wp2_with (first
            | (go_at_call 36; refine (inRange_any _ _ _ _).mono ?_; rintro e w' ⟨rfl, rfl⟩)
            | (go_at_call 37; refine (implMust_any _ _ _ _ _ _).mono ?_; rintro e w' ⟨rfl, hb⟩))
          go_ret
          exact ⟨by simp, ((Below.refl _ _).alloc (Nat.le_refl _) _).trans (hb.mono (by simp))⟩
        · go_enter Try.func14, Try.ntmps14
          go_wp2_with (go_at_call 36; refine (inRange_any _ _ _ _).mono ?_; rintro e w' ⟨rfl, rfl⟩)
          go_ret
          exact ⟨by simp, by go_grown⟩

theorem specValid_any (l : Int) (a : Bool) (b p : Int) (g : Bool) (w : World) :
    Calls Try.prog 12 #[.agg #[.int .i64 l, .bool a, .int .i64 b, .int .i64 p, .bool g]] w fun e w' => e = .returned (.bool (vSleep l a b p g)) ∧ Below w.heap.size w w' := by
  unfold vSleep mustB
  cases h1 : inR l 1 8
  · go_enter Try.func12, Try.ntmps12
    go_wp2_with (go_at_call 35; refine (l1In_any _ _ _ _).mono ?_; rintro e w' ⟨rfl, rfl⟩)
    go_ret
    exact ⟨by simp, by go_grown⟩
  · have b1 := inR_true h1
    cases h2 : inR b 0 (l - 1)
    · go_enter Try.func12, Try.ntmps12
      go_wp2_with (go_at_call 35; refine (l1In_any _ _ _ _).mono ?_; rintro e w' ⟨rfl, rfl⟩)
      go_ret
      exact ⟨by simp, by go_grown⟩
    · cases h3 : inR p 0 1
      · go_enter Try.func12, Try.ntmps12
        go_wp2_with (go_at_call 35; refine (l1In_any _ _ _ _).mono ?_; rintro e w' ⟨rfl, rfl⟩)
        go_ret
        exact ⟨by simp, by go_grown⟩
      · have b3 := inR_true h3
        cases a
        · by_cases h4 : p = 0
          · subst h4
            cases g
            all_goals
              go_enter Try.func12, Try.ntmps12
              go_wp2_with (go_at_call 35; refine (l1In_any _ _ _ _).mono ?_; rintro e w' ⟨rfl, rfl⟩)
              go_ret
              exact ⟨by simp, by go_grown⟩
          · obtain rfl : p = 1 := by omega
            go_enter Try.func12, Try.ntmps12
            go_wp2_with (go_at_call 35; refine (l1In_any _ _ _ _).mono ?_; rintro e w' ⟨rfl, rfl⟩)
            go_ret
            exact ⟨by simp, by go_grown⟩
        · go_enter Try.func12, Try.ntmps12
          go_wp2_with (go_at_call 35; refine (l1In_any _ _ _ _).mono ?_; rintro e w' ⟨rfl, rfl⟩)
          go_ret
          exact ⟨by simp, by go_grown⟩

theorem toSleep_any (l : Int) (a : Bool) (b p : Int) (g : Bool) (w : World) :
    Calls Try.prog 13 #[.agg #[.int .i64 l, .bool a, .int .i64 b, .int .i64 p, .bool g]] w fun e w' => e = .returned (.agg #[.int .i64 l, .bool a, .int .i64 b, .int .i64 p, .bool g]) ∧ Below w.heap.size w w' := by
  go_enter Try.func13, Try.ntmps13
  go_wp2
  go_returns
  exact ⟨by simp, by go_grown⟩

theorem eqSleep_any (l : Int) (a : Bool) (b p : Int) (g : Bool) (w : World) :
    Calls Try.prog 17 #[.agg #[.int .i64 l, .bool a, .int .i64 b, .int .i64 p, .bool g], .agg #[.int .i64 l, .bool a, .int .i64 b, .int .i64 p, .bool g]] w fun e w' => e = .returned (.bool true) ∧ Below w.heap.size w w' := by
  go_enter Try.func17, Try.ntmps17
  go_wp2
  go_returns
  exact ⟨by simp, by go_grown⟩

end Go.Proofs.Ytncnlhmakigpgaa
