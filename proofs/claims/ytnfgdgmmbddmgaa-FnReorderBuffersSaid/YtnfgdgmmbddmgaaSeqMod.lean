/- The contracts of Mod. -/
import Derived.Test.YtnfgdgmmbddmgaaRange
import Derived.Lib.Hide
namespace Go.Proofs.Ytnfgdgmmbddmgaa
open Go.RowKit
set_option linter.unusedVariables false
set_option linter.unusedSimpArgs false

theorem ret_int {k : IntKind} {a b : Int} (h : a = b) : Ending.returned (.int k a) = .returned (.int k b) := by rw [h]
theorem tmod_neg_bd (p q : Int) (hp : p < 0) (hq : 1 ≤ q) : -q < p.tmod q ∧ p.tmod q ≤ 0 := by
  have h1 : p.tmod q = -((-p).tmod q) := by rw [Int.neg_tmod]; omega
  have h2 := Int.tmod_eq_emod_of_nonneg (a := -p) (b := q) (by omega)
  have h3 := Int.emod_nonneg (-p) (b := q) (by omega)
  have h4 := Int.emod_lt_of_pos (-p) (b := q) (by omega)
  omega
theorem tmod_add_emod (p q : Int) : (p.tmod q + q) % q = p % q := by
  have h := Int.tmod_add_mul_tdiv p q
  have e : p.tmod q + q = p + q * (1 - p.tdiv q) := by rw [Int.mul_sub, Int.mul_one]; omega
  rw [e, Int.add_mul_emod_self_left]
theorem tmod_emod (p q : Int) : p.tmod q % q = p % q := by
  have := tmod_add_emod p q
  rwa [Int.add_emod_right] at this

theorem implMod_any (p q : Int) (hp : I64 p) (hq : inR q 1 1000000000000 = true) (w : World) :
    Calls Try.prog 85 #[.int .i64 p, .int .i64 q] w fun e w' => e = .returned (.int .i64 (p % q)) ∧ w = w' := by
  have hb := inR_true hq
  unfold I64 at hp
  by_cases h0 : 0 ≤ p
  · have h1 := Int.emod_nonneg p (b := q) (by omega)
    go_enter Try.func85, Try.ntmps85
    go_wp2_with (go_at_call 60; refine (inRange_any _ _ _ _).mono ?_; rintro e w' ⟨rfl, rfl⟩)
    go_ret
    exact ⟨rfl, rfl⟩
  · have hbd := tmod_neg_bd p q (by omega) hb.1
    have hm := tmod_emod p q
    have HM := Lib.hid hm
    clear hm
    by_cases h1 : p.tmod q < 0
    · have hr : p.tmod q + q = p % q := by
        rw [← HM.out, ← Int.add_emod_right, Int.emod_eq_of_lt (by omega) (by omega)]
      have HR := Lib.hid hr
      clear hr
      go_enter Try.func85, Try.ntmps85
      go_wp2_with (go_at_call 60; refine (inRange_any _ _ _ _).mono ?_; rintro e w' ⟨rfl, rfl⟩)
      go_ret
      exact ⟨ret_int HR.out, rfl⟩
    · have hr : p.tmod q = p % q := by
        have hz : p.tmod q = 0 := by omega
        rw [← HM.out, hz]; simp
      have HR := Lib.hid hr
      clear hr
      go_enter Try.func85, Try.ntmps85
      go_wp2_with (go_at_call 60; refine (inRange_any _ _ _ _).mono ?_; rintro e w' ⟨rfl, rfl⟩)
      go_ret
      exact ⟨ret_int HR.out, rfl⟩

theorem specMod_any (p q : Int) (hp : I64 p) (hq : inR q 1 1000000000000 = true) (w : World) :
    Calls Try.prog 41 #[.int .i64 p, .int .i64 q] w fun e w' => e = .returned (.int .i64 (p % q)) ∧ w = w' := by
  have hb := inR_true hq
  unfold I64 at hp
  by_cases h0 : 0 ≤ p
  · have h1 := Int.emod_nonneg p (b := q) (by omega)
    have h2 := Int.emod_lt_of_pos p (b := q) (by omega)
    have hr : (p % q + q) % q = p % q := by rw [Int.add_emod_right, Int.emod_emod]
    have HR := Lib.hid hr
    clear hr
    go_enter Try.func41, Try.ntmps41
    go_wp2_with (go_at_call 54; refine (l1In_any _ _ _ _).mono ?_; rintro e w' ⟨rfl, rfl⟩)
    go_ret
    exact ⟨ret_int HR.out, rfl⟩
  · have hbd := tmod_neg_bd p q (by omega) hb.1
    have HR := Lib.hid (tmod_add_emod p q)
    go_enter Try.func41, Try.ntmps41
    go_wp2_with (go_at_call 54; refine (l1In_any _ _ _ _).mono ?_; rintro e w' ⟨rfl, rfl⟩)
    go_ret
    exact ⟨ret_int HR.out, rfl⟩

end Go.Proofs.Ytnfgdgmmbddmgaa
