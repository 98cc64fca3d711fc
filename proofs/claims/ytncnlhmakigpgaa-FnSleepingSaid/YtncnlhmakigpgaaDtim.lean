/- DtimCountAt of the reference. -/
import Derived.Test.YtncnlhmakigpgaaBeacV
namespace Go.Proofs.Ytncnlhmakigpgaa
open Go.RowKit
set_option linter.unusedVariables false
set_option linter.unusedSimpArgs false

theorem ret_int {k : IntKind} {a b : Int} (h : a = b) : Ending.returned (.int k a) = .returned (.int k b) := by rw [h]
theorem tmod_neg_bd (p q : Int) (hp : p < 0) (hq : 1 ≤ q) : -q < p.tmod q ∧ p.tmod q ≤ 0 := by
  have h1 : p.tmod q = -((-p).tmod q) := by rw [Int.neg_tmod]; omega
  have h2 := Int.tmod_eq_emod_of_nonneg (a := -p) (b := q) (by omega)
  have h3 := Int.emod_nonneg (-p) (b := q) (by omega)
  have h4 := Int.emod_lt_of_pos (-p) (b := q) (by omega)
  omega
theorem tmod_add_emod (p q : Int) : (p.tmod q + q) % q = p % q := by
  have h := Int.tmod_add_mul_tdiv p q
  have e : p.tmod q + q = p + q * (1 - p.tdiv q) := by rw [Int.mul_sub, Int.mul_one]; omega
  rw [e, Int.add_mul_emod_self_left]
theorem tmod_emod (p q : Int) : p.tmod q % q = p % q := by
  have := tmod_add_emod p q
  rwa [Int.add_emod_right] at this


theorem specMod_any (p q : Int) (hp : I64 p) (hq : inR q 1 1000000000000 = true) (w : World) :
    Calls Try.prog 53 #[.int .i64 p, .int .i64 q] w fun e w' => e = .returned (.int .i64 (p % q)) ∧ w = w' := by
  have hb := inR_true hq
  unfold I64 at hp
  by_cases h0 : 0 ≤ p
  · have h1 := Int.emod_nonneg p (b := q) (by omega)
    have h2 := Int.emod_lt_of_pos p (b := q) (by omega)
    have hr : (p % q + q) % q = p % q := by rw [Int.add_emod_right, Int.emod_emod]
    have HR := Lib.hid hr
    clear hr
    go_enter Try.func53, Try.ntmps53
    go_wp2_with (go_at_call 35; refine (l1In_any _ _ _ _).mono ?_; rintro e w' ⟨rfl, rfl⟩)
    go_ret
    exact ⟨ret_int HR.out, rfl⟩
  · have hbd := tmod_neg_bd p q (by omega) hb.1
    have HR := Lib.hid (tmod_add_emod p q)
    go_enter Try.func53, Try.ntmps53
    go_wp2_with (go_at_call 35; refine (l1In_any _ _ _ _).mono ?_; rintro e w' ⟨rfl, rfl⟩)
    go_ret
    exact ⟨ret_int HR.out, rfl⟩


def dtimI (sl p : Int) : Int := if slotB sl && inR p 1 8 then (-(sl / 10)) % p else -1

theorem specDtim_any (sl p : Int) (w : World) :
    Calls Try.prog 52 #[.int .i64 sl, .int .i64 p] w fun e w' => e = .returned (.int .i64 (dtimI sl p)) ∧ w = w' := by
  cases h2 : inR sl 0 1000000000000
  · go_enter Try.func52, Try.ntmps52
    go_wp2_with (first | (go_at_call 35; refine (l1In_any _ _ _ _).mono ?_; rintro e w' ⟨rfl, rfl⟩) | (go_at_call 53; refine (specMod_any _ _ (by unfold I64; omega) hq _).mono ?_; rintro e w' ⟨rfl, rfl⟩))
    go_ret
    exact ⟨ret_int (by simp [dtimI, slotB, *]), rfl⟩
  · have qh2 := inR_true h2
    cases h3 : sl % 10 == 0
    · have h3' : (sl % 10 != 0) = true := by simp at h3 ⊢; omega
      go_enter Try.func52, Try.ntmps52
      go_wp2_with (first | (go_at_call 35; refine (l1In_any _ _ _ _).mono ?_; rintro e w' ⟨rfl, rfl⟩) | (go_at_call 53; refine (specMod_any _ _ (by unfold I64; omega) hq _).mono ?_; rintro e w' ⟨rfl, rfl⟩))
      go_ret
      exact ⟨ret_int (by simp [dtimI, slotB, *]), rfl⟩
    · have h3' : (sl % 10 != 0) = false := by simp at h3 ⊢; omega
      cases h4 : inR p 1 8
      · go_enter Try.func52, Try.ntmps52
        go_wp2_with (first | (go_at_call 35; refine (l1In_any _ _ _ _).mono ?_; rintro e w' ⟨rfl, rfl⟩) | (go_at_call 53; refine (specMod_any _ _ (by unfold I64; omega) hq _).mono ?_; rintro e w' ⟨rfl, rfl⟩))
        go_ret
        exact ⟨ret_int (by simp [dtimI, slotB, *]), rfl⟩
      · have qh4 := inR_true h4
        have hq : inR p 1 1000000000000 = true := inR_of (by omega)
        go_enter Try.func52, Try.ntmps52
        go_wp2_with (first | (go_at_call 35; refine (l1In_any _ _ _ _).mono ?_; rintro e w' ⟨rfl, rfl⟩) | (go_at_call 53; refine (specMod_any _ _ (by unfold I64; omega) hq _).mono ?_; rintro e w' ⟨rfl, rfl⟩))
        go_ret
        exact ⟨ret_int (by simp [dtimI, slotB, *]), rfl⟩

end Go.Proofs.Ytncnlhmakigpgaa
