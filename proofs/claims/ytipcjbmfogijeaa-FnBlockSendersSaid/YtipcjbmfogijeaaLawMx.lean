/- at, big and sameBytes of the laws. -/
import Derived.Test.YtipcjbmfogijeaaRowF
namespace Go.Proofs.Ytipcjbmfogijeaa
open Go.RowKit
set_option linter.unusedVariables false
set_option linter.unusedSimpArgs false

theorem ret_i {k : IntKind} {a b : Int} (h : a = b) : Ending.returned (.int k a) = .returned (.int k b) := by rw [h]
def bigB (n : Nat) : Bool := decide (1048576 < n)
theorem big_any (A : Option Addr) (n c : Nat) (w : World) :
    Calls Try.prog 34 #[.slice A n c] w fun e w' => e = .returned (.bool (bigB n)) ∧ w = w' := by
  unfold bigB
  go_enter Try.func34, Try.ntmps34
  go_wp2
  go_ret
  exact ⟨by simp; omega, rfl⟩
def atV (xs : List Int) (i : Nat) : Int := if h : i < xs.length then xs[i] else ((i : Int) * 31 + (xs.length : Int) * 7) % 256
theorem atV_le {xs : List Int} (hb : ∀ x ∈ xs, 0 ≤ x ∧ x ≤ 255) (i : Nat) : 0 ≤ atV xs i ∧ atV xs i ≤ 255 := by
  unfold atV
  split
  · exact hb _ (List.getElem_mem _)
  · omega
end Go.Proofs.Ytipcjbmfogijeaa
