/- at, big and sameBytes of the laws. -/
import Derived.Test.YtnfgdgmmbddmgaaRowF
namespace Go.Proofs.Ytnfgdgmmbddmgaa
open Go.RowKit
set_option linter.unusedVariables false
set_option linter.unusedSimpArgs false

theorem ret_i {k : IntKind} {a b : Int} (h : a = b) : Ending.returned (.int k a) = .returned (.int k b) := by rw [h]
def bigB (n : Nat) : Bool := decide (1048576 < n)
theorem big_any (A : Option Addr) (n c : Nat) (w : World) :
    Calls Try.prog 36 #[.slice A n c] w fun e w' => e = .returned (.bool (bigB n)) ∧ w = w' := by
  unfold bigB
  go_enter Try.func36, Try.ntmps36
  go_wp2
  go_ret
  exact ⟨by simp; omega, rfl⟩
def atV (xs : List Int) (i : Nat) : Int := if h : i < xs.length then xs[i] else ((i : Int) * 31 + (xs.length : Int) * 7) % 256
theorem atV_le {xs : List Int} (hb : ∀ x ∈ xs, 0 ≤ x ∧ x ≤ 255) (i : Nat) : 0 ≤ atV xs i ∧ atV xs i ≤ 255 := by
  unfold atV
  split
  · exact hb _ (List.getElem_mem _)
  · omega
set_option maxHeartbeats 1000000 in
theorem at_any {u : Bool} {T : Nat → Prop} (A : Option Addr) (c : Nat) (xs : List Int) (i : Nat) (w : World) (hx : Rw u .u8 w T A xs) (hm : xs.length ≤ 1000000000) (hb : ∀ x ∈ xs, 0 ≤ x ∧ x ≤ 255) (hi : i ≤ 1000000000) :
    Calls Try.prog 37 #[.slice A xs.length c, .int .i64 (i : Int)] w fun e w' => e = .returned (.int .i64 (atV xs i)) ∧ w = w' := by
  by_cases hlt : i < xs.length
  · obtain ⟨g, o, rfl, _, _, hc, _⟩ := hx i hlt
    have hlt2 : (i : Int) < (xs.length : Int) := by omega
    have he : atV xs i = xs[i] := by rw [atV, dif_pos hlt]
    have hxb := hb _ (List.getElem_mem hlt)
    rw [he]
    generalize xs[i] = x at hc hxb
    clear he hx hb
    go_enter Try.func37, Try.ntmps37
    go_wp2
    go_ret
    exact ⟨rfl, rfl⟩
  · have hge : (xs.length : Int) ≤ (i : Int) := by omega
    have he : atV xs i = ((i : Int) * 31 + (xs.length : Int) * 7) % 256 := by rw [atV, dif_neg hlt]
    rw [he]
    clear he hx hb
    go_enter Try.func37, Try.ntmps37
    go_wp2
    go_ret
    exact ⟨ret_i rfl, rfl⟩



end Go.Proofs.Ytnfgdgmmbddmgaa
