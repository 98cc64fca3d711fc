/- at, big and sameBytes of the laws. -/
import Derived.Test.YtifakpjchmalnaaRowF
namespace Go.Proofs.Ytifakpjchmalnaa
open Go.RowKit
set_option linter.unusedVariables false
set_option linter.unusedSimpArgs false

theorem ret_i {k : IntKind} {a b : Int} (h : a = b) : Ending.returned (.int k a) = .returned (.int k b) := by rw [h]
def bigB (n : Nat) : Bool := decide (1048576 < n)
theorem big_any (A : Option Addr) (n c : Nat) (w : World) :
    Calls Try.prog 18 #[.slice A n c] w fun e w' => e = .returned (.bool (bigB n)) ∧ w = w' := by
  unfold bigB
  go_enter Try.func18, Try.ntmps18
  go_wp2
  go_ret
  exact ⟨by simp; omega, rfl⟩
def atV (xs : List Int) (i : Nat) : Int := if h : i < xs.length then xs[i] else ((i : Int) * 31 + (xs.length : Int) * 7) % 256
theorem atV_le {xs : List Int} (hb : ∀ x ∈ xs, 0 ≤ x ∧ x ≤ 255) (i : Nat) : 0 ≤ atV xs i ∧ atV xs i ≤ 255 := by
  unfold atV
  split
  · exact hb _ (List.getElem_mem _)
  · omega
set_option maxHeartbeats 1000000 in
theorem at_any {u : Bool} {T : Nat → Prop} (A : Option Addr) (c : Nat) (xs : List Int) (i : Nat) (w : World) (hx : Rw u .u8 w T A xs) (hm : xs.length ≤ 1000000000) (hb : ∀ x ∈ xs, 0 ≤ x ∧ x ≤ 255) (hi : i ≤ 1000000000) :
    Calls Try.prog 24 #[.slice A xs.length c, .int .i64 (i : Int)] w fun e w' => e = .returned (.int .i64 (atV xs i)) ∧ w = w' := by
  by_cases hlt : i < xs.length
  · obtain ⟨g, o, rfl, _, _, hc, _⟩ := hx i hlt
    have hlt2 : (i : Int) < (xs.length : Int) := by omega
    have he : atV xs i = xs[i] := by rw [atV, dif_pos hlt]
    have hxb := hb _ (List.getElem_mem hlt)
    rw [he]
    generalize xs[i] = x at hc hxb
    clear he hx hb
    go_enter Try.func24, Try.ntmps24
    go_wp2
    go_ret
    exact ⟨rfl, rfl⟩
  · have hge : (xs.length : Int) ≤ (i : Int) := by omega
    have he : atV xs i = ((i : Int) * 31 + (xs.length : Int) * 7) % 256 := by rw [atV, dif_neg hlt]
    rw [he]
    clear he hx hb
    go_enter Try.func24, Try.ntmps24
    go_wp2
    go_ret
    exact ⟨ret_i rfl, rfl⟩

set_option maxHeartbeats 1000000 in
theorem sameBytes_any {u1 u2 : Bool} {T1 T2 : Nat → Prop} (A B : Option Addr) (c1 c2 : Nat) (xs ys : List Int) (w : World) (hx : Rw u1 .u8 w T1 A xs) (hy : Rw u2 .u8 w T2 B ys) (hm : xs.length ≤ 1000000000000) (hm2 : ys.length ≤ 1000000000000) :
    Calls Try.prog 26 #[.slice A xs.length c1, .slice B ys.length c2] w fun e w' => e = .returned (.bool (xs == ys)) ∧ Below w.heap.size w w' := by
  by_cases hl : xs.length = ys.length
  · have hl2 : ((xs.length : Int) != (ys.length : Int)) = false := by simp; omega
    have hlle : ys.length ≤ xs.length ∧ xs.length ≤ ys.length := by omega
    obtain ⟨hl3, hl4⟩ := hlle
    have HL := Lib.hid hl
    have HX := Lib.hid hx
    have HY := Lib.hid hy
    clear hl hx hy
    go_enter Try.func26, Try.ntmps26
    go_wp2
    go_loopw [5] (fun i wr => ∃ k n : Nat, k ≤ xs.length ∧ i = .int .i64 (k : Int) ∧ wr = w.drewN n ∧ Hid (∀ j, j < k → xs[j]? = ys[j]?)) (fun i _ => xs.length - (intOf i).toNat)
    case atStart => exact ⟨0, 0, Nat.zero_le _, rfl, rfl, fun j hj => absurd hj (by omega)⟩
    case round =>
      obtain ⟨k, n, hk, rfl, rfl, heq⟩ := hrel
      by_cases hlt : k < xs.length
      · obtain ⟨g1, o1, rfl, _, _, hc1, _⟩ := HX.out k hlt
        obtain ⟨g2, o2, rfl, _, _, hc2, _⟩ := HY.out k (by omega)
        have e1 : xs[k]? = some xs[k] := List.getElem?_eq_getElem hlt
        have e2 : ys[k]? = some ys[k] := List.getElem?_eq_getElem (by omega)
        have hlt2 : (k : Int) < (xs.length : Int) := by omega
        have hlt3 : (k : Int) < (ys.length : Int) := by omega
        generalize xs[k] = x at *
        generalize ys[k] = y at *
        have E1 := Lib.hid e1
        have E2 := Lib.hid e2
        clear e1 e2
        by_cases hxy : x = y
        · subst hxy
          go_wp2
          go_quiet (fail)
          go_wp2
          go_roundw
          case rel => exact ⟨k + 1, _, by omega, by go_num, rfl, fun j hj => by
            rcases Nat.lt_or_ge j k with h | h
            · exact heq.out j h
            · obtain rfl : j = k := by omega
              rw [E1.out, E2.out]⟩
          case measure => simp [intOf]; omega
        · have hne : (x != y) = true := by simp [hxy]
          go_wp2
          go_quiet (fail)
          go_wp2
          go_ret
          have hf : (xs == ys) = false := by
            simp only [beq_eq_false_iff_ne, ne_eq]
            intro h
            rw [h, E2.out] at E1
            have := E1.out
            simp at this
            exact hxy this.symm
          exact ⟨by simp [hf], (by repeat (first | (with_reducible exact Below.refl _ _) | (with_reducible refine Below.ext ?_ (by go_size) _ _) | (with_reducible refine Below.alloc ?_ (by go_size) _) | (with_reducible refine Below.setCell ?_ (by go_size) _) | (with_reducible refine Below.drew ?_) | (with_reducible refine Below.drewN_ ?_ _)))⟩
      · obtain rfl : k = xs.length := by omega
        go_wp2
        go_ret
        have ht : xs = ys := by
          apply List.ext_getElem?
          intro j
          rcases Nat.lt_or_ge j xs.length with h | h
          · exact heq.out j h
          · rw [List.getElem?_eq_none h, List.getElem?_eq_none (by omega)]
        exact ⟨by simp [ht], (by repeat (first | (with_reducible exact Below.refl _ _) | (with_reducible refine Below.ext ?_ (by go_size) _ _) | (with_reducible refine Below.alloc ?_ (by go_size) _) | (with_reducible refine Below.setCell ?_ (by go_size) _) | (with_reducible refine Below.drew ?_) | (with_reducible refine Below.drewN_ ?_ _)))⟩
  · have hl2 : ((xs.length : Int) != (ys.length : Int)) = true := by simp; omega
    have hf : (xs == ys) = false := by
      simp only [beq_eq_false_iff_ne, ne_eq]
      rintro rfl
      exact hl rfl
    clear hx hy
    have HF := Lib.hid hf
    have HL := Lib.hid hl
    clear hf hl
    go_enter Try.func26, Try.ntmps26
    go_wp2
    go_ret
    exact ⟨by rw [HF.out]; rfl, Below.refl _ _⟩



end Go.Proofs.Ytifakpjchmalnaa
