/- Small lemmas on rows that a call owns, and on bits of int. -/
import Derived.Test.YtnfgdgmmbddmgaaRange
namespace Go.Proofs.Ytnfgdgmmbddmgaa
open Go.RowKit
set_option linter.unusedVariables false

theorem infoInt : (Try.prog.info? 3).map (fun i => (i.zero, i.size, i.bytes)) = some (some (.int .i64 0), 1, 8) := by kernel_rfl

theorem own_new {w : World} {base : Nat} {e : TypeId} {size : Nat} {g : Nat} (hb : base ≤ g) (hg : w.heap[g]? = some (.cells #[] e (0, 0))) : w.ownsRow base e size (.slice (some ⟨g, 0, none⟩) 0 0) 0 [] :=
  ⟨by simp, .inr ⟨g, 0, #[], rfl, hb, hg, Nat.le_refl _, by simp [maxLen], by simp, by simp⟩⟩
theorem own_ge {w : World} {base : Nat} {e : TypeId} {size n : Nat} {v : Value} {xs : List Value} (h : w.ownsRow base e size v n xs) : ∀ k, v.ownBlock = some k → base ≤ k := by
  intro k hk
  rcases h.2 with ⟨rfl, _⟩ | ⟨g, cap, cur, rfl, hb, _⟩
  · simp [Value.ownBlock] at hk
  · simp [Value.ownBlock] at hk; omega
theorem own_lower {w : World} {base base' : Nat} {e : TypeId} {size n : Nat} {v : Value} {xs : List Value} (h : w.ownsRow base e size v n xs) (hb : base' ≤ base) : w.ownsRow base' e size v n xs :=
  ⟨h.1, h.2.imp id fun ⟨g, cap, cur, a, b, c⟩ => ⟨g, cap, cur, a, by omega, c⟩⟩
theorem own_some {w : World} {base : Nat} {e : TypeId} {size n : Nat} {v : Value} {xs : List Value} (h : w.ownsRow base e size v n xs) (hv : v ≠ .slice none 0 0) : ∃ g cap, v = .slice (some ⟨g, 0, none⟩) n cap ∧ base ≤ g := by
  rcases h.2 with ⟨h0, _⟩ | ⟨g, cap, cur, rfl, hb, _⟩
  · exact absurd h0 hv
  · exact ⟨g, cap, rfl, hb⟩
theorem own_lt {w : World} {base g cap n : Nat} {e : TypeId} {size : Nat} {xs : List Value} (h : w.ownsRow base e size (.slice (some ⟨g, 0, none⟩) n cap) n xs) : g < w.heap.size := by
  rcases h.2 with ⟨h0, _⟩ | ⟨g', cap', cur, hv, hb, hg, _⟩
  · cases h0
  · injection hv with hA _ _
    injection hA with hA
    injection hA with hA
    subst hA
    rcases Nat.lt_or_ge g w.heap.size with h | h
    · exact h
    · rw [Array.getElem?_eq_none h] at hg; cases hg
theorem own_cell {w : World} {base g cap n : Nat} {e : TypeId} {xs : List Value} (h : w.ownsRow base e 1 (.slice (some ⟨g, 0, none⟩) n cap) n xs) (k : Nat) (hk : k < n) : ∃ v, xs[k]? = some v ∧ w.cell? ⟨g, k, none⟩ = some v := by
  have hl : k < xs.length := by have := h.1; omega
  exact ⟨xs[k], List.getElem?_eq_getElem hl, by rw [h.cellAt k (by omega), List.getElem?_eq_getElem hl]⟩
theorem ext_row (W W' : World) (X : List Obj) (d d' g k : Nat) (hs : W'.heap.size = W.heap.size) (hg : W.heap.size ≤ g) : (World.ext W' X d').cell? ⟨g, k, none⟩ = (World.ext W X d).cell? ⟨g, k, none⟩ := by
  simp only [World.cell?, World.ext]
  rw [Array.getElem?_append_right (by omega), Array.getElem?_append_right (by omega), hs]

theorem ofInt_i64 (a : Nat) (ha : a < 9223372036854775808) : (BitVec.ofInt 64 (a : Int)).toNat = a := by
  rw [BitVec.ofInt_natCast, BitVec.toNat_ofNat]; exact Nat.mod_eq_of_lt (by omega)
theorem i64_and_nat (a b : Nat) (ha : a < 9223372036854775808) (hb : b < 9223372036854775808) : bits .and .i64 (a : Int) (b : Int) = ((a &&& b : Nat) : Int) := by
  have hx : a &&& b < 2 ^ 63 := Nat.and_lt_two_pow _ (by omega)
  show IntKind.i64.wrap ((BitVec.ofInt 64 (a : Int) &&& BitVec.ofInt 64 (b : Int)).toNat : Int) = _
  rw [BitVec.toNat_and, ofInt_i64 a ha, ofInt_i64 b hb, IntKind.wrap_i64]
  omega
theorem i64_or_nat (a b : Nat) (ha : a < 9223372036854775808) (hb : b < 9223372036854775808) : bits .or .i64 (a : Int) (b : Int) = ((a ||| b : Nat) : Int) := by
  have hx : a ||| b < 2 ^ 63 := Nat.or_lt_two_pow (by omega) (by omega)
  show IntKind.i64.wrap ((BitVec.ofInt 64 (a : Int) ||| BitVec.ofInt 64 (b : Int)).toNat : Int) = _
  rw [BitVec.toNat_or, ofInt_i64 a ha, ofInt_i64 b hb, IntKind.wrap_i64]
  omega
theorem and_one (A : Nat) (h : A < 9223372036854775808) : bits .and .i64 (A : Int) 1 = ((A % 2 : Nat) : Int) := by
  have := i64_and_nat A 1 h (by omega)
  rw [Nat.and_one_is_mod] at this
  exact this
theorem bit_and (A k : Nat) (h : A < 9223372036854775808) : bits .and .i64 ((A : Int) / 2 ^ k) 1 = if A.testBit k then 1 else 0 := by
  have e : ((A : Int) / 2 ^ k) = ((A / 2 ^ k : Nat) : Int) := by rw [Int.natCast_ediv]; norm_cast
  rw [e, and_one _ (Nat.lt_of_le_of_lt (Nat.div_le_self _ _) h), Nat.testBit_eq_decide_div_mod_eq]
  rcases Nat.mod_two_eq_zero_or_one (A / 2 ^ k) with h | h <;> simp [h]
theorem pow_cast (k : Nat) : ((2 : Int) ^ k) = ((2 ^ k : Nat) : Int) := by norm_cast
theorem wrap_pow (k : Nat) (h : k ≤ 40) : IntKind.i64.wrap (2 ^ k) = ((2 ^ k : Nat) : Int) := by
  have h1 : 2 ^ k ≤ 1099511627776 := Nat.le_trans (Nat.pow_le_pow_right (by omega) h) (by decide)
  rw [pow_cast, IntKind.wrap_i64]
  generalize 2 ^ k = n at *
  omega
theorem or_bit (A k : Nat) (hA : A < 9223372036854775808) (h : k ≤ 40) : bits .or .i64 (A : Int) (IntKind.i64.wrap (2 ^ k)) = ((A ||| 2 ^ k : Nat) : Int) := by
  have h1 : 2 ^ k ≤ 1099511627776 := Nat.le_trans (Nat.pow_le_pow_right (by omega) h) (by decide)
  rw [wrap_pow k h, i64_or_nat A _ hA (by omega)]

end Go.Proofs.Ytnfgdgmmbddmgaa
