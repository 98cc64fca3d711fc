/- A slice of slices of bytes that came in. -/
import Derived.Test.YtbfbjkcmehalhaaNest
import Derived.Deep.Matrix
namespace Go.Proofs.Ytbfbjkcmehalhaa
open Go.RowKit Go.ChangeShapes Go.WideShapes Go.ChangeAt
set_option linter.unusedVariables false
section
variable {H : Type} {enc : TypeId × Value → H} {P : Program} {w : World}
theorem add_none {a : Addr} {v : Value} (h : w.cell? (a.add 0) = some v) : ∃ g o, a = ⟨g, o, none⟩ := by
  have hs := World.cell?_spot h
  obtain ⟨g, o, sp⟩ := a
  have hsp : sp = none := by simpa [Addr.add] using hs
  subst hsp
  exact ⟨g, o, rfl⟩
theorem open_byteSS_rw {t e q : TypeId} {r : Reach} {b0 : Nat} {v : Value} {d : DataW H} {p : List MemPlace} (ht : P.underlying t = some (.slice e)) (he : P.underlying e = some (.slice q)) (hq : P.underlying q = some (.int .u8)) (ce : P.cellsOf e = 1) (cq : P.cellsOf q = 1)
    (hv : Value.okWide P w r b0 t v) (h : DataW.Trod enc P w 0 (fun _ => true) true t v d p) :
    ∃ (A : Option Addr) (c : Nat) (xs : List (List Int)), v = .slice A xs.length c ∧ xs.length ≤ 9223372036854775807 ∧ Sl false 1 (EB false) w (fun g => g < w.heap.size) A xs ∧ ∀ x ∈ xs, x.length ≤ 9223372036854775807 ∧ ∀ y ∈ x, 0 ≤ y ∧ y ≤ 255 := by
  obtain ⟨A, n, c, rfl⟩ := okWide_slice ht hv
  obtain ⟨fuel, hf⟩ := h
  rcases Go.Deep.open_int_rows ht he hq ce cq hf with ⟨hcs, _⟩ | ⟨x, l, c', B, L, C, Z, hcs, _, hl, hm, _, hrow⟩
  · simp [Value.cells] at hcs
    obtain ⟨rfl, rfl, rfl⟩ := hcs
    exact ⟨none, 0, [], rfl, by simp, Sl.nil, by simp⟩
  · simp [Value.cells] at hcs
    obtain ⟨rfl, rfl, rfl⟩ := hcs
    refine ⟨some x, c, (List.range n).map fun r => (Z r).take (L r), by simp, by simp; unfold maxLen at hm; omega, ?_, ?_⟩
    · intro hne
      have hn : 0 < n := by
        rcases Nat.eq_zero_or_pos n with h | h
        · subst h; simp at hne
        · exact h
      obtain ⟨g, o, rfl⟩ := add_none (hrow 0 (by omega)).1
      have hcell : ∀ r, r < c → w.cell? ⟨g, o + r, none⟩ = some (.slice (B r) (L r) (C r)) := by
        intro r hr
        have := (hrow r hr).1
        rwa [Go.WideShapes.add_plain] at this
      refine ⟨g, o, fun _ b => b < w.heap.size, rfl, lt_of_cell (hcell 0 (by omega)), ⟨lt_of_cell (hcell 0 (by omega)), fun _ _ h => h, fun h => by cases h⟩, ?_⟩
      intro k hk
      simp only [List.length_map, List.length_range] at hk
      obtain ⟨_, h2, h3, h4, h5, h6, h7⟩ := hrow k (by omega)
      have hlen : ((Z k).take (L k)).length = L k := by rw [List.length_take]; omega
      simp only [List.getElem_map, List.getElem_range, Nat.mul_one]
      refine ⟨B k, C k, by rw [hcell k (by omega), hlen], fun h => (by cases h), ?_⟩
      intro j hj
      rw [hlen] at hj
      obtain ⟨a', ha'⟩ : ∃ a', B k = some a' := by
        cases hB : B k with
        | none => have := h6 hB; omega
        | some a' => exact ⟨a', rfl⟩
      obtain ⟨g', o', rfl⟩ := add_none ((h7 a' ha').2 0 (by omega))
      have h9 := (h7 _ ha').2 j (by omega)
      rw [Go.WideShapes.add_plain] at h9
      refine ⟨g', o', ha', lt_of_cell h9, lt_of_cell h9, ?_, fun h => (by cases h)⟩
      rw [h9, List.getElem_take]
      simp [List.getD, List.getElem?_eq_getElem (show j < (Z k).length by omega)]
    · intro y hy
      simp only [List.mem_map, List.mem_range] at hy
      obtain ⟨k, hk, rfl⟩ := hy
      obtain ⟨_, h2, h3, h4, h5, h6, h7⟩ := hrow k (by omega)
      refine ⟨by rw [List.length_take]; unfold maxLen at h3; omega, fun z hz => bounds_u8 (h5 z (List.mem_of_mem_take hz))⟩
end
end Go.Proofs.Ytbfbjkcmehalhaa
