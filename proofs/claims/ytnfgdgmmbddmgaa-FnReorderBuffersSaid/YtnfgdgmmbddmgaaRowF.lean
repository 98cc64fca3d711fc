/- Rows of one-cell elements of whatever kind; slices that come in. -/
import Derived.Test.YtnfgdgmmbddmgaaMem
import Derived.ProofKit
import Derived.OpenShut
import Derived.Deep.Grids
namespace Go.Proofs.Ytnfgdgmmbddmgaa
open Go.RowKit Go.ChangeShapes Go.WideShapes Go.ChangeAt
set_option linter.unusedVariables false

/- Rw, the elements of any type. -/
def RwF {α : Type} (f : α → Value) (u : Bool) (w : World) (T : Nat → Prop) (A : Option Addr) (xs : List α) : Prop :=
  ∀ k (_ : k < xs.length), ∃ g o, A = some ⟨g, o, none⟩ ∧ T g ∧ g < w.heap.size ∧ w.cell? ⟨g, o + k, none⟩ = some (f xs[k]) ∧ (u = true → w.frozen? ⟨g, o + k, none⟩ = false)
section
variable {α : Type} {f : α → Value} {u : Bool} {w w' : World} {T T' S : Nat → Prop} {A : Option Addr} {xs : List α}
theorem RwF.frame (h : RwF f u w T A xs) (hc : Chg S w w') (hd : ∀ k, T k → ¬ S k) : RwF f u w' T A xs := by
  intro k hk
  obtain ⟨g, o, h1, h2, h3, h4, h5⟩ := h k hk
  exact ⟨g, o, h1, h2, Nat.lt_of_lt_of_le h3 hc.size, (hc.cell h3 (hd g h2)).trans h4, fun hu => (hc.frozen h3 (hd g h2)).trans (h5 hu)⟩
theorem RwF.below (h : RwF f u w T A xs) (hb : Below w.heap.size w w') : RwF f u w' T A xs :=
  h.frame (S := fun _ => False) (Chg.of_below hb) (fun _ _ hf => hf)
theorem RwF.read (h : RwF f u w T A xs) : RwF f false w T A xs := by
  intro k hk
  obtain ⟨g, o, h1, h2, h3, h4, h5⟩ := h k hk
  exact ⟨g, o, h1, h2, h3, h4, fun hu => by cases hu⟩
theorem RwF.wider (h : RwF f u w T A xs) (hT : ∀ k, T k → T' k) : RwF f u w T' A xs := by
  intro k hk
  obtain ⟨g, o, h1, h2, h3⟩ := h k hk
  exact ⟨g, o, h1, hT g h2, h3⟩
theorem RwF.nil : RwF f u w T A ([] : List α) := fun k hk => absurd hk (by simp)
end
theorem RwF.rw {u : Bool} {K : IntKind} {w : World} {T : Nat → Prop} {A : Option Addr} {xs : List Int} (h : RwF (Value.int K) u w T A xs) : Rw u K w T A xs := h
theorem Rw.rwF {u : Bool} {K : IntKind} {w : World} {T : Nat → Prop} {A : Option Addr} {xs : List Int} (h : Rw u K w T A xs) : RwF (Value.int K) u w T A xs := h

/- A block of the call's own that reads as a list. -/
theorem RwF.of_alloc {α : Type} {f : α → Value} (w : World) (t : TypeId) (cur : Array Value) (xs : List α) (hs : ∀ k (h : k < xs.length), cur[k]? = some (f xs[k])) :
    RwF f true (w.alloc (.cells cur t)) (fun g => g = w.heap.size) (some ⟨w.heap.size, 0, none⟩) xs := by
  intro k hk
  refine ⟨w.heap.size, 0, rfl, rfl, by simp, ?_, fun _ => World.frozen?_alloc_at cur t _ _ rfl⟩
  rw [Nat.zero_add, World.cell?_alloc_at cur t _ _ rfl]
  exact hs k hk
theorem made_at (z : Value) (n k : Nat) (h : k < n) : (madeCells #[z] (n * 1))[k]? = some z := by
  have h1 := toList_madeCells_one z (n * 1)
  rw [← Array.getElem?_toList, h1, List.getElem?_replicate, if_pos (by omega)]
theorem made_size (z : Value) (n : Nat) : (madeCells #[z] (n * 1)).size = n := by rw [size_madeCells]; omega

theorem wext_ext (w : World) (X Y : List Obj) (d e : Nat) : World.ext (World.ext w X d) Y e = World.ext w (X ++ Y) e := by
  simp only [World.ext, World.mk.injEq, and_true]
  apply Array.ext'
  simp
theorem wext_nil (w : World) : World.ext w [] w.drawn = w := by simp [World.ext]
theorem lt_of_cell {w : World} {p : Addr} {v : Value} (h : w.cell? p = some v) : p.block < w.heap.size := by
  rcases Nat.lt_or_ge p.block w.heap.size with h1 | h1
  · exact h1
  · simp [World.cell?, Array.getElem?_eq_none h1] at h

section
variable {H : Type} {enc : TypeId × Value → H} {P : Program} {w : World}
/- A slice of integers that came in. -/
theorem open_ints_rw {t e : TypeId} {K : IntKind} {r : Reach} {b0 : Nat} {v : Value} {d : DataW H} {p : List MemPlace} (ht : P.underlying t = some (.slice e)) (he : P.underlying e = some (.int K)) (hc : P.cellsOf e = 1)
    (hv : Value.okWide P w r b0 t v) (h : DataW.Trod enc P w 0 (fun _ => true) true t v d p) :
    ∃ (A : Option Addr) (c : Nat) (xs : List Int), v = .slice A xs.length c ∧ xs.length ≤ 9223372036854775807 ∧ Rw false K w (fun g => g < w.heap.size) A xs ∧ ∀ x ∈ xs, (Lit.int K x).wf = true := by
  obtain ⟨A, n, c, rfl⟩ := okWide_slice ht hv
  obtain ⟨fuel, hf⟩ := h
  rcases open_ints ht he hc hf with ⟨hcs, _⟩ | ⟨x, l, c', zs, hcs, _, hl, hm, hz, _, hcell, hwz⟩
  · simp [Value.cells] at hcs
    obtain ⟨rfl, rfl, rfl⟩ := hcs
    exact ⟨none, 0, [], rfl, by simp, Rw.nil, by simp⟩
  · simp [Value.cells] at hcs
    obtain ⟨rfl, rfl, rfl⟩ := hcs
    simp at hz
    have hlen : (zs.take n).length = n := by rw [List.length_take]; omega
    refine ⟨some x, c, zs.take n, by rw [hlen], by rw [hlen]; unfold maxLen at hm; omega, ?_, fun y hy => hwz y (List.mem_of_mem_take hy)⟩
    intro k hk
    rw [hlen] at hk
    obtain ⟨b, off, rfl, hat⟩ := ints_at hcell (by omega)
    have := hat k (by omega)
    refine ⟨b, off, rfl, lt_of_cell this, lt_of_cell this, ?_, fun h => by cases h⟩
    rw [this, List.getElem_take]
    simp [List.getD, List.getElem?_eq_getElem (show k < zs.length by omega)]
/- A slice of bools that came in. -/
theorem open_bools_rw {t e : TypeId} {r : Reach} {b0 : Nat} {v : Value} {d : DataW H} {p : List MemPlace} (ht : P.underlying t = some (.slice e)) (he : P.underlying e = some .bool) (hc : P.cellsOf e = 1)
    (hv : Value.okWide P w r b0 t v) (h : DataW.Trod enc P w 0 (fun _ => true) true t v d p) :
    ∃ (A : Option Addr) (c : Nat) (xs : List Bool), v = .slice A xs.length c ∧ xs.length ≤ 9223372036854775807 ∧ RwF Value.bool false w (fun g => g < w.heap.size) A xs := by
  obtain ⟨A, n, c, rfl⟩ := okWide_slice ht hv
  obtain ⟨fuel, hf⟩ := h
  rcases Go.Deep.open_bools ht he hc hf with ⟨hcs, _⟩ | ⟨x, l, c', B, hcs, _, hl, hm, _, hcell⟩
  · simp [Value.cells] at hcs
    obtain ⟨rfl, rfl, rfl⟩ := hcs
    exact ⟨none, 0, [], rfl, by simp, RwF.nil⟩
  · simp [Value.cells] at hcs
    obtain ⟨rfl, rfl, rfl⟩ := hcs
    refine ⟨some x, c, (List.range n).map B, by simp, by simp; unfold maxLen at hm; omega, ?_⟩
    intro k hk
    simp at hk
    have h0 := hcell k (by omega)
    obtain ⟨b, off, spot⟩ := x
    have hspot : spot = none := by
      have := World.cell?_spot (hcell 0 (by omega))
      simpa [Addr.add] using this
    subst hspot
    have h1 : w.cell? ⟨b, off + k, none⟩ = some (.bool (B k)) := by rw [← Go.WideShapes.add_plain]; exact h0
    exact ⟨b, off, rfl, lt_of_cell h1, lt_of_cell h1, by rw [h1]; simp, fun h => by cases h⟩
end

end Go.Proofs.Ytnfgdgmmbddmgaa
