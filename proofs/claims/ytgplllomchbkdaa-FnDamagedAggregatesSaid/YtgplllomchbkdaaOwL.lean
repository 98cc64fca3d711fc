/- A row of the call's own whose elements are slices of bytes that lie elsewhere, to be read alone; a store into a row of bytes. -/
import Derived.Test.YtgplllomchbkdaaOwN
namespace Go.Proofs.Ytgplllomchbkdaa
open Go.RowKit
set_option linter.unusedVariables false
set_option linter.unusedSimpArgs false

def OwL (e : TypeId) (w : World) (T : Nat → Prop) (base g c : Nat) (xs : List (List Int)) : Prop :=
  ∃ vs : List Value, vs.length = xs.length ∧ OwR id e w base g c vs ∧ ∀ k (h : k < xs.length), ∃ A c, vs[k]? = some (.slice A xs[k].length c) ∧ Rw false .u8 w T A xs[k]
section
variable {e : TypeId} {w w' : World} {T : Nat → Prop} {base g c : Nat} {xs : List (List Int)}
theorem OwL.lt (h : OwL e w T base g c xs) : g < w.heap.size := by obtain ⟨vs, h1, h2, _⟩ := h; exact h2.lt
theorem OwL.ge (h : OwL e w T base g c xs) : base ≤ g := by obtain ⟨vs, h1, h2, _⟩ := h; exact h2.ge
theorem OwL.new (hg : base ≤ g) (h : w.heap[g]? = some (.cells #[] e (0, 0))) : OwL e w T base g 0 [] := ⟨[], rfl, OwR.new hg h, fun k hk => absurd hk (by simp)⟩
theorem OwL.below (h : OwL e w T base g c xs) (hb : Below w.heap.size w w') : OwL e w' T base g c xs := by
  obtain ⟨vs, h1, h2, h5⟩ := h
  refine ⟨vs, h1, h2.below hb, fun k hk => ?_⟩
  obtain ⟨A, c, q1, q2⟩ := h5 k hk
  exact ⟨A, c, q1, q2.below hb⟩
theorem OwL.snoc {vs vs' : List Value} {g' c' n2 : Nat} {A : Option Addr} {x : List Int} (h1 : vs.length = xs.length) (h5 : ∀ k (h : k < xs.length), ∃ A c, vs[k]? = some (.slice A xs[k].length c) ∧ Rw false .u8 w T A xs[k])
    (hq : vs' = vs ++ [.slice A x.length n2]) (ho : OwR id e w' base g' c' vs') (hc : Chg (fun b => b = g) w w') (hx : Rw false .u8 w T A x) (hT : ∀ b, T b → b ≠ g) : OwL e w' T base g' c' (xs ++ [x]) := by
  subst hq
  refine ⟨_, by simp [h1], ho, fun k hk => ?_⟩
  rw [List.length_append, List.length_singleton] at hk
  by_cases hlt : k < xs.length
  · rw [List.getElem_append_left hlt]
    obtain ⟨B, d, q1, q2⟩ := h5 k hlt
    exact ⟨B, d, by rw [List.getElem?_append_left (by omega)]; exact q1, q2.frame hc (fun b hb => hT b hb)⟩
  · obtain rfl : k = xs.length := by omega
    rw [List.getElem_append_right (Nat.le_refl _)]
    refine ⟨A, n2, by rw [List.getElem?_append_right (by omega)]; simp [h1], ?_⟩
    simpa using hx.frame hc (fun b hb => hT b hb)
theorem OwL.sl (h : OwL e w T base g c xs) : Sl false 1 (EB false) w (fun b => b = g ∨ T b) (some ⟨g, 0, none⟩) xs := by
  obtain ⟨vs, h1, h2, h5⟩ := h
  intro _
  refine ⟨g, 0, fun _ => T, rfl, h2.lt, ⟨.inl rfl, fun _ b hb => .inr hb, fun h => by cases h⟩, fun k hk => ?_⟩
  obtain ⟨A, c2, q1, q2⟩ := h5 k hk
  obtain ⟨g', o', e1, _, _, hc, hf⟩ := h2.rwF k (by omega)
  injection e1 with e1
  injection e1 with e1 e2
  subst e1 e2
  have hv : vs[k]'(by omega) = .slice A xs[k].length c2 := by
    rw [List.getElem?_eq_getElem (by omega)] at q1
    exact Option.some.inj q1
  refine ⟨A, c2, ?_, fun h => (by cases h), q2⟩
  rw [Nat.mul_one, hc]
  exact congrArg some hv
end
theorem Rw.set_ {K : IntKind} {w : World} {T : Nat → Prop} {g : Nat} {xs : List Int} (h : Rw true K w T (some ⟨g, 0, none⟩) xs) (k : Nat) (hk : k < xs.length) (v : Int) : Rw true K (w.setCell ⟨g, k, none⟩ (.int K v)) T (some ⟨g, 0, none⟩) (xs.set k v) := by
  obtain ⟨g0, o0, e0, _, _, hck, _⟩ := h k hk
  injection e0 with e0
  injection e0 with e1 e2
  subst e1 e2
  rw [Nat.zero_add] at hck
  intro j hj
  rw [List.length_set] at hj
  obtain ⟨g', o', e0, h2, h3, h4, h5⟩ := h j hj
  injection e0 with e0
  injection e0 with e1 e2
  subst e1 e2
  rw [Nat.zero_add] at h4 h5
  refine ⟨g, 0, rfl, h2, by simpa [World.setCell] using h3, ?_, fun hu => by rw [Nat.zero_add, World.frozen?_setCell]; exact h5 hu⟩
  rw [Nat.zero_add]
  by_cases hjk : k = j
  · subst hjk
    rw [World.cell?_setCell_same _ _ _ hck, List.getElem_set_self]
  · rw [World.cell?_setCell_other _ _ _ _ (fun e => hjk (by cases e; rfl)), h4, List.getElem_set_ne hjk]

end Go.Proofs.Ytgplllomchbkdaa
