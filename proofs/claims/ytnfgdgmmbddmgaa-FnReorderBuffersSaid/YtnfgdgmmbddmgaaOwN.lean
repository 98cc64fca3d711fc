/- A row of the call's own whose elements are slices of bytes in blocks of their own; one more is appended. Parts of a slice of bytes. -/
import Derived.Test.YtnfgdgmmbddmgaaApp
import Derived.Test.YtnfgdgmmbddmgaaNest
import Derived.Laws.Slices
namespace Go.Proofs.Ytnfgdgmmbddmgaa
open Go.RowKit
set_option linter.unusedVariables false
set_option linter.unusedSimpArgs false

def OwN (e : TypeId) (w : World) (base g c : Nat) (xs : List (List Int)) : Prop :=
  ∃ (vs : List Value) (F : Nat → Nat → Prop), vs.length = xs.length ∧ OwR id e w base g c vs ∧ (∀ k b, F k b → base ≤ b ∧ b < w.heap.size ∧ b ≠ g) ∧ (∀ j k b, F j b → F k b → j = k) ∧
    ∀ k (h : k < xs.length), ∃ A c, vs[k]? = some (.slice A xs[k].length c) ∧ Rw true .u8 w (F k) A xs[k]
section
variable {e : TypeId} {w w' : World} {base g c : Nat} {xs : List (List Int)}
theorem OwN.lt (h : OwN e w base g c xs) : g < w.heap.size := by obtain ⟨vs, F, h1, h2, _⟩ := h; exact h2.lt
theorem OwN.ge (h : OwN e w base g c xs) : base ≤ g := by obtain ⟨vs, F, h1, h2, _⟩ := h; exact h2.ge
theorem OwN.new (hg : base ≤ g) (h : w.heap[g]? = some (.cells #[] e (0, 0))) : OwN e w base g 0 [] :=
  ⟨[], fun _ _ => False, rfl, OwR.new hg h, fun _ _ h => h.elim, fun _ _ _ h => h.elim, fun k hk => absurd hk (by simp)⟩
theorem OwN.below (h : OwN e w base g c xs) (hb : Below w.heap.size w w') : OwN e w' base g c xs := by
  obtain ⟨vs, F, h1, h2, h3, h4, h5⟩ := h
  have hs := hb.size
  refine ⟨vs, F, h1, h2.below hb, fun k b hF => ?_, h4, fun k hk => ?_⟩
  · have := h3 k b hF; omega
  · obtain ⟨A, c, q1, q2⟩ := h5 k hk
    exact ⟨A, c, q1, q2.below hb⟩
/- one more, its outer row first: w' is what append leaves. -/
theorem OwN.snoc {vs' : List Value} {g' c' n2 : Nat} {A : Option Addr} {x : List Int} {Fn : Nat → Prop} (vs : List Value) (F : Nat → Nat → Prop)
    (h1 : vs.length = xs.length) (h3 : ∀ k b, F k b → base ≤ b ∧ b < w.heap.size ∧ b ≠ g ∧ ¬ Fn b) (h4 : ∀ j k b, F j b → F k b → j = k) (h5 : ∀ k (h : k < xs.length), ∃ A c, vs[k]? = some (.slice A xs[k].length c) ∧ Rw true .u8 w (F k) A xs[k])
    (hq : vs' = vs ++ [.slice A x.length n2]) (ho : OwR id e w' base g' c' vs') (hg : g' = g ∨ g' = w.heap.size) (hc : Chg (fun b => b = g) w w') (hx : Rw true .u8 w Fn A x) (hFn : ∀ b, Fn b → base ≤ b ∧ b < w.heap.size ∧ b ≠ g) : OwN e w' base g' c' (xs ++ [x]) := by
  have hs := hc.size
  subst hq
  refine ⟨_, fun k => if k < xs.length then F k else if k = xs.length then Fn else fun _ => False, by simp [h1], ho, ?_, ?_, ?_⟩
  · intro k b hb
    split at hb
    · have := h3 k b hb; omega
    · split at hb
      · have := hFn b hb; omega
      · exact hb.elim
  · intro j k b hj hk
    split at hj
    · split at hk
      · exact h4 j k b hj hk
      · split at hk
        · exact absurd hk (h3 j b hj).2.2.2
        · exact hk.elim
    · split at hj
      · split at hk
        · exact absurd hj (h3 k b hk).2.2.2
        · split at hk
          · omega
          · exact hk.elim
      · exact hj.elim
  · intro k hk
    rw [List.length_append, List.length_singleton] at hk
    by_cases hlt : k < xs.length
    · simp only [hlt, if_true]
      rw [List.getElem_append_left hlt]
      obtain ⟨B, d, q1, q2⟩ := h5 k hlt
      exact ⟨B, d, by rw [List.getElem?_append_left (by omega)]; exact q1, q2.frame hc (fun b hb => (h3 k b hb).2.2.1)⟩
    · obtain rfl : k = xs.length := by omega
      simp only [Nat.lt_irrefl, if_false, if_true]
      rw [List.getElem_append_right (Nat.le_refl _)]
      refine ⟨A, n2, by rw [List.getElem?_append_right (by omega)]; simp [h1], ?_⟩
      simpa using hx.frame hc (fun b hb => (hFn b hb).2.2)
theorem OwN.sl (h : OwN e w base g c xs) : Sl true 1 (EB true) w (fun b => base ≤ b ∧ b < w.heap.size) (some ⟨g, 0, none⟩) xs := by
  obtain ⟨vs, F, h1, h2, h3, h4, h5⟩ := h
  intro _
  refine ⟨g, 0, F, rfl, h2.lt, ⟨⟨h2.ge, h2.lt⟩, fun k b hb => by have := h3 k b hb; omega, fun _ => ⟨fun k hb => (h3 k g hb).2.2 rfl, h4⟩⟩, fun k hk => ?_⟩
  obtain ⟨A, c2, q1, q2⟩ := h5 k hk
  obtain ⟨g', o', e1, _, _, hc, hf⟩ := h2.rwF k (by omega)
  injection e1 with e1
  injection e1 with e1 e2
  subst e1 e2
  have hv : vs[k]'(by omega) = .slice A xs[k].length c2 := by
    rw [List.getElem?_eq_getElem (by omega)] at q1
    exact Option.some.inj q1
  refine ⟨A, c2, ?_, ?_, q2⟩
  · rw [Nat.mul_one, hc]
    exact congrArg some hv
  · intro _
    rw [Nat.mul_one]
    exact hf rfl
end

theorem rwF_one {w : World} {t : TypeId} {v : Value} : RwF id true (w.alloc (.cells #[v] t)) (fun b => b = w.heap.size) (some ⟨w.heap.size, 0, none⟩) [v] :=
  RwF.of_alloc w t #[v] [v] (fun k hk => by
    match k, hk with
    | 0, _ => rfl)
theorem rwF_one_at {w : World} {t : TypeId} {v : Value} {b : Nat} (hb : b = w.heap.size) : RwF id true (w.alloc (.cells #[v] t)) (fun k => k = b) (some ⟨b, 0, none⟩) [v] := by
  subst hb
  exact rwF_one
/- b[l:l+m] of a slice of bytes -/
def subA (A : Option Addr) (cap l : Nat) : Option Addr := if cap = l then A else A.map (·.add (l * 1))
theorem run_sub {P : Program} {t e : TypeId} (ht : P.underlying t = some (.slice e)) (hz : ∀ w, (Go.sizeOf e).run P w = .ok 1 w) (A : Option Addr) (n cap l m : Nat) (lo hi : Int) (hlo : lo = (l : Int)) (hh : hi = ((l + m : Nat) : Int)) (hl : l + m ≤ cap) (W : World) :
    (Instr.slice t (.slice A n cap) (some (.int .i64 lo)) (some (.int .i64 hi)) none).run P W = .ok (.slice (subA A cap l) m (cap - l)) W := by
  subst hlo hh
  have ht' : P.underlying t = some (.slice (P.elem t)) := by simp [Program.elem, ht]
  have he : P.elem t = e := by simp [Program.elem, ht]
  rw [run_slice_lh W t _ _ _ ht' .i64 .i64 _ _ (by omega) (by omega) (by omega), he, hz]
  simp only [Result.andThen, sliced, subA, Int.toNat_natCast]
  rw [show l + m - l = m by omega]
theorem sub_rw {u : Bool} {w : World} {T : Nat → Prop} {A : Option Addr} {cap l m : Nat} {xs : List Int} (h : Rw u .u8 w T A xs) (hc : xs.length ≤ cap) (hl : l + m ≤ xs.length) : Rw u .u8 w T (subA A cap l) ((xs.drop l).take m) := by
  intro j hj
  simp only [List.length_take, List.length_drop] at hj
  obtain ⟨g, o, h1, h2, h3, h4, h5⟩ := h (l + j) (by omega)
  subst h1
  refine ⟨g, o + l, ?_, h2, h3, ?_, fun hu => by rw [Nat.add_assoc]; exact h5 hu⟩
  · rw [subA, if_neg (by omega), Nat.mul_one]
    simp only [Option.map_some, Option.some.injEq]
    unfold Addr.add
    split
    · rename_i h0; simp [h0]
    · simp
  · rw [Nat.add_assoc, h4, List.getElem_take, List.getElem_drop]

end Go.Proofs.Ytnfgdgmmbddmgaa
