/- The cells of a slice up to its capacity: they are there and may be written. -/
import Derived.Test.YtnfgdgmmbddmgaaOwV
namespace Go.Proofs.Ytnfgdgmmbddmgaa
open Go.RowKit
set_option linter.unusedVariables false
set_option linter.unusedSimpArgs false

def Spare (w : World) (sz : Nat) (A : Option Addr) (c : Nat) : Prop := (A = none → c = 0) ∧ ∀ a, A = some a → a = ⟨a.block, a.off, none⟩ ∧ a.block < w.heap.size ∧ ∀ j, j < c * sz → (w.cell? ⟨a.block, a.off + j, none⟩).isSome = true ∧ w.frozen? ⟨a.block, a.off + j, none⟩ = false
section
variable {w w' : World} {sz c : Nat} {A : Option Addr}
theorem Spare.none_ : Spare w sz none 0 := ⟨fun _ => rfl, fun a h => by cases h⟩
theorem Spare.frame {S : Nat → Prop} (h : Spare w sz A c) (hc : Chg S w w') (hS : ∀ a, A = some a → ¬ S a.block) : Spare w' sz A c :=
  ⟨h.1, fun a ha => by
    obtain ⟨h1, h2, h3⟩ := h.2 a ha
    refine ⟨h1, Nat.lt_of_lt_of_le h2 hc.size, fun j hj => ?_⟩
    rw [hc.cell (p := ⟨a.block, a.off + j, none⟩) h2 (hS a ha), hc.frozen (p := ⟨a.block, a.off + j, none⟩) h2 (hS a ha)]
    exact h3 j hj⟩
theorem Spare.below (h : Spare w sz A c) (hb : Below w.heap.size w w') : Spare w' sz A c := h.frame (S := fun _ => False) (Chg.of_below hb) (fun _ _ h => h)
theorem Spare.of_own {base : Nat} {e : TypeId} {n : Nat} {vs : List Value} (h : w.ownsRow base e sz (.slice A n c) n vs) : Spare w sz A c := by
  rcases h.2 with ⟨h0, _⟩ | ⟨g, cap, cur, hv, _, hg, _, _, hcs, _⟩
  · injection h0 with e1 e2 e3
    subst e1 e3
    exact Spare.none_
  · injection hv with e1 e2 e3
    subst e1 e3
    refine ⟨fun h => (by cases h), fun a ha => ?_⟩
    injection ha with ha
    subst ha
    have hlt : g < w.heap.size := by
      rcases Nat.lt_or_ge g w.heap.size with h | h
      · exact h
      · rw [Array.getElem?_eq_none h] at hg; cases hg
    refine ⟨rfl, hlt, fun j hj => ?_⟩
    simp only [World.cell?, World.frozen?, hg, Nat.zero_add]
    rw [Array.getElem?_eq_getElem (by omega)]
    simp
theorem OwS.spare {α : Type} {R : Rel α} {u : Bool} {e : TypeId} {T : Nat → Prop} {base : Nat} {xs : List α} (h : OwS u sz R e w T base A c xs) : Spare w sz A c := by
  obtain ⟨vs, F, h1, _⟩ := h
  exact Spare.of_own h1
end
/- s[1:] -/
theorem run_tailS {P : Program} {t e : TypeId} {s : Nat} (ht : P.underlying t = some (.slice e)) (hz : ∀ w, (Go.sizeOf e).run P w = .ok s w) (g o n m c : Nat) (hn : n = m + 1) (hc : n ≤ c) : ∃ A, (∀ W, (Instr.slice t (.slice (some ⟨g, o, none⟩) n c) (some (.int .i64 1)) none none).run P W = .ok (.slice A m (c - 1)) W) ∧ (0 < m → A = some ⟨g, o + s, none⟩) ∧ (∀ w : World, Spare w s (some ⟨g, o, none⟩) c → Spare w s A (c - 1)) ∧ ∀ a, A = some a → a.block = g := by
  obtain ⟨A, h1, h2⟩ := run_tailN (P := P) ht hz g o n m c hn hc
  have ht' : P.underlying t = some (.slice (P.elem t)) := by simp [Program.elem, ht]
  have he : P.elem t = e := by simp [Program.elem, ht]
  refine ⟨if c = 1 then some ⟨g, o, none⟩ else some ⟨g, o + s, none⟩, fun W => ?_, fun hm => by rw [if_neg (by omega)], fun w h => ?_, fun a ha => by split at ha <;> (injection ha with ha; subst ha; rfl)⟩
  · rw [run_slice_l W t _ _ _ ht' .i64 1 (by omega) (by omega), he, hz]
    subst hn
    simp only [Result.andThen, sliced]
    by_cases h1 : c = 1
    · subst h1; simp
    · simp [h1, Go.WideShapes.add_plain]
  · obtain ⟨a1, a2, a3⟩ := h.2 _ rfl
    simp only at a2 a3
    by_cases hc1 : c = 1
    · subst hc1
      refine ⟨fun h => (by cases h), fun a ha => ?_⟩
      injection ha with ha
      subst ha
      exact ⟨rfl, a2, fun j hj => by omega⟩
    · rw [if_neg hc1]
      refine ⟨fun h => (by cases h), fun a ha => ?_⟩
      injection ha with ha
      subst ha
      refine ⟨rfl, a2, fun j hj => ?_⟩
      have hle : (c - 1) * s + s = c * s := by
        obtain ⟨d, rfl⟩ : ∃ d, c = d + 1 := ⟨c - 1, by omega⟩
        rw [Nat.add_sub_cancel, Nat.add_mul, Nat.one_mul]
      have := a3 (s + j) (by omega)
      rw [← Nat.add_assoc] at this
      exact this

end Go.Proofs.Ytnfgdgmmbddmgaa
