/- KeepFrame, PollFrame: the plain part; one element of a slice that is the call's own, opened so that its blocks may change. -/
import Derived.Test.YtbfbjkcmehalhaaPcb
import Derived.Test.YtbfbjkcmehalhaaPdr
import Derived.Test.YtbfbjkcmehalhaaPk
namespace Go.Proofs.Ytbfbjkcmehalhaa
open Go.RowKit
set_option linter.unusedVariables false
set_option linter.unusedSimpArgs false

theorem Sl.open_new {α : Type} {sz : Nat} {R : Rel α} {w : World} {T : Nat → Prop} {A : Option Addr} {xs : List α} (hL : Local sz R) (h : Sl true sz R w T A xs) (k : Nat) (hk : k < xs.length) : ∃ g o Fk, A = some ⟨g, o, none⟩ ∧ g < w.heap.size ∧ T g ∧ ¬ Fk g ∧ (∀ b, Fk b → T b) ∧ R w Fk g (o + k * sz) xs[k] ∧
    ∀ w' y Fn, (∀ b, Fn b → Fk b ∨ ¬ T b) → Chg (fun b => b = g ∨ Fk b ∨ ¬ T b) w w' → (∀ i, (i < o + k * sz ∨ o + k * sz + sz ≤ i) → w'.cell? ⟨g, i, none⟩ = w.cell? ⟨g, i, none⟩ ∧ w'.frozen? ⟨g, i, none⟩ = w.frozen? ⟨g, i, none⟩) → R w' Fn g (o + k * sz) y → Sl true sz R w' (fun b => (T b ∧ ¬ Fk b) ∨ Fn b) A (xs.set k y) := by
  obtain ⟨g, o, F, hA, hg, hsep, he⟩ := h (by intro h; subst h; simp at hk)
  refine ⟨g, o, F k, hA, hg, hsep.1, (hsep.2.2 rfl).1 k, hsep.2.1 k, he k hk, fun w' y Fn hFn hc hcell hy hn => ?_⟩
  refine ⟨g, o, fun j => if j = k then Fn else F j, hA, Nat.lt_of_lt_of_le hg hc.size, ⟨.inl ⟨hsep.1, (hsep.2.2 rfl).1 k⟩, ?_, fun _ => ⟨?_, ?_⟩⟩, fun j hj => ?_⟩
  · intro j b hb
    split at hb
    · exact .inr hb
    · rename_i hjk
      exact .inl ⟨hsep.2.1 j b hb, fun hk2 => hjk ((hsep.2.2 rfl).2 _ _ b hb hk2)⟩
  · intro j hb
    split at hb
    · rcases hFn g hb with h1 | h1
      · exact (hsep.2.2 rfl).1 k h1
      · exact h1 hsep.1
    · exact (hsep.2.2 rfl).1 j hb
  · intro i j b hi hj
    split at hi
    · split at hj
      · omega
      · rename_i h1 h2
        rcases hFn b hi with h3 | h3
        · exact absurd ((hsep.2.2 rfl).2 _ _ b h3 hj) (fun e => h2 e.symm)
        · exact absurd (hsep.2.1 j b hj) h3
    · split at hj
      · rename_i h1 h2
        rcases hFn b hj with h3 | h3
        · exact absurd ((hsep.2.2 rfl).2 _ _ b h3 hi) (fun e => h1 e.symm)
        · exact absurd (hsep.2.1 i b hi) h3
      · exact (hsep.2.2 rfl).2 _ _ b hi hj
  · rw [List.length_set] at hj
    by_cases hjk : k = j
    · subst hjk
      simp only [if_true]
      rw [List.getElem_set_self]
      exact hy
    · simp only [show ¬ j = k by omega, if_false]
      rw [List.getElem_set_ne hjk]
      refine hL (he j hj) hc.size (fun i hi => ?_) (fun b hb hF => hc.block b hb ?_)
      · refine hcell _ ?_
        rcases Nat.lt_or_ge j k with h1 | h1
        · left
          have : (j + 1) * sz ≤ k * sz := Nat.mul_le_mul_right sz h1
          rw [Nat.add_mul] at this
          omega
        · right
          have : (k + 1) * sz ≤ j * sz := Nat.mul_le_mul_right sz (by omega)
          rw [Nat.add_mul] at this
          omega
      · rintro (h1 | h1 | h1)
        · subst h1; exact (hsep.2.2 rfl).1 j hF
        · exact hjk ((hsep.2.2 rfl).2 _ _ b h1 hF)
        · exact h1 (hsep.2.1 j b hF)
theorem NewB.owr {w w' : World} {e : Ending} {xs : List Int} (h : NewB w e w' xs) : ∃ g c, e = .returned (.slice (some ⟨g, 0, none⟩) xs.length c) ∧ Below w.heap.size w w' ∧ OwR (Value.int .u8) 5 w' w.heap.size g c xs := by
  obtain ⟨g, c, X, d, h1, rfl, h3, h4⟩ := h
  exact ⟨g, c, h1, Below.ext (Below.refl _ _) (Nat.le_refl _) X d, h4⟩

def keepK (b : List Int) (x : KT) : KT := if 6 ≤ x.fr.length ∨ 100 < b.length then ⟨x.st, x.az, x.fr, wrap64 (x.lo + 1)⟩ else ⟨x.st, x.az, x.fr ++ [b], x.lo⟩
def keepR (s : Int) (b : List Int) (xs : List KT) : List KT × Bool :=
  match xs[(fV s xs).toNat]? with
  | none => (xs, true)
  | some x => if 0 ≤ fV s xs ∧ x.az = true then (xs.set (fV s xs).toNat (keepK b x), false) else (xs, true)
theorem keepR_no {s : Int} {b : List Int} {xs : List KT} (h : fV s xs = -1) : keepR s b xs = (xs, true) := by
  unfold keepR; rw [h]; split
  · rfl
  · rw [if_neg (by simp)]
theorem keepR_az {s : Int} {b : List Int} {xs : List KT} {i : Nat} (hi : i < xs.length) (h : fV s xs = (i : Int)) (ha : xs[i].az = false) : keepR s b xs = (xs, true) := by
  unfold keepR; rw [h, Int.toNat_natCast, List.getElem?_eq_getElem hi]
  simp [ha]
theorem keepR_yes {s : Int} {b : List Int} {xs : List KT} {i : Nat} (hi : i < xs.length) (h : fV s xs = (i : Int)) (ha : xs[i].az = true) : keepR s b xs = (xs.set i (keepK b xs[i]), false) := by
  unfold keepR; rw [h, Int.toNat_natCast, List.getElem?_eq_getElem hi]
  simp [ha]
def CpK (w : World) (r : List KT × Bool) (e : Ending) (w' : World) : Prop := ∃ A c, e = .returned (.tuple #[.agg #[.slice A r.1.length c], .bool r.2]) ∧ Below w.heap.size w w' ∧ Sl true 4 (EK true) w' (fun b => w.heap.size ≤ b ∧ b < w'.heap.size) A r.1

end Go.Proofs.Ytbfbjkcmehalhaa
