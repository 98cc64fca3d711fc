/- What splitting an aggregate finds, in plain lists. -/
import Derived.Test.YtgplllomchbkdaaPd
import Derived.Test.YtgplllomchbkdaaNest
namespace Go.Proofs.Ytgplllomchbkdaa
open Go.RowKit
set_option linter.unusedVariables false

def subN (n : Nat) : Nat := 4 + 4 * ((n + 3) / 4)
def splK (b : List Int) : Nat → Nat → List (List Int) → List (List Int)
  | 0, _, out => out
  | f + 1, a, out => if a < b.length ∧ out.length < 8 then
      (if (pdN b a).2 = true ∧ a + 4 + (pdN b a).1.toNat ≤ b.length then splK b f (a + subN (pdN b a).1.toNat) (out ++ [(b.drop (a + 4)).take (pdN b a).1.toNat]) else splK b f (a + 4) out)
    else out
def split (b : List Int) : List (List Int) := splK b b.length 0 []
theorem splK_stop {b : List Int} {f a : Nat} {out : List (List Int)} (h : ¬ (a < b.length ∧ out.length < 8)) : splK b f a out = out := by
  cases f with
  | zero => rfl
  | succ f => rw [splK, if_neg h]
theorem splK_yes {b : List Int} {f a n : Nat} {out : List (List Int)} (h1 : a < b.length) (h2 : out.length < 8) (hp : pdN b a = ((n : Int), true)) (h3 : a + 4 + n ≤ b.length) :
    splK b (f + 1) a out = splK b f (a + subN n) (out ++ [(b.drop (a + 4)).take n]) := by
  rw [splK, if_pos ⟨h1, h2⟩, hp]
  simp only [Int.toNat_natCast]
  rw [if_pos ⟨trivial, h3⟩]
theorem splK_no {b : List Int} {f a n : Nat} {ok : Bool} {out : List (List Int)} (h1 : a < b.length) (h2 : out.length < 8) (hp : pdN b a = ((n : Int), ok)) (h3 : ¬ (ok = true ∧ a + 4 + n ≤ b.length)) :
    splK b (f + 1) a out = splK b f (a + 4) out := by
  rw [splK, if_pos ⟨h1, h2⟩, hp]
  simp only [Int.toNat_natCast]
  rw [if_neg h3]
theorem pdN_rng (b : List Int) (a : Nat) : 0 ≤ (pdN b a).1 ∧ (pdN b a).1 ≤ 200 := by
  unfold pdN
  split
  · rename_i h
    cases hi : inR (hdr b a) 0 200
    · exfalso
      have h2 := h.2
      rw [dlm_out hi] at h2
      have h3 := congrArg List.length h2
      simp at h3
      omega
    · exact inR_true hi
  · exact ⟨by simp, by simp⟩
theorem splK_len (b : List Int) : ∀ (f a : Nat) (out : List (List Int)), out.length ≤ 8 → (splK b f a out).length ≤ 8
  | 0, a, out, h => h
  | f + 1, a, out, h => by
    rw [splK]
    split
    · rename_i h1
      split
      · exact splK_len b f _ _ (by simp; omega)
      · exact splK_len b f _ _ h
    · exact h
theorem split_len (b : List Int) : (split b).length ≤ 8 := splK_len b _ _ _ (by simp)
theorem splK_all (b : List Int) (P : List Int → Prop) (hP : ∀ a n : Nat, n ≤ 200 → P ((b.drop (a + 4)).take n)) : ∀ (f a : Nat) (out : List (List Int)), (∀ x ∈ out, P x) → ∀ x ∈ splK b f a out, P x
  | 0, a, out, h => h
  | f + 1, a, out, h => by
    rw [splK]
    split
    · split
      · refine splK_all b P hP f _ _ ?_
        intro x hx
        simp only [List.mem_append, List.mem_singleton] at hx
        rcases hx with hx | rfl
        · exact h x hx
        · exact hP a _ (by have := pdN_rng b a; omega)
      · exact splK_all b P hP f _ _ h
    · exact h
theorem split_mem (b : List Int) : ∀ x ∈ split b, x.length ≤ 200 :=
  splK_all b (fun x => x.length ≤ 200) (fun a n h => by simp; omega) _ _ _ (by simp)
theorem split_sum (b : List Int) : sumL (split b) ≤ 1600 := by
  have h1 := split_len b
  have h2 := split_mem b
  generalize split b = l at *
  have : ∀ l : List (List Int), (∀ x ∈ l, x.length ≤ 200) → sumL l ≤ 200 * l.length := by
    intro l
    induction l with
    | nil => intro _; simp [sumL]
    | cons x l ih =>
      intro h
      have h3 := ih (fun y hy => h y (by simp [hy]))
      have h4 := h x (by simp)
      simp [sumL] at h3 ⊢
      omega
  have := this l h2
  omega

end Go.Proofs.Ytgplllomchbkdaa
