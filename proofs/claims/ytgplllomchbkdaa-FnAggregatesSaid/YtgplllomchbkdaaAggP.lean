/- What an aggregate is, in plain lists. -/
import Derived.Test.YtgplllomchbkdaaDlm
import Derived.Test.YtgplllomchbkdaaNest
namespace Go.Proofs.Ytgplllomchbkdaa
open Go.RowKit
set_option linter.unusedVariables false

def pad4 (n : Nat) : Nat := (4 - n % 4) % 4
def aggO (out f : List Int) : List Int := out ++ dlm (f.length : Int) ++ f
def aggS (out f : List Int) : List Int := aggO out f ++ List.replicate (pad4 (aggO out f).length) 0
def aggL (fs : List (List Int)) : List Int := fs.foldl aggS []
def fitB (fs : List (List Int)) : Bool := decide (fs.length ≤ 8) && fs.all fun f => decide (f.length ≤ 200)
def agg (fs : List (List Int)) : List Int := if fitB fs then aggL fs else []
theorem aggL_snoc (fs : List (List Int)) (f : List Int) : aggL (fs ++ [f]) = aggS (aggL fs) f := by simp [aggL, List.foldl_append]
theorem aggL_take (fs : List (List Int)) (k : Nat) (h : k < fs.length) : aggL (fs.take (k + 1)) = aggS (aggL (fs.take k)) fs[k] := by
  rw [List.take_add_one, List.getElem?_eq_getElem h]; exact aggL_snoc _ _
theorem pad4_lt (n : Nat) : pad4 n ≤ 3 ∧ (n + pad4 n) % 4 = 0 := by unfold pad4; omega
theorem pad4_at {n m : Nat} (h : m ≤ pad4 n) (h2 : (n + m) % 4 = 0) : m = pad4 n := by unfold pad4 at *; omega
theorem pad4_more {n m : Nat} (h : m ≤ pad4 n) (h2 : ¬ (n + m) % 4 = 0) : m + 1 ≤ pad4 n := by unfold pad4 at *; omega
theorem aggO_len (out f : List Int) : (aggO out f).length ≤ out.length + 4 + f.length := by
  have := dlm_len (f.length : Int)
  simp [aggO]; omega
theorem aggS_len (out f : List Int) : (aggS out f).length ≤ out.length + 7 + f.length := by
  have := aggO_len out f
  have := (pad4_lt (aggO out f).length).1
  simp [aggS]; omega
theorem aggL_len (fs : List (List Int)) (h : ∀ f ∈ fs, f.length ≤ 200) : (aggL fs).length ≤ 207 * fs.length := by
  have : ∀ (fs : List (List Int)) (o : List Int), (∀ f ∈ fs, f.length ≤ 200) → (fs.foldl aggS o).length ≤ o.length + 207 * fs.length := by
    intro fs
    induction fs with
    | nil => intro o _; simp
    | cons f fs ih =>
      intro o h
      have h1 := ih (aggS o f) (fun g hg => h g (by simp [hg]))
      have h2 := aggS_len o f
      have h3 := h f (by simp)
      simp only [List.foldl_cons, List.length_cons]
      omega
  simpa [aggL] using this fs [] h
theorem fit_false_len {fs : List (List Int)} (h : 8 < fs.length) : fitB fs = false := by
  simp [fitB]; omega
theorem fit_false_mem {fs : List (List Int)} {k : Nat} (hk : k < fs.length) (h : 200 < fs[k].length) : fitB fs = false := by
  have : ¬ (fs.all fun f => decide (f.length ≤ 200)) = true := by
    intro ha
    have := List.all_eq_true.1 ha _ (List.getElem_mem hk)
    simp at this
    omega
  simp only [Bool.not_eq_true] at this
  simp [fitB, this]
theorem fit_true {fs : List (List Int)} (h8 : fs.length ≤ 8) (h : ∀ k (hk : k < fs.length), fs[k].length ≤ 200) : fitB fs = true := by
  have : (fs.all fun f => decide (f.length ≤ 200)) = true := by
    rw [List.all_eq_true]
    intro f hf
    obtain ⟨k, hk, rfl⟩ := List.mem_iff_getElem.1 hf
    simpa using h k hk
  simp [fitB, this, h8]
theorem agg_len (fs : List (List Int)) : (agg fs).length ≤ 1656 := by
  unfold agg
  split
  · rename_i h
    simp only [fitB, Bool.and_eq_true, decide_eq_true_eq, List.all_eq_true] at h
    have := aggL_len fs (fun f hf => by simpa using h.2 f hf)
    omega
  · simp
theorem aggL_ub (fs : List (List Int)) (h : ∀ f ∈ fs, ∀ y ∈ f, 0 ≤ y ∧ y ≤ 255) : ∀ y ∈ aggL fs, 0 ≤ y ∧ y ≤ 255 := by
  have : ∀ (fs : List (List Int)) (o : List Int), (∀ f ∈ fs, ∀ y ∈ f, 0 ≤ y ∧ y ≤ 255) → (∀ y ∈ o, 0 ≤ y ∧ y ≤ 255) → ∀ y ∈ fs.foldl aggS o, 0 ≤ y ∧ y ≤ 255 := by
    intro fs
    induction fs with
    | nil => intro o _ ho; exact ho
    | cons f fs ih =>
      intro o h ho
      refine ih (aggS o f) (fun g hg => h g (by simp [hg])) ?_
      intro y hy
      simp only [aggS, aggO, List.mem_append, List.mem_replicate] at hy
      rcases hy with ((hy | hy) | hy) | ⟨_, rfl⟩
      · exact ho y hy
      · exact dlm_ub _ y hy
      · exact h f (by simp) y hy
      · omega
  exact this fs [] h (by simp)
theorem agg_ub (fs : List (List Int)) (h : ∀ f ∈ fs, ∀ y ∈ f, 0 ≤ y ∧ y ≤ 255) : ∀ y ∈ agg fs, 0 ≤ y ∧ y ≤ 255 := by
  unfold agg
  split
  · exact aggL_ub fs h
  · simp

end Go.Proofs.Ytgplllomchbkdaa
