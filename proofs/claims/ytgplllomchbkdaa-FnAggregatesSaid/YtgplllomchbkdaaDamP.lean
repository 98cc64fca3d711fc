/- Splitting an aggregate, in plain lists: whole frames are found in their order, a damaged one is passed over. -/
import Derived.Test.YtgplllomchbkdaaSplP
import Derived.Test.YtgplllomchbkdaaAggP
namespace Go.Proofs.Ytgplllomchbkdaa
open Go.RowKit
set_option linter.unusedVariables false
set_option linter.unusedSimpArgs false

def pdS (s : List Int) : Int × Bool := if 4 ≤ s.length ∧ dlm (s.getD 0 0 + 256 * s.getD 1 0) = s.take 4 then (s.getD 0 0 + 256 * s.getD 1 0, true) else (0, false)
theorem pdN_drop (b : List Int) (a : Nat) : pdN b a = pdS (b.drop a) := by
  have e : hdr b a = (b.drop a).getD 0 0 + 256 * (b.drop a).getD 1 0 := by simp [hdr, List.getD, List.getElem?_drop]
  unfold pdN pdS
  rw [← e, List.length_drop]
  by_cases h : a + 4 ≤ b.length
  · have h2 : 4 ≤ b.length - a := by omega
    simp [h, h2]
  · have h2 : ¬ 4 ≤ b.length - a := by omega
    simp [h, h2]
def splS : Nat → List Int → List (List Int) → List (List Int)
  | 0, _, out => out
  | f + 1, s, out => if s ≠ [] ∧ out.length < 8 then
      (if (pdS s).2 = true ∧ 4 + (pdS s).1.toNat ≤ s.length then splS f (s.drop (subN (pdS s).1.toNat)) (out ++ [(s.drop 4).take (pdS s).1.toNat]) else splS f (s.drop 4) out)
    else out
theorem splK_S (b : List Int) : ∀ (f a : Nat) (out : List (List Int)), splK b f a out = splS f (b.drop a) out
  | 0, _, _ => rfl
  | f + 1, a, out => by
    rw [splK, splS, pdN_drop]
    by_cases ha : a < b.length
    · have hn : b.drop a ≠ [] := by intro h; have := congrArg List.length h; simp at this; omega
      by_cases ho : out.length < 8
      · have c1 : a < b.length ∧ out.length < 8 := ⟨ha, ho⟩
        have c2 : b.drop a ≠ [] ∧ out.length < 8 := ⟨hn, ho⟩
        rw [if_pos c1, if_pos c2]
        have hl : (a + 4 + (pdS (b.drop a)).1.toNat ≤ b.length) ↔ (4 + (pdS (b.drop a)).1.toNat ≤ (b.drop a).length) := by rw [List.length_drop]; omega
        simp only [hl, splK_S b f, List.drop_drop]
      · rw [if_neg (fun h => ho h.2), if_neg (fun h => ho h.2)]
    · have hn : b.drop a = [] := List.drop_eq_nil_of_le (by omega)
      rw [if_neg (fun h => ha h.1), if_neg (fun h => h.1 hn)]
def splV (s : List Int) (out : List (List Int)) : List (List Int) := splS s.length s out
theorem split_V (b : List Int) : split b = splV b [] := by rw [split, splK_S]; rfl
theorem splS_V : ∀ (n k : Nat) (s : List Int) (out : List (List Int)), s.length ≤ n → s.length ≤ k → splS k s out = splV s out
  | n, 0, s, out, _, h => by
    have : s = [] := List.eq_nil_of_length_eq_zero (by omega)
    subst this; rfl
  | 0, k + 1, s, out, h, _ => by
    have : s = [] := List.eq_nil_of_length_eq_zero (by omega)
    subst this
    simp [splS, splV]
  | n + 1, k + 1, s, out, hn, hk => by
    by_cases hs : s = []
    · subst hs; simp [splS, splV]
    · have hpos : 0 < s.length := List.length_pos_iff.2 hs
      obtain ⟨m, hm⟩ : ∃ m, s.length = m + 1 := ⟨s.length - 1, by omega⟩
      have hsub : ∀ j, 4 ≤ subN j := by intro j; unfold subN; omega
      have e1 : ∀ (j : Nat) (o : List (List Int)), 4 ≤ j → splS k (s.drop j) o = splV (s.drop j) o := fun j o hj => splS_V n k _ o (by rw [List.length_drop]; omega) (by rw [List.length_drop]; omega)
      have e2 : ∀ (j : Nat) (o : List (List Int)), 4 ≤ j → splS m (s.drop j) o = splV (s.drop j) o := fun j o hj => splS_V n m _ o (by rw [List.length_drop]; omega) (by rw [List.length_drop]; omega)
      conv => rhs; rw [splV, hm]
      rw [splS, splS]
      simp only [e1 _ _ (hsub _), e2 _ _ (hsub _), e1 4 _ (Nat.le_refl _), e2 4 _ (Nat.le_refl _)]
theorem splV_nil (out : List (List Int)) : splV [] out = out := rfl
theorem splV_step {s : List Int} {out : List (List Int)} (hs : s ≠ []) (ho : out.length < 8) :
    splV s out = if (pdS s).2 = true ∧ 4 + (pdS s).1.toNat ≤ s.length then splV (s.drop (subN (pdS s).1.toNat)) (out ++ [(s.drop 4).take (pdS s).1.toNat]) else splV (s.drop 4) out := by
  have hpos : 0 < s.length := List.length_pos_iff.2 hs
  obtain ⟨m, hm⟩ : ∃ m, s.length = m + 1 := ⟨s.length - 1, by omega⟩
  have hsub : ∀ j, 4 ≤ subN j := by intro j; unfold subN; omega
  conv => lhs; rw [splV, hm]
  rw [splS, if_pos ⟨hs, ho⟩]
  have e2 : ∀ (j : Nat) (o : List (List Int)), 4 ≤ j → splS m (s.drop j) o = splV (s.drop j) o := fun j o hj => splS_V m m _ o (by rw [List.length_drop]; omega) (by rw [List.length_drop]; omega)
  simp only [e2 _ _ (hsub _), e2 4 _ (Nat.le_refl _)]

def subF (f : List Int) : List Int := dlm (f.length : Int) ++ f ++ List.replicate (pad4 f.length) 0
theorem dlm_4 {n : Nat} (h : n ≤ 200) : dlm (n : Int) = [(n : Int), 0, (crcV [(n : Int), 0] : Int) % 256, 78] := dlm_in (inR_of (by omega))
theorem subF_len {f : List Int} (h : f.length ≤ 200) : (subF f).length = subN f.length := by
  rw [subF, dlm_4 h]
  simp [subN, pad4]
  omega
theorem aggS_sub {o f : List Int} (ho : o.length % 4 = 0) (h : f.length ≤ 200) : aggS o f = o ++ subF f := by
  have hp : pad4 (aggO o f).length = pad4 f.length := by
    rw [aggO, dlm_4 h]
    simp [pad4]
    omega
  rw [aggS, hp, aggO, subF]
  simp
theorem aggL_flat {fs : List (List Int)} (h : ∀ f ∈ fs, f.length ≤ 200) : aggL fs = (fs.map subF).flatten := by
  have : ∀ (fs : List (List Int)) (o : List Int), (∀ f ∈ fs, f.length ≤ 200) → o.length % 4 = 0 → fs.foldl aggS o = o ++ (fs.map subF).flatten := by
    intro fs
    induction fs with
    | nil => intro o _ _; simp
    | cons f fs ih =>
      intro o h ho
      have hf := h f (by simp)
      rw [List.foldl_cons, aggS_sub ho hf, ih _ (fun g hg => h g (by simp [hg]))]
      · simp
      · rw [List.length_append, subF_len hf]; unfold subN; omega
  simpa [aggL] using this fs [] h rfl
theorem flat_take_succ (fs : List (List Int)) (k : Nat) (h : k < fs.length) : ((fs.take (k + 1)).map subF).flatten = ((fs.take k).map subF).flatten ++ subF fs[k] := by
  have htk : fs.take (k + 1) = fs.take k ++ [fs[k]] := by rw [List.take_add_one, List.getElem?_eq_getElem h]; rfl
  rw [htk, List.map_append, List.flatten_append]
  simp only [List.map_cons, List.map_nil, List.flatten_cons, List.flatten_nil, List.append_nil]
theorem flat_at {fs : List (List Int)} {k : Nat} (hk : k < fs.length) : (fs.map subF).flatten = ((fs.take k).map subF).flatten ++ (subF fs[k] ++ ((fs.drop (k + 1)).map subF).flatten) := by
  have e0 : fs = fs.take k ++ fs[k] :: fs.drop (k + 1) := by rw [← List.drop_eq_getElem_cons hk, List.take_append_drop]
  have := congrArg (fun l => (l.map subF).flatten) e0
  simp only [List.map_append, List.map_cons, List.flatten_append, List.flatten_cons] at this
  exact this
theorem pdS_sub {f post : List Int} (h : f.length ≤ 200) : pdS (subF f ++ post) = ((f.length : Int), true) := by
  have e : subF f ++ post = (f.length : Int) :: 0 :: ((crcV [(f.length : Int), 0] : Int) % 256) :: 78 :: (f ++ List.replicate (pad4 f.length) 0 ++ post) := by
    rw [subF, dlm_4 h]; simp
  rw [e, pdS]
  simp only [List.length_cons, List.getD_cons_zero, List.getD_cons_succ, List.take_succ_cons, List.take_zero, Int.mul_zero, Int.add_zero]
  rw [dlm_4 h, if_pos ⟨by omega, rfl⟩]
theorem splV_sub {f post : List Int} {out : List (List Int)} (h : f.length ≤ 200) (ho : out.length < 8) : splV (subF f ++ post) out = splV post (out ++ [f]) := by
  have hl := subF_len h
  have hne : subF f ++ post ≠ [] := by
    intro h0
    have := congrArg List.length h0
    rw [List.length_append, hl] at this
    simp [subN] at this
  rw [splV_step hne ho, pdS_sub h]
  simp only [Int.toNat_natCast]
  rw [if_pos ⟨trivial, by rw [List.length_append, hl]; unfold subN; omega⟩, ← hl, List.drop_left]
  congr 2
  have e : subF f ++ post = dlm (f.length : Int) ++ (f ++ (List.replicate (pad4 f.length) 0 ++ post)) := by simp [subF]
  rw [e, dlm_4 h]
  simp
theorem splV_skip {a b c d : Int} {post : List Int} {out : List (List Int)} (hd : d ≠ 78) (ho : out.length < 8) : splV (a :: b :: c :: d :: post) out = splV post out := by
  rw [splV_step (by simp) ho]
  have hp : (pdS (a :: b :: c :: d :: post)).2 = false := by
    unfold pdS
    rw [if_neg]
    rintro ⟨_, h2⟩
    have hx := dlm_len ((a :: b :: c :: d :: post).getD 0 0 + 256 * (a :: b :: c :: d :: post).getD 1 0)
    generalize (a :: b :: c :: d :: post).getD 0 0 + 256 * (a :: b :: c :: d :: post).getD 1 0 = n at *
    cases hi : inR n 0 200
    · rw [dlm_out hi] at h2; simp at h2
    · rw [dlm_in hi] at h2
      simp at h2
      exact hd h2.2.2.2.symm
  rw [if_neg (by rw [hp]; simp)]
  rfl
theorem splV_all : ∀ (fs : List (List Int)) (post : List Int) (out : List (List Int)), fs.length + out.length ≤ 8 → (∀ f ∈ fs, f.length ≤ 200) → splV ((fs.map subF).flatten ++ post) out = splV post (out ++ fs)
  | [], post, out, _, _ => by simp
  | f :: fs, post, out, hl, h => by
    simp only [List.length_cons] at hl
    have e : (((f :: fs).map subF).flatten ++ post) = subF f ++ ((fs.map subF).flatten ++ post) := by simp
    rw [e, splV_sub (h f (by simp)) (by omega), splV_all fs post (out ++ [f]) (by simp; omega) (fun g hg => h g (by simp [hg]))]
    simp
theorem split_agg {fs : List (List Int)} (h8 : fs.length ≤ 8) (h : ∀ f ∈ fs, f.length ≤ 200) : split (agg fs) = fs := by
  have hfit : fitB fs = true := fit_true h8 (fun k hk => h _ (List.getElem_mem hk))
  rw [agg, if_pos hfit, aggL_flat h, split_V]
  have := splV_all fs [] [] (by simpa using h8) h
  simpa [splV_nil] using this

/- the frames of the law on damaged aggregates -/
def frm (i m : Nat) : List Int := [(i : Int) + 1, 200, 201, 202, 203].take m
theorem splV_dam {i m : Nat} {post : List Int} {out : List (List Int)} (h1 : 1 ≤ m) (h5 : m ≤ 5) (ho : out.length < 8) : splV ((subF (frm i m)).set 3 177 ++ post) out = splV post out := by
  have hm : m = 1 ∨ m = 2 ∨ m = 3 ∨ m = 4 ∨ m = 5 := by omega
  have hl : (frm i m).length = m := by simp [frm]; omega
  rw [subF, hl, dlm_4 (by omega)]
  rcases hm with rfl | rfl | rfl | rfl | rfl
  all_goals
    simp only [frm, List.take_succ_cons, List.take_zero, pad4, List.cons_append, List.nil_append, List.set_cons_zero, List.set_cons_succ, List.replicate, List.append_assoc]
    rw [splV_skip (by decide) ho]
  all_goals (try rw [splV_skip (by decide) ho])
  all_goals (try rw [splV_skip (by decide) ho])
  all_goals (try rfl)

theorem split_dam {fs : List (List Int)} {k : Nat} (hk : k < fs.length) (h8 : fs.length ≤ 8) (hf : ∀ j (hj : j < fs.length), ∃ m, 1 ≤ m ∧ m ≤ 5 ∧ fs[j] = frm j m) :
    split ((agg fs).set (((fs.take k).map subF).flatten.length + 3) 177) = fs.take k ++ fs.drop (k + 1) := by
  have h : ∀ f ∈ fs, f.length ≤ 200 := by
    intro f hf2
    obtain ⟨j, hj, rfl⟩ := List.mem_iff_getElem.1 hf2
    obtain ⟨m, h1, h2, h3⟩ := hf j hj
    rw [h3]
    simp [frm]
    omega
  have hfit : fitB fs = true := fit_true h8 (fun j hj => h _ (List.getElem_mem hj))
  rw [agg, if_pos hfit, aggL_flat h, split_V]
  have e := flat_at hk
  rw [e, List.set_append_right _ _ (by omega)]
  rw [show ((fs.take k).map subF).flatten.length + 3 - ((fs.take k).map subF).flatten.length = 3 by omega]
  obtain ⟨m, h1, h2, h3⟩ := hf k hk
  have hsl : 3 < (subF fs[k]).length := by rw [subF_len (h _ (List.getElem_mem hk))]; unfold subN; omega
  rw [List.set_append_left _ _ hsl, splV_all (fs.take k) _ [] (by simp; omega) (fun f hf => h f (List.mem_of_mem_take hf)), h3, splV_dam h1 h2 (by simp; omega)]
  have := splV_all (fs.drop (k + 1)) [] ([] ++ fs.take k) (by simp; omega) (fun f hf => h f (List.mem_of_mem_drop hf))
  simpa [splV_nil] using this
theorem agg_at {fs : List (List Int)} {k : Nat} (hk : k < fs.length) (h8 : fs.length ≤ 8) (h : ∀ f ∈ fs, f.length ≤ 200) :
    ((fs.take k).map subF).flatten.length + 4 ≤ (agg fs).length ∧ (agg fs)[((fs.take k).map subF).flatten.length + 3]? = some 78 := by
  have hfit : fitB fs = true := fit_true h8 (fun j hj => h _ (List.getElem_mem hj))
  have e := flat_at hk
  have hf := h _ (List.getElem_mem hk)
  rw [agg, if_pos hfit, aggL_flat h, e]
  refine ⟨?_, ?_⟩
  · simp only [List.length_append, subF_len hf]; unfold subN; omega
  · rw [List.getElem?_append_right (by omega), show ((fs.take k).map subF).flatten.length + 3 - ((fs.take k).map subF).flatten.length = 3 by omega, subF, dlm_4 hf]
    simp

end Go.Proofs.Ytgplllomchbkdaa
