/- ReceiveNumbered: the plain law: what the program computes is what the reference computes. -/
import Derived.Test.YtnfgdgmmbddmgaaRins
import Derived.Test.YtnfgdgmmbddmgaaRmsS
namespace Go.Proofs.Ytnfgdgmmbddmgaa
open Go.RowKit
set_option linter.unusedVariables false
set_option linter.unusedSimpArgs false

def insS (st : Int) (f : NF) : List NF → Option (List NF)
  | [] => some [f]
  | x :: xs => if seqD st x.1 < seqD st f.1 then (insS st f xs).map (x :: ·) else if x.1 = f.1 then none else some (f :: x :: xs)
def rcvS (st q : Int) (body : List Int) (ys : List NF) : Int × List NF × List (List Int) :=
  if vROB st ys = true ∧ inR (seqD st q) 0 2047 = true ∧ body.length ≤ 100 then
    if 16 ≤ seqD st q then
      match insS ((q - 15) % 4096) (q, body) (movR st (seqD st ((q - 15) % 4096)) ys []).1 with
      | none => ((q - 15) % 4096, (movR st (seqD st ((q - 15) % 4096)) ys []).1, (movR st (seqD st ((q - 15) % 4096)) ys []).2)
      | some zs => relR ((q - 15) % 4096) zs (movR st (seqD st ((q - 15) % 4096)) ys []).2
    else
      match insS st (q, body) ys with
      | none => (st, ys, [])
      | some zs => relR st zs []
  else (st, ys, [])
def rcvI (st q : Int) (body : List Int) (ys : List NF) : Int × List NF × List (List Int) :=
  if vROB st ys = true ∧ inR (seqD st q) 0 2047 = true ∧ body.length ≤ 100 ∧ pendB ys q = false then
    if 16 ≤ seqD st q then relR (moveR st ((q - 15) % 4096) ys).1 (insI (moveR st ((q - 15) % 4096) ys).1 (q, body) (moveR st ((q - 15) % 4096) ys).2.1) (moveR st ((q - 15) % 4096) ys).2.2
    else relR st (insI st (q, body) ys) []
  else (st, ys, [])

/- the distances from st grow, from above lo up to hi -/
def Inc (st hi : Int) : Int → List NF → Prop
  | _, [] => True
  | lo, x :: xs => lo < seqD st x.1 ∧ seqD st x.1 ≤ hi ∧ Inc st hi (seqD st x.1) xs
theorem inc_of_chain (st : Int) : ∀ (ys : List NF) (b : Int), vChain st b ys = true → Inc st 15 b ys
  | [], _, _ => trivial
  | x :: xs, b, h => by
    simp only [vChain, Bool.and_eq_true] at h
    have h1 := inR_true h.1.2
    exact ⟨by omega, h1.2, inc_of_chain st xs _ h.2⟩
theorem seqD_inj {st a b : Int} (h : seqD st a = seqD st b) (h0 : 0 ≤ seqD st a) : a = b := by
  have h1 := seqD_pos h0
  have h2 := seqD_pos (h ▸ h0)
  omega
theorem pend_none (st q hi : Int) : ∀ (ys : List NF) (lo : Int), Inc st hi lo ys → (seqD st q ≤ lo ∨ hi < seqD st q) → pendB ys q = false
  | [], _, _, _ => rfl
  | x :: xs, lo, ⟨h1, h2, h3⟩, h => by
    have ih := pend_none st q hi xs _ h3 (by omega)
    unfold pendB at ih ⊢
    rw [List.any_cons, ih, Bool.or_false]
    simp only [beq_eq_false_iff_ne]
    intro he
    rw [he] at h1 h2
    omega
theorem insS_pend (st q : Int) (b : List Int) (hi : Int) (hq : 0 ≤ seqD st q) : ∀ (ys : List NF) (lo : Int), 0 ≤ lo → Inc st hi lo ys → insS st (q, b) ys = if pendB ys q = true then none else some (insI st (q, b) ys)
  | [], _, _, _ => rfl
  | x :: xs, lo, hlo, ⟨h1, h2, h3⟩ => by
    have ih := insS_pend st q b hi hq xs _ (by omega) h3
    simp only [insS, insI]
    by_cases hlt : seqD st x.1 < seqD st q
    · have hne : (x.1 == q) = false := by
        simp only [beq_eq_false_iff_ne]
        intro he
        rw [he] at hlt
        omega
      have hp : pendB (x :: xs) q = pendB xs q := by unfold pendB; rw [List.any_cons, hne, Bool.false_or]
      rw [if_pos hlt, if_neg (show ¬ seqD st q < seqD st x.1 by omega), ih, hp]
      cases pendB xs q <;> rfl
    · rw [if_neg hlt]
      by_cases hx : x.1 = q
      · have hp : pendB (x :: xs) q = true := by unfold pendB; rw [List.any_cons]; simp [hx]
        rw [if_pos hx, if_pos hp]
      · have hd : seqD st q < seqD st x.1 := by
          by_cases h : seqD st q < seqD st x.1
          · exact h
          · exact absurd (seqD_inj (show seqD st x.1 = seqD st q by omega) (by omega)) hx
        have hp : pendB (x :: xs) q = false := by
          have := pend_none st q hi xs _ h3 (.inl (by omega))
          unfold pendB at this ⊢
          rw [List.any_cons, this, Bool.or_false]
          simpa using hx
        rw [if_neg hx, if_pos hd, hp]
        simp
theorem ins_end (st q : Int) (b : List Int) (hi : Int) (hq : hi < seqD st q) : ∀ (ys : List NF) (lo : Int), Inc st hi lo ys → insI st (q, b) ys = ys ++ [(q, b)] ∧ insS st (q, b) ys = some (ys ++ [(q, b)])
  | [], _, _ => ⟨rfl, rfl⟩
  | x :: xs, lo, ⟨h1, h2, h3⟩ => by
    have ih := ins_end st q b hi hq xs _ h3
    simp only [insI, insS]
    rw [if_neg (by omega), if_pos (by omega), ih.1, ih.2]
    exact ⟨rfl, rfl⟩
theorem relR_append : ∀ (ys zs : List NF) (st : Int) (bs : List (List Int)), relR st (ys ++ zs) bs = relR (relR st ys bs).1 ((relR st ys bs).2.1 ++ zs) (relR st ys bs).2.2
  | [], zs, st, bs => rfl
  | x :: xs, zs, st, bs => by
    by_cases h : x.1 = st
    · rw [List.cons_append, relR, if_pos h, relR, if_pos h]
      exact relR_append xs zs _ _
    · rw [List.cons_append, relR, if_neg h]
      have : relR st (x :: xs) bs = (st, x :: xs, bs) := by rw [relR, if_neg h]
      rw [this, List.cons_append, relR, if_neg h]
/- distances from a start further on -/
theorem inc_shift {st s hi e : Int} (hst : 0 ≤ st ∧ st ≤ 4095) (hs : 0 ≤ s ∧ s ≤ 4095) (he : seqD st s = e) (hhi : hi ≤ 4095) : ∀ (ys : List NF) (lo : Int), e - 1 ≤ lo → 0 ≤ e → Inc st hi lo ys → Inc s (hi - e) (lo - e) ys
  | [], _, _, _, _ => trivial
  | x :: xs, lo, hlo, h0, ⟨h1, h2, h3⟩ => by
    have hx := seqD_pos (show 0 ≤ seqD st x.1 by omega)
    have h4 : seqD s x.1 = seqD st x.1 - e := by
      rw [seqD_of hs ⟨hx.2.2.1, hx.2.2.2.1⟩, ← he, seqD_of hst hs, seqD_of hst ⟨hx.2.2.1, hx.2.2.2.1⟩]
      rw [← he, seqD_of hst hs] at hlo
      rw [seqD_of hst ⟨hx.2.2.1, hx.2.2.2.1⟩] at h1
      omega
    refine ⟨by omega, by omega, ?_⟩
    rw [h4]
    exact inc_shift hst hs he hhi xs _ (by omega) h0 h3
theorem rel_ins (q : Int) (b : List Int) (hq : 0 ≤ q ∧ q ≤ 4095) : ∀ (ys : List NF) (s : Int) (bs : List (List Int)) (hi lo : Int), 0 ≤ s ∧ s ≤ 4095 → -1 ≤ lo → hi < seqD s q → hi ≤ 4094 → Inc s hi lo ys → insI (relR s ys bs).1 (q, b) (relR s ys bs).2.1 = (relR s ys bs).2.1 ++ [(q, b)]
  | [], s, bs, hi, lo, hs, hlo, hd, hh, hi_ => rfl
  | x :: xs, s, bs, hi, lo, hs, hlo, hd, hh, ⟨h1, h2, h3⟩ => by
    by_cases h : x.1 = s
    · rw [relR, if_pos h]
      have h0 : seqD s x.1 = 0 := by rw [h, seqD_of hs hs]; omega
      rw [h0] at h2 h3
      have hn := seqN_of hs
      have hns : 0 ≤ seqN s ∧ seqN s ≤ 4095 := seqN_bd s
      have hdn : seqD s (seqN s) = 1 := by rw [seqD_of hs hns, hn]; omega
      have hdq : seqD (seqN s) q = seqD s q - 1 := by
        have h5 := seqD_of hs hq
        rw [seqD_of hns hq, hn, h5]
        rw [h5] at hd
        omega
      have h6 := inc_shift hs hns hdn (by omega) xs 0 (by omega) (by omega) h3
      exact rel_ins q b hq xs (seqN s) _ (hi - 1) (0 - 1) hns (by omega) (by omega) (by omega) h6
    · have : relR s (x :: xs) bs = (s, x :: xs, bs) := by rw [relR, if_neg h]
      rw [this]
      exact (ins_end s q b hi hd (x :: xs) lo ⟨h1, h2, h3⟩).1
theorem mov_inc (st d hi : Int) : ∀ (ys : List NF) (bs : List (List Int)) (lo : Int), Inc st hi lo ys → Inc st hi (d - 1) (movR st d ys bs).1
  | [], bs, lo, _ => trivial
  | x :: xs, bs, lo, ⟨h1, h2, h3⟩ => by
    unfold movR
    split
    · exact mov_inc st d hi xs _ _ h3
    · exact ⟨by omega, h2, h3⟩
theorem rcv_eq (st q : Int) (body : List Int) (ys : List NF) : rcvI st q body ys = rcvS st q body ys := by
  unfold rcvI rcvS
  by_cases hv : vROB st ys = true ∧ inR (seqD st q) 0 2047 = true ∧ body.length ≤ 100
  · rw [if_pos hv]
    have hch : inR st 0 4095 = true ∧ vChain st 0 ys = true := by have := hv.1; unfold vROB at this; simpa using this
    have hinc := inc_of_chain st ys 0 hch.2
    have hd := inR_true hv.2.1
    have hpos := seqD_pos hd.1
    by_cases h16 : 16 ≤ seqD st q
    · have hp : pendB ys q = false := pend_none st q 15 ys 0 hinc (.inr (by omega))
      rw [if_pos ⟨hv.1, hv.2.1, hv.2.2, hp⟩, if_pos h16, if_pos h16]
      obtain ⟨s, hs⟩ : ∃ s, s = (q - 15) % 4096 := ⟨_, rfl⟩
      have hsr : 0 ≤ s ∧ s ≤ 4095 := by omega
      have hst : 0 ≤ st ∧ st ≤ 4095 := ⟨hpos.1, hpos.2.1⟩
      have hqr : 0 ≤ q ∧ q ≤ 4095 := ⟨hpos.2.2.1, hpos.2.2.2.1⟩
      have hd' : seqD st s = seqD st q - 15 := by rw [seqD_of hst hsr, seqD_of hst hqr]; rw [seqD_of hst hqr] at h16; omega
      have hsq : seqD s q = 15 := by rw [seqD_of hsr hqr]; omega
      rw [← hs]
      have hmv : moveR st s ys = relR s (movR st (seqD st s) ys []).1 (movR st (seqD st s) ys []).2 := by
        unfold moveR
        rw [if_pos ⟨hv.1, inR_of (by omega)⟩]
      have hm := mov_inc st (seqD st s) 15 ys [] 0 hinc
      have hm2 := inc_shift hst hsr rfl (by omega) _ _ (by omega) (by omega) hm
      have e1 := (ins_end s q body _ (by omega) _ _ hm2).2
      have e2 := rel_ins q body hqr (movR st (seqD st s) ys []).1 s (movR st (seqD st s) ys []).2 (15 - seqD st s) (seqD st s - 1 - seqD st s) hsr (by omega) (by omega) (by omega) hm2
      rw [hmv, e1, e2]
      exact (relR_append _ _ _ _).symm
    · have e := insS_pend st q body 15 hd.1 ys 0 (by omega) hinc
      simp only [if_neg h16]
      rw [e]
      cases hp : pendB ys q
      · rw [if_pos ⟨hv.1, hv.2.1, hv.2.2, rfl⟩]
        simp
      · rw [if_neg (fun h => by simp at h)]
        simp
  · rw [if_neg hv, if_neg (fun h => hv ⟨h.1, h.2.1, h.2.2.1⟩)]

end Go.Proofs.Ytnfgdgmmbddmgaa
