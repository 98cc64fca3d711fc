/- FnReorderBuffers: the plain laws: a frame that has arrived twice, what is valid stays valid, moving the start. -/
import Derived.Test.YtnfgdgmmbddmgaaRrcP
import Derived.Test.YtnfgdgmmbddmgaaRsum
import Derived.Test.YtnfgdgmmbddmgaaRbak
import Derived.Test.YtnfgdgmmbddmgaaRmisP
namespace Go.Proofs.Ytnfgdgmmbddmgaa
open Go.RowKit
set_option linter.unusedVariables false
set_option linter.unusedSimpArgs false

theorem chain_of_inc (st : Int) : ∀ (ys : List NF) (b : Int), Inc st 15 b ys → (∀ x ∈ ys, x.2.length ≤ 100) → vChain st b ys = true
  | [], _, _, _ => rfl
  | x :: xs, b, ⟨h1, h2, h3⟩, hl => by
    have ih := chain_of_inc st xs _ h3 (fun y hy => hl y (List.mem_cons_of_mem _ hy))
    have := hl x (by simp)
    unfold vChain
    rw [ih, inR_of (by omega)]
    simp [this]
theorem chain_len (st : Int) : ∀ (ys : List NF) (b : Int), vChain st b ys = true → ∀ x ∈ ys, x.2.length ≤ 100
  | [], _, _, x, hx => by cases hx
  | y :: ys, b, h, x, hx => by
    simp only [vChain, Bool.and_eq_true, decide_eq_true_eq] at h
    rcases List.mem_cons.1 hx with rfl | hx
    · exact h.1.1
    · exact chain_len st ys _ h.2 x hx
theorem valid_inc {st : Int} {ys : List NF} (h : vROB st ys = true) : (0 ≤ st ∧ st ≤ 4095) ∧ Inc st 15 0 ys ∧ ∀ x ∈ ys, x.2.length ≤ 100 := by
  unfold vROB at h
  rw [Bool.and_eq_true] at h
  exact ⟨inR_true h.1, inc_of_chain st ys 0 h.2, chain_len st ys 0 h.2⟩
theorem inc_valid {st : Int} {ys : List NF} (h0 : 0 ≤ st ∧ st ≤ 4095) (h1 : Inc st 15 0 ys) (h2 : ∀ x ∈ ys, x.2.length ≤ 100) : vROB st ys = true := by
  unfold vROB
  rw [inR_of h0, chain_of_inc st ys 0 h1 h2]
  rfl
theorem Inc.weak {st hi hi' : Int} (hh : hi ≤ hi') : ∀ {ys : List NF} {lo : Int}, Inc st hi lo ys → Inc st hi' lo ys
  | [], _, _ => trivial
  | x :: xs, lo, ⟨h1, h2, h3⟩ => ⟨h1, by omega, Inc.weak hh h3⟩
theorem Inc.low {st hi : Int} {ys : List NF} {lo lo' : Int} (h : Inc st hi lo ys) (hl : lo' ≤ lo) : Inc st hi lo' ys := by
  cases ys with
  | nil => trivial
  | cons x xs => exact ⟨by have := h.1; omega, h.2⟩
theorem Inc.len {st hi : Int} : ∀ {ys : List NF} {lo : Int}, Inc st hi lo ys → lo ≤ hi → (ys.length : Int) ≤ hi - lo
  | [], lo, _, h => by simp; omega
  | x :: xs, lo, ⟨h1, h2, h3⟩, h => by
    have := Inc.len h3 h2
    simp only [List.length_cons]
    omega
theorem Inc.mem {st hi : Int} : ∀ {ys : List NF} {lo : Int}, Inc st hi lo ys → ∀ x ∈ ys, lo < seqD st x.1 ∧ seqD st x.1 ≤ hi
  | [], _, _, x, hx => by cases hx
  | y :: ys, lo, ⟨h1, h2, h3⟩, x, hx => by
    rcases List.mem_cons.1 hx with rfl | hx
    · exact ⟨h1, h2⟩
    · have := Inc.mem h3 x hx; omega
/- what stands at the start is delivered: the rest is ahead of the new start, what is delivered lies behind it -/
theorem rel_inc : ∀ (ys : List NF) (s : Int) (bs : List (List Int)) (hi : Int), 0 ≤ s ∧ s ≤ 4095 → hi ≤ 15 → -1 ≤ hi → Inc s hi (-1) ys →
    (0 ≤ (relR s ys bs).1 ∧ (relR s ys bs).1 ≤ 4095) ∧ Inc (relR s ys bs).1 hi 0 (relR s ys bs).2.1 ∧ (∀ x ∈ (relR s ys bs).2.1, x ∈ ys) ∧ ∃ c : Int, 0 ≤ c ∧ c ≤ hi + 1 ∧ (relR s ys bs).1 = (s + c) % 4096 ∧ ∀ x ∈ ys, x ∈ (relR s ys bs).2.1 ∨ seqD s x.1 < c
  | [], s, bs, hi, hs, hh, hl, _ => ⟨hs, trivial, fun x hx => hx, 0, by omega, by omega, by show s = (s + 0) % 4096; omega, fun x hx => by cases hx⟩
  | x :: xs, s, bs, hi, hs, hh, hl, ⟨h1, h2, h3⟩ => by
    by_cases h : x.1 = s
    · have h0 : seqD s x.1 = 0 := by rw [h, seqD_of hs hs]; omega
      rw [h0] at h2 h3
      have hn := seqN_of hs
      have hns : 0 ≤ seqN s ∧ seqN s ≤ 4095 := seqN_bd s
      have hdn : seqD s (seqN s) = 1 := by rw [seqD_of hs hns, hn]; omega
      have h6 := inc_shift hs hns hdn (by omega) xs 0 (by omega) (by omega) h3
      obtain ⟨e1, e2, e3, c, c0, c1, c2, c3⟩ := rel_inc xs (seqN s) (bs ++ [x.2]) (hi - 1) hns (by omega) (by omega) h6
      have hr : relR s (x :: xs) bs = relR (seqN s) xs (bs ++ [x.2]) := by rw [relR, if_pos h]
      rw [hr]
      refine ⟨e1, e2.weak (by omega), fun y hy => List.mem_cons_of_mem _ (e3 y hy), c + 1, by omega, by omega, by rw [c2, hn]; omega, fun y hy => ?_⟩
      rcases List.mem_cons.1 hy with rfl | hy
      · right; omega
      · rcases c3 y hy with h9 | h9
        · exact .inl h9
        · right
          have hm := h3.mem y hy
          have hp := seqD_pos (show 0 ≤ seqD s y.1 by omega)
          have hy' : seqD (seqN s) y.1 = seqD s y.1 - 1 := by
            have h5 := seqD_of hs ⟨hp.2.2.1, hp.2.2.2.1⟩
            rw [seqD_of hns ⟨hp.2.2.1, hp.2.2.2.1⟩, hn, h5]
            rw [h5] at hm
            omega
          omega
    · have hr : relR s (x :: xs) bs = (s, x :: xs, bs) := by rw [relR, if_neg h]
      rw [hr]
      have hd : 0 < seqD s x.1 := by
        rcases Int.lt_or_le 0 (seqD s x.1) with h9 | h9
        · exact h9
        · have hz : seqD s x.1 = seqD s s := by rw [seqD_of hs hs]; omega
          exact absurd (seqD_inj hz (by omega)) h
      exact ⟨hs, ⟨hd, h2, h3⟩, fun y hy => hy, 0, by omega, by omega, by show s = (s + 0) % 4096; omega, fun y hy => .inl hy⟩
theorem inc_snoc {s hi hi' : Int} {f : NF} (hf : hi < seqD s f.1) (hf2 : seqD s f.1 ≤ hi') : ∀ (ys : List NF) (lo : Int), lo < seqD s f.1 → Inc s hi lo ys → Inc s hi' lo (ys ++ [f])
  | [], lo, h, _ => ⟨h, hf2, trivial⟩
  | x :: xs, lo, h, ⟨h1, h2, h3⟩ => ⟨h1, by omega, inc_snoc hf hf2 xs _ (by omega) h3⟩
theorem insI_mem (st : Int) (f x : NF) : ∀ ys, x ∈ insI st f ys ↔ x = f ∨ x ∈ ys
  | [] => by simp [insI]
  | y :: ys => by
    unfold insI
    split
    · simp
    · have := insI_mem st f x ys
      simp only [List.mem_cons, this]
      constructor
      · rintro (h | h | h)
        · exact .inr (.inl h)
        · exact .inl h
        · exact .inr (.inr h)
      · rintro (h | h | h)
        · exact .inr (.inl h)
        · exact .inl h
        · exact .inr (.inr h)
theorem insI_inc {st hi : Int} {f : NF} (hf : seqD st f.1 ≤ hi) : ∀ (ys : List NF) (lo : Int), lo < seqD st f.1 → Inc st hi lo ys → (∀ x ∈ ys, seqD st x.1 ≠ seqD st f.1) → Inc st hi lo (insI st f ys)
  | [], lo, h, _, _ => ⟨h, hf, trivial⟩
  | x :: xs, lo, h, ⟨h1, h2, h3⟩, hne => by
    have := hne x (by simp)
    unfold insI
    split
    · exact ⟨h, hf, by omega, h2, h3⟩
    · exact ⟨h1, h2, insI_inc hf xs _ (by omega) h3 (fun y hy => hne y (List.mem_cons_of_mem _ hy))⟩

theorem movR_mem (st d : Int) : ∀ (ys : List NF) (bs : List (List Int)), ∀ x ∈ (movR st d ys bs).1, x ∈ ys
  | [], _, x, hx => by cases hx
  | y :: ys, bs, x, hx => by
    unfold movR at hx
    split at hx
    · exact List.mem_cons_of_mem _ (movR_mem st d ys _ x hx)
    · exact hx
theorem movR_all (st d : Int) : ∀ (ys : List NF) (bs : List (List Int)), (∀ x ∈ ys, seqD st x.1 < d) → movR st d ys bs = ([], bs ++ ys.map Prod.snd)
  | [], bs, _ => by simp [movR]
  | y :: ys, bs, h => by
    unfold movR
    rw [if_pos (h y (by simp)), movR_all st d ys _ (fun x hx => h x (List.mem_cons_of_mem _ hx))]
    simp
/- a frame that is taken in -/
def rcvOk (st q : Int) (body : List Int) (ys : List NF) : Prop := vROB st ys = true ∧ inR (seqD st q) 0 2047 = true ∧ body.length ≤ 100 ∧ pendB ys q = false
theorem rcv_not {st q : Int} {body : List Int} {ys : List NF} (h : ¬ rcvOk st q body ys) : rcvI st q body ys = (st, ys, []) := by
  unfold rcvI; exact if_neg h
theorem rcv_norm {st q : Int} {body : List Int} {ys : List NF} (h : rcvOk st q body ys) : ∃ s zs bs, rcvI st q body ys = relR s zs bs ∧ (0 ≤ s ∧ s ≤ 4095) ∧ Inc s 15 (-1) zs ∧ (∀ x ∈ zs, x.2.length ≤ 100) ∧ (q, body) ∈ zs ∧ bs.length + zs.length = ys.length + 1 := by
  obtain ⟨h1, h2, h3, h4⟩ := h
  obtain ⟨v1, v2, v3⟩ := valid_inc h1
  have hd := inR_true h2
  have hq := seqD_pos hd.1
  by_cases h16 : 16 ≤ seqD st q
  · have hsr : 0 ≤ (q - 15) % 4096 ∧ (q - 15) % 4096 ≤ 4095 := by omega
    obtain ⟨s, hs⟩ : ∃ s, s = (q - 15) % 4096 := ⟨_, rfl⟩
    rw [← hs] at hsr
    have hqr : 0 ≤ q ∧ q ≤ 4095 := ⟨hq.2.2.1, hq.2.2.2.1⟩
    have hd' : seqD st s = seqD st q - 15 := by rw [seqD_of v1 hsr, seqD_of v1 hqr]; rw [seqD_of v1 hqr] at h16; omega
    have hsq : seqD s q = 15 := by rw [seqD_of hsr hqr]; omega
    have hm := mov_inc st (seqD st s) 15 ys [] 0 v2
    have hm2 := inc_shift v1 hsr rfl (by omega) _ _ (by omega) (by omega) hm
    have e1 := (ins_end s q body _ (by omega) _ _ hm2).2
    refine ⟨s, (movR st (seqD st s) ys []).1 ++ [(q, body)], (movR st (seqD st s) ys []).2, ?_, hsr, ?_, ?_, by simp, ?_⟩
    · rw [rcv_eq]
      unfold rcvS
      rw [if_pos ⟨h1, h2, h3⟩, if_pos h16, ← hs, e1]
    · refine (inc_snoc (hi := 14) (by simp only; omega) (by simp only; omega) _ _ (by simp only; omega) ((hm2.weak (by omega)).low (by omega)))
    · intro x hx
      rcases List.mem_append.1 hx with hx | hx
      · exact v3 x (movR_mem _ _ _ _ x hx)
      · rw [List.mem_singleton.1 hx]; exact h3
    · have := movR_len st (seqD st s) ys []
      simp at this ⊢
      omega
  · refine ⟨st, insI st (q, body) ys, [], ?_, v1, insI_inc (by simp only; omega) ys (-1) (by simp only; omega) (v2.low (by omega)) (fun x hx he => ?_), fun x hx => ?_, (insI_mem _ _ _ _).2 (.inl rfl), by rw [insI_len]; simp⟩
    · unfold rcvI
      rw [if_pos ⟨h1, h2, h3, h4⟩, if_neg h16]
    · have := seqD_inj he (by have := v2.mem x hx; omega)
      simp only at this
      unfold pendB at h4
      rw [List.any_eq_false] at h4
      exact h4 x hx (by simp [this])
    · rcases (insI_mem _ _ _ _).1 hx with rfl | hx
      · exact h3
      · exact v3 x hx
/- what it leaves is valid, no more than sixteen are delivered, and the same frame changes nothing a second time -/
theorem rcv_valid {st q : Int} {body : List Int} {ys : List NF} (hv : vROB st ys = true) : vROB (rcvI st q body ys).1 (rcvI st q body ys).2.1 = true ∧ (rcvI st q body ys).2.2.length ≤ 16 ∧ rcvI (rcvI st q body ys).1 q body (rcvI st q body ys).2.1 = ((rcvI st q body ys).1, (rcvI st q body ys).2.1, []) := by
  by_cases h : rcvOk st q body ys
  · obtain ⟨s, zs, bs, e1, e2, e3, e4, e5, e6⟩ := rcv_norm h
    obtain ⟨r1, r2, r3, c, c0, c1, c2, c3⟩ := rel_inc zs s bs 15 e2 (by omega) (by omega) e3
    have hlen := (relR_sum zs s bs).2
    have hyl := (valid_inc hv).2.1.len (by omega)
    rw [e1]
    refine ⟨inc_valid r1 r2 (fun x hx => e4 x (r3 x hx)), by omega, rcv_not (fun hk => ?_)⟩
    have hm := e3.mem _ e5
    simp only at hm
    have hp := seqD_pos (show 0 ≤ seqD s q by omega)
    rcases c3 _ e5 with h9 | h9
    · have := hk.2.2.2
      unfold pendB at this
      rw [List.any_eq_false] at this
      exact this _ h9 (by simp)
    · have h8 := inR_true hk.2.1
      simp only at h9
      have h5 := seqD_of e2 ⟨hp.2.2.1, hp.2.2.2.1⟩
      rw [seqD_of r1 ⟨hp.2.2.1, hp.2.2.2.1⟩, c2] at h8
      rw [h5] at h9 hm
      omega
  · rw [rcv_not h]
    exact ⟨hv, by simp, rcv_not h⟩
theorem rcv_bad {st q : Int} {body : List Int} {ys : List NF} (hv : vROB st ys = false) : rcvI st q body ys = (st, ys, []) := rcv_not (fun h => by have := h.1; rw [hv] at this; cases this)
/- moving the start by the window delivers all that is pending -/
theorem move_all {st : Int} {ys : List NF} (hv : vROB st ys = true) : moveR st ((st + 16) % 4096) ys = ((st + 16) % 4096, [], ys.map Prod.snd) ∧ seqD st ((st + 16) % 4096) = 16 := by
  obtain ⟨v1, v2, v3⟩ := valid_inc hv
  have hd : seqD st ((st + 16) % 4096) = 16 := by rw [seqD_of v1 (by omega)]; omega
  refine ⟨?_, hd⟩
  unfold moveR
  rw [hd, if_pos ⟨hv, rfl⟩, movR_all st 16 ys [] (fun x hx => by have := v2.mem x hx; omega)]
  simp [relR]

theorem bitsN_bitq (st : Int) (i : Nat) : ∀ (xs : List NF) (m : Nat), (xs.foldl (fun m x => m ||| 2 ^ (seqD st x.1).toNat) m).testBit i = true ↔ m.testBit i = true ∨ ∃ x ∈ xs, (seqD st x.1).toNat = i
  | [], m => by simp
  | x :: xs, m => by
    rw [List.foldl_cons, bitsN_bitq st i xs]
    simp only [Nat.testBit_or, Nat.testBit_two_pow, Bool.or_eq_true, decide_eq_true_eq, List.mem_cons, or_assoc]
    constructor
    · rintro (h | h | ⟨y, hy, he⟩)
      · exact .inl h
      · exact .inr ⟨x, .inl rfl, h⟩
      · exact .inr ⟨y, .inr hy, he⟩
    · rintro (h | ⟨y, rfl | hy, he⟩)
      · exact .inl h
      · exact .inr (.inl he)
      · exact .inr (.inr ⟨y, hy, he⟩)
/- the missing numbers -/
theorem miss_law {st : Int} {ys : List NF} (hv : vROB st ys = true) : (∀ x ∈ missB st ys, 0 ≤ seqD st x ∧ seqD st x ≤ 15 ∧ (bitsN st ys).testBit (seqD st x).toNat = false) ∧ (ys ≠ [] → ∃ r, missB st ys = st :: r) := by
  obtain ⟨v1, v2, v3⟩ := valid_inc hv
  have hsd : ∀ k : Nat, k ≤ 100 → seqD st (sqn st k) = (k : Int) := fun k hk => by
    rw [seqD_of v1 (sqn_bd st k)]; unfold sqn; omega
  by_cases hn : ys = []
  · subst hn
    refine ⟨fun x hx => ?_, fun h => absurd rfl h⟩
    unfold missB at hx
    rw [if_neg (fun h => h.2 rfl)] at hx
    cases hx
  · have hm : missB st ys = missK st ys (dst st ys (ys.length - 1)) := by unfold missB; rw [if_pos ⟨hv, hn⟩]
    have hlt : ys.length - 1 < ys.length := by have := List.length_pos_iff.2 hn; omega
    have hlast : 1 ≤ dst st ys (ys.length - 1) ∧ dst st ys (ys.length - 1) ≤ 15 := by
      have hx := v2.mem _ (List.getElem_mem hlt)
      unfold dst
      rw [List.getD_eq_getElem?_getD, List.getElem?_eq_getElem hlt, Option.getD_some]
      omega
    obtain ⟨K, hK⟩ : ∃ K, K = dst st ys (ys.length - 1) := ⟨_, rfl⟩
    rw [← hK] at hm hlast
    rw [hm]
    constructor
    · intro x hx
      unfold missK at hx
      obtain ⟨k, hk, rfl⟩ := List.mem_map.1 hx
      rw [List.mem_filter, List.mem_range] at hk
      have e := hsd k (by omega)
      rw [e]
      refine ⟨by omega, by omega, ?_⟩
      rw [Int.toNat_natCast]
      cases hb : (bitsN st ys).testBit k with
      | false => rfl
      | true =>
        unfold bitsN at hb
        rw [bitsN_bitq] at hb
        rcases hb with hb | ⟨x, hx, he⟩
        · simp at hb
        · have h9 := v2.mem x hx
          have hxe : x.1 = sqn st k := seqD_inj (by rw [e]; omega) (by omega)
          have hp : pendB ys (sqn st k) = true := by
            unfold pendB
            rw [List.any_eq_true]
            exact ⟨x, hx, by simp [hxe]⟩
          rw [hp] at hk
          simp at hk
    · intro _
      have h0 : sqn st 0 = st := by unfold sqn; omega
      have hp : pendB ys (sqn st 0) = false := by
        unfold pendB
        rw [List.any_eq_false]
        intro x hx he
        have h9 := v2.mem x hx
        have hxe : x.1 = st := by rw [h0] at he; simpa using he
        rw [hxe, seqD_of v1 v1] at h9
        omega
      obtain ⟨m, rfl⟩ : ∃ m, K = m + 1 := ⟨K - 1, by omega⟩
      refine ⟨(((List.range m).map Nat.succ).filter fun i => !pendB ys (sqn st i)).map (sqn st), ?_⟩
      unfold missK
      rw [List.range_succ_eq_map, List.filter_cons, hp]
      simp [h0]

end Go.Proofs.Ytnfgdgmmbddmgaa
