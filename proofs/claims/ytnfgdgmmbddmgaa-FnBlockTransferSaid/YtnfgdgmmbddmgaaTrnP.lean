/- FnBlockTransfer: the plain law of the sender's and the receiver's numbers. -/
import Derived.Test.YtnfgdgmmbddmgaaSendEx
import Derived.Test.YtnfgdgmmbddmgaaRbak
import Derived.Test.YtnfgdgmmbddmgaaRrcP
namespace Go.Proofs.Ytnfgdgmmbddmgaa
open Go.RowKit
set_option linter.unusedVariables false
set_option linter.unusedSimpArgs false

def sq (f : Int) (i : Nat) : Int := (f + (i : Int)) % 4096
theorem sq_bd (f : Int) (i : Nat) : 0 ≤ sq f i ∧ sq f i ≤ 4095 := by unfold sq; omega
theorem sq_le (f : Int) {i j : Nat} (h : i ≤ j) (hj : j ≤ 100) : seqD (sq f i) (sq f j) = (j : Int) - i := by
  rw [seqD_of (sq_bd f i) (sq_bd f j)]; unfold sq; omega
theorem sq_gt (f : Int) {i j : Nat} (h : j < i) (hi : i ≤ 100) : seqD (sq f i) (sq f j) = 4096 + (j : Int) - i := by
  rw [seqD_of (sq_bd f i) (sq_bd f j)]; unfold sq; omega
theorem sq_next (f : Int) (i : Nat) : seqN (sq f i) = sq f (i + 1) := by
  rw [seqN_of (sq_bd f i)]; unfold sq; omega
theorem sq_inj (f : Int) {i j : Nat} (hi : i ≤ 100) (hj : j ≤ 100) : sq f i = sq f j ↔ i = j := by
  unfold sq; omega
theorem sq_add (f : Int) (a i : Nat) : (sq f a + (i : Int)) % 4096 = sq f (a + i) := by unfold sq; omega

def can (f : Int) (ps : List Nat) : List NF := ps.map fun p => (sq f p, [(p : Int)])
def Srt (hi : Nat) : Nat → List Nat → Prop
  | _, [] => True
  | lo, p :: ps => lo ≤ p ∧ p < hi ∧ Srt hi (p + 1) ps
theorem Srt.mem {hi : Nat} : ∀ {ps : List Nat} {lo : Nat}, Srt hi lo ps → ∀ p ∈ ps, lo ≤ p ∧ p < hi
  | [], _, _, p, hp => by cases hp
  | q :: qs, lo, ⟨h1, h2, h3⟩, p, hp => by
    rcases List.mem_cons.1 hp with rfl | hp
    · exact ⟨h1, h2⟩
    · have := Srt.mem h3 p hp; omega
theorem Srt.lo {hi : Nat} {ps : List Nat} {lo lo' : Nat} (h : Srt hi lo ps) (hl : lo' ≤ lo) : Srt hi lo' ps := by
  cases ps with
  | nil => trivial
  | cons p ps => exact ⟨by have := h.1; omega, h.2⟩
theorem Srt.hi_ {hi hi' : Nat} (hh : hi ≤ hi') : ∀ {ps : List Nat} {lo : Nat}, Srt hi lo ps → Srt hi' lo ps
  | [], _, _ => trivial
  | q :: qs, lo, ⟨h1, h2, h3⟩ => ⟨h1, by omega, Srt.hi_ hh h3⟩
theorem can_chain (f : Int) (rr hi : Nat) (hn : hi ≤ rr + 16) (hh : hi ≤ 60) : ∀ (ps : List Nat) (lo : Nat), rr + 1 ≤ lo → Srt hi lo ps → vChain (sq f rr) ((lo : Int) - 1 - rr) (can f ps) = true
  | [], _, _, _ => rfl
  | p :: ps, lo, hl, ⟨h1, h2, h3⟩ => by
    have ih := can_chain f rr hi hn hh ps (p + 1) (by omega) h3
    show (decide ([(p : Int)].length ≤ 100) && inR (seqD (sq f rr) (sq f p)) ((lo : Int) - 1 - rr + 1) 15 && vChain (sq f rr) (seqD (sq f rr) (sq f p)) (can f ps)) = true
    rw [sq_le f (by omega) (by omega)]
    rw [show (((p + 1 : Nat) : Int) - 1 - rr) = (p : Int) - rr by omega] at ih
    rw [ih, inR_of (by omega)]
    rfl
theorem can_valid (f : Int) {rr hi : Nat} {ps : List Nat} (hn : hi ≤ rr + 16) (hh : hi ≤ 60) (h : Srt hi (rr + 1) ps) : vROB (sq f rr) (can f ps) = true := by
  have := can_chain f rr hi hn hh ps (rr + 1) (by omega) h
  rw [show (((rr + 1 : Nat) : Int) - 1 - rr) = 0 by omega] at this
  unfold vROB
  rw [this, inR_of (sq_bd f rr)]
  rfl
theorem can_mem {f : Int} {ps : List Nat} {x : NF} (h : x ∈ can f ps) : ∃ p ∈ ps, x = (sq f p, [(p : Int)]) := by
  obtain ⟨p, hp, rfl⟩ := List.mem_map.1 h
  exact ⟨p, hp, rfl⟩
theorem can_len (f : Int) (ps : List Nat) : (can f ps).length = ps.length := by simp [can]
theorem Srt.len {hi : Nat} : ∀ {ps : List Nat} {lo : Nat}, Srt hi lo ps → ps.length + lo ≤ hi ∨ ps = []
  | [], _, _ => .inr rfl
  | q :: qs, lo, ⟨h1, h2, h3⟩ => by
    left
    rcases Srt.len h3 with h | h
    · simp; omega
    · subst h; simp; omega

def insN (j : Nat) : List Nat → List Nat
  | [] => [j]
  | p :: ps => if j < p then j :: p :: ps else p :: insN j ps
theorem insN_mem (j x : Nat) : ∀ ps, x ∈ insN j ps ↔ x = j ∨ x ∈ ps
  | [] => by simp [insN]
  | p :: ps => by
    unfold insN
    split
    · simp
    · have := insN_mem j x ps
      simp [this]
      constructor
      · rintro (h | h | h)
        · exact .inr (.inl h)
        · exact .inl h
        · exact .inr (.inr h)
      · rintro (h | h | h)
        · exact .inr (.inl h)
        · exact .inl h
        · exact .inr (.inr h)
theorem insN_srt (hi j : Nat) (hj : j < hi) : ∀ (ps : List Nat) (lo : Nat), Srt hi lo ps → lo ≤ j → j ∉ ps → Srt hi lo (insN j ps)
  | [], lo, _, hl, _ => ⟨hl, hj, trivial⟩
  | p :: ps, lo, ⟨h1, h2, h3⟩, hl, hm => by
    unfold insN
    split
    · exact ⟨hl, hj, by omega, h2, h3⟩
    · rename_i hlt
      have hne : j ≠ p := fun h => hm (by rw [h]; simp)
      exact ⟨h1, h2, insN_srt hi j hj ps (p + 1) h3 (by omega) (fun h => hm (List.mem_cons_of_mem _ h))⟩
theorem ins_can (f : Int) (rr j hi : Nat) (hj : rr ≤ j) (hj2 : j ≤ 60) (hh : hi ≤ 60) : ∀ (ps : List Nat) (lo : Nat), Srt hi lo ps → rr ≤ lo → insI (sq f rr) (sq f j, [(j : Int)]) (can f ps) = can f (insN j ps)
  | [], _, _, _ => rfl
  | p :: ps, lo, ⟨h1, h2, h3⟩, hl => by
    have ih := ins_can f rr j hi hj hj2 hh ps (p + 1) h3 (by omega)
    show (if seqD (sq f rr) (sq f j) < seqD (sq f rr) (sq f p) then (sq f j, [(j : Int)]) :: (sq f p, [(p : Int)]) :: can f ps else (sq f p, [(p : Int)]) :: insI (sq f rr) (sq f j, [(j : Int)]) (can f ps)) = _
    have e : insN j (p :: ps) = if j < p then j :: p :: ps else p :: insN j ps := rfl
    rw [sq_le f hj (by omega), sq_le f (show rr ≤ p by omega) (by omega), ih, e]
    by_cases h : j < p
    · rw [if_pos (by omega), if_pos h]; rfl
    · rw [if_neg (by omega), if_neg h]; rfl
theorem pend_can (f : Int) (j : Nat) (hj : j ≤ 60) {hi lo : Nat} (hh : hi ≤ 60) {ps : List Nat} (h : Srt hi lo ps) : pendB (can f ps) (sq f j) = decide (j ∈ ps) := by
  rw [Bool.eq_iff_iff, decide_eq_true_iff]
  unfold pendB
  rw [List.any_eq_true]
  constructor
  · rintro ⟨x, hx, he⟩
    obtain ⟨p, hp, rfl⟩ := can_mem hx
    have h1 := h.mem p hp
    simp only [beq_iff_eq] at he
    have := (sq_inj f (by omega) (by omega)).1 he
    subst this
    exact hp
  · intro hp
    exact ⟨(sq f j, [(j : Int)]), List.mem_map.2 ⟨j, hp, rfl⟩, by simp⟩
theorem rel_can (f : Int) (hi : Nat) (hh : hi ≤ 60) : ∀ (qs : List Nat) (rr : Nat) (bs : List (List Int)), rr ≤ 60 → Srt hi rr qs → ∃ r' qs', relR (sq f rr) (can f qs) bs = (sq f r', can f qs', bs ++ (List.range' rr (r' - rr)).map fun (i : Nat) => [(i : Int)]) ∧ rr ≤ r' ∧ Srt hi (r' + 1) qs' ∧ (∀ x, (x < r' ∨ x ∈ qs') ↔ (x < rr ∨ x ∈ qs)) ∧ (r' = rr ∨ r' ≤ hi)
  | [], rr, bs, _, _ => ⟨rr, [], by simp [can, relR], Nat.le_refl _, trivial, fun x => Iff.rfl, .inl rfl⟩
  | q :: qs, rr, bs, hr, ⟨h1, h2, h3⟩ => by
    by_cases hq : q = rr
    · subst hq
      obtain ⟨r', qs', e1, e2, e3, e4, e5⟩ := rel_can f hi hh qs (q + 1) (bs ++ [[(q : Int)]]) (by omega) h3
      refine ⟨r', qs', ?_, by omega, e3, fun x => ?_, ?_⟩
      · show (if sq f q = sq f q then relR (seqN (sq f q)) (can f qs) (bs ++ [[(q : Int)]]) else _) = _
        rw [if_pos rfl, sq_next, e1, show r' - q = (r' - (q + 1)) + 1 by omega, List.range'_succ]
        simp
      · rw [e4 x, List.mem_cons]
        constructor
        · rintro (h | h)
          · rcases Nat.lt_or_ge x q with h' | h'
            · exact .inl h'
            · right; left; omega
          · exact .inr (.inr h)
        · rintro (h | h | h)
          · left; omega
          · left; omega
          · exact .inr h
      · right; rcases e5 with h | h <;> omega
    · refine ⟨rr, q :: qs, ?_, Nat.le_refl _, ⟨by omega, h2, h3⟩, fun x => Iff.rfl, .inl rfl⟩
      show (if sq f q = sq f rr then _ else (sq f rr, (sq f q, [(q : Int)]) :: can f qs, bs)) = _
      rw [if_neg (fun h => hq ((sq_inj f (by omega) (by omega)).1 h))]
      simp [can]
/- one frame arrives -/
theorem rcv_can (f : Int) {rr n j : Nat} {ps : List Nat} (h : Srt n (rr + 1) ps) (hrn : rr ≤ n) (hn : n ≤ rr + 16) (hh : n ≤ 60) (hj : j < n) :
    ∃ r' qs, rcvI (sq f rr) (sq f j) [(j : Int)] (can f ps) = (sq f r', can f qs, (List.range' rr (r' - rr)).map fun (i : Nat) => [(i : Int)]) ∧ rr ≤ r' ∧ r' ≤ n ∧ Srt n (r' + 1) qs ∧ ∀ x, (x < r' ∨ x ∈ qs) ↔ (x < rr ∨ x ∈ ps ∨ x = j) := by
  unfold rcvI
  by_cases hlt : j < rr
  · rw [if_neg (fun hc => by have := inR_true hc.2.1; rw [sq_gt f hlt (by omega)] at this; omega)]
    exact ⟨rr, ps, by simp, Nat.le_refl _, hrn, h, fun x => by
      constructor
      · rintro (h | h)
        · exact .inl h
        · exact .inr (.inl h)
      · rintro (h | h | h)
        · exact .inl h
        · exact .inr h
        · left; omega⟩
  · by_cases hm : j ∈ ps
    · rw [if_neg (fun hc => by have := hc.2.2.2; rw [pend_can f j (by omega) hh h] at this; simp [hm] at this)]
      exact ⟨rr, ps, by simp, Nat.le_refl _, hrn, h, fun x => by
        constructor
        · rintro (h | h)
          · exact .inl h
          · exact .inr (.inl h)
        · rintro (h | h | h)
          · exact .inl h
          · exact .inr h
          · right; rw [h]; exact hm⟩
    · have hd := sq_le f (show rr ≤ j by omega) (show j ≤ 100 by omega)
      rw [if_pos ⟨can_valid f hn hh h, by rw [hd]; exact inR_of (by omega), by simp, by rw [pend_can f j (by omega) hh h]; simp [hm]⟩, hd, if_neg (by omega), ins_can f rr j n (by omega) (by omega) hh ps (rr + 1) h (by omega)]
      obtain ⟨r', qs', e1, e2, e3, e4, e5⟩ := rel_can f n hh (insN j ps) rr [] (by omega) (insN_srt n j hj ps rr (h.lo (by omega)) (by omega) hm)
      rw [e1]
      refine ⟨r', qs', by simp, e2, by rcases e5 with h | h <;> omega, e3, fun x => ?_⟩
      rw [e4 x, insN_mem]
      constructor
      · rintro (h | h | h)
        · exact .inl h
        · exact .inr (.inr h)
        · exact .inr (.inl h)
      · rintro (h | h | h)
        · exact .inl h
        · exact .inr (.inr h)
        · exact .inr (.inl h)

/- the sender -/
theorem vSend_can (f : Int) {a n A : Nat} (h1 : a ≤ n) (h2 : n ≤ a + 16) (hn : n ≤ 60) (hA : A < 2 ^ (n - a)) (h0 : A % 2 = 0) : vSend (sq f a) (sq f n) (A : Int) = true := by
  have hd := sq_le f h1 (show n ≤ 100 by omega)
  have hd2 : (n : Int) - a = ((n - a : Nat) : Int) := by omega
  have h5 : 1 ≤ 2 ^ (n - a) := Nat.one_le_two_pow
  have h4 : 2 ^ (n - a) ≤ 2 ^ 16 := Nat.pow_le_pow_right (by omega) (by omega)
  unfold vSend
  rw [hd, hd2, mask_eq _ (by omega), inR_of (by omega), inR_of (by omega), and_one A (by omega)]
  simp; omega
theorem outS_can (f : Int) {a n A : Nat} (h1 : a ≤ n) (h2 : n ≤ a + 16) (hn : n ≤ 60) (hA : A < 2 ^ (n - a)) (h0 : A % 2 = 0) : outS (sq f a) (sq f n) (A : Int) = ((List.range (n - a)).filter fun (i : Nat) => !A.testBit i).map fun (i : Nat) => sq f (a + i) := by
  unfold outS
  rw [if_pos (vSend_can f h1 h2 hn hA h0), sq_le f h1 (by omega)]
  rw [show ((n : Int) - a).toNat = n - a by omega, Int.toNat_natCast]
  unfold outL
  simp only [sq_add]
theorem outS_can_mem (f : Int) {a n A : Nat} (h1 : a ≤ n) (h2 : n ≤ a + 16) (hn : n ≤ 60) (hA : A < 2 ^ (n - a)) (h0 : A % 2 = 0) {x : Int} : x ∈ outS (sq f a) (sq f n) (A : Int) ↔ ∃ i, i < n - a ∧ A.testBit i = false ∧ x = sq f (a + i) := by
  rw [outS_can f h1 h2 hn hA h0]
  simp only [List.mem_map, List.mem_filter, List.mem_range]
  constructor
  · rintro ⟨i, ⟨h1, h2⟩, rfl⟩
    exact ⟨i, h1, by simpa using h2, rfl⟩
  · rintro ⟨i, h1, h2, rfl⟩
    exact ⟨i, ⟨h1, by simpa using h2⟩, rfl⟩
theorem bitsN_bit (st : Int) (i : Nat) : ∀ (xs : List NF) (m : Nat), (xs.foldl (fun m x => m ||| 2 ^ (seqD st x.1).toNat) m).testBit i = true ↔ m.testBit i = true ∨ ∃ x ∈ xs, (seqD st x.1).toNat = i
  | [], m => by simp
  | x :: xs, m => by
    rw [List.foldl_cons, bitsN_bit st i xs]
    simp only [Nat.testBit_or, Nat.testBit_two_pow, Bool.or_eq_true, decide_eq_true_eq, List.mem_cons, or_assoc]
    constructor
    · rintro (h | h | ⟨y, hy, he⟩)
      · exact .inl h
      · exact .inr ⟨x, .inl rfl, h⟩
      · exact .inr ⟨y, .inr hy, he⟩
    · rintro (h | ⟨y, rfl | hy, he⟩)
      · exact .inl h
      · exact .inr (.inl he)
      · exact .inr (.inr ⟨y, hy, he⟩)
theorem bits_can (f : Int) {rr n : Nat} {ps : List Nat} (h : Srt n (rr + 1) ps) (hh : n ≤ 60) (i : Nat) : (bitsN (sq f rr) (can f ps)).testBit i = true ↔ rr + i ∈ ps := by
  unfold bitsN
  rw [bitsN_bit]
  simp only [Nat.zero_testBit, Bool.false_eq_true, false_or]
  constructor
  · rintro ⟨x, hx, he⟩
    obtain ⟨p, hp, rfl⟩ := can_mem hx
    have hb := h.mem p hp
    simp only at he
    rw [sq_le f (by omega) (by omega)] at he
    rw [show rr + i = p by omega]
    exact hp
  · intro hp
    have hb := h.mem _ hp
    refine ⟨(sq f (rr + i), [((rr + i : Nat) : Int)]), List.mem_map.2 ⟨rr + i, hp, rfl⟩, ?_⟩
    simp only
    rw [sq_le f (by omega) (by omega)]
    omega
theorem accU_bit (st bs : Int) (M i : Nat) : ∀ (l : List Int) (A : Nat), (accU st bs M l A).testBit i = true ↔ A.testBit i = true ∨ ∃ x ∈ l, ackB bs M x = true ∧ (seqD st x).toNat = i
  | [], A => by simp [accU]
  | x :: l, A => by
    have ih := accU_bit st bs M i l (if ackB bs M x then A ||| 2 ^ (seqD st x).toNat else A)
    unfold accU at ih ⊢
    rw [List.foldl_cons, ih]
    constructor
    · rintro (h | ⟨y, hy, h⟩)
      · split at h
        · rename_i hk
          rw [Nat.testBit_or, Bool.or_eq_true, Nat.testBit_two_pow, decide_eq_true_eq] at h
          rcases h with h | h
          · exact .inl h
          · exact .inr ⟨x, by simp, hk, h⟩
        · exact .inl h
      · exact .inr ⟨y, List.mem_cons_of_mem _ hy, h⟩
    · rintro (h | ⟨y, hy, hk, he⟩)
      · left; split
        · rw [Nat.testBit_or, h]; rfl
        · exact h
      · rcases List.mem_cons.1 hy with rfl | hy
        · left; rw [if_pos hk, Nat.testBit_or, Nat.testBit_two_pow]; simp [he]
        · exact .inr ⟨y, hy, hk, he⟩
theorem adv_can (f : Int) : ∀ (k fuel a A : Nat), (∀ i, i < k → A.testBit i = true) → A.testBit k = false → k ≤ fuel → adv fuel (sq f a) A = (sq f (a + k), A >>> k)
  | 0, fuel, a, A, _, h, _ => by
    have h0 : ¬ A % 2 = 1 := by
      intro h1
      rw [Nat.testBit_zero] at h
      simp [h1] at h
    cases fuel with
    | zero => rfl
    | succ fl => unfold adv; rw [if_neg h0]; rfl
  | k + 1, 0, a, A, _, _, hf => by omega
  | k + 1, fuel + 1, a, A, h, h', hf => by
    have h1 : A % 2 = 1 := by
      have := h 0 (by omega)
      rw [Nat.testBit_zero] at this
      simpa using this
    have e : ∀ i, (A / 2).testBit i = A.testBit (i + 1) := fun i => by rw [Nat.testBit_succ]
    unfold adv
    rw [if_pos h1, sq_next, adv_can f k fuel (a + 1) (A / 2) (fun i hi => by rw [e]; exact h _ (by omega)) (by rw [e]; exact h') (by omega)]
    rw [show a + 1 + k = a + (k + 1) by omega]
    congr 1
    rw [Nat.shiftRight_eq_div_pow, Nat.shiftRight_eq_div_pow, Nat.div_div_eq_div_mul, Nat.pow_succ, Nat.mul_comm]
/- an acknowledgment arrives -/
theorem ack_can (f : Int) {a rr n A : Nat} {ps : List Nat} (har : a ≤ rr) (hrn : rr ≤ n) (hna : n ≤ a + 16) (hh : n ≤ 60) (h : Srt n (rr + 1) ps) (hA : A < 2 ^ (n - a)) (h0 : A % 2 = 0) (hrec : ∀ i, A.testBit i = true → a + i < rr ∨ a + i ∈ ps) :
    ∃ A' : Nat, recvA (sq f a) (sq f n) (A : Int) (bakS (sq f rr) (can f ps)) (bakB (sq f rr) (can f ps)) = (sq f rr, (A' : Int)) ∧ A' < 2 ^ (n - rr) ∧ A' % 2 = 0 ∧ ∀ i, A'.testBit i = true → rr + i ∈ ps := by
  have hv := can_valid f (show n ≤ rr + 16 by omega) hh h
  have hvm := vROB_mem hv
  have hM := bitsN_lt (sq f rr) (can f ps) hvm.2
  obtain ⟨M, hMe⟩ : ∃ M, M = bitsN (sq f rr) (can f ps) := ⟨_, rfl⟩
  have hs := vSend_can f (show a ≤ n by omega) hna hh hA h0
  have hok : okRecv (sq f a) (sq f n) (A : Int) (bakS (sq f rr) (can f ps)) (bakB (sq f rr) (can f ps)) = true := by
    unfold okRecv vAck bakS bakB
    rw [hs, if_pos hv, if_pos hv, sq_le f hrn (by omega), inR_of (sq_bd f rr), inR_of (by omega), inR_of (by omega)]
    rfl
  obtain ⟨B, hB⟩ : ∃ B, B = accU (sq f a) (sq f rr) M (outS (sq f a) (sq f n) (A : Int)) A := ⟨_, rfl⟩
  have hr : recvA (sq f a) (sq f n) (A : Int) (bakS (sq f rr) (can f ps)) (bakB (sq f rr) (can f ps)) = ((adv 16 (sq f a) B).1, ((adv 16 (sq f a) B).2 : Int)) := by
    unfold recvA
    rw [if_pos hok, hB, hMe]
    unfold bakS bakB
    rw [if_pos hv, if_pos hv, Int.toNat_natCast, Int.toNat_natCast]
  have hack : ∀ i, i < n - a → (ackB (sq f rr) M (sq f (a + i)) = true ↔ (a + i < rr ∨ a + i ∈ ps)) := by
    intro i hi
    unfold ackB
    rw [Bool.or_eq_true, Bool.and_eq_true, decide_eq_true_eq]
    by_cases h1 : a + i < rr
    · rw [sq_le f (show a + i ≤ rr by omega) (by omega)]
      exact ⟨fun _ => .inl h1, fun _ => .inl (inR_of (by omega))⟩
    · have e : seqD (sq f rr) (sq f (a + i)) = ((a + i : Nat) : Int) - rr := sq_le f (by omega) (by omega)
      have hno : inR (seqD (sq f (a + i)) (sq f rr)) 1 2047 = false := by
        by_cases h2 : rr = a + i
        · rw [h2, sq_le f (Nat.le_refl _) (by omega)]; exact inR_not (by omega)
        · rw [sq_gt f (show rr < a + i by omega) (by omega)]; exact inR_not (by omega)
      have hb := bits_can f h hh (a + i - rr)
      rw [← hMe, show rr + (a + i - rr) = a + i by omega] at hb
      rw [hno, e, show (((a + i : Nat) : Int) - rr).toNat = a + i - rr by omega, hb]
      constructor
      · rintro (h | h)
        · cases h
        · exact .inr h.2
      · rintro (h | h)
        · exact absurd h h1
        · exact .inr ⟨by omega, h⟩
  have hbit : ∀ i, B.testBit i = true ↔ i < n - a ∧ (a + i < rr ∨ a + i ∈ ps) := by
    intro i
    rw [hB, accU_bit]
    constructor
    · rintro (hb | ⟨x, hx, hk, he⟩)
      · refine ⟨?_, hrec i hb⟩
        rcases Nat.lt_or_ge i (n - a) with h9 | h9
        · exact h9
        · have : A < 2 ^ i := Nat.lt_of_lt_of_le hA (Nat.pow_le_pow_right (by omega) h9)
          rw [Nat.testBit_lt_two_pow this] at hb
          cases hb
      · obtain ⟨k, hk1, hk2, rfl⟩ := (outS_can_mem f (show a ≤ n by omega) hna hh hA h0).1 hx
        rw [sq_le f (show a ≤ a + k by omega) (by omega)] at he
        obtain rfl : k = i := by omega
        exact ⟨hk1, (hack k hk1).1 hk⟩
    · rintro ⟨hi, hR⟩
      cases hb : A.testBit i with
      | true => exact .inl rfl
      | false =>
        refine .inr ⟨sq f (a + i), (outS_can_mem f (show a ≤ n by omega) hna hh hA h0).2 ⟨i, hi, hb, rfl⟩, (hack i hi).2 hR, ?_⟩
        rw [sq_le f (show a ≤ a + i by omega) (by omega)]
        omega
  have hadv := adv_can f (rr - a) 16 a B (fun i hi => (hbit i).2 ⟨by omega, .inl (by omega)⟩) (by
    cases hb : B.testBit (rr - a) with
    | false => rfl
    | true =>
      have := ((hbit (rr - a)).1 hb).2
      rw [show a + (rr - a) = rr by omega] at this
      rcases this with h1 | h1
      · omega
      · have := h.mem _ h1; omega) (by omega)
  have hbs : ∀ i, (B >>> (rr - a)).testBit i = B.testBit (rr - a + i) := fun i => by rw [Nat.testBit_shiftRight]
  refine ⟨B >>> (rr - a), by rw [hr, hadv, show a + (rr - a) = rr by omega], ?_, ?_, fun i hi => ?_⟩
  · refine Nat.lt_pow_two_of_testBit _ (fun i hi => ?_)
    rw [hbs]
    cases hb : B.testBit (rr - a + i) with
    | false => rfl
    | true => have := ((hbit _).1 hb).1; omega
  · have hz : (B >>> (rr - a)).testBit 0 = false := by
      rw [hbs]
      cases hb : B.testBit (rr - a + 0) with
      | false => rfl
      | true =>
        have := ((hbit _).1 hb).2
        rcases this with h1 | h1
        · omega
        · have := h.mem _ h1; omega
    rw [Nat.testBit_zero] at hz
    have := decide_eq_false_iff_not.1 hz
    omega
  · rw [hbs] at hi
    have h1 := ((hbit _).1 hi).2
    rw [show a + (rr - a + i) = rr + i by omega] at h1
    rcases h1 with h1 | h1
    · omega
    · exact h1

end Go.Proofs.Ytnfgdgmmbddmgaa
