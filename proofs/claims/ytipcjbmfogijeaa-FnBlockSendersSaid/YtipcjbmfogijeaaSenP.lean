/- FnBlockSenders: the plain law. -/
import Derived.Test.YtipcjbmfogijeaaSendE
namespace Go.Proofs.Ytipcjbmfogijeaa
open Go.RowKit
set_option linter.unusedVariables false
set_option linter.unusedSimpArgs false

def sq (f : Int) (i : Nat) : Int := (f + (i : Int)) % 4096
theorem sq_bd (f : Int) (i : Nat) : 0 ≤ sq f i ∧ sq f i ≤ 4095 := by unfold sq; omega
theorem sq_le (f : Int) {i j : Nat} (h : i ≤ j) (hj : j ≤ 100) : seqD (sq f i) (sq f j) = (j : Int) - i := by
  rw [seqD_of (sq_bd f i) (sq_bd f j)]; unfold sq; omega
theorem sq_gt (f : Int) {i j : Nat} (h : j < i) (hi : i ≤ 100) : seqD (sq f i) (sq f j) = 4096 + (j : Int) - i := by
  rw [seqD_of (sq_bd f i) (sq_bd f j)]; unfold sq; omega
theorem sq_next (f : Int) (i : Nat) : seqN (sq f i) = sq f (i + 1) := by
  rw [seqN_of (sq_bd f i)]; unfold sq; omega
theorem sq_inj (f : Int) {i j : Nat} (hi : i ≤ 100) (hj : j ≤ 100) : sq f i = sq f j ↔ i = j := by
  unfold sq; omega
theorem sq_add (f : Int) (a i : Nat) : (sq f a + (i : Int)) % 4096 = sq f (a + i) := by unfold sq; omega

/- the sender -/
theorem vSend_can (f : Int) {a n A : Nat} (h1 : a ≤ n) (h2 : n ≤ a + 16) (hn : n ≤ 60) (hA : A < 2 ^ (n - a)) (h0 : A % 2 = 0) : vSend (sq f a) (sq f n) (A : Int) = true := by
  have hd := sq_le f h1 (show n ≤ 100 by omega)
  have hd2 : (n : Int) - a = ((n - a : Nat) : Int) := by omega
  have h5 : 1 ≤ 2 ^ (n - a) := Nat.one_le_two_pow
  have h4 : 2 ^ (n - a) ≤ 2 ^ 16 := Nat.pow_le_pow_right (by omega) (by omega)
  unfold vSend
  rw [hd, hd2, mask_eq _ (by omega), inR_of (by omega), inR_of (by omega), and_one A (by omega)]
  simp; omega
theorem outS_can (f : Int) {a n A : Nat} (h1 : a ≤ n) (h2 : n ≤ a + 16) (hn : n ≤ 60) (hA : A < 2 ^ (n - a)) (h0 : A % 2 = 0) : outS (sq f a) (sq f n) (A : Int) = ((List.range (n - a)).filter fun (i : Nat) => !A.testBit i).map fun (i : Nat) => sq f (a + i) := by
  unfold outS
  rw [if_pos (vSend_can f h1 h2 hn hA h0), sq_le f h1 (by omega)]
  rw [show ((n : Int) - a).toNat = n - a by omega, Int.toNat_natCast]
  unfold outL
  simp only [sq_add]
theorem outS_can_mem (f : Int) {a n A : Nat} (h1 : a ≤ n) (h2 : n ≤ a + 16) (hn : n ≤ 60) (hA : A < 2 ^ (n - a)) (h0 : A % 2 = 0) {x : Int} : x ∈ outS (sq f a) (sq f n) (A : Int) ↔ ∃ i, i < n - a ∧ A.testBit i = false ∧ x = sq f (a + i) := by
  rw [outS_can f h1 h2 hn hA h0]
  simp only [List.mem_map, List.mem_filter, List.mem_range]
  constructor
  · rintro ⟨i, ⟨h1, h2⟩, rfl⟩
    exact ⟨i, h1, by simpa using h2, rfl⟩
  · rintro ⟨i, h1, h2, rfl⟩
    exact ⟨i, ⟨h1, by simpa using h2⟩, rfl⟩
theorem accU_bit (st bs : Int) (M i : Nat) : ∀ (l : List Int) (A : Nat), (accU st bs M l A).testBit i = true ↔ A.testBit i = true ∨ ∃ x ∈ l, ackB bs M x = true ∧ (seqD st x).toNat = i
  | [], A => by simp [accU]
  | x :: l, A => by
    have ih := accU_bit st bs M i l (if ackB bs M x then A ||| 2 ^ (seqD st x).toNat else A)
    unfold accU at ih ⊢
    rw [List.foldl_cons, ih]
    constructor
    · rintro (h | ⟨y, hy, h⟩)
      · split at h
        · rename_i hk
          rw [Nat.testBit_or, Bool.or_eq_true, Nat.testBit_two_pow, decide_eq_true_eq] at h
          rcases h with h | h
          · exact .inl h
          · exact .inr ⟨x, by simp, hk, h⟩
        · exact .inl h
      · exact .inr ⟨y, List.mem_cons_of_mem _ hy, h⟩
    · rintro (h | ⟨y, hy, hk, he⟩)
      · left; split
        · rw [Nat.testBit_or, h]; rfl
        · exact h
      · rcases List.mem_cons.1 hy with rfl | hy
        · left; rw [if_pos hk, Nat.testBit_or, Nat.testBit_two_pow]; simp [he]
        · exact .inr ⟨y, hy, hk, he⟩
theorem adv_can (f : Int) : ∀ (k fuel a A : Nat), (∀ i, i < k → A.testBit i = true) → A.testBit k = false → k ≤ fuel → adv fuel (sq f a) A = (sq f (a + k), A >>> k)
  | 0, fuel, a, A, _, h, _ => by
    have h0 : ¬ A % 2 = 1 := by
      intro h1
      rw [Nat.testBit_zero] at h
      simp [h1] at h
    cases fuel with
    | zero => rfl
    | succ fl => unfold adv; rw [if_neg h0]; rfl
  | k + 1, 0, a, A, _, _, hf => by omega
  | k + 1, fuel + 1, a, A, h, h', hf => by
    have h1 : A % 2 = 1 := by
      have := h 0 (by omega)
      rw [Nat.testBit_zero] at this
      simpa using this
    have e : ∀ i, (A / 2).testBit i = A.testBit (i + 1) := fun i => by rw [Nat.testBit_succ]
    unfold adv
    rw [if_pos h1, sq_next, adv_can f k fuel (a + 1) (A / 2) (fun i hi => by rw [e]; exact h _ (by omega)) (by rw [e]; exact h') (by omega)]
    rw [show a + 1 + k = a + (k + 1) by omega]
    congr 1
    rw [Nat.shiftRight_eq_div_pow, Nat.shiftRight_eq_div_pow, Nat.div_div_eq_div_mul, Nat.pow_succ, Nat.mul_comm]

/- a valid sender, counted from its start -/
theorem valid_sq {st nx ak : Int} (h : vSend st nx ak = true) : ∃ D A : Nat, st = sq st 0 ∧ nx = sq st D ∧ ak = (A : Int) ∧ D ≤ 16 ∧ A < 2 ^ D ∧ A % 2 = 0 := by
  obtain ⟨D, A, h1, h2, h3, h4, h5, h6, h7, h8, h9⟩ := vSend_true h
  refine ⟨D, A, by unfold sq; omega, ?_, h2, h3, h4, h5⟩
  rw [seqD_of ⟨h6, h7⟩ ⟨h8, h9⟩] at h1
  unfold sq
  omega
/- how far the ones reach from p on -/
theorem ones (B D : Nat) (hB : B < 2 ^ D) : ∀ (n p : Nat), D - p = n → ∃ k, (∀ i, i < k → B.testBit (p + i) = true) ∧ B.testBit (p + k) = false ∧ (k = 0 ∨ p + k ≤ D)
  | n, p, hn => by
    cases hb : B.testBit p with
    | false => exact ⟨0, fun i hi => by omega, hb, .inl rfl⟩
    | true =>
      have hp : p < D := by
        rcases Nat.lt_or_ge p D with h | h
        · exact h
        · rw [Nat.testBit_lt_two_pow (Nat.lt_of_lt_of_le hB (Nat.pow_le_pow_right (by omega) h))] at hb; cases hb
      match n, hn with
      | 0, hn => omega
      | n + 1, hn =>
        obtain ⟨k, h1, h2, h3⟩ := ones B D hB n (p + 1) (by omega)
        refine ⟨k + 1, fun i hi => ?_, by rw [show p + (k + 1) = p + 1 + k by omega]; exact h2, by omega⟩
        cases i with
        | zero => exact hb
        | succ i => rw [show p + (i + 1) = p + 1 + i by omega]; exact h1 i (by omega)
theorem shr_bit (B k i : Nat) : (B >>> k).testBit i = B.testBit (k + i) := Nat.testBit_shiftRight ..
theorem shr_lt {B D k : Nat} (hB : B < 2 ^ D) (hk : k ≤ D) : B >>> k < 2 ^ (D - k) := by
  refine Nat.lt_pow_two_of_testBit _ (fun i hi => ?_)
  rw [shr_bit]
  exact Nat.testBit_lt_two_pow (Nat.lt_of_lt_of_le hB (Nat.pow_le_pow_right (by omega) (by omega)))
theorem even_of {B : Nat} (h : B.testBit 0 = false) : B % 2 = 0 := by
  rw [Nat.testBit_zero] at h
  have := decide_eq_false_iff_not.1 h
  omega
theorem bit0_of {B : Nat} (h : B % 2 = 0) : B.testBit 0 = false := by
  rw [Nat.testBit_zero]; simp; omega
/- what an acknowledgment makes of a sender -/
theorem recv_law {f : Int} {D A : Nat} (hD : D ≤ 16) (hA : A < 2 ^ D) (h0 : A % 2 = 0) (bs bm : Int) (hok : okRecv (sq f 0) (sq f D) (A : Int) bs bm = true) :
    ∃ k B : Nat, k ≤ D ∧ recvA (sq f 0) (sq f D) (A : Int) bs bm = (sq f k, ((B >>> k : Nat) : Int)) ∧ B < 2 ^ D ∧ B.testBit k = false ∧ (∀ i, A.testBit i = true → B.testBit i = true) ∧ (∀ i, i < D → B.testBit i = false → ackB bs bm.toNat (sq f i) = false) := by
  have h0D : sq f (0 + 0) = sq f 0 := rfl
  have hmem : ∀ x, x ∈ outS (sq f 0) (sq f D) (A : Int) ↔ ∃ i, i < D ∧ A.testBit i = false ∧ x = sq f i := fun x => by
    have := outS_can_mem f (a := 0) (n := D) (A := A) (Nat.zero_le _) (by omega) (by omega) (by simpa using hA) h0 (x := x)
    simpa using this
  obtain ⟨B, hB⟩ : ∃ B, B = accU (sq f 0) bs bm.toNat (outS (sq f 0) (sq f D) (A : Int)) A := ⟨_, rfl⟩
  have hbit : ∀ i, B.testBit i = true ↔ A.testBit i = true ∨ (i < D ∧ A.testBit i = false ∧ ackB bs bm.toNat (sq f i) = true) := by
    intro i
    rw [hB, accU_bit]
    constructor
    · rintro (h | ⟨x, hx, hk, he⟩)
      · exact .inl h
      · obtain ⟨j, h1, h2, rfl⟩ := (hmem x).1 hx
        rw [sq_le f (Nat.zero_le j) (by omega)] at he
        obtain rfl : j = i := by omega
        exact .inr ⟨h1, h2, hk⟩
    · rintro (h | ⟨h1, h2, h3⟩)
      · exact .inl h
      · refine .inr ⟨sq f i, (hmem _).2 ⟨i, h1, h2, rfl⟩, h3, ?_⟩
        rw [sq_le f (Nat.zero_le i) (by omega)]
        omega
  have hBD : B < 2 ^ D := Nat.lt_pow_two_of_testBit _ (fun i hi => by
    cases hb : B.testBit i with
    | false => rfl
    | true =>
      rcases (hbit i).1 hb with h | h
      · rw [Nat.testBit_lt_two_pow (Nat.lt_of_lt_of_le hA (Nat.pow_le_pow_right (by omega) hi))] at h; cases h
      · omega)
  obtain ⟨k, h1, h2, h3⟩ := ones B D hBD D 0 (by omega)
  simp only [Nat.zero_add] at h1 h2 h3
  have hr : recvA (sq f 0) (sq f D) (A : Int) bs bm = (sq f k, ((B >>> k : Nat) : Int)) := by
    unfold recvA
    rw [if_pos hok, Int.toNat_natCast, ← hB, adv_can f k 16 0 B h1 h2 (by omega), Nat.zero_add]
  refine ⟨k, B, by omega, hr, hBD, h2, fun i hi => (hbit i).2 (.inl hi), fun i hi hb => ?_⟩
  cases ha : ackB bs bm.toNat (sq f i) with
  | false => rfl
  | true =>
    have : B.testBit i = true := (hbit i).2 (by
      cases h : A.testBit i with
      | true => exact .inl rfl
      | false => exact .inr ⟨hi, rfl, ha⟩)
    rw [this] at hb; cases hb
theorem accU_none (st bs : Int) (M : Nat) : ∀ (l : List Int) (A : Nat), (∀ x ∈ l, ackB bs M x = false) → accU st bs M l A = A
  | [], A, _ => rfl
  | x :: l, A, h => by
    unfold accU
    rw [List.foldl_cons, h x (by simp)]
    exact accU_none st bs M l A (fun y hy => h y (List.mem_cons_of_mem _ hy))
/- the state when all before place p has been given up -/
theorem gUp_step {f : Int} {D A p : Nat} (hD : D ≤ 16) (hA : A < 2 ^ D) (hp : p < D) (hb : A.testBit p = false) :
    ∃ k, 0 < k ∧ p + k ≤ D ∧ gUp (sq f p) (sq f D) ((A >>> p : Nat) : Int) (sq f p) = (sq f (p + k), ((A >>> (p + k) : Nat) : Int)) ∧ (p + k = D ∨ A.testBit (p + k) = false) ∧ ∀ i, p < i → i < p + k → A.testBit i = true := by
  have hS := shr_lt hA (show p ≤ D by omega)
  have hev : (A >>> p) % 2 = 0 := even_of (by rw [shr_bit]; exact hb)
  have hmem : sq f p ∈ outS (sq f p) (sq f D) ((A >>> p : Nat) : Int) := (outS_can_mem f (show p ≤ D by omega) (by omega) (by omega) hS hev).2 ⟨0, by omega, by rw [shr_bit]; exact hb, rfl⟩
  obtain ⟨B, hB⟩ : ∃ B, B = A >>> p ||| 2 ^ 0 := ⟨_, rfl⟩
  have hbit : ∀ i, B.testBit i = true ↔ i = 0 ∨ A.testBit (p + i) = true := fun i => by
    rw [hB, Nat.testBit_or, shr_bit, Bool.or_eq_true, Nat.testBit_two_pow, decide_eq_true_eq]
    constructor
    · rintro (h | h)
      · exact .inr h
      · exact .inl h.symm
    · rintro (h | h)
      · exact .inr h.symm
      · exact .inl h
  have hBD : B < 2 ^ (D - p) := Nat.lt_pow_two_of_testBit _ (fun i hi => by
    cases h : B.testBit i with
    | false => rfl
    | true =>
      rcases (hbit i).1 h with h1 | h1
      · omega
      · rw [Nat.testBit_lt_two_pow (Nat.lt_of_lt_of_le hA (Nat.pow_le_pow_right (by omega) (by omega)))] at h1; cases h1)
  obtain ⟨k, h1, h2, h3⟩ := ones B (D - p) hBD (D - p) 0 (by omega)
  simp only [Nat.zero_add] at h1 h2 h3
  have hk : 0 < k := by
    rcases Nat.eq_zero_or_pos k with h | h
    · subst h
      have := (hbit 0).2 (.inl rfl)
      rw [this] at h2; cases h2
    · exact h
  have hA2 : A.testBit (p + k) = false := by
    cases h : A.testBit (p + k) with
    | false => rfl
    | true => have := (hbit k).2 (.inr h); rw [this] at h2; cases h2
  refine ⟨k, hk, by omega, ?_, .inr hA2, fun i hi1 hi2 => ?_⟩
  · unfold gUp
    rw [if_pos hmem, Int.toNat_natCast, sq_le f (Nat.le_refl p) (by omega), show ((p : Int) - p).toNat = 0 by omega, ← hB, adv_can f k 16 p B h1 h2 (by omega)]
    have e : B >>> k = A >>> (p + k) := by
      apply Nat.eq_of_testBit_eq
      intro i
      rw [shr_bit, shr_bit]
      cases h : B.testBit (k + i) with
      | true =>
        rcases (hbit _).1 h with h9 | h9
        · omega
        · rw [← h9]; congr 1; omega
      | false =>
        cases h9 : A.testBit (p + k + i) with
        | false => rfl
        | true => have := (hbit (k + i)).2 (.inr (by rw [← h9]; congr 1; omega)); rw [this] at h; cases h
    rw [e]
  · have := (hbit (i - p)).1 (h1 (i - p) (by omega))
    rcases this with h | h
    · omega
    · rw [show p + (i - p) = i by omega] at h; exact h
/- the places from p on that are not acknowledged -/
def zs (D A : Nat) : Nat → Nat → List Nat
  | 0, _ => []
  | n + 1, p => if p < D then (if A.testBit p then zs D A n (p + 1) else p :: zs D A n (p + 1)) else []
theorem zs_skip (D A : Nat) : ∀ (k n p : Nat), (∀ i, p ≤ i → i < p + k → A.testBit i = true) → p + k ≤ D → zs D A (n + k) p = zs D A n (p + k)
  | 0, n, p, _, _ => rfl
  | k + 1, n, p, h, hk => by
    show zs D A (n + k + 1) p = _
    rw [zs, if_pos (by omega), if_pos (h p (Nat.le_refl _) (by omega)), zs_skip D A k n (p + 1) (fun i h1 h2 => h i (by omega) (by omega)) (by omega)]
    congr 1
    omega
theorem zs_succ (D A n p : Nat) : zs D A (n + 1) p = if p < D then (if A.testBit p then zs D A n (p + 1) else p :: zs D A n (p + 1)) else [] := rfl
theorem zs_more (D A : Nat) : ∀ (n p : Nat), D - p ≤ n → zs D A (n + 1) p = zs D A n p
  | 0, p, h => by rw [zs_succ D A 0 p, if_neg (by omega)]; rfl
  | n + 1, p, h => by
    rw [zs_succ D A (n + 1) p, zs_succ D A n p]
    split
    · rw [zs_more D A n (p + 1) (by omega)]
    · rfl
theorem zs_range (D A : Nat) : ∀ (n p : Nat), p + n = D → zs D A n p = (List.range' p n).filter fun i => !A.testBit i
  | 0, p, _ => rfl
  | n + 1, p, h => by
    rw [zs, if_pos (by omega), List.range'_succ, List.filter_cons, zs_range D A n (p + 1) (by omega)]
    cases A.testBit p <;> rfl
theorem before_zs (f : Int) {D A : Nat} (hD : D ≤ 16) (hA : A < 2 ^ D) (h0 : A % 2 = 0) : outS (sq f 0) (sq f D) (A : Int) = (zs D A 16 0).map (sq f) := by
  have e : zs D A 16 0 = zs D A D 0 := by
    have : ∀ m, zs D A (D + m) 0 = zs D A D 0 := by
      intro m
      induction m with
      | zero => rfl
      | succ m ih => rw [← ih]; exact zs_more D A (D + m) 0 (by omega)
    have := this (16 - D)
    rwa [show D + (16 - D) = 16 by omega] at this
  rw [e, zs_range D A D 0 (by omega), outS_can f (a := 0) (n := D) (A := A) (Nat.zero_le _) (by omega) (by omega) (by simpa using hA) h0, List.range_eq_range']
  simp

end Go.Proofs.Ytipcjbmfogijeaa
