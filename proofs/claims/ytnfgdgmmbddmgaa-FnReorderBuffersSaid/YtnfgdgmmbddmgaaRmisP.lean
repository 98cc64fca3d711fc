/- The numbers that are missing, in plain lists. -/
import Derived.Test.YtnfgdgmmbddmgaaRbak
namespace Go.Proofs.Ytnfgdgmmbddmgaa
open Go.RowKit
set_option linter.unusedVariables false
set_option linter.unusedSimpArgs false

def sqn (st : Int) (k : Nat) : Int := (st + (k : Int)) % 4096
def dst (st : Int) (xs : List NF) (j : Nat) : Nat := (seqD st (xs.getD j (0, [])).1).toNat
def missK (st : Int) (xs : List NF) (k : Nat) : List Int := ((List.range k).filter fun i => !pendB xs (sqn st i)).map (sqn st)
def missB (st : Int) (xs : List NF) : List Int := if vROB st xs = true ∧ xs ≠ [] then missK st xs (dst st xs (xs.length - 1)) else []
theorem missK_zero (st : Int) (xs : List NF) : missK st xs 0 = [] := rfl
theorem missK_yes {st : Int} {xs : List NF} {k : Nat} (h : pendB xs (sqn st k) = true) : missK st xs (k + 1) = missK st xs k := by
  unfold missK
  rw [List.range_succ, List.filter_append]
  simp [h]
theorem missK_no {st : Int} {xs : List NF} {k : Nat} (h : pendB xs (sqn st k) = false) : missK st xs (k + 1) = missK st xs k ++ [sqn st k] := by
  unfold missK
  rw [List.range_succ, List.filter_append]
  simp [h]
theorem missK_len (st : Int) (xs : List NF) (k : Nat) : (missK st xs k).length ≤ k := by
  unfold missK
  rw [List.length_map]
  exact Nat.le_trans (List.length_filter_le _ _) (by simp)
theorem sqn_bd (st : Int) (k : Nat) : 0 ≤ sqn st k ∧ sqn st k ≤ 4095 := by unfold sqn; omega
theorem sqn_d {st s : Int} (h : 0 ≤ seqD st s) : s = sqn st (seqD st s).toNat := by
  obtain ⟨a, b, c, d, e⟩ := seqD_pos h
  unfold sqn
  rw [e]
  omega
theorem sqn_inj {st : Int} {a b : Nat} (ha : a ≤ 4000) (hb : b ≤ 4000) (h : sqn st a = sqn st b) : a = b := by
  unfold sqn at h
  omega
theorem sqn_succ {st : Int} (hst : 0 ≤ st ∧ st ≤ 4095) (k : Nat) : seqN (sqn st k) = sqn st (k + 1) := by
  rw [seqN_of (sqn_bd st k)]
  unfold sqn
  omega
theorem vChain_idx {st : Int} : ∀ {xs : List NF} {b : Int}, 0 ≤ b → vChain st b xs = true → (∀ j, j < xs.length → b + 1 ≤ (dst st xs j : Int) ∧ dst st xs j ≤ 15 ∧ (xs.getD j (0, [])).1 = sqn st (dst st xs j)) ∧ ∀ i j, i < j → j < xs.length → dst st xs i < dst st xs j
  | [], _, _, _ => ⟨fun j hj => absurd hj (by simp), fun i j _ hj => absurd hj (by simp)⟩
  | y :: ys, b, hb, h => by
    simp only [vChain, Bool.and_eq_true, decide_eq_true_eq] at h
    have hr := inR_true h.1.2
    obtain ⟨q1, q2⟩ := vChain_idx (st := st) (xs := ys) (b := seqD st y.1) (by omega) h.2
    have e0 : dst st (y :: ys) 0 = (seqD st y.1).toNat := rfl
    have es : ∀ j, dst st (y :: ys) (j + 1) = dst st ys j := fun j => by simp [dst]
    refine ⟨fun j hj => ?_, fun i j hij hj => ?_⟩
    · cases j with
      | zero => exact ⟨by rw [e0]; omega, by rw [e0]; omega, by rw [e0]; show y.1 = _; exact sqn_d (by omega)⟩
      | succ j =>
        have := q1 j (by simpa using hj)
        rw [es]
        refine ⟨by omega, this.2.1, ?_⟩
        simpa using this.2.2
    · cases j with
      | zero => omega
      | succ j =>
        rw [es]
        cases i with
        | zero =>
          have := (q1 j (by simpa using hj)).1
          rw [e0]
          omega
        | succ i =>
          rw [es]
          exact q2 i j (by omega) (by simpa using hj)
theorem pend_iff {st : Int} {xs : List NF} (h : vROB st xs = true) (k : Nat) (hk : k ≤ 20) : pendB xs (sqn st k) = true ↔ ∃ j, j < xs.length ∧ dst st xs j = k := by
  simp only [vROB, Bool.and_eq_true] at h
  obtain ⟨q1, q2⟩ := vChain_idx (Int.le_refl 0) h.2
  unfold pendB
  rw [List.any_eq_true]
  constructor
  · rintro ⟨x, hx, hs⟩
    obtain ⟨j, hj, rfl⟩ := List.mem_iff_getElem.1 hx
    have := q1 j hj
    have hg : xs.getD j (0, []) = xs[j] := by simp [List.getD, List.getElem?_eq_getElem hj]
    rw [hg] at this
    simp only [beq_iff_eq] at hs
    rw [hs] at this
    exact ⟨j, hj, (sqn_inj (by omega) (by omega) this.2.2).symm⟩
  · rintro ⟨j, hj, rfl⟩
    have := q1 j hj
    have hg : xs.getD j (0, []) = xs[j] := by simp [List.getD, List.getElem?_eq_getElem hj]
    rw [hg] at this
    exact ⟨xs[j], List.getElem_mem hj, by simp [this.2.2]⟩
theorem missB_len (st : Int) (xs : List NF) : (missB st xs).length ≤ 15 := by
  unfold missB
  split
  · rename_i h
    have hv := h.1
    simp only [vROB, Bool.and_eq_true] at hv
    obtain ⟨q1, q2⟩ := vChain_idx (Int.le_refl 0) hv.2
    have hp : 0 < xs.length := List.length_pos_iff.2 h.2
    have := (q1 (xs.length - 1) (by omega)).2.1
    exact Nat.le_trans (missK_len _ _ _) this
  · simp

end Go.Proofs.Ytnfgdgmmbddmgaa
