/- IsDone, GiveUp, of the program and of the reference. -/
import Derived.Test.YtnfgdgmmbddmgaaSendBx
import Derived.Deep.RegionWith
namespace Go.Proofs.Ytnfgdgmmbddmgaa
open Go.RowKit
set_option linter.unusedVariables false
set_option linter.unusedSimpArgs false

def outS (st nx ak : Int) : List Int := if vSend st nx ak then outL st (seqD st nx).toNat ak.toNat else []
theorem outS_mem {st nx ak x : Int} (h : x ∈ outS st nx ak) : ∃ D A i : Nat, seqD st nx = (D : Int) ∧ ak = (A : Int) ∧ D ≤ 16 ∧ A < 2 ^ D ∧ i < D ∧ x = (st + (i : Int)) % 4096 ∧ A.testBit i = false ∧ 0 ≤ st ∧ st ≤ 4095 ∧ seqD st x = (i : Int) := by
  unfold outS at h
  cases hv : vSend st nx ak
  · rw [hv] at h; simp at h
  · obtain ⟨D, A, h1, rfl, h3, h4, h5, h6, h7, h8, h9⟩ := vSend_true hv
    rw [hv, h1] at h
    simp [outL] at h
    obtain ⟨i, ⟨h10, h11⟩, rfl⟩ := h
    refine ⟨D, A, i, h1, rfl, h3, h4, h10, rfl, h11, h6, h7, ?_⟩
    rw [seqD_of ⟨h6, h7⟩ (by omega)]
    omega
theorem outS_le (st nx ak : Int) : (outS st nx ak).length ≤ 16 := by
  unfold outS
  cases hv : vSend st nx ak
  · simp
  · obtain ⟨D, A, h1, rfl, h3, h4, h5, h6, h7, h8, h9⟩ := vSend_true hv
    rw [h1]
    exact Nat.le_trans (outL_le _ _ _) (by simpa using h3)
theorem or_lt (A i D : Nat) (hA : A < 2 ^ D) (hD : D ≤ 16) (hi : i < D) : A ||| 2 ^ i < 2 ^ 16 :=
  Nat.or_lt_two_pow (Nat.lt_of_lt_of_le hA (Nat.pow_le_pow_right (by omega) hD)) (Nat.pow_lt_pow_right (by omega) (by omega))
def gUp (st nx ak q : Int) : Int × Int := if q ∈ outS st nx ak then ((adv 16 st (ak.toNat ||| 2 ^ (seqD st q).toNat)).1, ((adv 16 st (ak.toNat ||| 2 ^ (seqD st q).toNat)).2 : Int)) else (st, ak)
def doneB (st nx ak : Int) : Bool := vSend st nx ak && (outS st nx ak).length == 0

theorem implOutS_any (st nx ak : Int) (w : World) :
    Calls Try.prog 40 #[.agg #[.int .i64 st, .int .i64 nx, .int .i64 ak]] w fun e w' => ∃ g cap X d, e = .returned (.slice (some ⟨g, 0, none⟩) (outS st nx ak).length cap) ∧ w' = World.ext w X d ∧ w.heap.size ≤ g ∧
      w'.ownsRow w.heap.size 3 1 (.slice (some ⟨g, 0, none⟩) (outS st nx ak).length cap) (outS st nx ak).length ((outS st nx ak).map (Value.int .i64)) := by
  unfold outS
  cases hv : vSend st nx ak
  · exact (implOutX_any st nx ak hv w).mono fun e w' ⟨g, X, d, h1, h2, h3, h4⟩ => ⟨g, 0, X, d, h1, h2, h3, h4⟩
  · obtain ⟨D, A, h1, rfl, h3, h4, h5, h6, h7, h8, h9⟩ := vSend_true hv
    have h10 : 2 ^ D ≤ 65536 := Nat.le_trans (Nat.pow_le_pow_right (by omega) h3) (by decide)
    rw [h1]
    exact implOut_any st nx D A h1 hv h3 (by omega) ⟨h6, h7⟩ w

set_option maxHeartbeats 1000000 in
theorem implDone_any (st nx ak : Int) (w : World) :
    Calls Try.prog 44 #[.agg #[.int .i64 st, .int .i64 nx, .int .i64 ak]] w fun e w' => e = .returned (.bool (doneB st nx ak)) ∧ Below w.heap.size w w' := by
  have hle := outS_le st nx ak
  cases hv : vSend st nx ak
  · go_enter Try.func44, Try.ntmps44
    go_wp2_with (first | (go_at_call 43; refine (implVS_any _ _ _ _).mono ?_; rintro e w' ⟨rfl, hbw⟩; obtain ⟨X, d, rfl⟩ := Below.ext_ hbw; clear hbw) | (go_at_call 40; refine (implOutS_any st nx ak _).mono ?_; rintro e w' ⟨g, cap, X, d, rfl, rfl, hg, hown⟩))
    go_ret
    exact ⟨by simp [doneB, hv], (by repeat (first | (with_reducible exact Below.refl _ _) | (with_reducible refine Below.ext ?_ (by go_size) _ _) | (with_reducible refine Below.alloc ?_ (by go_size) _) | (with_reducible refine Below.setCell ?_ (by go_size) _) | (with_reducible refine Below.drew ?_) | (with_reducible refine Below.drewN_ ?_ _)))⟩
  · cases hz : (outS st nx ak).length == 0
    · have hz2 : (((outS st nx ak).length : Int) == 0) = false := by simp at hz ⊢; exact hz
      go_enter Try.func44, Try.ntmps44
      go_wp2_with (first | (go_at_call 43; refine (implVS_any _ _ _ _).mono ?_; rintro e w' ⟨rfl, hbw⟩; obtain ⟨X, d, rfl⟩ := Below.ext_ hbw; clear hbw) | (go_at_call 40; refine (implOutS_any st nx ak _).mono ?_; rintro e w' ⟨g, cap, X, d, rfl, rfl, hg, hown⟩))
      go_ret
      exact ⟨by simp [doneB, hv, hz], (by repeat (first | (with_reducible exact Below.refl _ _) | (with_reducible refine Below.ext ?_ (by go_size) _ _) | (with_reducible refine Below.alloc ?_ (by go_size) _) | (with_reducible refine Below.setCell ?_ (by go_size) _) | (with_reducible refine Below.drew ?_) | (with_reducible refine Below.drewN_ ?_ _)))⟩
    · have hz2 : (((outS st nx ak).length : Int) == 0) = true := by simp at hz ⊢; exact hz
      go_enter Try.func44, Try.ntmps44
      go_wp2_with (first | (go_at_call 43; refine (implVS_any _ _ _ _).mono ?_; rintro e w' ⟨rfl, hbw⟩; obtain ⟨X, d, rfl⟩ := Below.ext_ hbw; clear hbw) | (go_at_call 40; refine (implOutS_any st nx ak _).mono ?_; rintro e w' ⟨g, cap, X, d, rfl, rfl, hg, hown⟩))
      go_ret
      exact ⟨by simp [doneB, hv, hz], (by repeat (first | (with_reducible exact Below.refl _ _) | (with_reducible refine Below.ext ?_ (by go_size) _ _) | (with_reducible refine Below.alloc ?_ (by go_size) _) | (with_reducible refine Below.setCell ?_ (by go_size) _) | (with_reducible refine Below.drew ?_) | (with_reducible refine Below.drewN_ ?_ _)))⟩

theorem wrap64_eq (n : Int) : wrap64 n = IntKind.i64.wrap n := by rw [IntKind.wrap_i64]; unfold wrap64; omega
end Go.Proofs.Ytnfgdgmmbddmgaa
