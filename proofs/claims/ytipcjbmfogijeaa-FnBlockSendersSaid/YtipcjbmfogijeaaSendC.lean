/- IsDone, GiveUp, of the program and of the reference. -/
import Derived.Test.YtipcjbmfogijeaaSendB
import Derived.Deep.RegionWith
namespace Go.Proofs.Ytipcjbmfogijeaa
open Go.RowKit
set_option linter.unusedVariables false
set_option linter.unusedSimpArgs false

def outS (st nx ak : Int) : List Int := if vSend st nx ak then outL st (seqD st nx).toNat ak.toNat else []
theorem outS_mem {st nx ak x : Int} (h : x ∈ outS st nx ak) : ∃ D A i : Nat, seqD st nx = (D : Int) ∧ ak = (A : Int) ∧ D ≤ 16 ∧ A < 2 ^ D ∧ i < D ∧ x = (st + (i : Int)) % 4096 ∧ A.testBit i = false ∧ 0 ≤ st ∧ st ≤ 4095 ∧ seqD st x = (i : Int) := by
  unfold outS at h
  cases hv : vSend st nx ak
  · rw [hv] at h; simp at h
  · obtain ⟨D, A, h1, rfl, h3, h4, h5, h6, h7, h8, h9⟩ := vSend_true hv
    rw [hv, h1] at h
    simp [outL] at h
    obtain ⟨i, ⟨h10, h11⟩, rfl⟩ := h
    refine ⟨D, A, i, h1, rfl, h3, h4, h10, rfl, h11, h6, h7, ?_⟩
    rw [seqD_of ⟨h6, h7⟩ (by omega)]
    omega
theorem outS_le (st nx ak : Int) : (outS st nx ak).length ≤ 16 := by
  unfold outS
  cases hv : vSend st nx ak
  · simp
  · obtain ⟨D, A, h1, rfl, h3, h4, h5, h6, h7, h8, h9⟩ := vSend_true hv
    rw [h1]
    exact Nat.le_trans (outL_le _ _ _) (by simpa using h3)
theorem or_lt (A i D : Nat) (hA : A < 2 ^ D) (hD : D ≤ 16) (hi : i < D) : A ||| 2 ^ i < 2 ^ 16 :=
  Nat.or_lt_two_pow (Nat.lt_of_lt_of_le hA (Nat.pow_le_pow_right (by omega) hD)) (Nat.pow_lt_pow_right (by omega) (by omega))
def gUp (st nx ak q : Int) : Int × Int := if q ∈ outS st nx ak then ((adv 16 st (ak.toNat ||| 2 ^ (seqD st q).toNat)).1, ((adv 16 st (ak.toNat ||| 2 ^ (seqD st q).toNat)).2 : Int)) else (st, ak)
def doneB (st nx ak : Int) : Bool := vSend st nx ak && (outS st nx ak).length == 0

theorem implOutS_any (st nx ak : Int) (w : World) :
    Calls Try.prog 26 #[.agg #[.int .i64 st, .int .i64 nx, .int .i64 ak]] w fun e w' => ∃ g cap X d, e = .returned (.slice (some ⟨g, 0, none⟩) (outS st nx ak).length cap) ∧ w' = World.ext w X d ∧ w.heap.size ≤ g ∧
      w'.ownsRow w.heap.size 3 1 (.slice (some ⟨g, 0, none⟩) (outS st nx ak).length cap) (outS st nx ak).length ((outS st nx ak).map (Value.int .i64)) := by
  unfold outS
  cases hv : vSend st nx ak
  · exact (implOutX_any st nx ak hv w).mono fun e w' ⟨g, X, d, h1, h2, h3, h4⟩ => ⟨g, 0, X, d, h1, h2, h3, h4⟩
  · obtain ⟨D, A, h1, rfl, h3, h4, h5, h6, h7, h8, h9⟩ := vSend_true hv
    have h10 : 2 ^ D ≤ 65536 := Nat.le_trans (Nat.pow_le_pow_right (by omega) h3) (by decide)
    rw [h1]
    exact implOut_any st nx D A h1 hv h3 (by omega) ⟨h6, h7⟩ w

theorem specOutS_any (st nx ak : Int) (w : World) :
    Calls Try.prog 25 #[.agg #[.int .i64 st, .int .i64 nx, .int .i64 ak]] w fun e w' => ∃ g cap X d, e = .returned (.slice (some ⟨g, 0, none⟩) (outS st nx ak).length cap) ∧ w' = World.ext w X d ∧ w.heap.size ≤ g ∧
      w'.ownsRow w.heap.size 3 1 (.slice (some ⟨g, 0, none⟩) (outS st nx ak).length cap) (outS st nx ak).length ((outS st nx ak).map (Value.int .i64)) := by
  unfold outS
  cases hv : vSend st nx ak
  · exact (specOutX_any st nx ak hv w).mono fun e w' ⟨g, X, d, h1, h2, h3, h4⟩ => ⟨g, 0, X, d, h1, h2, h3, h4⟩
  · obtain ⟨D, A, h1, rfl, h3, h4, h5, h6, h7, h8, h9⟩ := vSend_true hv
    have h10 : 2 ^ D ≤ 65536 := Nat.le_trans (Nat.pow_le_pow_right (by omega) h3) (by decide)
    rw [h1]
    exact specOut_any st nx D A h1 hv h3 (by omega) ⟨h6, h7⟩ w

set_option maxHeartbeats 1000000 in
theorem implDone_any (st nx ak : Int) (w : World) :
    Calls Try.prog 22 #[.agg #[.int .i64 st, .int .i64 nx, .int .i64 ak]] w fun e w' => e = .returned (.bool (doneB st nx ak)) ∧ Below w.heap.size w w' := by
  have hle := outS_le st nx ak
  cases hv : vSend st nx ak
  · go_enter Try.func22, Try.ntmps22
    go_wp2_with (first | (go_at_call 20; refine (implVS_any _ _ _ _).mono ?_; rintro e w' ⟨rfl, hbw⟩; obtain ⟨X, d, rfl⟩ := Below.ext_ hbw; clear hbw) | (go_at_call 26; refine (implOutS_any st nx ak _).mono ?_; rintro e w' ⟨g, cap, X, d, rfl, rfl, hg, hown⟩))
    go_ret
    exact ⟨by simp [doneB, hv], (by repeat (first | (with_reducible exact Below.refl _ _) | (with_reducible refine Below.ext ?_ (by go_size) _ _) | (with_reducible refine Below.alloc ?_ (by go_size) _) | (with_reducible refine Below.setCell ?_ (by go_size) _) | (with_reducible refine Below.drew ?_) | (with_reducible refine Below.drewN_ ?_ _)))⟩
  · cases hz : (outS st nx ak).length == 0
    · have hz2 : (((outS st nx ak).length : Int) == 0) = false := by simp at hz ⊢; exact hz
      go_enter Try.func22, Try.ntmps22
      go_wp2_with (first | (go_at_call 20; refine (implVS_any _ _ _ _).mono ?_; rintro e w' ⟨rfl, hbw⟩; obtain ⟨X, d, rfl⟩ := Below.ext_ hbw; clear hbw) | (go_at_call 26; refine (implOutS_any st nx ak _).mono ?_; rintro e w' ⟨g, cap, X, d, rfl, rfl, hg, hown⟩))
      go_ret
      exact ⟨by simp [doneB, hv, hz], (by repeat (first | (with_reducible exact Below.refl _ _) | (with_reducible refine Below.ext ?_ (by go_size) _ _) | (with_reducible refine Below.alloc ?_ (by go_size) _) | (with_reducible refine Below.setCell ?_ (by go_size) _) | (with_reducible refine Below.drew ?_) | (with_reducible refine Below.drewN_ ?_ _)))⟩
    · have hz2 : (((outS st nx ak).length : Int) == 0) = true := by simp at hz ⊢; exact hz
      go_enter Try.func22, Try.ntmps22
      go_wp2_with (first | (go_at_call 20; refine (implVS_any _ _ _ _).mono ?_; rintro e w' ⟨rfl, hbw⟩; obtain ⟨X, d, rfl⟩ := Below.ext_ hbw; clear hbw) | (go_at_call 26; refine (implOutS_any st nx ak _).mono ?_; rintro e w' ⟨g, cap, X, d, rfl, rfl, hg, hown⟩))
      go_ret
      exact ⟨by simp [doneB, hv, hz], (by repeat (first | (with_reducible exact Below.refl _ _) | (with_reducible refine Below.ext ?_ (by go_size) _ _) | (with_reducible refine Below.alloc ?_ (by go_size) _) | (with_reducible refine Below.setCell ?_ (by go_size) _) | (with_reducible refine Below.drew ?_) | (with_reducible refine Below.drewN_ ?_ _)))⟩

set_option maxHeartbeats 1000000 in
theorem specDone_any (st nx ak : Int) (w : World) :
    Calls Try.prog 21 #[.agg #[.int .i64 st, .int .i64 nx, .int .i64 ak]] w fun e w' => e = .returned (.bool (doneB st nx ak)) ∧ Below w.heap.size w w' := by
  have hle := outS_le st nx ak
  cases hv : vSend st nx ak
  · go_enter Try.func21, Try.ntmps21
    go_wp2_with (first | (go_at_call 18; refine (specVS_any _ _ _ _).mono ?_; rintro e w' ⟨rfl, hbw⟩; obtain ⟨X, d, rfl⟩ := Below.ext_ hbw; clear hbw) | (go_at_call 25; refine (specOutS_any st nx ak _).mono ?_; rintro e w' ⟨g, cap, X, d, rfl, rfl, hg, hown⟩))
    go_ret
    exact ⟨by simp [doneB, hv], (by repeat (first | (with_reducible exact Below.refl _ _) | (with_reducible refine Below.ext ?_ (by go_size) _ _) | (with_reducible refine Below.alloc ?_ (by go_size) _) | (with_reducible refine Below.setCell ?_ (by go_size) _) | (with_reducible refine Below.drew ?_) | (with_reducible refine Below.drewN_ ?_ _)))⟩
  · cases hz : (outS st nx ak).length == 0
    · have hz2 : (((outS st nx ak).length : Int) == 0) = false := by simp at hz ⊢; exact hz
      go_enter Try.func21, Try.ntmps21
      go_wp2_with (first | (go_at_call 18; refine (specVS_any _ _ _ _).mono ?_; rintro e w' ⟨rfl, hbw⟩; obtain ⟨X, d, rfl⟩ := Below.ext_ hbw; clear hbw) | (go_at_call 25; refine (specOutS_any st nx ak _).mono ?_; rintro e w' ⟨g, cap, X, d, rfl, rfl, hg, hown⟩))
      go_ret
      exact ⟨by simp [doneB, hv, hz], (by repeat (first | (with_reducible exact Below.refl _ _) | (with_reducible refine Below.ext ?_ (by go_size) _ _) | (with_reducible refine Below.alloc ?_ (by go_size) _) | (with_reducible refine Below.setCell ?_ (by go_size) _) | (with_reducible refine Below.drew ?_) | (with_reducible refine Below.drewN_ ?_ _)))⟩
    · have hz2 : (((outS st nx ak).length : Int) == 0) = true := by simp at hz ⊢; exact hz
      go_enter Try.func21, Try.ntmps21
      go_wp2_with (first | (go_at_call 18; refine (specVS_any _ _ _ _).mono ?_; rintro e w' ⟨rfl, hbw⟩; obtain ⟨X, d, rfl⟩ := Below.ext_ hbw; clear hbw) | (go_at_call 25; refine (specOutS_any st nx ak _).mono ?_; rintro e w' ⟨g, cap, X, d, rfl, rfl, hg, hown⟩))
      go_ret
      exact ⟨by simp [doneB, hv, hz], (by repeat (first | (with_reducible exact Below.refl _ _) | (with_reducible refine Below.ext ?_ (by go_size) _ _) | (with_reducible refine Below.alloc ?_ (by go_size) _) | (with_reducible refine Below.setCell ?_ (by go_size) _) | (with_reducible refine Below.drew ?_) | (with_reducible refine Below.drewN_ ?_ _)))⟩

theorem wrap64_eq (n : Int) : wrap64 n = IntKind.i64.wrap n := by rw [IntKind.wrap_i64]; unfold wrap64; omega
set_option maxHeartbeats 2000000 in
theorem implGive_any (st nx ak q : Int) (w : World) :
    Calls Try.prog 31 #[.agg #[.int .i64 st, .int .i64 nx, .int .i64 ak], .int .i64 q] w fun e w' => e = .returned (.agg #[.int .i64 (gUp st nx ak q).1, .int .i64 nx, .int .i64 (gUp st nx ak q).2]) ∧ Below w.heap.size w w' := by
  have hle := outS_le st nx ak
  go_enter Try.func31, Try.ntmps31
  go_wp2_with (go_at_call 26; refine (implOutS_any st nx ak _).mono ?_; rintro e w' ⟨g, cap, X, d, rfl, rfl, hg, hown⟩)
  go_loopw [6, 10] (fun x i wr => ∃ (k : Nat), k ≤ (outS st nx ak).length ∧ i = .int .i64 (k : Int) ∧ Hid (∀ j, j < k → (outS st nx ak)[j]? ≠ some q) ∧ wr = World.ext ((w.alloc (.cells #[.int .i64 st, .int .i64 nx, .int .i64 ak] 29)).alloc (.cells #[.int .i64 0, .int .i64 0, .int .i64 0] 29)) X d)
    (fun x i _ => (outS st nx ak).length - (intOf i).toNat)
  case atStart => exact ⟨0, Nat.zero_le _, rfl, fun j hj => absurd hj (by omega), rfl⟩
  case round =>
    obtain ⟨k, hk, rfl, hno, rfl⟩ := hrel
    by_cases hlt : k < (outS st nx ak).length
    · obtain ⟨v, hv1, hv2⟩ := own_cell hown k hlt
      have hxk : (outS st nx ak)[k]? = some (outS st nx ak)[k] := List.getElem?_eq_getElem hlt
      have hmem : (outS st nx ak)[k] ∈ outS st nx ak := List.getElem_mem hlt
      generalize (outS st nx ak)[k] = x at hxk hmem
      rw [List.getElem?_map, hxk] at hv1
      simp only [Option.map_some, Option.some.injEq] at hv1
      subst hv1
      have HX := Lib.hid hxk
      have HM := Lib.hid hmem
      clear hxk hmem hown
      by_cases heq : x = q
      · subst heq
        obtain ⟨D, A, i, h1, rfl, h3, h4, h5, h6, h7, h8, h9, h10⟩ := outS_mem HM.out
        have h16 := or_lt A i D h4 h3 h5
        have hA : A < 9223372036854775808 := Nat.lt_of_lt_of_le h4 (Nat.le_trans (Nat.pow_le_pow_right (by omega) h3) (by decide))
        have hor : bits .or .i64 (A : Int) (IntKind.i64.wrap (2 ^ (seqD st x).toNat)) = ((A ||| 2 ^ i : Nat) : Int) := by
          rw [h10, Int.toNat_natCast]; exact or_bit A i hA (by omega)
        have hor2 : bits .or .i64 (A : Int) (wrap64 (2 ^ (seqD st x).toNat)) = ((A ||| 2 ^ i : Nat) : Int) := by
          rw [← hor, wrap64_eq]
        have HF : Hid (gUp st nx (A : Int) x = ((adv 16 st (A ||| 2 ^ i)).1, ((adv 16 st (A ||| 2 ^ i)).2 : Int))) := by
          show _ = _
          rw [gUp, if_pos HM.out, h10]; rfl
        have hb1 : 0 ≤ seqD st x ∧ seqD st x ≤ 16 := by omega
        clear h1 h6 h10 h4
        go_wp2
        go_region_with ((go_at_call 41; refine (implDist_any _ _ _).mono ?_; rintro e w' ⟨rfl, rfl⟩))
        all_goals (go_wp2_with (go_at_call 46; refine (implAdv_any 16 (by omega) st nx (A ||| 2 ^ i) h16 _).mono ?_; rintro e w' ⟨rfl, hbw⟩; obtain ⟨X2, d2, rfl⟩ := Below.ext_ hbw; clear hbw))
        all_goals go_returns
        all_goals (rw [HF.out]; exact ⟨by simp, (by repeat (first | (with_reducible exact Below.refl _ _) | (with_reducible refine Below.ext ?_ (by go_size) _ _) | (with_reducible refine Below.alloc ?_ (by go_size) _) | (with_reducible refine Below.setCell ?_ (by go_size) _) | (with_reducible refine Below.drew ?_) | (with_reducible refine Below.drewN_ ?_ _)))⟩)
      · go_wp2
        go_roundw
        case rel => exact ⟨k + 1, by omega, by go_num, fun j hj => by
          rcases Nat.lt_or_ge j k with h | h
          · exact hno.out j h
          · obtain rfl : j = k := by omega
            rw [HX.out]; simpa using heq, (by first | rfl | trivial)⟩
        case measure => simp [intOf]; omega
    · obtain rfl : k = (outS st nx ak).length := by omega
      have HF : Hid (gUp st nx ak q = (st, ak)) := by
        show _ = _
        rw [gUp, if_neg]
        intro hm
        obtain ⟨j, hj, he⟩ := List.getElem_of_mem hm
        exact hno.out j hj (by rw [List.getElem?_eq_getElem hj, he])
      go_wp2
      go_returns
      rw [HF.out]
      exact ⟨by simp, (by repeat (first | (with_reducible exact Below.refl _ _) | (with_reducible refine Below.ext ?_ (by go_size) _ _) | (with_reducible refine Below.alloc ?_ (by go_size) _) | (with_reducible refine Below.setCell ?_ (by go_size) _) | (with_reducible refine Below.drew ?_) | (with_reducible refine Below.drewN_ ?_ _)))⟩

set_option maxHeartbeats 2000000 in
theorem specGive_any (st nx ak q : Int) (w : World) :
    Calls Try.prog 30 #[.agg #[.int .i64 st, .int .i64 nx, .int .i64 ak], .int .i64 q] w fun e w' => e = .returned (.agg #[.int .i64 (gUp st nx ak q).1, .int .i64 nx, .int .i64 (gUp st nx ak q).2]) ∧ Below w.heap.size w w' := by
  have hle := outS_le st nx ak
  go_enter Try.func30, Try.ntmps30
  go_wp2_with (go_at_call 25; refine (specOutS_any st nx ak _).mono ?_; rintro e w' ⟨g, cap, X, d, rfl, rfl, hg, hown⟩)
  go_loopw [6] (fun i wr => ∃ (k : Nat), k ≤ (outS st nx ak).length ∧ i = .int .i64 (k : Int) ∧ Hid (∀ j, j < k → (outS st nx ak)[j]? ≠ some q) ∧ wr = World.ext ((w.alloc (.cells #[.int .i64 st, .int .i64 nx, .int .i64 ak] 29)).alloc (.cells #[.int .i64 0, .int .i64 0, .int .i64 0] 29)) X d)
    (fun i _ => (outS st nx ak).length - (intOf i).toNat)
  case atStart => exact ⟨0, Nat.zero_le _, rfl, fun j hj => absurd hj (by omega), rfl⟩
  case round =>
    obtain ⟨k, hk, rfl, hno, rfl⟩ := hrel
    by_cases hlt : k < (outS st nx ak).length
    · obtain ⟨v, hv1, hv2⟩ := own_cell hown k hlt
      have hxk : (outS st nx ak)[k]? = some (outS st nx ak)[k] := List.getElem?_eq_getElem hlt
      have hmem : (outS st nx ak)[k] ∈ outS st nx ak := List.getElem_mem hlt
      generalize (outS st nx ak)[k] = x at hxk hmem
      rw [List.getElem?_map, hxk] at hv1
      simp only [Option.map_some, Option.some.injEq] at hv1
      subst hv1
      have HX := Lib.hid hxk
      have HM := Lib.hid hmem
      clear hxk hmem hown
      by_cases heq : x = q
      · subst heq
        obtain ⟨D, A, i, h1, rfl, h3, h4, h5, h6, h7, h8, h9, h10⟩ := outS_mem HM.out
        have h16 := or_lt A i D h4 h3 h5
        have hA : A < 9223372036854775808 := Nat.lt_of_lt_of_le h4 (Nat.le_trans (Nat.pow_le_pow_right (by omega) h3) (by decide))
        have hor : bits .or .i64 (A : Int) (IntKind.i64.wrap (2 ^ (seqD st x).toNat)) = ((A ||| 2 ^ i : Nat) : Int) := by
          rw [h10, Int.toNat_natCast]; exact or_bit A i hA (by omega)
        have hor2 : bits .or .i64 (A : Int) (wrap64 (2 ^ (seqD st x).toNat)) = ((A ||| 2 ^ i : Nat) : Int) := by
          rw [← hor, wrap64_eq]
        have HF : Hid (gUp st nx (A : Int) x = ((adv 16 st (A ||| 2 ^ i)).1, ((adv 16 st (A ||| 2 ^ i)).2 : Int))) := by
          show _ = _
          rw [gUp, if_pos HM.out, h10]; rfl
        have hb1 : 0 ≤ seqD st x ∧ seqD st x ≤ 16 := by omega
        clear h1 h6 h10 h4
        go_wp2
        go_region_with ((go_at_call 40; refine (specDist_any _ _ _).mono ?_; rintro e w' ⟨rfl, rfl⟩))
        all_goals (go_wp2_with (go_at_call 45; refine (specAdv_any 16 (by omega) st nx (A ||| 2 ^ i) h16 _).mono ?_; rintro e w' ⟨rfl, hbw⟩; obtain ⟨X2, d2, rfl⟩ := Below.ext_ hbw; clear hbw))
        all_goals go_returns
        all_goals (rw [HF.out]; exact ⟨by simp, (by repeat (first | (with_reducible exact Below.refl _ _) | (with_reducible refine Below.ext ?_ (by go_size) _ _) | (with_reducible refine Below.alloc ?_ (by go_size) _) | (with_reducible refine Below.setCell ?_ (by go_size) _) | (with_reducible refine Below.drew ?_) | (with_reducible refine Below.drewN_ ?_ _)))⟩)
      · go_wp2
        go_roundw
        case rel => exact ⟨k + 1, by omega, by go_num, fun j hj => by
          rcases Nat.lt_or_ge j k with h | h
          · exact hno.out j h
          · obtain rfl : j = k := by omega
            rw [HX.out]; simpa using heq, (by first | rfl | trivial)⟩
        case measure => simp [intOf]; omega
    · obtain rfl : k = (outS st nx ak).length := by omega
      have HF : Hid (gUp st nx ak q = (st, ak)) := by
        show _ = _
        rw [gUp, if_neg]
        intro hm
        obtain ⟨j, hj, he⟩ := List.getElem_of_mem hm
        exact hno.out j hj (by rw [List.getElem?_eq_getElem hj, he])
      go_wp2
      go_returns
      rw [HF.out]
      exact ⟨by simp, (by repeat (first | (with_reducible exact Below.refl _ _) | (with_reducible refine Below.ext ?_ (by go_size) _ _) | (with_reducible refine Below.alloc ?_ (by go_size) _) | (with_reducible refine Below.setCell ?_ (by go_size) _) | (with_reducible refine Below.drew ?_) | (with_reducible refine Below.drewN_ ?_ _)))⟩

theorem isDone_walk (st nx ak : Int) (hst : I64 st) (hnx : I64 nx) (hak : I64 ak) (w : World) :
    Calls Try.prog 6 #[.agg #[.int .i64 st, .int .i64 nx, .int .i64 ak]] w fun e w' => e = .returned (.bool true) ∧ Below w.heap.size w w' := by
  go_enter Try.func6, Try.ntmps6
  go_wp2_with (first | (go_at_call 19; refine (toSend_any _ _ _ _).mono ?_; rintro e w' ⟨rfl, hbw⟩; obtain ⟨X, d, rfl⟩ := Below.ext_ hbw; clear hbw) | (go_at_call 21; refine (specDone_any _ _ _ _).mono ?_; rintro e w' ⟨rfl, hbw⟩; obtain ⟨X, d, rfl⟩ := Below.ext_ hbw; clear hbw) | (go_at_call 22; refine (implDone_any _ _ _ _).mono ?_; rintro e w' ⟨rfl, hbw⟩; obtain ⟨X, d, rfl⟩ := Below.ext_ hbw; clear hbw))
  go_ret
  exact ⟨rfl, (by repeat (first | (with_reducible exact Below.refl _ _) | (with_reducible refine Below.ext ?_ (by go_size) _ _) | (with_reducible refine Below.alloc ?_ (by go_size) _) | (with_reducible refine Below.setCell ?_ (by go_size) _) | (with_reducible refine Below.drew ?_) | (with_reducible refine Below.drewN_ ?_ _)))⟩

theorem giveUp_walk (st nx ak : Int) (q : Int) (hst : I64 st) (hnx : I64 nx) (hak : I64 ak) (hq : I64 q) (w : World) :
    Calls Try.prog 9 #[.agg #[.int .i64 st, .int .i64 nx, .int .i64 ak], .int .i64 q] w fun e w' => e = .returned (.bool true) ∧ Below w.heap.size w w' := by
  go_enter Try.func9, Try.ntmps9
  go_wp2_with (first | (go_at_call 19; refine (toSend_any _ _ _ _).mono ?_; rintro e w' ⟨rfl, hbw⟩; obtain ⟨X, d, rfl⟩ := Below.ext_ hbw; clear hbw) | (go_at_call 30; refine (specGive_any _ _ _ _ _).mono ?_; rintro e w' ⟨rfl, hbw⟩; obtain ⟨X, d, rfl⟩ := Below.ext_ hbw; clear hbw) | (go_at_call 31; refine (implGive_any _ _ _ _ _).mono ?_; rintro e w' ⟨rfl, hbw⟩; obtain ⟨X, d, rfl⟩ := Below.ext_ hbw; clear hbw) | (go_at_call 17; refine (eqSend_any _ _ _ _).mono ?_; rintro e w' ⟨rfl, hbw⟩; obtain ⟨X, d, rfl⟩ := Below.ext_ hbw; clear hbw))
  go_ret
  exact ⟨rfl, (by repeat (first | (with_reducible exact Below.refl _ _) | (with_reducible refine Below.ext ?_ (by go_size) _ _) | (with_reducible refine Below.alloc ?_ (by go_size) _) | (with_reducible refine Below.setCell ?_ (by go_size) _) | (with_reducible refine Below.drew ?_) | (with_reducible refine Below.drewN_ ?_ _)))⟩

end Go.Proofs.Ytipcjbmfogijeaa
