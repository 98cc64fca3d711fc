/- The contracts of the functions on block senders that make no lists, and the walks of their exact laws. -/
import Derived.Test.YtipcjbmfogijeaaSeqA
namespace Go.Proofs.Ytipcjbmfogijeaa
open Go.RowKit
set_option linter.unusedVariables false
set_option linter.unusedSimpArgs false

def maskI (d : Int) : Int := IntKind.i64.wrap (IntKind.i64.wrap (2 ^ d.toNat) - 1)
def vSend (st nx ak : Int) : Bool := inR (seqD st nx) 0 16 && inR ak 0 (maskI (seqD st nx)) && bits .and .i64 ak 1 == 0
def vAck (st bm : Int) : Bool := inR st 0 4095 && inR bm 0 65535
def zeroSeq (n : Int) : Int := if inR n 0 4095 then n else 0

set_option maxHeartbeats 1000000 in
theorem implVS_any (st nx ak : Int) (w : World) :
    Calls Try.prog 20 #[.agg #[.int .i64 st, .int .i64 nx, .int .i64 ak]] w fun e w' => e = .returned (.bool (vSend st nx ak)) ∧ Below w.heap.size w w' := by
  cases h1 : inR (seqD st nx) 0 16
  · go_enter Try.func20, Try.ntmps20
    go_wp2_with (first | (go_at_call 41; refine (implDist_any _ _ _).mono ?_; rintro e w' ⟨rfl, rfl⟩))
    go_quiet ((go_at_call 38; exact Calls.quiet_of_same (inRange_q _ _ _ _)))
    go_wp2
    go_ret
    exact ⟨by simp [vSend, maskI, *], (by repeat (first | (with_reducible exact Below.refl _ _) | (with_reducible refine Below.ext ?_ (by go_size) _ _) | (with_reducible refine Below.alloc ?_ (by go_size) _) | (with_reducible refine Below.setCell ?_ (by go_size) _) | (with_reducible refine Below.drew ?_) | (with_reducible refine Below.drewN_ ?_ _)))⟩
  · have b1 := inR_true h1
    cases h2 : inR ak 0 (IntKind.i64.wrap (IntKind.i64.wrap (2 ^ (seqD st nx).toNat) - 1))
    · go_enter Try.func20, Try.ntmps20
      go_wp2_with (first | (go_at_call 41; refine (implDist_any _ _ _).mono ?_; rintro e w' ⟨rfl, rfl⟩))
      go_quiet ((go_at_call 38; exact Calls.quiet_of_same (inRange_q _ _ _ _)))
      go_wp2
      go_ret
      exact ⟨by simp [vSend, maskI, *], (by repeat (first | (with_reducible exact Below.refl _ _) | (with_reducible refine Below.ext ?_ (by go_size) _ _) | (with_reducible refine Below.alloc ?_ (by go_size) _) | (with_reducible refine Below.setCell ?_ (by go_size) _) | (with_reducible refine Below.drew ?_) | (with_reducible refine Below.drewN_ ?_ _)))⟩
    · go_enter Try.func20, Try.ntmps20
      go_wp2_with (first | (go_at_call 41; refine (implDist_any _ _ _).mono ?_; rintro e w' ⟨rfl, rfl⟩))
      go_quiet ((go_at_call 38; exact Calls.quiet_of_same (inRange_q _ _ _ _)))
      go_wp2
      go_ret
      exact ⟨by simp [vSend, maskI, *], (by repeat (first | (with_reducible exact Below.refl _ _) | (with_reducible refine Below.ext ?_ (by go_size) _ _) | (with_reducible refine Below.alloc ?_ (by go_size) _) | (with_reducible refine Below.setCell ?_ (by go_size) _) | (with_reducible refine Below.drew ?_) | (with_reducible refine Below.drewN_ ?_ _)))⟩

set_option maxHeartbeats 1000000 in
theorem specVS_any (st nx ak : Int) (w : World) :
    Calls Try.prog 18 #[.agg #[.int .i64 st, .int .i64 nx, .int .i64 ak]] w fun e w' => e = .returned (.bool (vSend st nx ak)) ∧ Below w.heap.size w w' := by
  cases h1 : inR (seqD st nx) 0 16
  · go_enter Try.func18, Try.ntmps18
    go_wp2_with (first | (go_at_call 40; refine (specDist_any _ _ _).mono ?_; rintro e w' ⟨rfl, rfl⟩))
    go_quiet ((go_at_call 37; exact Calls.quiet_of_same (l1In_q _ _ _ _)))
    go_wp2
    go_ret
    exact ⟨by simp [vSend, maskI, *], (by repeat (first | (with_reducible exact Below.refl _ _) | (with_reducible refine Below.ext ?_ (by go_size) _ _) | (with_reducible refine Below.alloc ?_ (by go_size) _) | (with_reducible refine Below.setCell ?_ (by go_size) _) | (with_reducible refine Below.drew ?_) | (with_reducible refine Below.drewN_ ?_ _)))⟩
  · have b1 := inR_true h1
    cases h2 : inR ak 0 (IntKind.i64.wrap (IntKind.i64.wrap (2 ^ (seqD st nx).toNat) - 1))
    · go_enter Try.func18, Try.ntmps18
      go_wp2_with (first | (go_at_call 40; refine (specDist_any _ _ _).mono ?_; rintro e w' ⟨rfl, rfl⟩))
      go_quiet ((go_at_call 37; exact Calls.quiet_of_same (l1In_q _ _ _ _)))
      go_wp2
      go_ret
      exact ⟨by simp [vSend, maskI, *], (by repeat (first | (with_reducible exact Below.refl _ _) | (with_reducible refine Below.ext ?_ (by go_size) _ _) | (with_reducible refine Below.alloc ?_ (by go_size) _) | (with_reducible refine Below.setCell ?_ (by go_size) _) | (with_reducible refine Below.drew ?_) | (with_reducible refine Below.drewN_ ?_ _)))⟩
    · go_enter Try.func18, Try.ntmps18
      go_wp2_with (first | (go_at_call 40; refine (specDist_any _ _ _).mono ?_; rintro e w' ⟨rfl, rfl⟩))
      go_quiet ((go_at_call 37; exact Calls.quiet_of_same (l1In_q _ _ _ _)))
      go_wp2
      go_ret
      exact ⟨by simp [vSend, maskI, *], (by repeat (first | (with_reducible exact Below.refl _ _) | (with_reducible refine Below.ext ?_ (by go_size) _ _) | (with_reducible refine Below.alloc ?_ (by go_size) _) | (with_reducible refine Below.setCell ?_ (by go_size) _) | (with_reducible refine Below.drew ?_) | (with_reducible refine Below.drewN_ ?_ _)))⟩

set_option maxHeartbeats 1000000 in
theorem implVA_any (st bm : Int) (w : World) :
    Calls Try.prog 14 #[.agg #[.int .i64 st, .int .i64 bm]] w fun e w' => e = .returned (.bool (vAck st bm)) ∧ Below w.heap.size w w' := by
  cases h1 : inR st 0 4095
  · go_enter Try.func14, Try.ntmps14
    go_wp2_with (first | (go_at_call 38; refine (inRange_any _ _ _ _).mono ?_; rintro e w' ⟨rfl, rfl⟩))
    go_ret
    exact ⟨by simp [vAck, *], (by repeat (first | (with_reducible exact Below.refl _ _) | (with_reducible refine Below.ext ?_ (by go_size) _ _) | (with_reducible refine Below.alloc ?_ (by go_size) _) | (with_reducible refine Below.setCell ?_ (by go_size) _) | (with_reducible refine Below.drew ?_) | (with_reducible refine Below.drewN_ ?_ _)))⟩
  · cases h2 : inR bm 0 65535
    · go_enter Try.func14, Try.ntmps14
      go_wp2_with (first | (go_at_call 38; refine (inRange_any _ _ _ _).mono ?_; rintro e w' ⟨rfl, rfl⟩))
      go_ret
      exact ⟨by simp [vAck, *], (by repeat (first | (with_reducible exact Below.refl _ _) | (with_reducible refine Below.ext ?_ (by go_size) _ _) | (with_reducible refine Below.alloc ?_ (by go_size) _) | (with_reducible refine Below.setCell ?_ (by go_size) _) | (with_reducible refine Below.drew ?_) | (with_reducible refine Below.drewN_ ?_ _)))⟩
    · go_enter Try.func14, Try.ntmps14
      go_wp2_with (first | (go_at_call 38; refine (inRange_any _ _ _ _).mono ?_; rintro e w' ⟨rfl, rfl⟩))
      go_ret
      exact ⟨by simp [vAck, *], (by repeat (first | (with_reducible exact Below.refl _ _) | (with_reducible refine Below.ext ?_ (by go_size) _ _) | (with_reducible refine Below.alloc ?_ (by go_size) _) | (with_reducible refine Below.setCell ?_ (by go_size) _) | (with_reducible refine Below.drew ?_) | (with_reducible refine Below.drewN_ ?_ _)))⟩

set_option maxHeartbeats 1000000 in
theorem specVA_any (st bm : Int) (w : World) :
    Calls Try.prog 12 #[.agg #[.int .i64 st, .int .i64 bm]] w fun e w' => e = .returned (.bool (vAck st bm)) ∧ Below w.heap.size w w' := by
  cases h1 : inR st 0 4095
  · go_enter Try.func12, Try.ntmps12
    go_wp2_with (first | (go_at_call 37; refine (l1In_any _ _ _ _).mono ?_; rintro e w' ⟨rfl, rfl⟩))
    go_ret
    exact ⟨by simp [vAck, *], (by repeat (first | (with_reducible exact Below.refl _ _) | (with_reducible refine Below.ext ?_ (by go_size) _ _) | (with_reducible refine Below.alloc ?_ (by go_size) _) | (with_reducible refine Below.setCell ?_ (by go_size) _) | (with_reducible refine Below.drew ?_) | (with_reducible refine Below.drewN_ ?_ _)))⟩
  · cases h2 : inR bm 0 65535
    · go_enter Try.func12, Try.ntmps12
      go_wp2_with (first | (go_at_call 37; refine (l1In_any _ _ _ _).mono ?_; rintro e w' ⟨rfl, rfl⟩))
      go_ret
      exact ⟨by simp [vAck, *], (by repeat (first | (with_reducible exact Below.refl _ _) | (with_reducible refine Below.ext ?_ (by go_size) _ _) | (with_reducible refine Below.alloc ?_ (by go_size) _) | (with_reducible refine Below.setCell ?_ (by go_size) _) | (with_reducible refine Below.drew ?_) | (with_reducible refine Below.drewN_ ?_ _)))⟩
    · go_enter Try.func12, Try.ntmps12
      go_wp2_with (first | (go_at_call 37; refine (l1In_any _ _ _ _).mono ?_; rintro e w' ⟨rfl, rfl⟩))
      go_ret
      exact ⟨by simp [vAck, *], (by repeat (first | (with_reducible exact Below.refl _ _) | (with_reducible refine Below.ext ?_ (by go_size) _ _) | (with_reducible refine Below.alloc ?_ (by go_size) _) | (with_reducible refine Below.setCell ?_ (by go_size) _) | (with_reducible refine Below.drew ?_) | (with_reducible refine Below.drewN_ ?_ _)))⟩

set_option maxHeartbeats 1000000 in
theorem toAck_any (st bm : Int) (w : World) :
    Calls Try.prog 13 #[.agg #[.int .i64 st, .int .i64 bm]] w fun e w' => e = .returned (.agg #[.int .i64 st, .int .i64 bm]) ∧ Below w.heap.size w w' := by
  go_enter Try.func13, Try.ntmps13
  go_wp2
  go_returns
  exact ⟨by simp [vAck, *], (by repeat (first | (with_reducible exact Below.refl _ _) | (with_reducible refine Below.ext ?_ (by go_size) _ _) | (with_reducible refine Below.alloc ?_ (by go_size) _) | (with_reducible refine Below.setCell ?_ (by go_size) _) | (with_reducible refine Below.drew ?_) | (with_reducible refine Below.drewN_ ?_ _)))⟩

set_option maxHeartbeats 1000000 in
theorem toSend_any (st nx ak : Int) (w : World) :
    Calls Try.prog 19 #[.agg #[.int .i64 st, .int .i64 nx, .int .i64 ak]] w fun e w' => e = .returned (.agg #[.int .i64 st, .int .i64 nx, .int .i64 ak]) ∧ Below w.heap.size w w' := by
  go_enter Try.func19, Try.ntmps19
  go_wp2
  go_returns
  exact ⟨by simp [vAck, *], (by repeat (first | (with_reducible exact Below.refl _ _) | (with_reducible refine Below.ext ?_ (by go_size) _ _) | (with_reducible refine Below.alloc ?_ (by go_size) _) | (with_reducible refine Below.setCell ?_ (by go_size) _) | (with_reducible refine Below.drew ?_) | (with_reducible refine Below.drewN_ ?_ _)))⟩

set_option maxHeartbeats 1000000 in
theorem eqSend_any (st nx ak : Int) (w : World) :
    Calls Try.prog 17 #[.agg #[.int .i64 st, .int .i64 nx, .int .i64 ak], .agg #[.int .i64 st, .int .i64 nx, .int .i64 ak]] w fun e w' => e = .returned (.bool true) ∧ Below w.heap.size w w' := by
  go_enter Try.func17, Try.ntmps17
  go_wp2
  go_returns
  exact ⟨by simp [vAck, *], (by repeat (first | (with_reducible exact Below.refl _ _) | (with_reducible refine Below.ext ?_ (by go_size) _ _) | (with_reducible refine Below.alloc ?_ (by go_size) _) | (with_reducible refine Below.setCell ?_ (by go_size) _) | (with_reducible refine Below.drew ?_) | (with_reducible refine Below.drewN_ ?_ _)))⟩

set_option maxHeartbeats 1000000 in
theorem seqOrZero_any (n : Int) (w : World) :
    Calls Try.prog 39 #[.int .i64 n] w fun e w' => e = .returned (.int .i64 (zeroSeq n)) ∧ w = w' := by
  cases h : inR n 0 4095
  · go_enter Try.func39, Try.ntmps39
    go_wp2_with (first | (go_at_call 38; refine (inRange_any _ _ _ _).mono ?_; rintro e w' ⟨rfl, rfl⟩))
    go_ret
    exact ⟨by simp [zeroSeq, *], rfl⟩
  · go_enter Try.func39, Try.ntmps39
    go_wp2_with (first | (go_at_call 38; refine (inRange_any _ _ _ _).mono ?_; rintro e w' ⟨rfl, rfl⟩))
    go_ret
    exact ⟨by simp [zeroSeq, *], rfl⟩

set_option maxHeartbeats 1000000 in
theorem implNewS_any (n : Int) (w : World) :
    Calls Try.prog 16 #[.int .i64 n] w fun e w' => e = .returned (.agg #[.int .i64 (zeroSeq n), .int .i64 (zeroSeq n), .int .i64 0]) ∧ Below w.heap.size w w' := by
  go_enter Try.func16, Try.ntmps16
  go_wp2_with (first | (go_at_call 39; refine (seqOrZero_any _ _).mono ?_; rintro e w' ⟨rfl, rfl⟩))
  go_returns
  exact ⟨by simp [vAck, *], (by repeat (first | (with_reducible exact Below.refl _ _) | (with_reducible refine Below.ext ?_ (by go_size) _ _) | (with_reducible refine Below.alloc ?_ (by go_size) _) | (with_reducible refine Below.setCell ?_ (by go_size) _) | (with_reducible refine Below.drew ?_) | (with_reducible refine Below.drewN_ ?_ _)))⟩

set_option maxHeartbeats 1000000 in
theorem specNewS_any (n : Int) (w : World) :
    Calls Try.prog 15 #[.int .i64 n] w fun e w' => e = .returned (.agg #[.int .i64 (zeroSeq n), .int .i64 (zeroSeq n), .int .i64 0]) ∧ Below w.heap.size w w' := by
  cases h : inR n 0 4095
  · go_enter Try.func15, Try.ntmps15
    go_wp2_with (first | (go_at_call 37; refine (l1In_any _ _ _ _).mono ?_; rintro e w' ⟨rfl, rfl⟩))
    go_returns
    exact ⟨by simp [zeroSeq, *], (by repeat (first | (with_reducible exact Below.refl _ _) | (with_reducible refine Below.ext ?_ (by go_size) _ _) | (with_reducible refine Below.alloc ?_ (by go_size) _) | (with_reducible refine Below.setCell ?_ (by go_size) _) | (with_reducible refine Below.drew ?_) | (with_reducible refine Below.drewN_ ?_ _)))⟩
  · go_enter Try.func15, Try.ntmps15
    go_wp2_with (first | (go_at_call 37; refine (l1In_any _ _ _ _).mono ?_; rintro e w' ⟨rfl, rfl⟩))
    go_returns
    exact ⟨by simp [zeroSeq, *], (by repeat (first | (with_reducible exact Below.refl _ _) | (with_reducible refine Below.ext ?_ (by go_size) _ _) | (with_reducible refine Below.alloc ?_ (by go_size) _) | (with_reducible refine Below.setCell ?_ (by go_size) _) | (with_reducible refine Below.drew ?_) | (with_reducible refine Below.drewN_ ?_ _)))⟩

def canSend (st nx ak : Int) : Bool := vSend st nx ak && !(seqD st nx == 16)
def sendN (st nx ak : Int) : Int := if canSend st nx ak then seqN nx else nx
def sendX (st nx ak : Int) : Int := if canSend st nx ak then nx else 0

set_option maxHeartbeats 1000000 in
theorem implSendNext_any (st nx ak : Int) (w : World) :
    Calls Try.prog 24 #[.agg #[.int .i64 st, .int .i64 nx, .int .i64 ak]] w fun e w' => e = .returned (.tuple #[.agg #[.int .i64 st, .int .i64 (sendN st nx ak), .int .i64 ak], .int .i64 (sendX st nx ak), .bool (canSend st nx ak)]) ∧ Below w.heap.size w w' := by
  cases h1 : vSend st nx ak
  · go_enter Try.func24, Try.ntmps24
    go_wp2_with (first | (go_at_call 20; refine (implVS_any _ _ _ _).mono ?_; rintro e w' ⟨rfl, hbw⟩; obtain ⟨X, d, rfl⟩ := Below.ext_ hbw; clear hbw) | (go_at_call 41; refine (implDist_any _ _ _).mono ?_; rintro e w' ⟨rfl, rfl⟩) | (go_at_call 43; refine (implNext_any _ _).mono ?_; rintro e w' ⟨rfl, rfl⟩))
    all_goals (go_returns; exact ⟨by simp [sendN, sendX, canSend, *], (by repeat (first | (with_reducible exact Below.refl _ _) | (with_reducible refine Below.ext ?_ (by go_size) _ _) | (with_reducible refine Below.alloc ?_ (by go_size) _) | (with_reducible refine Below.setCell ?_ (by go_size) _) | (with_reducible refine Below.drew ?_) | (with_reducible refine Below.drewN_ ?_ _)))⟩)
  · cases h2 : seqD st nx == 16
    · go_enter Try.func24, Try.ntmps24
      go_wp2_with (first | (go_at_call 20; refine (implVS_any _ _ _ _).mono ?_; rintro e w' ⟨rfl, hbw⟩; obtain ⟨X, d, rfl⟩ := Below.ext_ hbw; clear hbw) | (go_at_call 41; refine (implDist_any _ _ _).mono ?_; rintro e w' ⟨rfl, rfl⟩) | (go_at_call 43; refine (implNext_any _ _).mono ?_; rintro e w' ⟨rfl, rfl⟩))
      all_goals (go_returns; exact ⟨by simp [sendN, sendX, canSend, *], (by repeat (first | (with_reducible exact Below.refl _ _) | (with_reducible refine Below.ext ?_ (by go_size) _ _) | (with_reducible refine Below.alloc ?_ (by go_size) _) | (with_reducible refine Below.setCell ?_ (by go_size) _) | (with_reducible refine Below.drew ?_) | (with_reducible refine Below.drewN_ ?_ _)))⟩)
    · go_enter Try.func24, Try.ntmps24
      go_wp2_with (first | (go_at_call 20; refine (implVS_any _ _ _ _).mono ?_; rintro e w' ⟨rfl, hbw⟩; obtain ⟨X, d, rfl⟩ := Below.ext_ hbw; clear hbw) | (go_at_call 41; refine (implDist_any _ _ _).mono ?_; rintro e w' ⟨rfl, rfl⟩) | (go_at_call 43; refine (implNext_any _ _).mono ?_; rintro e w' ⟨rfl, rfl⟩))
      all_goals (go_returns; exact ⟨by simp [sendN, sendX, canSend, *], (by repeat (first | (with_reducible exact Below.refl _ _) | (with_reducible refine Below.ext ?_ (by go_size) _ _) | (with_reducible refine Below.alloc ?_ (by go_size) _) | (with_reducible refine Below.setCell ?_ (by go_size) _) | (with_reducible refine Below.drew ?_) | (with_reducible refine Below.drewN_ ?_ _)))⟩)

set_option maxHeartbeats 1000000 in
theorem specSendNext_any (st nx ak : Int) (w : World) :
    Calls Try.prog 23 #[.agg #[.int .i64 st, .int .i64 nx, .int .i64 ak]] w fun e w' => e = .returned (.tuple #[.agg #[.int .i64 st, .int .i64 (sendN st nx ak), .int .i64 ak], .int .i64 (sendX st nx ak), .bool (canSend st nx ak)]) ∧ Below w.heap.size w w' := by
  cases h1 : vSend st nx ak
  · go_enter Try.func23, Try.ntmps23
    go_wp2_with (first | (go_at_call 18; refine (specVS_any _ _ _ _).mono ?_; rintro e w' ⟨rfl, hbw⟩; obtain ⟨X, d, rfl⟩ := Below.ext_ hbw; clear hbw) | (go_at_call 40; refine (specDist_any _ _ _).mono ?_; rintro e w' ⟨rfl, rfl⟩) | (go_at_call 42; refine (specNext_any _ _).mono ?_; rintro e w' ⟨rfl, rfl⟩))
    all_goals (go_returns; exact ⟨by simp [sendN, sendX, canSend, *], (by repeat (first | (with_reducible exact Below.refl _ _) | (with_reducible refine Below.ext ?_ (by go_size) _ _) | (with_reducible refine Below.alloc ?_ (by go_size) _) | (with_reducible refine Below.setCell ?_ (by go_size) _) | (with_reducible refine Below.drew ?_) | (with_reducible refine Below.drewN_ ?_ _)))⟩)
  · cases h2 : seqD st nx == 16
    · go_enter Try.func23, Try.ntmps23
      go_wp2_with (first | (go_at_call 18; refine (specVS_any _ _ _ _).mono ?_; rintro e w' ⟨rfl, hbw⟩; obtain ⟨X, d, rfl⟩ := Below.ext_ hbw; clear hbw) | (go_at_call 40; refine (specDist_any _ _ _).mono ?_; rintro e w' ⟨rfl, rfl⟩) | (go_at_call 42; refine (specNext_any _ _).mono ?_; rintro e w' ⟨rfl, rfl⟩))
      go_region
      all_goals go_wp2
      all_goals (go_returns; exact ⟨by simp [sendN, sendX, canSend, *], (by repeat (first | (with_reducible exact Below.refl _ _) | (with_reducible refine Below.ext ?_ (by go_size) _ _) | (with_reducible refine Below.alloc ?_ (by go_size) _) | (with_reducible refine Below.setCell ?_ (by go_size) _) | (with_reducible refine Below.drew ?_) | (with_reducible refine Below.drewN_ ?_ _)))⟩)
    · go_enter Try.func23, Try.ntmps23
      go_wp2_with (first | (go_at_call 18; refine (specVS_any _ _ _ _).mono ?_; rintro e w' ⟨rfl, hbw⟩; obtain ⟨X, d, rfl⟩ := Below.ext_ hbw; clear hbw) | (go_at_call 40; refine (specDist_any _ _ _).mono ?_; rintro e w' ⟨rfl, rfl⟩) | (go_at_call 42; refine (specNext_any _ _).mono ?_; rintro e w' ⟨rfl, rfl⟩))
      all_goals (go_returns; exact ⟨by simp [sendN, sendX, canSend, *], (by repeat (first | (with_reducible exact Below.refl _ _) | (with_reducible refine Below.ext ?_ (by go_size) _ _) | (with_reducible refine Below.alloc ?_ (by go_size) _) | (with_reducible refine Below.setCell ?_ (by go_size) _) | (with_reducible refine Below.drew ?_) | (with_reducible refine Below.drewN_ ?_ _)))⟩)

theorem isValidBlockAck_walk (st bm : Int) (hst : I64 st) (hbm : I64 bm) (w : World) :
    Calls Try.prog 3 #[.agg #[.int .i64 st, .int .i64 bm]] w fun e w' => e = .returned (.bool true) ∧ Below w.heap.size w w' := by
  go_enter Try.func3, Try.ntmps3
  go_wp2_with (first | (go_at_call 13; refine (toAck_any _ _ _).mono ?_; rintro e w' ⟨rfl, hbw⟩; obtain ⟨X, d, rfl⟩ := Below.ext_ hbw; clear hbw) | (go_at_call 12; refine (specVA_any _ _ _).mono ?_; rintro e w' ⟨rfl, hbw⟩; obtain ⟨X, d, rfl⟩ := Below.ext_ hbw; clear hbw) | (go_at_call 14; refine (implVA_any _ _ _).mono ?_; rintro e w' ⟨rfl, hbw⟩; obtain ⟨X, d, rfl⟩ := Below.ext_ hbw; clear hbw))
  go_ret
  exact ⟨rfl, (by repeat (first | (with_reducible exact Below.refl _ _) | (with_reducible refine Below.ext ?_ (by go_size) _ _) | (with_reducible refine Below.alloc ?_ (by go_size) _) | (with_reducible refine Below.setCell ?_ (by go_size) _) | (with_reducible refine Below.drew ?_) | (with_reducible refine Below.drewN_ ?_ _)))⟩

theorem newBlockSender_walk (n : Int) (hn : I64 n) (w : World) :
    Calls Try.prog 4 #[.int .i64 n] w fun e w' => e = .returned (.bool true) ∧ Below w.heap.size w w' := by
  go_enter Try.func4, Try.ntmps4
  go_wp2_with (first | (go_at_call 15; refine (specNewS_any _ _).mono ?_; rintro e w' ⟨rfl, hbw⟩; obtain ⟨X, d, rfl⟩ := Below.ext_ hbw; clear hbw) | (go_at_call 16; refine (implNewS_any _ _).mono ?_; rintro e w' ⟨rfl, hbw⟩; obtain ⟨X, d, rfl⟩ := Below.ext_ hbw; clear hbw) | (go_at_call 17; refine (eqSend_any _ _ _ _).mono ?_; rintro e w' ⟨rfl, hbw⟩; obtain ⟨X, d, rfl⟩ := Below.ext_ hbw; clear hbw))
  go_ret
  exact ⟨rfl, (by repeat (first | (with_reducible exact Below.refl _ _) | (with_reducible refine Below.ext ?_ (by go_size) _ _) | (with_reducible refine Below.alloc ?_ (by go_size) _) | (with_reducible refine Below.setCell ?_ (by go_size) _) | (with_reducible refine Below.drew ?_) | (with_reducible refine Below.drewN_ ?_ _)))⟩

theorem isValidBlockSender_walk (st nx ak : Int) (hst : I64 st) (hnx : I64 nx) (hak : I64 ak) (w : World) :
    Calls Try.prog 5 #[.agg #[.int .i64 st, .int .i64 nx, .int .i64 ak]] w fun e w' => e = .returned (.bool true) ∧ Below w.heap.size w w' := by
  go_enter Try.func5, Try.ntmps5
  go_wp2_with (first | (go_at_call 19; refine (toSend_any _ _ _ _).mono ?_; rintro e w' ⟨rfl, hbw⟩; obtain ⟨X, d, rfl⟩ := Below.ext_ hbw; clear hbw) | (go_at_call 18; refine (specVS_any _ _ _ _).mono ?_; rintro e w' ⟨rfl, hbw⟩; obtain ⟨X, d, rfl⟩ := Below.ext_ hbw; clear hbw) | (go_at_call 20; refine (implVS_any _ _ _ _).mono ?_; rintro e w' ⟨rfl, hbw⟩; obtain ⟨X, d, rfl⟩ := Below.ext_ hbw; clear hbw))
  go_ret
  exact ⟨rfl, (by repeat (first | (with_reducible exact Below.refl _ _) | (with_reducible refine Below.ext ?_ (by go_size) _ _) | (with_reducible refine Below.alloc ?_ (by go_size) _) | (with_reducible refine Below.setCell ?_ (by go_size) _) | (with_reducible refine Below.drew ?_) | (with_reducible refine Below.drewN_ ?_ _)))⟩

theorem sendNext_walk (st nx ak : Int) (hst : I64 st) (hnx : I64 nx) (hak : I64 ak) (w : World) :
    Calls Try.prog 7 #[.agg #[.int .i64 st, .int .i64 nx, .int .i64 ak]] w fun e w' => e = .returned (.bool true) ∧ Below w.heap.size w w' := by
  go_enter Try.func7, Try.ntmps7
  go_wp2_with (first | (go_at_call 19; refine (toSend_any _ _ _ _).mono ?_; rintro e w' ⟨rfl, hbw⟩; obtain ⟨X, d, rfl⟩ := Below.ext_ hbw; clear hbw) | (go_at_call 23; refine (specSendNext_any _ _ _ _).mono ?_; rintro e w' ⟨rfl, hbw⟩; obtain ⟨X, d, rfl⟩ := Below.ext_ hbw; clear hbw) | (go_at_call 24; refine (implSendNext_any _ _ _ _).mono ?_; rintro e w' ⟨rfl, hbw⟩; obtain ⟨X, d, rfl⟩ := Below.ext_ hbw; clear hbw) | (go_at_call 17; refine (eqSend_any _ _ _ _).mono ?_; rintro e w' ⟨rfl, hbw⟩; obtain ⟨X, d, rfl⟩ := Below.ext_ hbw; clear hbw))
  go_ret
  exact ⟨rfl, (by repeat (first | (with_reducible exact Below.refl _ _) | (with_reducible refine Below.ext ?_ (by go_size) _ _) | (with_reducible refine Below.alloc ?_ (by go_size) _) | (with_reducible refine Below.setCell ?_ (by go_size) _) | (with_reducible refine Below.drew ?_) | (with_reducible refine Below.drewN_ ?_ _)))⟩

end Go.Proofs.Ytipcjbmfogijeaa
