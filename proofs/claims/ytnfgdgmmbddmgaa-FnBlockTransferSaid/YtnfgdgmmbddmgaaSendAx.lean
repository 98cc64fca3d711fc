/- The contracts of the functions on block senders that make no lists, and the walks of their exact laws. -/
import Derived.Test.YtnfgdgmmbddmgaaSeqA
namespace Go.Proofs.Ytnfgdgmmbddmgaa
open Go.RowKit
set_option linter.unusedVariables false
set_option linter.unusedSimpArgs false

def maskI (d : Int) : Int := IntKind.i64.wrap (IntKind.i64.wrap (2 ^ d.toNat) - 1)
def vSend (st nx ak : Int) : Bool := inR (seqD st nx) 0 16 && inR ak 0 (maskI (seqD st nx)) && bits .and .i64 ak 1 == 0
def vAck (st bm : Int) : Bool := inR st 0 4095 && inR bm 0 65535
def zeroSeq (n : Int) : Int := if inR n 0 4095 then n else 0

set_option maxHeartbeats 1000000 in
theorem implVS_any (st nx ak : Int) (w : World) :
    Calls Try.prog 43 #[.agg #[.int .i64 st, .int .i64 nx, .int .i64 ak]] w fun e w' => e = .returned (.bool (vSend st nx ak)) ∧ Below w.heap.size w w' := by
  cases h1 : inR (seqD st nx) 0 16
  · go_enter Try.func43, Try.ntmps43
    go_wp2_with (first | (go_at_call 59; refine (implDist_any _ _ _).mono ?_; rintro e w' ⟨rfl, rfl⟩))
    go_quiet ((go_at_call 60; exact Calls.quiet_of_same (inRange_q _ _ _ _)))
    go_wp2
    go_ret
    exact ⟨by simp [vSend, maskI, *], (by repeat (first | (with_reducible exact Below.refl _ _) | (with_reducible refine Below.ext ?_ (by go_size) _ _) | (with_reducible refine Below.alloc ?_ (by go_size) _) | (with_reducible refine Below.setCell ?_ (by go_size) _) | (with_reducible refine Below.drew ?_) | (with_reducible refine Below.drewN_ ?_ _)))⟩
  · have b1 := inR_true h1
    cases h2 : inR ak 0 (IntKind.i64.wrap (IntKind.i64.wrap (2 ^ (seqD st nx).toNat) - 1))
    · go_enter Try.func43, Try.ntmps43
      go_wp2_with (first | (go_at_call 59; refine (implDist_any _ _ _).mono ?_; rintro e w' ⟨rfl, rfl⟩))
      go_quiet ((go_at_call 60; exact Calls.quiet_of_same (inRange_q _ _ _ _)))
      go_wp2
      go_ret
      exact ⟨by simp [vSend, maskI, *], (by repeat (first | (with_reducible exact Below.refl _ _) | (with_reducible refine Below.ext ?_ (by go_size) _ _) | (with_reducible refine Below.alloc ?_ (by go_size) _) | (with_reducible refine Below.setCell ?_ (by go_size) _) | (with_reducible refine Below.drew ?_) | (with_reducible refine Below.drewN_ ?_ _)))⟩
    · go_enter Try.func43, Try.ntmps43
      go_wp2_with (first | (go_at_call 59; refine (implDist_any _ _ _).mono ?_; rintro e w' ⟨rfl, rfl⟩))
      go_quiet ((go_at_call 60; exact Calls.quiet_of_same (inRange_q _ _ _ _)))
      go_wp2
      go_ret
      exact ⟨by simp [vSend, maskI, *], (by repeat (first | (with_reducible exact Below.refl _ _) | (with_reducible refine Below.ext ?_ (by go_size) _ _) | (with_reducible refine Below.alloc ?_ (by go_size) _) | (with_reducible refine Below.setCell ?_ (by go_size) _) | (with_reducible refine Below.drew ?_) | (with_reducible refine Below.drewN_ ?_ _)))⟩

set_option maxHeartbeats 1000000 in
theorem implVA_any (st bm : Int) (w : World) :
    Calls Try.prog 74 #[.agg #[.int .i64 st, .int .i64 bm]] w fun e w' => e = .returned (.bool (vAck st bm)) ∧ Below w.heap.size w w' := by
  cases h1 : inR st 0 4095
  · go_enter Try.func74, Try.ntmps74
    go_wp2_with (first | (go_at_call 60; refine (inRange_any _ _ _ _).mono ?_; rintro e w' ⟨rfl, rfl⟩))
    go_ret
    exact ⟨by simp [vAck, *], (by repeat (first | (with_reducible exact Below.refl _ _) | (with_reducible refine Below.ext ?_ (by go_size) _ _) | (with_reducible refine Below.alloc ?_ (by go_size) _) | (with_reducible refine Below.setCell ?_ (by go_size) _) | (with_reducible refine Below.drew ?_) | (with_reducible refine Below.drewN_ ?_ _)))⟩
  · cases h2 : inR bm 0 65535
    · go_enter Try.func74, Try.ntmps74
      go_wp2_with (first | (go_at_call 60; refine (inRange_any _ _ _ _).mono ?_; rintro e w' ⟨rfl, rfl⟩))
      go_ret
      exact ⟨by simp [vAck, *], (by repeat (first | (with_reducible exact Below.refl _ _) | (with_reducible refine Below.ext ?_ (by go_size) _ _) | (with_reducible refine Below.alloc ?_ (by go_size) _) | (with_reducible refine Below.setCell ?_ (by go_size) _) | (with_reducible refine Below.drew ?_) | (with_reducible refine Below.drewN_ ?_ _)))⟩
    · go_enter Try.func74, Try.ntmps74
      go_wp2_with (first | (go_at_call 60; refine (inRange_any _ _ _ _).mono ?_; rintro e w' ⟨rfl, rfl⟩))
      go_ret
      exact ⟨by simp [vAck, *], (by repeat (first | (with_reducible exact Below.refl _ _) | (with_reducible refine Below.ext ?_ (by go_size) _ _) | (with_reducible refine Below.alloc ?_ (by go_size) _) | (with_reducible refine Below.setCell ?_ (by go_size) _) | (with_reducible refine Below.drew ?_) | (with_reducible refine Below.drewN_ ?_ _)))⟩

set_option maxHeartbeats 1000000 in
theorem seqOrZeroS_any (n : Int) (w : World) :
    Calls Try.prog 70 #[.int .i64 n] w fun e w' => e = .returned (.int .i64 (zeroSeq n)) ∧ w = w' := by
  cases h : inR n 0 4095
  · go_enter Try.func70, Try.ntmps70
    go_wp2_with (first | (go_at_call 60; refine (inRange_any _ _ _ _).mono ?_; rintro e w' ⟨rfl, rfl⟩))
    go_ret
    exact ⟨by simp [zeroSeq, *], rfl⟩
  · go_enter Try.func70, Try.ntmps70
    go_wp2_with (first | (go_at_call 60; refine (inRange_any _ _ _ _).mono ?_; rintro e w' ⟨rfl, rfl⟩))
    go_ret
    exact ⟨by simp [zeroSeq, *], rfl⟩

set_option maxHeartbeats 1000000 in
theorem implNewS_any (n : Int) (w : World) :
    Calls Try.prog 38 #[.int .i64 n] w fun e w' => e = .returned (.agg #[.int .i64 (zeroSeq n), .int .i64 (zeroSeq n), .int .i64 0]) ∧ Below w.heap.size w w' := by
  go_enter Try.func38, Try.ntmps38
  go_wp2_with (first | (go_at_call 70; refine (seqOrZeroS_any _ _).mono ?_; rintro e w' ⟨rfl, rfl⟩))
  go_returns
  exact ⟨by simp [vAck, *], (by repeat (first | (with_reducible exact Below.refl _ _) | (with_reducible refine Below.ext ?_ (by go_size) _ _) | (with_reducible refine Below.alloc ?_ (by go_size) _) | (with_reducible refine Below.setCell ?_ (by go_size) _) | (with_reducible refine Below.drew ?_) | (with_reducible refine Below.drewN_ ?_ _)))⟩

def canSend (st nx ak : Int) : Bool := vSend st nx ak && !(seqD st nx == 16)
def sendN (st nx ak : Int) : Int := if canSend st nx ak then seqN nx else nx
def sendX (st nx ak : Int) : Int := if canSend st nx ak then nx else 0

set_option maxHeartbeats 1000000 in
theorem implSendNext_any (st nx ak : Int) (w : World) :
    Calls Try.prog 39 #[.agg #[.int .i64 st, .int .i64 nx, .int .i64 ak]] w fun e w' => e = .returned (.tuple #[.agg #[.int .i64 st, .int .i64 (sendN st nx ak), .int .i64 ak], .int .i64 (sendX st nx ak), .bool (canSend st nx ak)]) ∧ Below w.heap.size w w' := by
  cases h1 : vSend st nx ak
  · go_enter Try.func39, Try.ntmps39
    go_wp2_with (first | (go_at_call 43; refine (implVS_any _ _ _ _).mono ?_; rintro e w' ⟨rfl, hbw⟩; obtain ⟨X, d, rfl⟩ := Below.ext_ hbw; clear hbw) | (go_at_call 59; refine (implDist_any _ _ _).mono ?_; rintro e w' ⟨rfl, rfl⟩) | (go_at_call 73; refine (implNext_any _ _).mono ?_; rintro e w' ⟨rfl, rfl⟩))
    all_goals (go_returns; exact ⟨by simp [sendN, sendX, canSend, *], (by repeat (first | (with_reducible exact Below.refl _ _) | (with_reducible refine Below.ext ?_ (by go_size) _ _) | (with_reducible refine Below.alloc ?_ (by go_size) _) | (with_reducible refine Below.setCell ?_ (by go_size) _) | (with_reducible refine Below.drew ?_) | (with_reducible refine Below.drewN_ ?_ _)))⟩)
  · cases h2 : seqD st nx == 16
    · go_enter Try.func39, Try.ntmps39
      go_wp2_with (first | (go_at_call 43; refine (implVS_any _ _ _ _).mono ?_; rintro e w' ⟨rfl, hbw⟩; obtain ⟨X, d, rfl⟩ := Below.ext_ hbw; clear hbw) | (go_at_call 59; refine (implDist_any _ _ _).mono ?_; rintro e w' ⟨rfl, rfl⟩) | (go_at_call 73; refine (implNext_any _ _).mono ?_; rintro e w' ⟨rfl, rfl⟩))
      all_goals (go_returns; exact ⟨by simp [sendN, sendX, canSend, *], (by repeat (first | (with_reducible exact Below.refl _ _) | (with_reducible refine Below.ext ?_ (by go_size) _ _) | (with_reducible refine Below.alloc ?_ (by go_size) _) | (with_reducible refine Below.setCell ?_ (by go_size) _) | (with_reducible refine Below.drew ?_) | (with_reducible refine Below.drewN_ ?_ _)))⟩)
    · go_enter Try.func39, Try.ntmps39
      go_wp2_with (first | (go_at_call 43; refine (implVS_any _ _ _ _).mono ?_; rintro e w' ⟨rfl, hbw⟩; obtain ⟨X, d, rfl⟩ := Below.ext_ hbw; clear hbw) | (go_at_call 59; refine (implDist_any _ _ _).mono ?_; rintro e w' ⟨rfl, rfl⟩) | (go_at_call 73; refine (implNext_any _ _).mono ?_; rintro e w' ⟨rfl, rfl⟩))
      all_goals (go_returns; exact ⟨by simp [sendN, sendX, canSend, *], (by repeat (first | (with_reducible exact Below.refl _ _) | (with_reducible refine Below.ext ?_ (by go_size) _ _) | (with_reducible refine Below.alloc ?_ (by go_size) _) | (with_reducible refine Below.setCell ?_ (by go_size) _) | (with_reducible refine Below.drew ?_) | (with_reducible refine Below.drewN_ ?_ _)))⟩)

end Go.Proofs.Ytnfgdgmmbddmgaa
