/- The contracts of the functions on sleeping stations, and the walks of the exact laws. -/
import Derived.Test.YtncnlhmakigpgaaSleepA
namespace Go.Proofs.Ytncnlhmakigpgaa
open Go.RowKit
set_option linter.unusedVariables false
set_option linter.unusedSimpArgs false

structure SS where
  l : Int
  a : Bool
  b : Int
  p : Int
  g : Bool

def SS.v (s : SS) : Bool := vSleep s.l s.a s.b s.p s.g
theorem SS.bd {s : SS} (h : s.v = true) : 1 ≤ s.l ∧ s.l ≤ 8 ∧ 0 ≤ s.b ∧ s.b ≤ s.l - 1 ∧ 0 ≤ s.p ∧ s.p ≤ 1 := vSleep_true h
def sWakes (s : SS) : Int := if s.v then (if s.a then 0 else s.l - s.b) else -1
def sGroup (s : SS) : SS := if s.v && s.g then { s with g := false, a := s.p == 1 } else s
def sMissed (s : SS) : SS := if s.v && s.a then { s with b := s.l - 1, a := mustB s.p s.g } else s
def sBefore (s : SS) : SS := if s.v then (if s.b + 1 == s.l then { s with b := 0, a := true } else { s with b := s.b + 1 }) else s
def sTraffic (s : SS) (m : Bool) : SS := if s.v && !(s.p == 0) && !m then { s with p := 0, a := s.g } else s
def sTrafficB (s : SS) (m : Bool) : Bool := s.v && !(s.p == 0) && m
def sNew (n : Int) : SS := { l := if inR n 1 8 then n else 1, a := false, b := 0, p := 0, g := false }

set_option maxHeartbeats 1000000 in
theorem specWakes_any (s : SS) (w : World) :
    Calls Try.prog 18 #[.agg #[.int .i64 s.l, .bool s.a, .int .i64 s.b, .int .i64 s.p, .bool s.g]] w fun e w' => e = .returned (.int .i64 (sWakes s)) ∧ Below w.heap.size w w' := by
  obtain ⟨l, a, b, p, g⟩ := s
  dsimp only
  cases hv : vSleep l a b p g <;> cases a <;> (try (obtain ⟨q1, q2, q3, q4, q5, q6⟩ := vSleep_true hv))
  all_goals
    go_enter Try.func18, Try.ntmps18
    go_wp2_with (first | (go_at_call 12; refine (specValid_any _ _ _ _ _ _).mono ?_; rintro e w' ⟨rfl, hbw⟩; obtain ⟨X, d, rfl⟩ := Below.ext_ hbw; clear hbw))
    go_ret
    exact ⟨by simp [sWakes, SS.v, *], (by repeat (first | (with_reducible exact Below.refl _ _) | (with_reducible refine Below.ext ?_ (by go_size) _ _) | (with_reducible refine Below.alloc ?_ (by go_size) _) | (with_reducible refine Below.setCell ?_ (by go_size) _) | (with_reducible refine Below.drew ?_) | (with_reducible refine Below.drewN_ ?_ _)))⟩

set_option maxHeartbeats 1000000 in
theorem implWakes_any (s : SS) (w : World) :
    Calls Try.prog 19 #[.agg #[.int .i64 s.l, .bool s.a, .int .i64 s.b, .int .i64 s.p, .bool s.g]] w fun e w' => e = .returned (.int .i64 (sWakes s)) ∧ Below w.heap.size w w' := by
  obtain ⟨l, a, b, p, g⟩ := s
  dsimp only
  cases hv : vSleep l a b p g <;> cases a <;> (try (obtain ⟨q1, q2, q3, q4, q5, q6⟩ := vSleep_true hv))
  all_goals
    go_enter Try.func19, Try.ntmps19
    go_wp2_with (first | (go_at_call 14; refine (implValid_any _ _ _ _ _ _).mono ?_; rintro e w' ⟨rfl, hbw⟩; obtain ⟨X, d, rfl⟩ := Below.ext_ hbw; clear hbw))
    go_ret
    exact ⟨by simp [sWakes, SS.v, *], (by repeat (first | (with_reducible exact Below.refl _ _) | (with_reducible refine Below.ext ?_ (by go_size) _ _) | (with_reducible refine Below.alloc ?_ (by go_size) _) | (with_reducible refine Below.setCell ?_ (by go_size) _) | (with_reducible refine Below.drew ?_) | (with_reducible refine Below.drewN_ ?_ _)))⟩

set_option maxHeartbeats 1000000 in
theorem specGroup_any (s : SS) (w : World) :
    Calls Try.prog 20 #[.agg #[.int .i64 s.l, .bool s.a, .int .i64 s.b, .int .i64 s.p, .bool s.g]] w fun e w' => e = .returned (.agg #[.int .i64 (sGroup s).l, .bool (sGroup s).a, .int .i64 (sGroup s).b, .int .i64 (sGroup s).p, .bool (sGroup s).g]) ∧ Below w.heap.size w w' := by
  obtain ⟨l, a, b, p, g⟩ := s
  dsimp only
  cases hv : vSleep l a b p g <;> cases g <;> cases hp1 : p == 1
  all_goals
    go_enter Try.func20, Try.ntmps20
    go_wp2_with (first | (go_at_call 12; refine (specValid_any _ _ _ _ _ _).mono ?_; rintro e w' ⟨rfl, hbw⟩; obtain ⟨X, d, rfl⟩ := Below.ext_ hbw; clear hbw))
    go_returns
    exact ⟨by simp [sGroup, SS.v, *], (by repeat (first | (with_reducible exact Below.refl _ _) | (with_reducible refine Below.ext ?_ (by go_size) _ _) | (with_reducible refine Below.alloc ?_ (by go_size) _) | (with_reducible refine Below.setCell ?_ (by go_size) _) | (with_reducible refine Below.drew ?_) | (with_reducible refine Below.drewN_ ?_ _)))⟩

set_option maxHeartbeats 1000000 in
theorem implGroup_any (s : SS) (w : World) :
    Calls Try.prog 21 #[.agg #[.int .i64 s.l, .bool s.a, .int .i64 s.b, .int .i64 s.p, .bool s.g]] w fun e w' => e = .returned (.agg #[.int .i64 (sGroup s).l, .bool (sGroup s).a, .int .i64 (sGroup s).b, .int .i64 (sGroup s).p, .bool (sGroup s).g]) ∧ Below w.heap.size w w' := by
  obtain ⟨l, a, b, p, g⟩ := s
  dsimp only
  cases hv : vSleep l a b p g <;> cases g <;> cases hp1 : p == 1 <;> (try (obtain ⟨q1, q2, q3, q4, q5, q6⟩ := vSleep_true hv)) <;> (try (have hp0 : (p != 0) = true := by simp at hp1 ⊢; omega)) <;> (try (have hp0 : (p != 0) = false := by simp at hp1 ⊢; omega))
  all_goals
    go_enter Try.func21, Try.ntmps21
    go_wp2_with (first | (go_at_call 14; refine (implValid_any _ _ _ _ _ _).mono ?_; rintro e w' ⟨rfl, hbw⟩; obtain ⟨X, d, rfl⟩ := Below.ext_ hbw; clear hbw))
    go_returns
    exact ⟨by simp [sGroup, SS.v, *], (by repeat (first | (with_reducible exact Below.refl _ _) | (with_reducible refine Below.ext ?_ (by go_size) _ _) | (with_reducible refine Below.alloc ?_ (by go_size) _) | (with_reducible refine Below.setCell ?_ (by go_size) _) | (with_reducible refine Below.drew ?_) | (with_reducible refine Below.drewN_ ?_ _)))⟩

set_option maxHeartbeats 1000000 in
theorem specMissed_any (s : SS) (w : World) :
    Calls Try.prog 22 #[.agg #[.int .i64 s.l, .bool s.a, .int .i64 s.b, .int .i64 s.p, .bool s.g]] w fun e w' => e = .returned (.agg #[.int .i64 (sMissed s).l, .bool (sMissed s).a, .int .i64 (sMissed s).b, .int .i64 (sMissed s).p, .bool (sMissed s).g]) ∧ Below w.heap.size w w' := by
  obtain ⟨l, a, b, p, g⟩ := s
  dsimp only
  cases hv : vSleep l a b p g <;> (try (obtain ⟨q1, q2, q3, q4, q5, q6⟩ := vSleep_true hv)) <;> cases a <;> cases g <;> cases hp1 : p == 1
  all_goals
    go_enter Try.func22, Try.ntmps22
    go_wp2_with (first | (go_at_call 12; refine (specValid_any _ _ _ _ _ _).mono ?_; rintro e w' ⟨rfl, hbw⟩; obtain ⟨X, d, rfl⟩ := Below.ext_ hbw; clear hbw))
    go_returns
    exact ⟨by simp [sMissed, mustB, SS.v, *], (by repeat (first | (with_reducible exact Below.refl _ _) | (with_reducible refine Below.ext ?_ (by go_size) _ _) | (with_reducible refine Below.alloc ?_ (by go_size) _) | (with_reducible refine Below.setCell ?_ (by go_size) _) | (with_reducible refine Below.drew ?_) | (with_reducible refine Below.drewN_ ?_ _)))⟩

set_option maxHeartbeats 1000000 in
theorem implMissed_any (s : SS) (w : World) :
    Calls Try.prog 23 #[.agg #[.int .i64 s.l, .bool s.a, .int .i64 s.b, .int .i64 s.p, .bool s.g]] w fun e w' => e = .returned (.agg #[.int .i64 (sMissed s).l, .bool (sMissed s).a, .int .i64 (sMissed s).b, .int .i64 (sMissed s).p, .bool (sMissed s).g]) ∧ Below w.heap.size w w' := by
  obtain ⟨l, a, b, p, g⟩ := s
  dsimp only
  cases hv : vSleep l a b p g <;> (try (obtain ⟨q1, q2, q3, q4, q5, q6⟩ := vSleep_true hv)) <;> cases a
  all_goals
    go_enter Try.func23, Try.ntmps23
    go_wp2_with (first | (go_at_call 14; refine (implValid_any _ _ _ _ _ _).mono ?_; rintro e w' ⟨rfl, hbw⟩; obtain ⟨X, d, rfl⟩ := Below.ext_ hbw; clear hbw) | (go_at_call 37; refine (implMust_any _ _ _ _ _ _).mono ?_; rintro e w' ⟨rfl, hbw⟩; obtain ⟨X, d, rfl⟩ := Below.ext_ hbw; clear hbw))
    go_returns
    exact ⟨by simp [sMissed, SS.v, *], (by repeat (first | (with_reducible exact Below.refl _ _) | (with_reducible refine Below.ext ?_ (by go_size) _ _) | (with_reducible refine Below.alloc ?_ (by go_size) _) | (with_reducible refine Below.setCell ?_ (by go_size) _) | (with_reducible refine Below.drew ?_) | (with_reducible refine Below.drewN_ ?_ _)))⟩

set_option maxHeartbeats 1000000 in
theorem specBefore_any (s : SS) (w : World) :
    Calls Try.prog 24 #[.agg #[.int .i64 s.l, .bool s.a, .int .i64 s.b, .int .i64 s.p, .bool s.g]] w fun e w' => e = .returned (.agg #[.int .i64 (sBefore s).l, .bool (sBefore s).a, .int .i64 (sBefore s).b, .int .i64 (sBefore s).p, .bool (sBefore s).g]) ∧ Below w.heap.size w w' := by
  obtain ⟨l, a, b, p, g⟩ := s
  dsimp only
  cases hv : vSleep l a b p g <;> (try (obtain ⟨q1, q2, q3, q4, q5, q6⟩ := vSleep_true hv)) <;> cases he : b + 1 == l
  all_goals
    go_enter Try.func24, Try.ntmps24
    go_wp2_with (first | (go_at_call 12; refine (specValid_any _ _ _ _ _ _).mono ?_; rintro e w' ⟨rfl, hbw⟩; obtain ⟨X, d, rfl⟩ := Below.ext_ hbw; clear hbw))
    go_returns
    exact ⟨by simp [sBefore, SS.v, *], (by repeat (first | (with_reducible exact Below.refl _ _) | (with_reducible refine Below.ext ?_ (by go_size) _ _) | (with_reducible refine Below.alloc ?_ (by go_size) _) | (with_reducible refine Below.setCell ?_ (by go_size) _) | (with_reducible refine Below.drew ?_) | (with_reducible refine Below.drewN_ ?_ _)))⟩

set_option maxHeartbeats 1000000 in
theorem implBefore_any (s : SS) (w : World) :
    Calls Try.prog 25 #[.agg #[.int .i64 s.l, .bool s.a, .int .i64 s.b, .int .i64 s.p, .bool s.g]] w fun e w' => e = .returned (.agg #[.int .i64 (sBefore s).l, .bool (sBefore s).a, .int .i64 (sBefore s).b, .int .i64 (sBefore s).p, .bool (sBefore s).g]) ∧ Below w.heap.size w w' := by
  obtain ⟨l, a, b, p, g⟩ := s
  dsimp only
  cases hv : vSleep l a b p g <;> (try (obtain ⟨q1, q2, q3, q4, q5, q6⟩ := vSleep_true hv)) <;> cases he : b + 1 == l
  all_goals
    go_enter Try.func25, Try.ntmps25
    go_wp2_with (first | (go_at_call 14; refine (implValid_any _ _ _ _ _ _).mono ?_; rintro e w' ⟨rfl, hbw⟩; obtain ⟨X, d, rfl⟩ := Below.ext_ hbw; clear hbw))
    go_returns
    exact ⟨by simp [sBefore, SS.v, *], (by repeat (first | (with_reducible exact Below.refl _ _) | (with_reducible refine Below.ext ?_ (by go_size) _ _) | (with_reducible refine Below.alloc ?_ (by go_size) _) | (with_reducible refine Below.setCell ?_ (by go_size) _) | (with_reducible refine Below.drew ?_) | (with_reducible refine Below.drewN_ ?_ _)))⟩

set_option maxHeartbeats 1000000 in
theorem specTraffic_any (s : SS) (m : Bool) (w : World) :
    Calls Try.prog 26 #[.agg #[.int .i64 s.l, .bool s.a, .int .i64 s.b, .int .i64 s.p, .bool s.g], .bool m] w fun e w' => e = .returned (.tuple #[.agg #[.int .i64 (sTraffic s m).l, .bool (sTraffic s m).a, .int .i64 (sTraffic s m).b, .int .i64 (sTraffic s m).p, .bool (sTraffic s m).g], .bool (sTrafficB s m)]) ∧ Below w.heap.size w w' := by
  obtain ⟨l, a, b, p, g⟩ := s
  dsimp only
  cases hv : vSleep l a b p g <;> cases hp0 : p == 0 <;> cases m
  all_goals
    go_enter Try.func26, Try.ntmps26
    go_wp2_with (first | (go_at_call 12; refine (specValid_any _ _ _ _ _ _).mono ?_; rintro e w' ⟨rfl, hbw⟩; obtain ⟨X, d, rfl⟩ := Below.ext_ hbw; clear hbw))
    go_returns
    exact ⟨by simp [sTraffic, sTrafficB, SS.v, *], (by repeat (first | (with_reducible exact Below.refl _ _) | (with_reducible refine Below.ext ?_ (by go_size) _ _) | (with_reducible refine Below.alloc ?_ (by go_size) _) | (with_reducible refine Below.setCell ?_ (by go_size) _) | (with_reducible refine Below.drew ?_) | (with_reducible refine Below.drewN_ ?_ _)))⟩

set_option maxHeartbeats 1000000 in
theorem implTraffic_any (s : SS) (m : Bool) (w : World) :
    Calls Try.prog 27 #[.agg #[.int .i64 s.l, .bool s.a, .int .i64 s.b, .int .i64 s.p, .bool s.g], .bool m] w fun e w' => e = .returned (.tuple #[.agg #[.int .i64 (sTraffic s m).l, .bool (sTraffic s m).a, .int .i64 (sTraffic s m).b, .int .i64 (sTraffic s m).p, .bool (sTraffic s m).g], .bool (sTrafficB s m)]) ∧ Below w.heap.size w w' := by
  obtain ⟨l, a, b, p, g⟩ := s
  dsimp only
  cases hv : vSleep l a b p g <;> cases hp0 : p == 0 <;> cases m
  all_goals
    go_enter Try.func27, Try.ntmps27
    go_wp2_with (first | (go_at_call 14; refine (implValid_any _ _ _ _ _ _).mono ?_; rintro e w' ⟨rfl, hbw⟩; obtain ⟨X, d, rfl⟩ := Below.ext_ hbw; clear hbw))
    go_returns
    exact ⟨by simp [sTraffic, sTrafficB, SS.v, *], (by repeat (first | (with_reducible exact Below.refl _ _) | (with_reducible refine Below.ext ?_ (by go_size) _ _) | (with_reducible refine Below.alloc ?_ (by go_size) _) | (with_reducible refine Below.setCell ?_ (by go_size) _) | (with_reducible refine Below.drew ?_) | (with_reducible refine Below.drewN_ ?_ _)))⟩

theorem specNew_any (n : Int) (w : World) :
    Calls Try.prog 15 #[.int .i64 n] w fun e w' => e = .returned (.agg #[.int .i64 (sNew n).l, .bool (sNew n).a, .int .i64 (sNew n).b, .int .i64 (sNew n).p, .bool (sNew n).g]) ∧ Below w.heap.size w w' := by
  cases h : inR n 1 8
  all_goals
    go_enter Try.func15, Try.ntmps15
    go_wp2_with (first | (go_at_call 35; refine (l1In_any _ _ _ _).mono ?_; rintro e w' ⟨rfl, rfl⟩))
    go_returns
    exact ⟨by simp [sNew, *], (by repeat (first | (with_reducible exact Below.refl _ _) | (with_reducible refine Below.ext ?_ (by go_size) _ _) | (with_reducible refine Below.alloc ?_ (by go_size) _) | (with_reducible refine Below.setCell ?_ (by go_size) _) | (with_reducible refine Below.drew ?_) | (with_reducible refine Below.drewN_ ?_ _)))⟩

theorem implNew_any (n : Int) (w : World) :
    Calls Try.prog 16 #[.int .i64 n] w fun e w' => e = .returned (.agg #[.int .i64 (sNew n).l, .bool (sNew n).a, .int .i64 (sNew n).b, .int .i64 (sNew n).p, .bool (sNew n).g]) ∧ Below w.heap.size w w' := by
  cases h : inR n 1 8
  all_goals
    go_enter Try.func16, Try.ntmps16
    go_wp2_with (first | (go_at_call 36; refine (inRange_any _ _ _ _).mono ?_; rintro e w' ⟨rfl, rfl⟩))
    go_returns
    exact ⟨by simp [sNew, *], (by repeat (first | (with_reducible exact Below.refl _ _) | (with_reducible refine Below.ext ?_ (by go_size) _ _) | (with_reducible refine Below.alloc ?_ (by go_size) _) | (with_reducible refine Below.setCell ?_ (by go_size) _) | (with_reducible refine Below.drew ?_) | (with_reducible refine Below.drewN_ ?_ _)))⟩

theorem isValidSleepState_walk (l : Int) (a : Bool) (b p : Int) (g : Bool) (hl : I64 l) (hb : I64 b) (hp : I64 p) (w : World) :
    Calls Try.prog 3 #[.agg #[.int .i64 l, .bool a, .int .i64 b, .int .i64 p, .bool g]] w fun e w' => e = .returned (.bool true) ∧ Below w.heap.size w w' := by
  go_enter Try.func3, Try.ntmps3
  go_wp2_with (first | (go_at_call 13; refine (toSleep_any _ _ _ _ _ _).mono ?_; rintro e w' ⟨rfl, hbw⟩; obtain ⟨X, d, rfl⟩ := Below.ext_ hbw; clear hbw) | (go_at_call 12; refine (specValid_any _ _ _ _ _ _).mono ?_; rintro e w' ⟨rfl, hbw⟩; obtain ⟨X, d, rfl⟩ := Below.ext_ hbw; clear hbw) | (go_at_call 14; refine (implValid_any _ _ _ _ _ _).mono ?_; rintro e w' ⟨rfl, hbw⟩; obtain ⟨X, d, rfl⟩ := Below.ext_ hbw; clear hbw))
  go_ret
  exact ⟨rfl, (by repeat (first | (with_reducible exact Below.refl _ _) | (with_reducible refine Below.ext ?_ (by go_size) _ _) | (with_reducible refine Below.alloc ?_ (by go_size) _) | (with_reducible refine Below.setCell ?_ (by go_size) _) | (with_reducible refine Below.drew ?_) | (with_reducible refine Below.drewN_ ?_ _)))⟩

theorem wakesBy_walk (l : Int) (a : Bool) (b p : Int) (g : Bool) (hl : I64 l) (hb : I64 b) (hp : I64 p) (w : World) :
    Calls Try.prog 5 #[.agg #[.int .i64 l, .bool a, .int .i64 b, .int .i64 p, .bool g]] w fun e w' => e = .returned (.bool true) ∧ Below w.heap.size w w' := by
  go_enter Try.func5, Try.ntmps5
  go_wp2_with (first | (go_at_call 13; refine (toSleep_any _ _ _ _ _ _).mono ?_; rintro e w' ⟨rfl, hbw⟩; obtain ⟨X, d, rfl⟩ := Below.ext_ hbw; clear hbw) | (go_at_call 18; refine (specWakes_any ⟨l, a, b, p, g⟩ _).mono ?_; rintro e w' ⟨rfl, hbw⟩; obtain ⟨X, d, rfl⟩ := Below.ext_ hbw; clear hbw) | (go_at_call 19; refine (implWakes_any ⟨l, a, b, p, g⟩ _).mono ?_; rintro e w' ⟨rfl, hbw⟩; obtain ⟨X, d, rfl⟩ := Below.ext_ hbw; clear hbw) | (go_at_call 17; refine (eqSleep_any _ _ _ _ _ _).mono ?_; rintro e w' ⟨rfl, hbw⟩; obtain ⟨X, d, rfl⟩ := Below.ext_ hbw; clear hbw))
  go_ret
  exact ⟨rfl, (by repeat (first | (with_reducible exact Below.refl _ _) | (with_reducible refine Below.ext ?_ (by go_size) _ _) | (with_reducible refine Below.alloc ?_ (by go_size) _) | (with_reducible refine Below.setCell ?_ (by go_size) _) | (with_reducible refine Below.drew ?_) | (with_reducible refine Below.drewN_ ?_ _)))⟩

theorem groupDone_walk (l : Int) (a : Bool) (b p : Int) (g : Bool) (hl : I64 l) (hb : I64 b) (hp : I64 p) (w : World) :
    Calls Try.prog 6 #[.agg #[.int .i64 l, .bool a, .int .i64 b, .int .i64 p, .bool g]] w fun e w' => e = .returned (.bool true) ∧ Below w.heap.size w w' := by
  go_enter Try.func6, Try.ntmps6
  go_wp2_with (first | (go_at_call 13; refine (toSleep_any _ _ _ _ _ _).mono ?_; rintro e w' ⟨rfl, hbw⟩; obtain ⟨X, d, rfl⟩ := Below.ext_ hbw; clear hbw) | (go_at_call 20; refine (specGroup_any ⟨l, a, b, p, g⟩ _).mono ?_; rintro e w' ⟨rfl, hbw⟩; obtain ⟨X, d, rfl⟩ := Below.ext_ hbw; clear hbw) | (go_at_call 21; refine (implGroup_any ⟨l, a, b, p, g⟩ _).mono ?_; rintro e w' ⟨rfl, hbw⟩; obtain ⟨X, d, rfl⟩ := Below.ext_ hbw; clear hbw) | (go_at_call 17; refine (eqSleep_any _ _ _ _ _ _).mono ?_; rintro e w' ⟨rfl, hbw⟩; obtain ⟨X, d, rfl⟩ := Below.ext_ hbw; clear hbw))
  go_ret
  exact ⟨rfl, (by repeat (first | (with_reducible exact Below.refl _ _) | (with_reducible refine Below.ext ?_ (by go_size) _ _) | (with_reducible refine Below.alloc ?_ (by go_size) _) | (with_reducible refine Below.setCell ?_ (by go_size) _) | (with_reducible refine Below.drew ?_) | (with_reducible refine Below.drewN_ ?_ _)))⟩

theorem missedBeacon_walk (l : Int) (a : Bool) (b p : Int) (g : Bool) (hl : I64 l) (hb : I64 b) (hp : I64 p) (w : World) :
    Calls Try.prog 7 #[.agg #[.int .i64 l, .bool a, .int .i64 b, .int .i64 p, .bool g]] w fun e w' => e = .returned (.bool true) ∧ Below w.heap.size w w' := by
  go_enter Try.func7, Try.ntmps7
  go_wp2_with (first | (go_at_call 13; refine (toSleep_any _ _ _ _ _ _).mono ?_; rintro e w' ⟨rfl, hbw⟩; obtain ⟨X, d, rfl⟩ := Below.ext_ hbw; clear hbw) | (go_at_call 22; refine (specMissed_any ⟨l, a, b, p, g⟩ _).mono ?_; rintro e w' ⟨rfl, hbw⟩; obtain ⟨X, d, rfl⟩ := Below.ext_ hbw; clear hbw) | (go_at_call 23; refine (implMissed_any ⟨l, a, b, p, g⟩ _).mono ?_; rintro e w' ⟨rfl, hbw⟩; obtain ⟨X, d, rfl⟩ := Below.ext_ hbw; clear hbw) | (go_at_call 17; refine (eqSleep_any _ _ _ _ _ _).mono ?_; rintro e w' ⟨rfl, hbw⟩; obtain ⟨X, d, rfl⟩ := Below.ext_ hbw; clear hbw))
  go_ret
  exact ⟨rfl, (by repeat (first | (with_reducible exact Below.refl _ _) | (with_reducible refine Below.ext ?_ (by go_size) _ _) | (with_reducible refine Below.alloc ?_ (by go_size) _) | (with_reducible refine Below.setCell ?_ (by go_size) _) | (with_reducible refine Below.drew ?_) | (with_reducible refine Below.drewN_ ?_ _)))⟩

theorem beforeBeacon_walk (l : Int) (a : Bool) (b p : Int) (g : Bool) (hl : I64 l) (hb : I64 b) (hp : I64 p) (w : World) :
    Calls Try.prog 8 #[.agg #[.int .i64 l, .bool a, .int .i64 b, .int .i64 p, .bool g]] w fun e w' => e = .returned (.bool true) ∧ Below w.heap.size w w' := by
  go_enter Try.func8, Try.ntmps8
  go_wp2_with (first | (go_at_call 13; refine (toSleep_any _ _ _ _ _ _).mono ?_; rintro e w' ⟨rfl, hbw⟩; obtain ⟨X, d, rfl⟩ := Below.ext_ hbw; clear hbw) | (go_at_call 24; refine (specBefore_any ⟨l, a, b, p, g⟩ _).mono ?_; rintro e w' ⟨rfl, hbw⟩; obtain ⟨X, d, rfl⟩ := Below.ext_ hbw; clear hbw) | (go_at_call 25; refine (implBefore_any ⟨l, a, b, p, g⟩ _).mono ?_; rintro e w' ⟨rfl, hbw⟩; obtain ⟨X, d, rfl⟩ := Below.ext_ hbw; clear hbw) | (go_at_call 17; refine (eqSleep_any _ _ _ _ _ _).mono ?_; rintro e w' ⟨rfl, hbw⟩; obtain ⟨X, d, rfl⟩ := Below.ext_ hbw; clear hbw))
  go_ret
  exact ⟨rfl, (by repeat (first | (with_reducible exact Below.refl _ _) | (with_reducible refine Below.ext ?_ (by go_size) _ _) | (with_reducible refine Below.alloc ?_ (by go_size) _) | (with_reducible refine Below.setCell ?_ (by go_size) _) | (with_reducible refine Below.drew ?_) | (with_reducible refine Below.drewN_ ?_ _)))⟩

theorem hearTraffic_walk (l : Int) (a : Bool) (b p : Int) (g : Bool) (m : Bool) (hl : I64 l) (hb : I64 b) (hp : I64 p) (w : World) :
    Calls Try.prog 9 #[.agg #[.int .i64 l, .bool a, .int .i64 b, .int .i64 p, .bool g], .bool m] w fun e w' => e = .returned (.bool true) ∧ Below w.heap.size w w' := by
  go_enter Try.func9, Try.ntmps9
  go_wp2_with (first | (go_at_call 13; refine (toSleep_any _ _ _ _ _ _).mono ?_; rintro e w' ⟨rfl, hbw⟩; obtain ⟨X, d, rfl⟩ := Below.ext_ hbw; clear hbw) | (go_at_call 26; refine (specTraffic_any ⟨l, a, b, p, g⟩ m _).mono ?_; rintro e w' ⟨rfl, hbw⟩; obtain ⟨X, d, rfl⟩ := Below.ext_ hbw; clear hbw) | (go_at_call 27; refine (implTraffic_any ⟨l, a, b, p, g⟩ m _).mono ?_; rintro e w' ⟨rfl, hbw⟩; obtain ⟨X, d, rfl⟩ := Below.ext_ hbw; clear hbw) | (go_at_call 17; refine (eqSleep_any _ _ _ _ _ _).mono ?_; rintro e w' ⟨rfl, hbw⟩; obtain ⟨X, d, rfl⟩ := Below.ext_ hbw; clear hbw))
  go_ret
  exact ⟨rfl, (by repeat (first | (with_reducible exact Below.refl _ _) | (with_reducible refine Below.ext ?_ (by go_size) _ _) | (with_reducible refine Below.alloc ?_ (by go_size) _) | (with_reducible refine Below.setCell ?_ (by go_size) _) | (with_reducible refine Below.drew ?_) | (with_reducible refine Below.drewN_ ?_ _)))⟩

theorem newSleepState_walk (n : Int) (hn : I64 n) (w : World) :
    Calls Try.prog 4 #[.int .i64 n] w fun e w' => e = .returned (.bool true) ∧ Below w.heap.size w w' := by
  go_enter Try.func4, Try.ntmps4
  go_wp2_with (first | (go_at_call 15; refine (specNew_any _ _).mono ?_; rintro e w' ⟨rfl, hbw⟩; obtain ⟨X, d, rfl⟩ := Below.ext_ hbw; clear hbw) | (go_at_call 16; refine (implNew_any _ _).mono ?_; rintro e w' ⟨rfl, hbw⟩; obtain ⟨X, d, rfl⟩ := Below.ext_ hbw; clear hbw) | (go_at_call 17; refine (eqSleep_any _ _ _ _ _ _).mono ?_; rintro e w' ⟨rfl, hbw⟩; obtain ⟨X, d, rfl⟩ := Below.ext_ hbw; clear hbw))
  go_ret
  exact ⟨rfl, (by repeat (first | (with_reducible exact Below.refl _ _) | (with_reducible refine Below.ext ?_ (by go_size) _ _) | (with_reducible refine Below.alloc ?_ (by go_size) _) | (with_reducible refine Below.setCell ?_ (by go_size) _) | (with_reducible refine Below.drew ?_) | (with_reducible refine Below.drewN_ ?_ _)))⟩

end Go.Proofs.Ytncnlhmakigpgaa
