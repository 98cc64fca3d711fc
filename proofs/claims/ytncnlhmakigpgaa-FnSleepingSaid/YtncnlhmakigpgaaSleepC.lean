/- The contract of HearBeacon and the walk of its exact law. -/
import Derived.Test.YtncnlhmakigpgaaSleepB
import Derived.Test.YtncnlhmakigpgaaBeacV
import Derived.Deep.RegionHeld3
namespace Go.Proofs.Ytncnlhmakigpgaa
open Go.RowKit
set_option linter.unusedVariables false
set_option linter.unusedSimpArgs false

/- vb: the beacon is valid; bg: its group bit; tc: its map contains the station -/
def sHear (s : SS) (vb bg tc : Bool) : SS := if s.v && vb && s.a then (if tc && s.p == 0 then { s with g := bg, p := 1, a := true } else { s with g := bg, a := mustB s.p bg }) else s
def sHearB (s : SS) (vb tc : Bool) : Bool := s.v && vb && s.a && (tc && s.p == 0)

set_option maxHeartbeats 2000000 in
theorem specHear_any (s : SS) (bf bs bc bp : Int) (bg : Bool) (bt self : Int) (w : World) :
    Calls Try.prog 28 #[.agg #[.int .i64 s.l, .bool s.a, .int .i64 s.b, .int .i64 s.p, .bool s.g], .agg #[.int .i64 bf, .int .i64 bs, .int .i64 bc, .int .i64 bp, .bool bg, .int .i64 bt], .int .i64 self] w fun e w' => e = .returned (.tuple #[.agg #[.int .i64 (sHear s (vBeac bf bs bc bp bg bt) bg (timB bt self)).l, .bool (sHear s (vBeac bf bs bc bp bg bt) bg (timB bt self)).a, .int .i64 (sHear s (vBeac bf bs bc bp bg bt) bg (timB bt self)).b, .int .i64 (sHear s (vBeac bf bs bc bp bg bt) bg (timB bt self)).p, .bool (sHear s (vBeac bf bs bc bp bg bt) bg (timB bt self)).g], .bool (sHearB s (vBeac bf bs bc bp bg bt) (timB bt self))]) ∧ Below w.heap.size w w' := by
  obtain ⟨l, a, b, p, g⟩ := s
  dsimp only
  cases hv : vSleep l a b p g
  · cases a
    · go_enter Try.func28, Try.ntmps28
      go_wp2_with (first | (go_at_call 12; refine (specValid_any _ _ _ _ _ _).mono ?_; rintro e w' ⟨rfl, hbw⟩; obtain ⟨X, d, rfl⟩ := Below.ext_ hbw; clear hbw) | (go_at_call 38; refine (specVB_any _ _ _ _ _ _ _).mono ?_; rintro e w' ⟨rfl, hbw⟩; obtain ⟨X, d, rfl⟩ := Below.ext_ hbw; clear hbw) | (go_at_call 39; refine (specTim_any _ _ _ _ _ _ _ _).mono ?_; rintro e w' ⟨rfl, hbw⟩; obtain ⟨X, d, rfl⟩ := Below.ext_ hbw; clear hbw))
      go_returns
      exact ⟨by simp [sHear, sHearB, SS.v, mustB, *], (by repeat (first | (with_reducible exact Below.refl _ _) | (with_reducible refine Below.ext ?_ (by go_size) _ _) | (with_reducible refine Below.alloc ?_ (by go_size) _) | (with_reducible refine Below.setCell ?_ (by go_size) _) | (with_reducible refine Below.drew ?_) | (with_reducible refine Below.drewN_ ?_ _)))⟩
    · go_enter Try.func28, Try.ntmps28
      go_wp2_with (first | (go_at_call 12; refine (specValid_any _ _ _ _ _ _).mono ?_; rintro e w' ⟨rfl, hbw⟩; obtain ⟨X, d, rfl⟩ := Below.ext_ hbw; clear hbw) | (go_at_call 38; refine (specVB_any _ _ _ _ _ _ _).mono ?_; rintro e w' ⟨rfl, hbw⟩; obtain ⟨X, d, rfl⟩ := Below.ext_ hbw; clear hbw) | (go_at_call 39; refine (specTim_any _ _ _ _ _ _ _ _).mono ?_; rintro e w' ⟨rfl, hbw⟩; obtain ⟨X, d, rfl⟩ := Below.ext_ hbw; clear hbw))
      go_returns
      exact ⟨by simp [sHear, sHearB, SS.v, mustB, *], (by repeat (first | (with_reducible exact Below.refl _ _) | (with_reducible refine Below.ext ?_ (by go_size) _ _) | (with_reducible refine Below.alloc ?_ (by go_size) _) | (with_reducible refine Below.setCell ?_ (by go_size) _) | (with_reducible refine Below.drew ?_) | (with_reducible refine Below.drewN_ ?_ _)))⟩
  · obtain ⟨q1, q2, q3, q4, q5, q6⟩ := vSleep_true hv
    cases hb : vBeac bf bs bc bp bg bt
    · cases a
      · go_enter Try.func28, Try.ntmps28
        go_wp2_with (first | (go_at_call 12; refine (specValid_any _ _ _ _ _ _).mono ?_; rintro e w' ⟨rfl, hbw⟩; obtain ⟨X, d, rfl⟩ := Below.ext_ hbw; clear hbw) | (go_at_call 38; refine (specVB_any _ _ _ _ _ _ _).mono ?_; rintro e w' ⟨rfl, hbw⟩; obtain ⟨X, d, rfl⟩ := Below.ext_ hbw; clear hbw) | (go_at_call 39; refine (specTim_any _ _ _ _ _ _ _ _).mono ?_; rintro e w' ⟨rfl, hbw⟩; obtain ⟨X, d, rfl⟩ := Below.ext_ hbw; clear hbw))
        go_returns
        exact ⟨by simp [sHear, sHearB, SS.v, mustB, *], (by repeat (first | (with_reducible exact Below.refl _ _) | (with_reducible refine Below.ext ?_ (by go_size) _ _) | (with_reducible refine Below.alloc ?_ (by go_size) _) | (with_reducible refine Below.setCell ?_ (by go_size) _) | (with_reducible refine Below.drew ?_) | (with_reducible refine Below.drewN_ ?_ _)))⟩
      · go_enter Try.func28, Try.ntmps28
        go_wp2_with (first | (go_at_call 12; refine (specValid_any _ _ _ _ _ _).mono ?_; rintro e w' ⟨rfl, hbw⟩; obtain ⟨X, d, rfl⟩ := Below.ext_ hbw; clear hbw) | (go_at_call 38; refine (specVB_any _ _ _ _ _ _ _).mono ?_; rintro e w' ⟨rfl, hbw⟩; obtain ⟨X, d, rfl⟩ := Below.ext_ hbw; clear hbw) | (go_at_call 39; refine (specTim_any _ _ _ _ _ _ _ _).mono ?_; rintro e w' ⟨rfl, hbw⟩; obtain ⟨X, d, rfl⟩ := Below.ext_ hbw; clear hbw))
        go_returns
        exact ⟨by simp [sHear, sHearB, SS.v, mustB, *], (by repeat (first | (with_reducible exact Below.refl _ _) | (with_reducible refine Below.ext ?_ (by go_size) _ _) | (with_reducible refine Below.alloc ?_ (by go_size) _) | (with_reducible refine Below.setCell ?_ (by go_size) _) | (with_reducible refine Below.drew ?_) | (with_reducible refine Below.drewN_ ?_ _)))⟩
    · cases a
      · go_enter Try.func28, Try.ntmps28
        go_wp2_with (first | (go_at_call 12; refine (specValid_any _ _ _ _ _ _).mono ?_; rintro e w' ⟨rfl, hbw⟩; obtain ⟨X, d, rfl⟩ := Below.ext_ hbw; clear hbw) | (go_at_call 38; refine (specVB_any _ _ _ _ _ _ _).mono ?_; rintro e w' ⟨rfl, hbw⟩; obtain ⟨X, d, rfl⟩ := Below.ext_ hbw; clear hbw) | (go_at_call 39; refine (specTim_any _ _ _ _ _ _ _ _).mono ?_; rintro e w' ⟨rfl, hbw⟩; obtain ⟨X, d, rfl⟩ := Below.ext_ hbw; clear hbw))
        go_returns
        exact ⟨by simp [sHear, sHearB, SS.v, mustB, *], (by repeat (first | (with_reducible exact Below.refl _ _) | (with_reducible refine Below.ext ?_ (by go_size) _ _) | (with_reducible refine Below.alloc ?_ (by go_size) _) | (with_reducible refine Below.setCell ?_ (by go_size) _) | (with_reducible refine Below.drew ?_) | (with_reducible refine Below.drewN_ ?_ _)))⟩
      · cases ht : timB bt self
        · rcases (show p = 0 ∨ p = 1 by omega) with rfl | rfl <;> cases bg
          all_goals
            go_enter Try.func28, Try.ntmps28
            go_wp2_with (first | (go_at_call 12; refine (specValid_any _ _ _ _ _ _).mono ?_; rintro e w' ⟨rfl, hbw⟩; obtain ⟨X, d, rfl⟩ := Below.ext_ hbw; clear hbw) | (go_at_call 38; refine (specVB_any _ _ _ _ _ _ _).mono ?_; rintro e w' ⟨rfl, hbw⟩; obtain ⟨X, d, rfl⟩ := Below.ext_ hbw; clear hbw) | (go_at_call 39; refine (specTim_any _ _ _ _ _ _ _ _).mono ?_; rintro e w' ⟨rfl, hbw⟩; obtain ⟨X, d, rfl⟩ := Below.ext_ hbw; clear hbw))
            go_returns
            exact ⟨by simp [sHear, sHearB, SS.v, mustB, *], (by repeat (first | (with_reducible exact Below.refl _ _) | (with_reducible refine Below.ext ?_ (by go_size) _ _) | (with_reducible refine Below.alloc ?_ (by go_size) _) | (with_reducible refine Below.setCell ?_ (by go_size) _) | (with_reducible refine Below.drew ?_) | (with_reducible refine Below.drewN_ ?_ _)))⟩
        · rcases (show p = 0 ∨ p = 1 by omega) with rfl | rfl <;> cases bg
          all_goals
            go_enter Try.func28, Try.ntmps28
            go_wp2_with (first | (go_at_call 12; refine (specValid_any _ _ _ _ _ _).mono ?_; rintro e w' ⟨rfl, hbw⟩; obtain ⟨X, d, rfl⟩ := Below.ext_ hbw; clear hbw) | (go_at_call 38; refine (specVB_any _ _ _ _ _ _ _).mono ?_; rintro e w' ⟨rfl, hbw⟩; obtain ⟨X, d, rfl⟩ := Below.ext_ hbw; clear hbw) | (go_at_call 39; refine (specTim_any _ _ _ _ _ _ _ _).mono ?_; rintro e w' ⟨rfl, hbw⟩; obtain ⟨X, d, rfl⟩ := Below.ext_ hbw; clear hbw))
            go_returns
            exact ⟨by simp [sHear, sHearB, SS.v, mustB, *], (by repeat (first | (with_reducible exact Below.refl _ _) | (with_reducible refine Below.ext ?_ (by go_size) _ _) | (with_reducible refine Below.alloc ?_ (by go_size) _) | (with_reducible refine Below.setCell ?_ (by go_size) _) | (with_reducible refine Below.drew ?_) | (with_reducible refine Below.drewN_ ?_ _)))⟩

set_option maxHeartbeats 2000000 in
theorem implHear_any (s : SS) (bf bs bc bp : Int) (bg : Bool) (bt self : Int) (w : World) :
    Calls Try.prog 30 #[.agg #[.int .i64 s.l, .bool s.a, .int .i64 s.b, .int .i64 s.p, .bool s.g], .agg #[.int .i64 bf, .int .i64 bs, .int .i64 bc, .int .i64 bp, .bool bg, .int .i64 bt], .int .i64 self] w fun e w' => e = .returned (.tuple #[.agg #[.int .i64 (sHear s (vBeac bf bs bc bp bg bt) bg (timB bt self)).l, .bool (sHear s (vBeac bf bs bc bp bg bt) bg (timB bt self)).a, .int .i64 (sHear s (vBeac bf bs bc bp bg bt) bg (timB bt self)).b, .int .i64 (sHear s (vBeac bf bs bc bp bg bt) bg (timB bt self)).p, .bool (sHear s (vBeac bf bs bc bp bg bt) bg (timB bt self)).g], .bool (sHearB s (vBeac bf bs bc bp bg bt) (timB bt self))]) ∧ Below w.heap.size w w' := by
  obtain ⟨l, a, b, p, g⟩ := s
  dsimp only
  cases hv : vSleep l a b p g
  · go_enter Try.func30, Try.ntmps30
    go_wp2_with (first | (go_at_call 14; refine (implValid_any _ _ _ _ _ _).mono ?_; rintro e w' ⟨rfl, hbw⟩; obtain ⟨X, d, rfl⟩ := Below.ext_ hbw; clear hbw) | (go_at_call 37; refine (implMust_any _ _ _ _ _ _).mono ?_; rintro e w' ⟨rfl, hbw⟩; obtain ⟨X, d, rfl⟩ := Below.ext_ hbw; clear hbw) | (go_at_call 40; refine (implVB_any _ _ _ _ _ _ _).mono ?_; rintro e w' ⟨rfl, hbw⟩; obtain ⟨X, d, rfl⟩ := Below.ext_ hbw; clear hbw) | (go_at_call 34; refine (implTim_any _ _ _ _ _ _ _ _).mono ?_; rintro e w' ⟨rfl, hbw⟩; obtain ⟨X, d, rfl⟩ := Below.ext_ hbw; clear hbw))
    go_returns
    exact ⟨by simp [sHear, sHearB, SS.v, mustB, *], (by repeat (first | (with_reducible exact Below.refl _ _) | (with_reducible refine Below.ext ?_ (by go_size) _ _) | (with_reducible refine Below.alloc ?_ (by go_size) _) | (with_reducible refine Below.setCell ?_ (by go_size) _) | (with_reducible refine Below.drew ?_) | (with_reducible refine Below.drewN_ ?_ _)))⟩
  · obtain ⟨q1, q2, q3, q4, q5, q6⟩ := vSleep_true hv
    cases hb : vBeac bf bs bc bp bg bt
    · go_enter Try.func30, Try.ntmps30
      go_wp2_with (first | (go_at_call 14; refine (implValid_any _ _ _ _ _ _).mono ?_; rintro e w' ⟨rfl, hbw⟩; obtain ⟨X, d, rfl⟩ := Below.ext_ hbw; clear hbw) | (go_at_call 37; refine (implMust_any _ _ _ _ _ _).mono ?_; rintro e w' ⟨rfl, hbw⟩; obtain ⟨X, d, rfl⟩ := Below.ext_ hbw; clear hbw) | (go_at_call 40; refine (implVB_any _ _ _ _ _ _ _).mono ?_; rintro e w' ⟨rfl, hbw⟩; obtain ⟨X, d, rfl⟩ := Below.ext_ hbw; clear hbw) | (go_at_call 34; refine (implTim_any _ _ _ _ _ _ _ _).mono ?_; rintro e w' ⟨rfl, hbw⟩; obtain ⟨X, d, rfl⟩ := Below.ext_ hbw; clear hbw))
      go_returns
      exact ⟨by simp [sHear, sHearB, SS.v, mustB, *], (by repeat (first | (with_reducible exact Below.refl _ _) | (with_reducible refine Below.ext ?_ (by go_size) _ _) | (with_reducible refine Below.alloc ?_ (by go_size) _) | (with_reducible refine Below.setCell ?_ (by go_size) _) | (with_reducible refine Below.drew ?_) | (with_reducible refine Below.drewN_ ?_ _)))⟩
    · cases a
      · go_enter Try.func30, Try.ntmps30
        go_wp2_with (first | (go_at_call 14; refine (implValid_any _ _ _ _ _ _).mono ?_; rintro e w' ⟨rfl, hbw⟩; obtain ⟨X, d, rfl⟩ := Below.ext_ hbw; clear hbw) | (go_at_call 37; refine (implMust_any _ _ _ _ _ _).mono ?_; rintro e w' ⟨rfl, hbw⟩; obtain ⟨X, d, rfl⟩ := Below.ext_ hbw; clear hbw) | (go_at_call 40; refine (implVB_any _ _ _ _ _ _ _).mono ?_; rintro e w' ⟨rfl, hbw⟩; obtain ⟨X, d, rfl⟩ := Below.ext_ hbw; clear hbw) | (go_at_call 34; refine (implTim_any _ _ _ _ _ _ _ _).mono ?_; rintro e w' ⟨rfl, hbw⟩; obtain ⟨X, d, rfl⟩ := Below.ext_ hbw; clear hbw))
        go_returns
        exact ⟨by simp [sHear, sHearB, SS.v, mustB, *], (by repeat (first | (with_reducible exact Below.refl _ _) | (with_reducible refine Below.ext ?_ (by go_size) _ _) | (with_reducible refine Below.alloc ?_ (by go_size) _) | (with_reducible refine Below.setCell ?_ (by go_size) _) | (with_reducible refine Below.drew ?_) | (with_reducible refine Below.drewN_ ?_ _)))⟩
      · cases ht : timB bt self
        · rcases (show p = 0 ∨ p = 1 by omega) with rfl | rfl <;> cases bg
          all_goals
            go_enter Try.func30, Try.ntmps30
            go_wp2_with (first | (go_at_call 14; refine (implValid_any _ _ _ _ _ _).mono ?_; rintro e w' ⟨rfl, hbw⟩; obtain ⟨X, d, rfl⟩ := Below.ext_ hbw; clear hbw) | (go_at_call 37; refine (implMust_any _ _ _ _ _ _).mono ?_; rintro e w' ⟨rfl, hbw⟩; obtain ⟨X, d, rfl⟩ := Below.ext_ hbw; clear hbw) | (go_at_call 40; refine (implVB_any _ _ _ _ _ _ _).mono ?_; rintro e w' ⟨rfl, hbw⟩; obtain ⟨X, d, rfl⟩ := Below.ext_ hbw; clear hbw) | (go_at_call 34; refine (implTim_any _ _ _ _ _ _ _ _).mono ?_; rintro e w' ⟨rfl, hbw⟩; obtain ⟨X, d, rfl⟩ := Below.ext_ hbw; clear hbw))
            go_returns
            exact ⟨by simp [sHear, sHearB, SS.v, mustB, *], (by repeat (first | (with_reducible exact Below.refl _ _) | (with_reducible refine Below.ext ?_ (by go_size) _ _) | (with_reducible refine Below.alloc ?_ (by go_size) _) | (with_reducible refine Below.setCell ?_ (by go_size) _) | (with_reducible refine Below.drew ?_) | (with_reducible refine Below.drewN_ ?_ _)))⟩
        · rcases (show p = 0 ∨ p = 1 by omega) with rfl | rfl <;> cases bg
          all_goals
            go_enter Try.func30, Try.ntmps30
            go_wp2_with (first | (go_at_call 14; refine (implValid_any _ _ _ _ _ _).mono ?_; rintro e w' ⟨rfl, hbw⟩; obtain ⟨X, d, rfl⟩ := Below.ext_ hbw; clear hbw) | (go_at_call 37; refine (implMust_any _ _ _ _ _ _).mono ?_; rintro e w' ⟨rfl, hbw⟩; obtain ⟨X, d, rfl⟩ := Below.ext_ hbw; clear hbw) | (go_at_call 40; refine (implVB_any _ _ _ _ _ _ _).mono ?_; rintro e w' ⟨rfl, hbw⟩; obtain ⟨X, d, rfl⟩ := Below.ext_ hbw; clear hbw) | (go_at_call 34; refine (implTim_any _ _ _ _ _ _ _ _).mono ?_; rintro e w' ⟨rfl, hbw⟩; obtain ⟨X, d, rfl⟩ := Below.ext_ hbw; clear hbw))
            go_returns
            exact ⟨by simp [sHear, sHearB, SS.v, mustB, *], (by repeat (first | (with_reducible exact Below.refl _ _) | (with_reducible refine Below.ext ?_ (by go_size) _ _) | (with_reducible refine Below.alloc ?_ (by go_size) _) | (with_reducible refine Below.setCell ?_ (by go_size) _) | (with_reducible refine Below.drew ?_) | (with_reducible refine Below.drewN_ ?_ _)))⟩

set_option maxHeartbeats 4000000 in
theorem hearBeacon_walk (l : Int) (a : Bool) (b p : Int) (g : Bool) (bf bs bc bp : Int) (bg : Bool) (bt self : Int) (hl : I64 l) (hb : I64 b) (hp : I64 p) (hbf : I64 bf) (hbs : I64 bs) (hbc : I64 bc) (hbp : I64 bp) (hbt : I64 bt) (hself : I64 self) (w : World) :
    Calls Try.prog 10 #[.agg #[.int .i64 l, .bool a, .int .i64 b, .int .i64 p, .bool g], .agg #[.int .i64 bf, .int .i64 bs, .int .i64 bc, .int .i64 bp, .bool bg, .int .i64 bt], .int .i64 self] w fun e w' => e = .returned (.bool true) ∧ Below w.heap.size w w' := by
  go_enter Try.func10, Try.ntmps10
  go_wp2
  go_region_held3 (fun w' => w'.cell? ⟨w.heap.size, 0, none⟩ = some (.int .i64 l) ∧ w'.cell? ⟨w.heap.size, 1, none⟩ = some (.bool a) ∧ w'.cell? ⟨w.heap.size, 2, none⟩ = some (.int .i64 b) ∧ w'.cell? ⟨w.heap.size, 3, none⟩ = some (.int .i64 p) ∧ w'.cell? ⟨w.heap.size, 4, none⟩ = some (.bool g) ∧ w'.cell? ⟨w.heap.size + 1, 0, none⟩ = some (.int .i64 bf) ∧ w'.cell? ⟨w.heap.size + 1, 1, none⟩ = some (.int .i64 bs) ∧ w'.cell? ⟨w.heap.size + 1, 2, none⟩ = some (.int .i64 bc) ∧ w'.cell? ⟨w.heap.size + 1, 3, none⟩ = some (.int .i64 bp) ∧ w'.cell? ⟨w.heap.size + 1, 4, none⟩ = some (.bool bg) ∧ w'.cell? ⟨w.heap.size + 1, 5, none⟩ = some (.int .i64 bt)) (simp [go_sem]) (first | (go_at_call 13; refine (toSleep_any _ _ _ _ _ _).mono ?_; rintro e w' ⟨rfl, hbw⟩; obtain ⟨X, d, rfl⟩ := Below.ext_ hbw; clear hbw) | (go_at_call 29; refine (toBeacon_any _ _ _ _ _ _ _).mono ?_; rintro e w' ⟨rfl, hbw⟩; obtain ⟨X, d, rfl⟩ := Below.ext_ hbw; clear hbw) | (go_at_call 28; refine (specHear_any ⟨l, a, b, p, g⟩ _ _ _ _ _ _ _ _).mono ?_; rintro e w' ⟨rfl, hbw⟩; obtain ⟨X, d, rfl⟩ := Below.ext_ hbw; clear hbw) | (go_at_call 30; refine (implHear_any ⟨l, a, b, p, g⟩ _ _ _ _ _ _ _ _).mono ?_; rintro e w' ⟨rfl, hbw⟩; obtain ⟨X, d, rfl⟩ := Below.ext_ hbw; clear hbw) | (go_at_call 17; refine (eqSleep_any _ _ _ _ _ _).mono ?_; rintro e w' ⟨rfl, hbw⟩; obtain ⟨X, d, rfl⟩ := Below.ext_ hbw; clear hbw))
  all_goals go_wp2
  all_goals (go_region_held3 (fun w' => w'.cell? ⟨w.heap.size, 0, none⟩ = some (.int .i64 l) ∧ w'.cell? ⟨w.heap.size, 1, none⟩ = some (.bool a) ∧ w'.cell? ⟨w.heap.size, 2, none⟩ = some (.int .i64 b) ∧ w'.cell? ⟨w.heap.size, 3, none⟩ = some (.int .i64 p) ∧ w'.cell? ⟨w.heap.size, 4, none⟩ = some (.bool g) ∧ w'.cell? ⟨w.heap.size + 1, 0, none⟩ = some (.int .i64 bf) ∧ w'.cell? ⟨w.heap.size + 1, 1, none⟩ = some (.int .i64 bs) ∧ w'.cell? ⟨w.heap.size + 1, 2, none⟩ = some (.int .i64 bc) ∧ w'.cell? ⟨w.heap.size + 1, 3, none⟩ = some (.int .i64 bp) ∧ w'.cell? ⟨w.heap.size + 1, 4, none⟩ = some (.bool bg) ∧ w'.cell? ⟨w.heap.size + 1, 5, none⟩ = some (.int .i64 bt)) (simp [go_sem]) (first | (go_at_call 13; refine (toSleep_any _ _ _ _ _ _).mono ?_; rintro e w' ⟨rfl, hbw⟩; obtain ⟨X, d, rfl⟩ := Below.ext_ hbw; clear hbw) | (go_at_call 29; refine (toBeacon_any _ _ _ _ _ _ _).mono ?_; rintro e w' ⟨rfl, hbw⟩; obtain ⟨X, d, rfl⟩ := Below.ext_ hbw; clear hbw) | (go_at_call 28; refine (specHear_any ⟨l, a, b, p, g⟩ _ _ _ _ _ _ _ _).mono ?_; rintro e w' ⟨rfl, hbw⟩; obtain ⟨X, d, rfl⟩ := Below.ext_ hbw; clear hbw) | (go_at_call 30; refine (implHear_any ⟨l, a, b, p, g⟩ _ _ _ _ _ _ _ _).mono ?_; rintro e w' ⟨rfl, hbw⟩; obtain ⟨X, d, rfl⟩ := Below.ext_ hbw; clear hbw) | (go_at_call 17; refine (eqSleep_any _ _ _ _ _ _).mono ?_; rintro e w' ⟨rfl, hbw⟩; obtain ⟨X, d, rfl⟩ := Below.ext_ hbw; clear hbw)))
  all_goals (go_wp2_with (first | (go_at_call 13; refine (toSleep_any _ _ _ _ _ _).mono ?_; rintro e w' ⟨rfl, hbw⟩; obtain ⟨X, d, rfl⟩ := Below.ext_ hbw; clear hbw) | (go_at_call 29; refine (toBeacon_any _ _ _ _ _ _ _).mono ?_; rintro e w' ⟨rfl, hbw⟩; obtain ⟨X, d, rfl⟩ := Below.ext_ hbw; clear hbw) | (go_at_call 28; refine (specHear_any ⟨l, a, b, p, g⟩ _ _ _ _ _ _ _ _).mono ?_; rintro e w' ⟨rfl, hbw⟩; obtain ⟨X, d, rfl⟩ := Below.ext_ hbw; clear hbw) | (go_at_call 30; refine (implHear_any ⟨l, a, b, p, g⟩ _ _ _ _ _ _ _ _).mono ?_; rintro e w' ⟨rfl, hbw⟩; obtain ⟨X, d, rfl⟩ := Below.ext_ hbw; clear hbw) | (go_at_call 17; refine (eqSleep_any _ _ _ _ _ _).mono ?_; rintro e w' ⟨rfl, hbw⟩; obtain ⟨X, d, rfl⟩ := Below.ext_ hbw; clear hbw)))
  all_goals go_ret
  all_goals exact ⟨rfl, (by repeat (first | (with_reducible exact Below.refl _ _) | (with_reducible refine Below.ext ?_ (by go_size) _ _) | (with_reducible refine Below.alloc ?_ (by go_size) _) | (with_reducible refine Below.setCell ?_ (by go_size) _) | (with_reducible refine Below.drew ?_) | (with_reducible refine Below.drewN_ ?_ _)))⟩

end Go.Proofs.Ytncnlhmakigpgaa
