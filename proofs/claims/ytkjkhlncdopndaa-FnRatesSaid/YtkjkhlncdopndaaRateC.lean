/- The contracts of the steps of a rate state, and the walks of the exact laws. -/
import Derived.Test.YtkjkhlncdopndaaRateB
namespace Go.Proofs.Ytkjkhlncdopndaa
open Go.RowKit
set_option linter.unusedVariables false
set_option linter.unusedSimpArgs false

set_option maxHeartbeats 1000000 in
theorem specFail_any (s : RS) (w : World) :
    Calls Try.prog 18 #[.agg #[.int .i64 s.r, .int .i64 s.go, .int .i64 s.b, .int .i64 s.th, .bool s.pr]] w fun e w' => e = .returned (.agg #[.int .i64 (sFail s).r, .int .i64 (sFail s).go, .int .i64 (sFail s).b, .int .i64 (sFail s).th, .bool (sFail s).pr]) ∧ Below w.heap.size w w' := by
  obtain ⟨r, go, b, th, pr⟩ := s
  dsimp only
  cases hv : vRate r go b th pr
  · go_enter Try.func18, Try.ntmps18
    go_wp2_with (first | (go_at_call 13; refine (specVR_any _ _ _ _ _ _).mono ?_; rintro e w' ⟨rfl, hbw⟩; obtain ⟨X, d, rfl⟩ := Below.ext_ hbw; clear hbw) | go_in)
    go_returns
    exact ⟨by simp [sFail, RS.v, *], (by repeat (first | (with_reducible exact Below.refl _ _) | (with_reducible refine Below.ext ?_ (by go_size) _ _) | (with_reducible refine Below.alloc ?_ (by go_size) _) | (with_reducible refine Below.setCell ?_ (by go_size) _) | (with_reducible refine Below.drew ?_) | (with_reducible refine Below.drewN_ ?_ _)))⟩
  · obtain ⟨h1, h2, h3, h4, h5, h6, h7, h8, h9⟩ := vRate_true hv
    clear h9 h8
    rcases h1 with rfl | rfl | rfl
    · cases pr
      · by_cases d : 0 < r
        · have d1 : (r == 0) = false := by simp; omega
          have d2 : ¬ r = 0 := by omega
          rcases (show b = 0 ∨ b = 1 by omega) with rfl | rfl
          · go_enter Try.func18, Try.ntmps18
            go_wp2_with (first | (go_at_call 13; refine (specVR_any _ _ _ _ _ _).mono ?_; rintro e w' ⟨rfl, hbw⟩; obtain ⟨X, d, rfl⟩ := Below.ext_ hbw; clear hbw) | go_in)
            go_returns
            exact ⟨by simp [sFail, RS.v, *], (by repeat (first | (with_reducible exact Below.refl _ _) | (with_reducible refine Below.ext ?_ (by go_size) _ _) | (with_reducible refine Below.alloc ?_ (by go_size) _) | (with_reducible refine Below.setCell ?_ (by go_size) _) | (with_reducible refine Below.drew ?_) | (with_reducible refine Below.drewN_ ?_ _)))⟩
          · rcases (show r = 1 ∨ 1 < r by omega) with rfl | hr1
            · go_enter Try.func18, Try.ntmps18
              go_wp2_with (first | (go_at_call 13; refine (specVR_any _ _ _ _ _ _).mono ?_; rintro e w' ⟨rfl, hbw⟩; obtain ⟨X, d, rfl⟩ := Below.ext_ hbw; clear hbw) | go_in)
              go_returns
              exact ⟨by simp [sFail, RS.v, *], (by repeat (first | (with_reducible exact Below.refl _ _) | (with_reducible refine Below.ext ?_ (by go_size) _ _) | (with_reducible refine Below.alloc ?_ (by go_size) _) | (with_reducible refine Below.setCell ?_ (by go_size) _) | (with_reducible refine Below.drew ?_) | (with_reducible refine Below.drewN_ ?_ _)))⟩
            · go_enter Try.func18, Try.ntmps18
              go_wp2_with (first | (go_at_call 13; refine (specVR_any _ _ _ _ _ _).mono ?_; rintro e w' ⟨rfl, hbw⟩; obtain ⟨X, d, rfl⟩ := Below.ext_ hbw; clear hbw) | go_in)
              go_returns
              exact ⟨by simp [sFail, RS.v, *], (by repeat (first | (with_reducible exact Below.refl _ _) | (with_reducible refine Below.ext ?_ (by go_size) _ _) | (with_reducible refine Below.alloc ?_ (by go_size) _) | (with_reducible refine Below.setCell ?_ (by go_size) _) | (with_reducible refine Below.drew ?_) | (with_reducible refine Below.drewN_ ?_ _)))⟩
        · obtain rfl : r = 0 := by omega
          rcases (show b = 0 ∨ b = 1 by omega) with rfl | rfl
          · go_enter Try.func18, Try.ntmps18
            go_wp2_with (first | (go_at_call 13; refine (specVR_any _ _ _ _ _ _).mono ?_; rintro e w' ⟨rfl, hbw⟩; obtain ⟨X, d, rfl⟩ := Below.ext_ hbw; clear hbw) | go_in)
            go_returns
            exact ⟨by simp [sFail, RS.v, *], (by repeat (first | (with_reducible exact Below.refl _ _) | (with_reducible refine Below.ext ?_ (by go_size) _ _) | (with_reducible refine Below.alloc ?_ (by go_size) _) | (with_reducible refine Below.setCell ?_ (by go_size) _) | (with_reducible refine Below.drew ?_) | (with_reducible refine Below.drewN_ ?_ _)))⟩
          · go_enter Try.func18, Try.ntmps18
            go_wp2_with (first | (go_at_call 13; refine (specVR_any _ _ _ _ _ _).mono ?_; rintro e w' ⟨rfl, hbw⟩; obtain ⟨X, d, rfl⟩ := Below.ext_ hbw; clear hbw) | go_in)
            go_returns
            exact ⟨by simp [sFail, RS.v, *], (by repeat (first | (with_reducible exact Below.refl _ _) | (with_reducible refine Below.ext ?_ (by go_size) _ _) | (with_reducible refine Below.alloc ?_ (by go_size) _) | (with_reducible refine Below.setCell ?_ (by go_size) _) | (with_reducible refine Below.drew ?_) | (with_reducible refine Below.drewN_ ?_ _)))⟩
      · by_cases d : 0 < r
        · go_enter Try.func18, Try.ntmps18
          go_wp2_with (first | (go_at_call 13; refine (specVR_any _ _ _ _ _ _).mono ?_; rintro e w' ⟨rfl, hbw⟩; obtain ⟨X, d, rfl⟩ := Below.ext_ hbw; clear hbw) | go_in)
          go_returns
          exact ⟨by simp [sFail, RS.v, *], (by repeat (first | (with_reducible exact Below.refl _ _) | (with_reducible refine Below.ext ?_ (by go_size) _ _) | (with_reducible refine Below.alloc ?_ (by go_size) _) | (with_reducible refine Below.setCell ?_ (by go_size) _) | (with_reducible refine Below.drew ?_) | (with_reducible refine Below.drewN_ ?_ _)))⟩
        · obtain rfl : r = 0 := by omega
          rcases (show b = 0 ∨ b = 1 by omega) with rfl | rfl
          · go_enter Try.func18, Try.ntmps18
            go_wp2_with (first | (go_at_call 13; refine (specVR_any _ _ _ _ _ _).mono ?_; rintro e w' ⟨rfl, hbw⟩; obtain ⟨X, d, rfl⟩ := Below.ext_ hbw; clear hbw) | go_in)
            go_returns
            exact ⟨by simp [sFail, RS.v, *], (by repeat (first | (with_reducible exact Below.refl _ _) | (with_reducible refine Below.ext ?_ (by go_size) _ _) | (with_reducible refine Below.alloc ?_ (by go_size) _) | (with_reducible refine Below.setCell ?_ (by go_size) _) | (with_reducible refine Below.drew ?_) | (with_reducible refine Below.drewN_ ?_ _)))⟩
          · go_enter Try.func18, Try.ntmps18
            go_wp2_with (first | (go_at_call 13; refine (specVR_any _ _ _ _ _ _).mono ?_; rintro e w' ⟨rfl, hbw⟩; obtain ⟨X, d, rfl⟩ := Below.ext_ hbw; clear hbw) | go_in)
            go_returns
            exact ⟨by simp [sFail, RS.v, *], (by repeat (first | (with_reducible exact Below.refl _ _) | (with_reducible refine Below.ext ?_ (by go_size) _ _) | (with_reducible refine Below.alloc ?_ (by go_size) _) | (with_reducible refine Below.setCell ?_ (by go_size) _) | (with_reducible refine Below.drew ?_) | (with_reducible refine Below.drewN_ ?_ _)))⟩
    · cases pr
      · by_cases d : 0 < r
        · have d1 : (r == 0) = false := by simp; omega
          have d2 : ¬ r = 0 := by omega
          rcases (show b = 0 ∨ b = 1 by omega) with rfl | rfl
          · go_enter Try.func18, Try.ntmps18
            go_wp2_with (first | (go_at_call 13; refine (specVR_any _ _ _ _ _ _).mono ?_; rintro e w' ⟨rfl, hbw⟩; obtain ⟨X, d, rfl⟩ := Below.ext_ hbw; clear hbw) | go_in)
            go_returns
            exact ⟨by simp [sFail, RS.v, *], (by repeat (first | (with_reducible exact Below.refl _ _) | (with_reducible refine Below.ext ?_ (by go_size) _ _) | (with_reducible refine Below.alloc ?_ (by go_size) _) | (with_reducible refine Below.setCell ?_ (by go_size) _) | (with_reducible refine Below.drew ?_) | (with_reducible refine Below.drewN_ ?_ _)))⟩
          · rcases (show r = 1 ∨ 1 < r by omega) with rfl | hr1
            · go_enter Try.func18, Try.ntmps18
              go_wp2_with (first | (go_at_call 13; refine (specVR_any _ _ _ _ _ _).mono ?_; rintro e w' ⟨rfl, hbw⟩; obtain ⟨X, d, rfl⟩ := Below.ext_ hbw; clear hbw) | go_in)
              go_returns
              exact ⟨by simp [sFail, RS.v, *], (by repeat (first | (with_reducible exact Below.refl _ _) | (with_reducible refine Below.ext ?_ (by go_size) _ _) | (with_reducible refine Below.alloc ?_ (by go_size) _) | (with_reducible refine Below.setCell ?_ (by go_size) _) | (with_reducible refine Below.drew ?_) | (with_reducible refine Below.drewN_ ?_ _)))⟩
            · go_enter Try.func18, Try.ntmps18
              go_wp2_with (first | (go_at_call 13; refine (specVR_any _ _ _ _ _ _).mono ?_; rintro e w' ⟨rfl, hbw⟩; obtain ⟨X, d, rfl⟩ := Below.ext_ hbw; clear hbw) | go_in)
              go_returns
              exact ⟨by simp [sFail, RS.v, *], (by repeat (first | (with_reducible exact Below.refl _ _) | (with_reducible refine Below.ext ?_ (by go_size) _ _) | (with_reducible refine Below.alloc ?_ (by go_size) _) | (with_reducible refine Below.setCell ?_ (by go_size) _) | (with_reducible refine Below.drew ?_) | (with_reducible refine Below.drewN_ ?_ _)))⟩
        · obtain rfl : r = 0 := by omega
          rcases (show b = 0 ∨ b = 1 by omega) with rfl | rfl
          · go_enter Try.func18, Try.ntmps18
            go_wp2_with (first | (go_at_call 13; refine (specVR_any _ _ _ _ _ _).mono ?_; rintro e w' ⟨rfl, hbw⟩; obtain ⟨X, d, rfl⟩ := Below.ext_ hbw; clear hbw) | go_in)
            go_returns
            exact ⟨by simp [sFail, RS.v, *], (by repeat (first | (with_reducible exact Below.refl _ _) | (with_reducible refine Below.ext ?_ (by go_size) _ _) | (with_reducible refine Below.alloc ?_ (by go_size) _) | (with_reducible refine Below.setCell ?_ (by go_size) _) | (with_reducible refine Below.drew ?_) | (with_reducible refine Below.drewN_ ?_ _)))⟩
          · go_enter Try.func18, Try.ntmps18
            go_wp2_with (first | (go_at_call 13; refine (specVR_any _ _ _ _ _ _).mono ?_; rintro e w' ⟨rfl, hbw⟩; obtain ⟨X, d, rfl⟩ := Below.ext_ hbw; clear hbw) | go_in)
            go_returns
            exact ⟨by simp [sFail, RS.v, *], (by repeat (first | (with_reducible exact Below.refl _ _) | (with_reducible refine Below.ext ?_ (by go_size) _ _) | (with_reducible refine Below.alloc ?_ (by go_size) _) | (with_reducible refine Below.setCell ?_ (by go_size) _) | (with_reducible refine Below.drew ?_) | (with_reducible refine Below.drewN_ ?_ _)))⟩
      · by_cases d : 0 < r
        · go_enter Try.func18, Try.ntmps18
          go_wp2_with (first | (go_at_call 13; refine (specVR_any _ _ _ _ _ _).mono ?_; rintro e w' ⟨rfl, hbw⟩; obtain ⟨X, d, rfl⟩ := Below.ext_ hbw; clear hbw) | go_in)
          go_returns
          exact ⟨by simp [sFail, RS.v, *], (by repeat (first | (with_reducible exact Below.refl _ _) | (with_reducible refine Below.ext ?_ (by go_size) _ _) | (with_reducible refine Below.alloc ?_ (by go_size) _) | (with_reducible refine Below.setCell ?_ (by go_size) _) | (with_reducible refine Below.drew ?_) | (with_reducible refine Below.drewN_ ?_ _)))⟩
        · obtain rfl : r = 0 := by omega
          rcases (show b = 0 ∨ b = 1 by omega) with rfl | rfl
          · go_enter Try.func18, Try.ntmps18
            go_wp2_with (first | (go_at_call 13; refine (specVR_any _ _ _ _ _ _).mono ?_; rintro e w' ⟨rfl, hbw⟩; obtain ⟨X, d, rfl⟩ := Below.ext_ hbw; clear hbw) | go_in)
            go_returns
            exact ⟨by simp [sFail, RS.v, *], (by repeat (first | (with_reducible exact Below.refl _ _) | (with_reducible refine Below.ext ?_ (by go_size) _ _) | (with_reducible refine Below.alloc ?_ (by go_size) _) | (with_reducible refine Below.setCell ?_ (by go_size) _) | (with_reducible refine Below.drew ?_) | (with_reducible refine Below.drewN_ ?_ _)))⟩
          · go_enter Try.func18, Try.ntmps18
            go_wp2_with (first | (go_at_call 13; refine (specVR_any _ _ _ _ _ _).mono ?_; rintro e w' ⟨rfl, hbw⟩; obtain ⟨X, d, rfl⟩ := Below.ext_ hbw; clear hbw) | go_in)
            go_returns
            exact ⟨by simp [sFail, RS.v, *], (by repeat (first | (with_reducible exact Below.refl _ _) | (with_reducible refine Below.ext ?_ (by go_size) _ _) | (with_reducible refine Below.alloc ?_ (by go_size) _) | (with_reducible refine Below.setCell ?_ (by go_size) _) | (with_reducible refine Below.drew ?_) | (with_reducible refine Below.drewN_ ?_ _)))⟩
    · cases pr
      · by_cases d : 0 < r
        · have d1 : (r == 0) = false := by simp; omega
          have d2 : ¬ r = 0 := by omega
          rcases (show b = 0 ∨ b = 1 by omega) with rfl | rfl
          · go_enter Try.func18, Try.ntmps18
            go_wp2_with (first | (go_at_call 13; refine (specVR_any _ _ _ _ _ _).mono ?_; rintro e w' ⟨rfl, hbw⟩; obtain ⟨X, d, rfl⟩ := Below.ext_ hbw; clear hbw) | go_in)
            go_returns
            exact ⟨by simp [sFail, RS.v, *], (by repeat (first | (with_reducible exact Below.refl _ _) | (with_reducible refine Below.ext ?_ (by go_size) _ _) | (with_reducible refine Below.alloc ?_ (by go_size) _) | (with_reducible refine Below.setCell ?_ (by go_size) _) | (with_reducible refine Below.drew ?_) | (with_reducible refine Below.drewN_ ?_ _)))⟩
          · rcases (show r = 1 ∨ 1 < r by omega) with rfl | hr1
            · go_enter Try.func18, Try.ntmps18
              go_wp2_with (first | (go_at_call 13; refine (specVR_any _ _ _ _ _ _).mono ?_; rintro e w' ⟨rfl, hbw⟩; obtain ⟨X, d, rfl⟩ := Below.ext_ hbw; clear hbw) | go_in)
              go_returns
              exact ⟨by simp [sFail, RS.v, *], (by repeat (first | (with_reducible exact Below.refl _ _) | (with_reducible refine Below.ext ?_ (by go_size) _ _) | (with_reducible refine Below.alloc ?_ (by go_size) _) | (with_reducible refine Below.setCell ?_ (by go_size) _) | (with_reducible refine Below.drew ?_) | (with_reducible refine Below.drewN_ ?_ _)))⟩
            · go_enter Try.func18, Try.ntmps18
              go_wp2_with (first | (go_at_call 13; refine (specVR_any _ _ _ _ _ _).mono ?_; rintro e w' ⟨rfl, hbw⟩; obtain ⟨X, d, rfl⟩ := Below.ext_ hbw; clear hbw) | go_in)
              go_returns
              exact ⟨by simp [sFail, RS.v, *], (by repeat (first | (with_reducible exact Below.refl _ _) | (with_reducible refine Below.ext ?_ (by go_size) _ _) | (with_reducible refine Below.alloc ?_ (by go_size) _) | (with_reducible refine Below.setCell ?_ (by go_size) _) | (with_reducible refine Below.drew ?_) | (with_reducible refine Below.drewN_ ?_ _)))⟩
        · obtain rfl : r = 0 := by omega
          rcases (show b = 0 ∨ b = 1 by omega) with rfl | rfl
          · go_enter Try.func18, Try.ntmps18
            go_wp2_with (first | (go_at_call 13; refine (specVR_any _ _ _ _ _ _).mono ?_; rintro e w' ⟨rfl, hbw⟩; obtain ⟨X, d, rfl⟩ := Below.ext_ hbw; clear hbw) | go_in)
            go_returns
            exact ⟨by simp [sFail, RS.v, *], (by repeat (first | (with_reducible exact Below.refl _ _) | (with_reducible refine Below.ext ?_ (by go_size) _ _) | (with_reducible refine Below.alloc ?_ (by go_size) _) | (with_reducible refine Below.setCell ?_ (by go_size) _) | (with_reducible refine Below.drew ?_) | (with_reducible refine Below.drewN_ ?_ _)))⟩
          · go_enter Try.func18, Try.ntmps18
            go_wp2_with (first | (go_at_call 13; refine (specVR_any _ _ _ _ _ _).mono ?_; rintro e w' ⟨rfl, hbw⟩; obtain ⟨X, d, rfl⟩ := Below.ext_ hbw; clear hbw) | go_in)
            go_returns
            exact ⟨by simp [sFail, RS.v, *], (by repeat (first | (with_reducible exact Below.refl _ _) | (with_reducible refine Below.ext ?_ (by go_size) _ _) | (with_reducible refine Below.alloc ?_ (by go_size) _) | (with_reducible refine Below.setCell ?_ (by go_size) _) | (with_reducible refine Below.drew ?_) | (with_reducible refine Below.drewN_ ?_ _)))⟩
      · by_cases d : 0 < r
        · go_enter Try.func18, Try.ntmps18
          go_wp2_with (first | (go_at_call 13; refine (specVR_any _ _ _ _ _ _).mono ?_; rintro e w' ⟨rfl, hbw⟩; obtain ⟨X, d, rfl⟩ := Below.ext_ hbw; clear hbw) | go_in)
          go_returns
          exact ⟨by simp [sFail, RS.v, *], (by repeat (first | (with_reducible exact Below.refl _ _) | (with_reducible refine Below.ext ?_ (by go_size) _ _) | (with_reducible refine Below.alloc ?_ (by go_size) _) | (with_reducible refine Below.setCell ?_ (by go_size) _) | (with_reducible refine Below.drew ?_) | (with_reducible refine Below.drewN_ ?_ _)))⟩
        · obtain rfl : r = 0 := by omega
          rcases (show b = 0 ∨ b = 1 by omega) with rfl | rfl
          · go_enter Try.func18, Try.ntmps18
            go_wp2_with (first | (go_at_call 13; refine (specVR_any _ _ _ _ _ _).mono ?_; rintro e w' ⟨rfl, hbw⟩; obtain ⟨X, d, rfl⟩ := Below.ext_ hbw; clear hbw) | go_in)
            go_returns
            exact ⟨by simp [sFail, RS.v, *], (by repeat (first | (with_reducible exact Below.refl _ _) | (with_reducible refine Below.ext ?_ (by go_size) _ _) | (with_reducible refine Below.alloc ?_ (by go_size) _) | (with_reducible refine Below.setCell ?_ (by go_size) _) | (with_reducible refine Below.drew ?_) | (with_reducible refine Below.drewN_ ?_ _)))⟩
          · go_enter Try.func18, Try.ntmps18
            go_wp2_with (first | (go_at_call 13; refine (specVR_any _ _ _ _ _ _).mono ?_; rintro e w' ⟨rfl, hbw⟩; obtain ⟨X, d, rfl⟩ := Below.ext_ hbw; clear hbw) | go_in)
            go_returns
            exact ⟨by simp [sFail, RS.v, *], (by repeat (first | (with_reducible exact Below.refl _ _) | (with_reducible refine Below.ext ?_ (by go_size) _ _) | (with_reducible refine Below.alloc ?_ (by go_size) _) | (with_reducible refine Below.setCell ?_ (by go_size) _) | (with_reducible refine Below.drew ?_) | (with_reducible refine Below.drewN_ ?_ _)))⟩

set_option maxHeartbeats 1000000 in
theorem implFail_any (s : RS) (w : World) :
    Calls Try.prog 19 #[.agg #[.int .i64 s.r, .int .i64 s.go, .int .i64 s.b, .int .i64 s.th, .bool s.pr]] w fun e w' => e = .returned (.agg #[.int .i64 (sFail s).r, .int .i64 (sFail s).go, .int .i64 (sFail s).b, .int .i64 (sFail s).th, .bool (sFail s).pr]) ∧ Below w.heap.size w w' := by
  obtain ⟨r, go, b, th, pr⟩ := s
  dsimp only
  cases hv : vRate r go b th pr
  · go_enter Try.func19, Try.ntmps19
    go_wp2_with (first | (go_at_call 15; refine (implVR_any _ _ _ _ _ _).mono ?_; rintro e w' ⟨rfl, hbw⟩; obtain ⟨X, d, rfl⟩ := Below.ext_ hbw; clear hbw) | go_in)
    go_returns
    exact ⟨by simp [sFail, RS.v, *], (by repeat (first | (with_reducible exact Below.refl _ _) | (with_reducible refine Below.ext ?_ (by go_size) _ _) | (with_reducible refine Below.alloc ?_ (by go_size) _) | (with_reducible refine Below.setCell ?_ (by go_size) _) | (with_reducible refine Below.drew ?_) | (with_reducible refine Below.drewN_ ?_ _)))⟩
  · obtain ⟨h1, h2, h3, h4, h5, h6, h7, h8, h9⟩ := vRate_true hv
    clear h9 h8
    rcases h1 with rfl | rfl | rfl
    · cases pr
      · by_cases d : 0 < r
        · have d1 : (r == 0) = false := by simp; omega
          have d2 : ¬ r = 0 := by omega
          rcases (show b = 0 ∨ b = 1 by omega) with rfl | rfl
          · go_enter Try.func19, Try.ntmps19
            go_wp2_with (first | (go_at_call 15; refine (implVR_any _ _ _ _ _ _).mono ?_; rintro e w' ⟨rfl, hbw⟩; obtain ⟨X, d, rfl⟩ := Below.ext_ hbw; clear hbw) | go_in)
            go_returns
            exact ⟨by simp [sFail, RS.v, *], (by repeat (first | (with_reducible exact Below.refl _ _) | (with_reducible refine Below.ext ?_ (by go_size) _ _) | (with_reducible refine Below.alloc ?_ (by go_size) _) | (with_reducible refine Below.setCell ?_ (by go_size) _) | (with_reducible refine Below.drew ?_) | (with_reducible refine Below.drewN_ ?_ _)))⟩
          · rcases (show r = 1 ∨ 1 < r by omega) with rfl | hr1
            · go_enter Try.func19, Try.ntmps19
              go_wp2_with (first | (go_at_call 15; refine (implVR_any _ _ _ _ _ _).mono ?_; rintro e w' ⟨rfl, hbw⟩; obtain ⟨X, d, rfl⟩ := Below.ext_ hbw; clear hbw) | go_in)
              go_returns
              exact ⟨by simp [sFail, RS.v, *], (by repeat (first | (with_reducible exact Below.refl _ _) | (with_reducible refine Below.ext ?_ (by go_size) _ _) | (with_reducible refine Below.alloc ?_ (by go_size) _) | (with_reducible refine Below.setCell ?_ (by go_size) _) | (with_reducible refine Below.drew ?_) | (with_reducible refine Below.drewN_ ?_ _)))⟩
            · go_enter Try.func19, Try.ntmps19
              go_wp2_with (first | (go_at_call 15; refine (implVR_any _ _ _ _ _ _).mono ?_; rintro e w' ⟨rfl, hbw⟩; obtain ⟨X, d, rfl⟩ := Below.ext_ hbw; clear hbw) | go_in)
              go_returns
              exact ⟨by simp [sFail, RS.v, *], (by repeat (first | (with_reducible exact Below.refl _ _) | (with_reducible refine Below.ext ?_ (by go_size) _ _) | (with_reducible refine Below.alloc ?_ (by go_size) _) | (with_reducible refine Below.setCell ?_ (by go_size) _) | (with_reducible refine Below.drew ?_) | (with_reducible refine Below.drewN_ ?_ _)))⟩
        · obtain rfl : r = 0 := by omega
          rcases (show b = 0 ∨ b = 1 by omega) with rfl | rfl
          · go_enter Try.func19, Try.ntmps19
            go_wp2_with (first | (go_at_call 15; refine (implVR_any _ _ _ _ _ _).mono ?_; rintro e w' ⟨rfl, hbw⟩; obtain ⟨X, d, rfl⟩ := Below.ext_ hbw; clear hbw) | go_in)
            go_returns
            exact ⟨by simp [sFail, RS.v, *], (by repeat (first | (with_reducible exact Below.refl _ _) | (with_reducible refine Below.ext ?_ (by go_size) _ _) | (with_reducible refine Below.alloc ?_ (by go_size) _) | (with_reducible refine Below.setCell ?_ (by go_size) _) | (with_reducible refine Below.drew ?_) | (with_reducible refine Below.drewN_ ?_ _)))⟩
          · go_enter Try.func19, Try.ntmps19
            go_wp2_with (first | (go_at_call 15; refine (implVR_any _ _ _ _ _ _).mono ?_; rintro e w' ⟨rfl, hbw⟩; obtain ⟨X, d, rfl⟩ := Below.ext_ hbw; clear hbw) | go_in)
            go_returns
            exact ⟨by simp [sFail, RS.v, *], (by repeat (first | (with_reducible exact Below.refl _ _) | (with_reducible refine Below.ext ?_ (by go_size) _ _) | (with_reducible refine Below.alloc ?_ (by go_size) _) | (with_reducible refine Below.setCell ?_ (by go_size) _) | (with_reducible refine Below.drew ?_) | (with_reducible refine Below.drewN_ ?_ _)))⟩
      · by_cases d : 0 < r
        · go_enter Try.func19, Try.ntmps19
          go_wp2_with (first | (go_at_call 15; refine (implVR_any _ _ _ _ _ _).mono ?_; rintro e w' ⟨rfl, hbw⟩; obtain ⟨X, d, rfl⟩ := Below.ext_ hbw; clear hbw) | go_in)
          go_returns
          exact ⟨by simp [sFail, RS.v, *], (by repeat (first | (with_reducible exact Below.refl _ _) | (with_reducible refine Below.ext ?_ (by go_size) _ _) | (with_reducible refine Below.alloc ?_ (by go_size) _) | (with_reducible refine Below.setCell ?_ (by go_size) _) | (with_reducible refine Below.drew ?_) | (with_reducible refine Below.drewN_ ?_ _)))⟩
        · obtain rfl : r = 0 := by omega
          rcases (show b = 0 ∨ b = 1 by omega) with rfl | rfl
          · go_enter Try.func19, Try.ntmps19
            go_wp2_with (first | (go_at_call 15; refine (implVR_any _ _ _ _ _ _).mono ?_; rintro e w' ⟨rfl, hbw⟩; obtain ⟨X, d, rfl⟩ := Below.ext_ hbw; clear hbw) | go_in)
            go_returns
            exact ⟨by simp [sFail, RS.v, *], (by repeat (first | (with_reducible exact Below.refl _ _) | (with_reducible refine Below.ext ?_ (by go_size) _ _) | (with_reducible refine Below.alloc ?_ (by go_size) _) | (with_reducible refine Below.setCell ?_ (by go_size) _) | (with_reducible refine Below.drew ?_) | (with_reducible refine Below.drewN_ ?_ _)))⟩
          · go_enter Try.func19, Try.ntmps19
            go_wp2_with (first | (go_at_call 15; refine (implVR_any _ _ _ _ _ _).mono ?_; rintro e w' ⟨rfl, hbw⟩; obtain ⟨X, d, rfl⟩ := Below.ext_ hbw; clear hbw) | go_in)
            go_returns
            exact ⟨by simp [sFail, RS.v, *], (by repeat (first | (with_reducible exact Below.refl _ _) | (with_reducible refine Below.ext ?_ (by go_size) _ _) | (with_reducible refine Below.alloc ?_ (by go_size) _) | (with_reducible refine Below.setCell ?_ (by go_size) _) | (with_reducible refine Below.drew ?_) | (with_reducible refine Below.drewN_ ?_ _)))⟩
    · cases pr
      · by_cases d : 0 < r
        · have d1 : (r == 0) = false := by simp; omega
          have d2 : ¬ r = 0 := by omega
          rcases (show b = 0 ∨ b = 1 by omega) with rfl | rfl
          · go_enter Try.func19, Try.ntmps19
            go_wp2_with (first | (go_at_call 15; refine (implVR_any _ _ _ _ _ _).mono ?_; rintro e w' ⟨rfl, hbw⟩; obtain ⟨X, d, rfl⟩ := Below.ext_ hbw; clear hbw) | go_in)
            go_returns
            exact ⟨by simp [sFail, RS.v, *], (by repeat (first | (with_reducible exact Below.refl _ _) | (with_reducible refine Below.ext ?_ (by go_size) _ _) | (with_reducible refine Below.alloc ?_ (by go_size) _) | (with_reducible refine Below.setCell ?_ (by go_size) _) | (with_reducible refine Below.drew ?_) | (with_reducible refine Below.drewN_ ?_ _)))⟩
          · rcases (show r = 1 ∨ 1 < r by omega) with rfl | hr1
            · go_enter Try.func19, Try.ntmps19
              go_wp2_with (first | (go_at_call 15; refine (implVR_any _ _ _ _ _ _).mono ?_; rintro e w' ⟨rfl, hbw⟩; obtain ⟨X, d, rfl⟩ := Below.ext_ hbw; clear hbw) | go_in)
              go_returns
              exact ⟨by simp [sFail, RS.v, *], (by repeat (first | (with_reducible exact Below.refl _ _) | (with_reducible refine Below.ext ?_ (by go_size) _ _) | (with_reducible refine Below.alloc ?_ (by go_size) _) | (with_reducible refine Below.setCell ?_ (by go_size) _) | (with_reducible refine Below.drew ?_) | (with_reducible refine Below.drewN_ ?_ _)))⟩
            · go_enter Try.func19, Try.ntmps19
              go_wp2_with (first | (go_at_call 15; refine (implVR_any _ _ _ _ _ _).mono ?_; rintro e w' ⟨rfl, hbw⟩; obtain ⟨X, d, rfl⟩ := Below.ext_ hbw; clear hbw) | go_in)
              go_returns
              exact ⟨by simp [sFail, RS.v, *], (by repeat (first | (with_reducible exact Below.refl _ _) | (with_reducible refine Below.ext ?_ (by go_size) _ _) | (with_reducible refine Below.alloc ?_ (by go_size) _) | (with_reducible refine Below.setCell ?_ (by go_size) _) | (with_reducible refine Below.drew ?_) | (with_reducible refine Below.drewN_ ?_ _)))⟩
        · obtain rfl : r = 0 := by omega
          rcases (show b = 0 ∨ b = 1 by omega) with rfl | rfl
          · go_enter Try.func19, Try.ntmps19
            go_wp2_with (first | (go_at_call 15; refine (implVR_any _ _ _ _ _ _).mono ?_; rintro e w' ⟨rfl, hbw⟩; obtain ⟨X, d, rfl⟩ := Below.ext_ hbw; clear hbw) | go_in)
            go_returns
            exact ⟨by simp [sFail, RS.v, *], (by repeat (first | (with_reducible exact Below.refl _ _) | (with_reducible refine Below.ext ?_ (by go_size) _ _) | (with_reducible refine Below.alloc ?_ (by go_size) _) | (with_reducible refine Below.setCell ?_ (by go_size) _) | (with_reducible refine Below.drew ?_) | (with_reducible refine Below.drewN_ ?_ _)))⟩
          · go_enter Try.func19, Try.ntmps19
            go_wp2_with (first | (go_at_call 15; refine (implVR_any _ _ _ _ _ _).mono ?_; rintro e w' ⟨rfl, hbw⟩; obtain ⟨X, d, rfl⟩ := Below.ext_ hbw; clear hbw) | go_in)
            go_returns
            exact ⟨by simp [sFail, RS.v, *], (by repeat (first | (with_reducible exact Below.refl _ _) | (with_reducible refine Below.ext ?_ (by go_size) _ _) | (with_reducible refine Below.alloc ?_ (by go_size) _) | (with_reducible refine Below.setCell ?_ (by go_size) _) | (with_reducible refine Below.drew ?_) | (with_reducible refine Below.drewN_ ?_ _)))⟩
      · by_cases d : 0 < r
        · go_enter Try.func19, Try.ntmps19
          go_wp2_with (first | (go_at_call 15; refine (implVR_any _ _ _ _ _ _).mono ?_; rintro e w' ⟨rfl, hbw⟩; obtain ⟨X, d, rfl⟩ := Below.ext_ hbw; clear hbw) | go_in)
          go_returns
          exact ⟨by simp [sFail, RS.v, *], (by repeat (first | (with_reducible exact Below.refl _ _) | (with_reducible refine Below.ext ?_ (by go_size) _ _) | (with_reducible refine Below.alloc ?_ (by go_size) _) | (with_reducible refine Below.setCell ?_ (by go_size) _) | (with_reducible refine Below.drew ?_) | (with_reducible refine Below.drewN_ ?_ _)))⟩
        · obtain rfl : r = 0 := by omega
          rcases (show b = 0 ∨ b = 1 by omega) with rfl | rfl
          · go_enter Try.func19, Try.ntmps19
            go_wp2_with (first | (go_at_call 15; refine (implVR_any _ _ _ _ _ _).mono ?_; rintro e w' ⟨rfl, hbw⟩; obtain ⟨X, d, rfl⟩ := Below.ext_ hbw; clear hbw) | go_in)
            go_returns
            exact ⟨by simp [sFail, RS.v, *], (by repeat (first | (with_reducible exact Below.refl _ _) | (with_reducible refine Below.ext ?_ (by go_size) _ _) | (with_reducible refine Below.alloc ?_ (by go_size) _) | (with_reducible refine Below.setCell ?_ (by go_size) _) | (with_reducible refine Below.drew ?_) | (with_reducible refine Below.drewN_ ?_ _)))⟩
          · go_enter Try.func19, Try.ntmps19
            go_wp2_with (first | (go_at_call 15; refine (implVR_any _ _ _ _ _ _).mono ?_; rintro e w' ⟨rfl, hbw⟩; obtain ⟨X, d, rfl⟩ := Below.ext_ hbw; clear hbw) | go_in)
            go_returns
            exact ⟨by simp [sFail, RS.v, *], (by repeat (first | (with_reducible exact Below.refl _ _) | (with_reducible refine Below.ext ?_ (by go_size) _ _) | (with_reducible refine Below.alloc ?_ (by go_size) _) | (with_reducible refine Below.setCell ?_ (by go_size) _) | (with_reducible refine Below.drew ?_) | (with_reducible refine Below.drewN_ ?_ _)))⟩
    · cases pr
      · by_cases d : 0 < r
        · have d1 : (r == 0) = false := by simp; omega
          have d2 : ¬ r = 0 := by omega
          rcases (show b = 0 ∨ b = 1 by omega) with rfl | rfl
          · go_enter Try.func19, Try.ntmps19
            go_wp2_with (first | (go_at_call 15; refine (implVR_any _ _ _ _ _ _).mono ?_; rintro e w' ⟨rfl, hbw⟩; obtain ⟨X, d, rfl⟩ := Below.ext_ hbw; clear hbw) | go_in)
            go_returns
            exact ⟨by simp [sFail, RS.v, *], (by repeat (first | (with_reducible exact Below.refl _ _) | (with_reducible refine Below.ext ?_ (by go_size) _ _) | (with_reducible refine Below.alloc ?_ (by go_size) _) | (with_reducible refine Below.setCell ?_ (by go_size) _) | (with_reducible refine Below.drew ?_) | (with_reducible refine Below.drewN_ ?_ _)))⟩
          · rcases (show r = 1 ∨ 1 < r by omega) with rfl | hr1
            · go_enter Try.func19, Try.ntmps19
              go_wp2_with (first | (go_at_call 15; refine (implVR_any _ _ _ _ _ _).mono ?_; rintro e w' ⟨rfl, hbw⟩; obtain ⟨X, d, rfl⟩ := Below.ext_ hbw; clear hbw) | go_in)
              go_returns
              exact ⟨by simp [sFail, RS.v, *], (by repeat (first | (with_reducible exact Below.refl _ _) | (with_reducible refine Below.ext ?_ (by go_size) _ _) | (with_reducible refine Below.alloc ?_ (by go_size) _) | (with_reducible refine Below.setCell ?_ (by go_size) _) | (with_reducible refine Below.drew ?_) | (with_reducible refine Below.drewN_ ?_ _)))⟩
            · go_enter Try.func19, Try.ntmps19
              go_wp2_with (first | (go_at_call 15; refine (implVR_any _ _ _ _ _ _).mono ?_; rintro e w' ⟨rfl, hbw⟩; obtain ⟨X, d, rfl⟩ := Below.ext_ hbw; clear hbw) | go_in)
              go_returns
              exact ⟨by simp [sFail, RS.v, *], (by repeat (first | (with_reducible exact Below.refl _ _) | (with_reducible refine Below.ext ?_ (by go_size) _ _) | (with_reducible refine Below.alloc ?_ (by go_size) _) | (with_reducible refine Below.setCell ?_ (by go_size) _) | (with_reducible refine Below.drew ?_) | (with_reducible refine Below.drewN_ ?_ _)))⟩
        · obtain rfl : r = 0 := by omega
          rcases (show b = 0 ∨ b = 1 by omega) with rfl | rfl
          · go_enter Try.func19, Try.ntmps19
            go_wp2_with (first | (go_at_call 15; refine (implVR_any _ _ _ _ _ _).mono ?_; rintro e w' ⟨rfl, hbw⟩; obtain ⟨X, d, rfl⟩ := Below.ext_ hbw; clear hbw) | go_in)
            go_returns
            exact ⟨by simp [sFail, RS.v, *], (by repeat (first | (with_reducible exact Below.refl _ _) | (with_reducible refine Below.ext ?_ (by go_size) _ _) | (with_reducible refine Below.alloc ?_ (by go_size) _) | (with_reducible refine Below.setCell ?_ (by go_size) _) | (with_reducible refine Below.drew ?_) | (with_reducible refine Below.drewN_ ?_ _)))⟩
          · go_enter Try.func19, Try.ntmps19
            go_wp2_with (first | (go_at_call 15; refine (implVR_any _ _ _ _ _ _).mono ?_; rintro e w' ⟨rfl, hbw⟩; obtain ⟨X, d, rfl⟩ := Below.ext_ hbw; clear hbw) | go_in)
            go_returns
            exact ⟨by simp [sFail, RS.v, *], (by repeat (first | (with_reducible exact Below.refl _ _) | (with_reducible refine Below.ext ?_ (by go_size) _ _) | (with_reducible refine Below.alloc ?_ (by go_size) _) | (with_reducible refine Below.setCell ?_ (by go_size) _) | (with_reducible refine Below.drew ?_) | (with_reducible refine Below.drewN_ ?_ _)))⟩
      · by_cases d : 0 < r
        · go_enter Try.func19, Try.ntmps19
          go_wp2_with (first | (go_at_call 15; refine (implVR_any _ _ _ _ _ _).mono ?_; rintro e w' ⟨rfl, hbw⟩; obtain ⟨X, d, rfl⟩ := Below.ext_ hbw; clear hbw) | go_in)
          go_returns
          exact ⟨by simp [sFail, RS.v, *], (by repeat (first | (with_reducible exact Below.refl _ _) | (with_reducible refine Below.ext ?_ (by go_size) _ _) | (with_reducible refine Below.alloc ?_ (by go_size) _) | (with_reducible refine Below.setCell ?_ (by go_size) _) | (with_reducible refine Below.drew ?_) | (with_reducible refine Below.drewN_ ?_ _)))⟩
        · obtain rfl : r = 0 := by omega
          rcases (show b = 0 ∨ b = 1 by omega) with rfl | rfl
          · go_enter Try.func19, Try.ntmps19
            go_wp2_with (first | (go_at_call 15; refine (implVR_any _ _ _ _ _ _).mono ?_; rintro e w' ⟨rfl, hbw⟩; obtain ⟨X, d, rfl⟩ := Below.ext_ hbw; clear hbw) | go_in)
            go_returns
            exact ⟨by simp [sFail, RS.v, *], (by repeat (first | (with_reducible exact Below.refl _ _) | (with_reducible refine Below.ext ?_ (by go_size) _ _) | (with_reducible refine Below.alloc ?_ (by go_size) _) | (with_reducible refine Below.setCell ?_ (by go_size) _) | (with_reducible refine Below.drew ?_) | (with_reducible refine Below.drewN_ ?_ _)))⟩
          · go_enter Try.func19, Try.ntmps19
            go_wp2_with (first | (go_at_call 15; refine (implVR_any _ _ _ _ _ _).mono ?_; rintro e w' ⟨rfl, hbw⟩; obtain ⟨X, d, rfl⟩ := Below.ext_ hbw; clear hbw) | go_in)
            go_returns
            exact ⟨by simp [sFail, RS.v, *], (by repeat (first | (with_reducible exact Below.refl _ _) | (with_reducible refine Below.ext ?_ (by go_size) _ _) | (with_reducible refine Below.alloc ?_ (by go_size) _) | (with_reducible refine Below.setCell ?_ (by go_size) _) | (with_reducible refine Below.drew ?_) | (with_reducible refine Below.drewN_ ?_ _)))⟩

theorem rateFailed_walk (r go b th : Int) (pr : Bool) (hr : I64 r) (hgo : I64 go) (hb : I64 b) (hth : I64 th) (w : World) :
    Calls Try.prog 6 #[.agg #[.int .i64 r, .int .i64 go, .int .i64 b, .int .i64 th, .bool pr]] w fun e w' => e = .returned (.bool true) ∧ Below w.heap.size w w' := by
  go_enter Try.func6, Try.ntmps6
  go_wp2_with (first | (go_at_call 14; refine (toRate_any _ _ _ _ _ _).mono ?_; rintro e w' ⟨rfl, hbw⟩; obtain ⟨X, d, rfl⟩ := Below.ext_ hbw; clear hbw) | (go_at_call 18; refine (specFail_any ⟨r, go, b, th, pr⟩ _).mono ?_; rintro e w' ⟨rfl, hbw⟩; obtain ⟨X, d, rfl⟩ := Below.ext_ hbw; clear hbw) | (go_at_call 19; refine (implFail_any ⟨r, go, b, th, pr⟩ _).mono ?_; rintro e w' ⟨rfl, hbw⟩; obtain ⟨X, d, rfl⟩ := Below.ext_ hbw; clear hbw) | (go_at_call 12; refine (eqRate_any _ _ _ _ _ _).mono ?_; rintro e w' ⟨rfl, hbw⟩; obtain ⟨X, d, rfl⟩ := Below.ext_ hbw; clear hbw))
  go_ret
  exact ⟨rfl, (by repeat (first | (with_reducible exact Below.refl _ _) | (with_reducible refine Below.ext ?_ (by go_size) _ _) | (with_reducible refine Below.alloc ?_ (by go_size) _) | (with_reducible refine Below.setCell ?_ (by go_size) _) | (with_reducible refine Below.drew ?_) | (with_reducible refine Below.drewN_ ?_ _)))⟩

end Go.Proofs.Ytkjkhlncdopndaa
