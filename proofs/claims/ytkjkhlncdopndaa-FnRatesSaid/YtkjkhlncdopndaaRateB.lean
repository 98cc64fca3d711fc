/- The contracts of the steps of a rate state, and the walks of the exact laws. -/
import Derived.Test.YtkjkhlncdopndaaRateA
namespace Go.Proofs.Ytkjkhlncdopndaa
open Go.RowKit
set_option linter.unusedVariables false
set_option linter.unusedSimpArgs false

theorem toRate_any (r go b th : Int) (pr : Bool) (w : World) :
    Calls Try.prog 14 #[.agg #[.int .i64 r, .int .i64 go, .int .i64 b, .int .i64 th, .bool pr]] w fun e w' => e = .returned (.agg #[.int .i64 r, .int .i64 go, .int .i64 b, .int .i64 th, .bool pr]) ∧ Below w.heap.size w w' := by
  go_enter Try.func14, Try.ntmps14
  go_wp2
  go_returns
  exact ⟨by simp, (by repeat (first | (with_reducible exact Below.refl _ _) | (with_reducible refine Below.ext ?_ (by go_size) _ _) | (with_reducible refine Below.alloc ?_ (by go_size) _) | (with_reducible refine Below.setCell ?_ (by go_size) _) | (with_reducible refine Below.drew ?_) | (with_reducible refine Below.drewN_ ?_ _)))⟩

theorem eqRate_any (r go b th : Int) (pr : Bool) (w : World) :
    Calls Try.prog 12 #[.agg #[.int .i64 r, .int .i64 go, .int .i64 b, .int .i64 th, .bool pr], .agg #[.int .i64 r, .int .i64 go, .int .i64 b, .int .i64 th, .bool pr]] w fun e w' => e = .returned (.bool true) ∧ Below w.heap.size w w' := by
  go_enter Try.func12, Try.ntmps12
  go_wp2
  go_returns
  exact ⟨by simp, (by repeat (first | (with_reducible exact Below.refl _ _) | (with_reducible refine Below.ext ?_ (by go_size) _ _) | (with_reducible refine Below.alloc ?_ (by go_size) _) | (with_reducible refine Below.setCell ?_ (by go_size) _) | (with_reducible refine Below.drew ?_) | (with_reducible refine Below.drewN_ ?_ _)))⟩

set_option maxHeartbeats 1000000 in
theorem specSucc_any (s : RS) (w : World) :
    Calls Try.prog 16 #[.agg #[.int .i64 s.r, .int .i64 s.go, .int .i64 s.b, .int .i64 s.th, .bool s.pr]] w fun e w' => e = .returned (.agg #[.int .i64 (sSucc s).r, .int .i64 (sSucc s).go, .int .i64 (sSucc s).b, .int .i64 (sSucc s).th, .bool (sSucc s).pr]) ∧ Below w.heap.size w w' := by
  obtain ⟨r, go, b, th, pr⟩ := s
  dsimp only
  cases hv : vRate r go b th pr
  · go_enter Try.func16, Try.ntmps16
    go_wp2_with (first | (go_at_call 13; refine (specVR_any _ _ _ _ _ _).mono ?_; rintro e w' ⟨rfl, hbw⟩; obtain ⟨X, d, rfl⟩ := Below.ext_ hbw; clear hbw) | go_in)
    go_returns
    exact ⟨by simp [sSucc, RS.v, *], (by repeat (first | (with_reducible exact Below.refl _ _) | (with_reducible refine Below.ext ?_ (by go_size) _ _) | (with_reducible refine Below.alloc ?_ (by go_size) _) | (with_reducible refine Below.setCell ?_ (by go_size) _) | (with_reducible refine Below.drew ?_) | (with_reducible refine Below.drewN_ ?_ _)))⟩
  · obtain ⟨h1, h2, h3, h4, h5, h6, h7, h8, h9⟩ := vRate_true hv
    have HV := Lib.hid hv
    clear h9
    rcases h1 with rfl | rfl | rfl
    · by_cases c : go + 1 < 10
      · have e1 : (go + 1 == 10) = false := by simp; omega
        go_enter Try.func16, Try.ntmps16
        go_wp2_with (first | (go_at_call 13; refine (specVR_any _ _ _ _ _ _).mono ?_; rintro e w' ⟨rfl, hbw⟩; obtain ⟨X, d, rfl⟩ := Below.ext_ hbw; clear hbw) | go_in)
        go_returns
        exact ⟨by simp [sSucc, RS.v, *], (by repeat (first | (with_reducible exact Below.refl _ _) | (with_reducible refine Below.ext ?_ (by go_size) _ _) | (with_reducible refine Below.alloc ?_ (by go_size) _) | (with_reducible refine Below.setCell ?_ (by go_size) _) | (with_reducible refine Below.drew ?_) | (with_reducible refine Below.drewN_ ?_ _)))⟩
      · have e1 : ((10 : Int) == 10) = true := rfl
        by_cases d : r < 3
        · rcases (show go = 9 ∨ go = 10 by omega) with rfl | rfl
          · go_enter Try.func16, Try.ntmps16
            go_wp2_with (first | (go_at_call 13; refine (specVR_any _ _ _ _ _ _).mono ?_; rintro e w' ⟨rfl, hbw⟩; obtain ⟨X, d, rfl⟩ := Below.ext_ hbw; clear hbw) | go_in)
            go_returns
            exact ⟨by simp [sSucc, RS.v, *], (by repeat (first | (with_reducible exact Below.refl _ _) | (with_reducible refine Below.ext ?_ (by go_size) _ _) | (with_reducible refine Below.alloc ?_ (by go_size) _) | (with_reducible refine Below.setCell ?_ (by go_size) _) | (with_reducible refine Below.drew ?_) | (with_reducible refine Below.drewN_ ?_ _)))⟩
          · go_enter Try.func16, Try.ntmps16
            go_wp2_with (first | (go_at_call 13; refine (specVR_any _ _ _ _ _ _).mono ?_; rintro e w' ⟨rfl, hbw⟩; obtain ⟨X, d, rfl⟩ := Below.ext_ hbw; clear hbw) | go_in)
            go_returns
            exact ⟨by simp [sSucc, RS.v, *], (by repeat (first | (with_reducible exact Below.refl _ _) | (with_reducible refine Below.ext ?_ (by go_size) _ _) | (with_reducible refine Below.alloc ?_ (by go_size) _) | (with_reducible refine Below.setCell ?_ (by go_size) _) | (with_reducible refine Below.drew ?_) | (with_reducible refine Below.drewN_ ?_ _)))⟩
        · obtain rfl : r = 3 := by omega
          rcases (show go = 9 ∨ go = 10 by omega) with rfl | rfl
          · go_enter Try.func16, Try.ntmps16
            go_wp2_with (first | (go_at_call 13; refine (specVR_any _ _ _ _ _ _).mono ?_; rintro e w' ⟨rfl, hbw⟩; obtain ⟨X, d, rfl⟩ := Below.ext_ hbw; clear hbw) | go_in)
            go_returns
            exact ⟨by simp [sSucc, RS.v, *], (by repeat (first | (with_reducible exact Below.refl _ _) | (with_reducible refine Below.ext ?_ (by go_size) _ _) | (with_reducible refine Below.alloc ?_ (by go_size) _) | (with_reducible refine Below.setCell ?_ (by go_size) _) | (with_reducible refine Below.drew ?_) | (with_reducible refine Below.drewN_ ?_ _)))⟩
          · go_enter Try.func16, Try.ntmps16
            go_wp2_with (first | (go_at_call 13; refine (specVR_any _ _ _ _ _ _).mono ?_; rintro e w' ⟨rfl, hbw⟩; obtain ⟨X, d, rfl⟩ := Below.ext_ hbw; clear hbw) | go_in)
            go_returns
            exact ⟨by simp [sSucc, RS.v, *], (by repeat (first | (with_reducible exact Below.refl _ _) | (with_reducible refine Below.ext ?_ (by go_size) _ _) | (with_reducible refine Below.alloc ?_ (by go_size) _) | (with_reducible refine Below.setCell ?_ (by go_size) _) | (with_reducible refine Below.drew ?_) | (with_reducible refine Below.drewN_ ?_ _)))⟩
    · by_cases c : go + 1 < 20
      · have e1 : (go + 1 == 20) = false := by simp; omega
        go_enter Try.func16, Try.ntmps16
        go_wp2_with (first | (go_at_call 13; refine (specVR_any _ _ _ _ _ _).mono ?_; rintro e w' ⟨rfl, hbw⟩; obtain ⟨X, d, rfl⟩ := Below.ext_ hbw; clear hbw) | go_in)
        go_returns
        exact ⟨by simp [sSucc, RS.v, *], (by repeat (first | (with_reducible exact Below.refl _ _) | (with_reducible refine Below.ext ?_ (by go_size) _ _) | (with_reducible refine Below.alloc ?_ (by go_size) _) | (with_reducible refine Below.setCell ?_ (by go_size) _) | (with_reducible refine Below.drew ?_) | (with_reducible refine Below.drewN_ ?_ _)))⟩
      · have e1 : ((20 : Int) == 20) = true := rfl
        by_cases d : r < 3
        · rcases (show go = 19 ∨ go = 20 by omega) with rfl | rfl
          · go_enter Try.func16, Try.ntmps16
            go_wp2_with (first | (go_at_call 13; refine (specVR_any _ _ _ _ _ _).mono ?_; rintro e w' ⟨rfl, hbw⟩; obtain ⟨X, d, rfl⟩ := Below.ext_ hbw; clear hbw) | go_in)
            go_returns
            exact ⟨by simp [sSucc, RS.v, *], (by repeat (first | (with_reducible exact Below.refl _ _) | (with_reducible refine Below.ext ?_ (by go_size) _ _) | (with_reducible refine Below.alloc ?_ (by go_size) _) | (with_reducible refine Below.setCell ?_ (by go_size) _) | (with_reducible refine Below.drew ?_) | (with_reducible refine Below.drewN_ ?_ _)))⟩
          · go_enter Try.func16, Try.ntmps16
            go_wp2_with (first | (go_at_call 13; refine (specVR_any _ _ _ _ _ _).mono ?_; rintro e w' ⟨rfl, hbw⟩; obtain ⟨X, d, rfl⟩ := Below.ext_ hbw; clear hbw) | go_in)
            go_returns
            exact ⟨by simp [sSucc, RS.v, *], (by repeat (first | (with_reducible exact Below.refl _ _) | (with_reducible refine Below.ext ?_ (by go_size) _ _) | (with_reducible refine Below.alloc ?_ (by go_size) _) | (with_reducible refine Below.setCell ?_ (by go_size) _) | (with_reducible refine Below.drew ?_) | (with_reducible refine Below.drewN_ ?_ _)))⟩
        · obtain rfl : r = 3 := by omega
          rcases (show go = 19 ∨ go = 20 by omega) with rfl | rfl
          · go_enter Try.func16, Try.ntmps16
            go_wp2_with (first | (go_at_call 13; refine (specVR_any _ _ _ _ _ _).mono ?_; rintro e w' ⟨rfl, hbw⟩; obtain ⟨X, d, rfl⟩ := Below.ext_ hbw; clear hbw) | go_in)
            go_returns
            exact ⟨by simp [sSucc, RS.v, *], (by repeat (first | (with_reducible exact Below.refl _ _) | (with_reducible refine Below.ext ?_ (by go_size) _ _) | (with_reducible refine Below.alloc ?_ (by go_size) _) | (with_reducible refine Below.setCell ?_ (by go_size) _) | (with_reducible refine Below.drew ?_) | (with_reducible refine Below.drewN_ ?_ _)))⟩
          · go_enter Try.func16, Try.ntmps16
            go_wp2_with (first | (go_at_call 13; refine (specVR_any _ _ _ _ _ _).mono ?_; rintro e w' ⟨rfl, hbw⟩; obtain ⟨X, d, rfl⟩ := Below.ext_ hbw; clear hbw) | go_in)
            go_returns
            exact ⟨by simp [sSucc, RS.v, *], (by repeat (first | (with_reducible exact Below.refl _ _) | (with_reducible refine Below.ext ?_ (by go_size) _ _) | (with_reducible refine Below.alloc ?_ (by go_size) _) | (with_reducible refine Below.setCell ?_ (by go_size) _) | (with_reducible refine Below.drew ?_) | (with_reducible refine Below.drewN_ ?_ _)))⟩
    · by_cases c : go + 1 < 40
      · have e1 : (go + 1 == 40) = false := by simp; omega
        go_enter Try.func16, Try.ntmps16
        go_wp2_with (first | (go_at_call 13; refine (specVR_any _ _ _ _ _ _).mono ?_; rintro e w' ⟨rfl, hbw⟩; obtain ⟨X, d, rfl⟩ := Below.ext_ hbw; clear hbw) | go_in)
        go_returns
        exact ⟨by simp [sSucc, RS.v, *], (by repeat (first | (with_reducible exact Below.refl _ _) | (with_reducible refine Below.ext ?_ (by go_size) _ _) | (with_reducible refine Below.alloc ?_ (by go_size) _) | (with_reducible refine Below.setCell ?_ (by go_size) _) | (with_reducible refine Below.drew ?_) | (with_reducible refine Below.drewN_ ?_ _)))⟩
      · have e1 : ((40 : Int) == 40) = true := rfl
        by_cases d : r < 3
        · rcases (show go = 39 ∨ go = 40 by omega) with rfl | rfl
          · go_enter Try.func16, Try.ntmps16
            go_wp2_with (first | (go_at_call 13; refine (specVR_any _ _ _ _ _ _).mono ?_; rintro e w' ⟨rfl, hbw⟩; obtain ⟨X, d, rfl⟩ := Below.ext_ hbw; clear hbw) | go_in)
            go_returns
            exact ⟨by simp [sSucc, RS.v, *], (by repeat (first | (with_reducible exact Below.refl _ _) | (with_reducible refine Below.ext ?_ (by go_size) _ _) | (with_reducible refine Below.alloc ?_ (by go_size) _) | (with_reducible refine Below.setCell ?_ (by go_size) _) | (with_reducible refine Below.drew ?_) | (with_reducible refine Below.drewN_ ?_ _)))⟩
          · go_enter Try.func16, Try.ntmps16
            go_wp2_with (first | (go_at_call 13; refine (specVR_any _ _ _ _ _ _).mono ?_; rintro e w' ⟨rfl, hbw⟩; obtain ⟨X, d, rfl⟩ := Below.ext_ hbw; clear hbw) | go_in)
            go_returns
            exact ⟨by simp [sSucc, RS.v, *], (by repeat (first | (with_reducible exact Below.refl _ _) | (with_reducible refine Below.ext ?_ (by go_size) _ _) | (with_reducible refine Below.alloc ?_ (by go_size) _) | (with_reducible refine Below.setCell ?_ (by go_size) _) | (with_reducible refine Below.drew ?_) | (with_reducible refine Below.drewN_ ?_ _)))⟩
        · obtain rfl : r = 3 := by omega
          rcases (show go = 39 ∨ go = 40 by omega) with rfl | rfl
          · go_enter Try.func16, Try.ntmps16
            go_wp2_with (first | (go_at_call 13; refine (specVR_any _ _ _ _ _ _).mono ?_; rintro e w' ⟨rfl, hbw⟩; obtain ⟨X, d, rfl⟩ := Below.ext_ hbw; clear hbw) | go_in)
            go_returns
            exact ⟨by simp [sSucc, RS.v, *], (by repeat (first | (with_reducible exact Below.refl _ _) | (with_reducible refine Below.ext ?_ (by go_size) _ _) | (with_reducible refine Below.alloc ?_ (by go_size) _) | (with_reducible refine Below.setCell ?_ (by go_size) _) | (with_reducible refine Below.drew ?_) | (with_reducible refine Below.drewN_ ?_ _)))⟩
          · go_enter Try.func16, Try.ntmps16
            go_wp2_with (first | (go_at_call 13; refine (specVR_any _ _ _ _ _ _).mono ?_; rintro e w' ⟨rfl, hbw⟩; obtain ⟨X, d, rfl⟩ := Below.ext_ hbw; clear hbw) | go_in)
            go_returns
            exact ⟨by simp [sSucc, RS.v, *], (by repeat (first | (with_reducible exact Below.refl _ _) | (with_reducible refine Below.ext ?_ (by go_size) _ _) | (with_reducible refine Below.alloc ?_ (by go_size) _) | (with_reducible refine Below.setCell ?_ (by go_size) _) | (with_reducible refine Below.drew ?_) | (with_reducible refine Below.drewN_ ?_ _)))⟩

set_option maxHeartbeats 1000000 in
theorem implSucc_any (s : RS) (w : World) :
    Calls Try.prog 17 #[.agg #[.int .i64 s.r, .int .i64 s.go, .int .i64 s.b, .int .i64 s.th, .bool s.pr]] w fun e w' => e = .returned (.agg #[.int .i64 (sSucc s).r, .int .i64 (sSucc s).go, .int .i64 (sSucc s).b, .int .i64 (sSucc s).th, .bool (sSucc s).pr]) ∧ Below w.heap.size w w' := by
  obtain ⟨r, go, b, th, pr⟩ := s
  dsimp only
  cases hv : vRate r go b th pr
  · go_enter Try.func17, Try.ntmps17
    go_wp2_with (first | (go_at_call 15; refine (implVR_any _ _ _ _ _ _).mono ?_; rintro e w' ⟨rfl, hbw⟩; obtain ⟨X, d, rfl⟩ := Below.ext_ hbw; clear hbw) | go_in)
    go_returns
    exact ⟨by simp [sSucc, RS.v, *], (by repeat (first | (with_reducible exact Below.refl _ _) | (with_reducible refine Below.ext ?_ (by go_size) _ _) | (with_reducible refine Below.alloc ?_ (by go_size) _) | (with_reducible refine Below.setCell ?_ (by go_size) _) | (with_reducible refine Below.drew ?_) | (with_reducible refine Below.drewN_ ?_ _)))⟩
  · obtain ⟨h1, h2, h3, h4, h5, h6, h7, h8, h9⟩ := vRate_true hv
    have HV := Lib.hid hv
    clear h9
    rcases h1 with rfl | rfl | rfl
    · by_cases c : go + 1 < 10
      · have e1 : (go + 1 == 10) = false := by simp; omega
        go_enter Try.func17, Try.ntmps17
        go_wp2_with (first | (go_at_call 15; refine (implVR_any _ _ _ _ _ _).mono ?_; rintro e w' ⟨rfl, hbw⟩; obtain ⟨X, d, rfl⟩ := Below.ext_ hbw; clear hbw) | go_in)
        go_returns
        exact ⟨by simp [sSucc, RS.v, *], (by repeat (first | (with_reducible exact Below.refl _ _) | (with_reducible refine Below.ext ?_ (by go_size) _ _) | (with_reducible refine Below.alloc ?_ (by go_size) _) | (with_reducible refine Below.setCell ?_ (by go_size) _) | (with_reducible refine Below.drew ?_) | (with_reducible refine Below.drewN_ ?_ _)))⟩
      · have e1 : ((10 : Int) == 10) = true := rfl
        by_cases d : r < 3
        · rcases (show go = 9 ∨ go = 10 by omega) with rfl | rfl
          · go_enter Try.func17, Try.ntmps17
            go_wp2_with (first | (go_at_call 15; refine (implVR_any _ _ _ _ _ _).mono ?_; rintro e w' ⟨rfl, hbw⟩; obtain ⟨X, d, rfl⟩ := Below.ext_ hbw; clear hbw) | go_in)
            go_returns
            exact ⟨by simp [sSucc, RS.v, *], (by repeat (first | (with_reducible exact Below.refl _ _) | (with_reducible refine Below.ext ?_ (by go_size) _ _) | (with_reducible refine Below.alloc ?_ (by go_size) _) | (with_reducible refine Below.setCell ?_ (by go_size) _) | (with_reducible refine Below.drew ?_) | (with_reducible refine Below.drewN_ ?_ _)))⟩
          · go_enter Try.func17, Try.ntmps17
            go_wp2_with (first | (go_at_call 15; refine (implVR_any _ _ _ _ _ _).mono ?_; rintro e w' ⟨rfl, hbw⟩; obtain ⟨X, d, rfl⟩ := Below.ext_ hbw; clear hbw) | go_in)
            go_returns
            exact ⟨by simp [sSucc, RS.v, *], (by repeat (first | (with_reducible exact Below.refl _ _) | (with_reducible refine Below.ext ?_ (by go_size) _ _) | (with_reducible refine Below.alloc ?_ (by go_size) _) | (with_reducible refine Below.setCell ?_ (by go_size) _) | (with_reducible refine Below.drew ?_) | (with_reducible refine Below.drewN_ ?_ _)))⟩
        · obtain rfl : r = 3 := by omega
          rcases (show go = 9 ∨ go = 10 by omega) with rfl | rfl
          · go_enter Try.func17, Try.ntmps17
            go_wp2_with (first | (go_at_call 15; refine (implVR_any _ _ _ _ _ _).mono ?_; rintro e w' ⟨rfl, hbw⟩; obtain ⟨X, d, rfl⟩ := Below.ext_ hbw; clear hbw) | go_in)
            go_returns
            exact ⟨by simp [sSucc, RS.v, *], (by repeat (first | (with_reducible exact Below.refl _ _) | (with_reducible refine Below.ext ?_ (by go_size) _ _) | (with_reducible refine Below.alloc ?_ (by go_size) _) | (with_reducible refine Below.setCell ?_ (by go_size) _) | (with_reducible refine Below.drew ?_) | (with_reducible refine Below.drewN_ ?_ _)))⟩
          · go_enter Try.func17, Try.ntmps17
            go_wp2_with (first | (go_at_call 15; refine (implVR_any _ _ _ _ _ _).mono ?_; rintro e w' ⟨rfl, hbw⟩; obtain ⟨X, d, rfl⟩ := Below.ext_ hbw; clear hbw) | go_in)
            go_returns
            exact ⟨by simp [sSucc, RS.v, *], (by repeat (first | (with_reducible exact Below.refl _ _) | (with_reducible refine Below.ext ?_ (by go_size) _ _) | (with_reducible refine Below.alloc ?_ (by go_size) _) | (with_reducible refine Below.setCell ?_ (by go_size) _) | (with_reducible refine Below.drew ?_) | (with_reducible refine Below.drewN_ ?_ _)))⟩
    · by_cases c : go + 1 < 20
      · have e1 : (go + 1 == 20) = false := by simp; omega
        go_enter Try.func17, Try.ntmps17
        go_wp2_with (first | (go_at_call 15; refine (implVR_any _ _ _ _ _ _).mono ?_; rintro e w' ⟨rfl, hbw⟩; obtain ⟨X, d, rfl⟩ := Below.ext_ hbw; clear hbw) | go_in)
        go_returns
        exact ⟨by simp [sSucc, RS.v, *], (by repeat (first | (with_reducible exact Below.refl _ _) | (with_reducible refine Below.ext ?_ (by go_size) _ _) | (with_reducible refine Below.alloc ?_ (by go_size) _) | (with_reducible refine Below.setCell ?_ (by go_size) _) | (with_reducible refine Below.drew ?_) | (with_reducible refine Below.drewN_ ?_ _)))⟩
      · have e1 : ((20 : Int) == 20) = true := rfl
        by_cases d : r < 3
        · rcases (show go = 19 ∨ go = 20 by omega) with rfl | rfl
          · go_enter Try.func17, Try.ntmps17
            go_wp2_with (first | (go_at_call 15; refine (implVR_any _ _ _ _ _ _).mono ?_; rintro e w' ⟨rfl, hbw⟩; obtain ⟨X, d, rfl⟩ := Below.ext_ hbw; clear hbw) | go_in)
            go_returns
            exact ⟨by simp [sSucc, RS.v, *], (by repeat (first | (with_reducible exact Below.refl _ _) | (with_reducible refine Below.ext ?_ (by go_size) _ _) | (with_reducible refine Below.alloc ?_ (by go_size) _) | (with_reducible refine Below.setCell ?_ (by go_size) _) | (with_reducible refine Below.drew ?_) | (with_reducible refine Below.drewN_ ?_ _)))⟩
          · go_enter Try.func17, Try.ntmps17
            go_wp2_with (first | (go_at_call 15; refine (implVR_any _ _ _ _ _ _).mono ?_; rintro e w' ⟨rfl, hbw⟩; obtain ⟨X, d, rfl⟩ := Below.ext_ hbw; clear hbw) | go_in)
            go_returns
            exact ⟨by simp [sSucc, RS.v, *], (by repeat (first | (with_reducible exact Below.refl _ _) | (with_reducible refine Below.ext ?_ (by go_size) _ _) | (with_reducible refine Below.alloc ?_ (by go_size) _) | (with_reducible refine Below.setCell ?_ (by go_size) _) | (with_reducible refine Below.drew ?_) | (with_reducible refine Below.drewN_ ?_ _)))⟩
        · obtain rfl : r = 3 := by omega
          rcases (show go = 19 ∨ go = 20 by omega) with rfl | rfl
          · go_enter Try.func17, Try.ntmps17
            go_wp2_with (first | (go_at_call 15; refine (implVR_any _ _ _ _ _ _).mono ?_; rintro e w' ⟨rfl, hbw⟩; obtain ⟨X, d, rfl⟩ := Below.ext_ hbw; clear hbw) | go_in)
            go_returns
            exact ⟨by simp [sSucc, RS.v, *], (by repeat (first | (with_reducible exact Below.refl _ _) | (with_reducible refine Below.ext ?_ (by go_size) _ _) | (with_reducible refine Below.alloc ?_ (by go_size) _) | (with_reducible refine Below.setCell ?_ (by go_size) _) | (with_reducible refine Below.drew ?_) | (with_reducible refine Below.drewN_ ?_ _)))⟩
          · go_enter Try.func17, Try.ntmps17
            go_wp2_with (first | (go_at_call 15; refine (implVR_any _ _ _ _ _ _).mono ?_; rintro e w' ⟨rfl, hbw⟩; obtain ⟨X, d, rfl⟩ := Below.ext_ hbw; clear hbw) | go_in)
            go_returns
            exact ⟨by simp [sSucc, RS.v, *], (by repeat (first | (with_reducible exact Below.refl _ _) | (with_reducible refine Below.ext ?_ (by go_size) _ _) | (with_reducible refine Below.alloc ?_ (by go_size) _) | (with_reducible refine Below.setCell ?_ (by go_size) _) | (with_reducible refine Below.drew ?_) | (with_reducible refine Below.drewN_ ?_ _)))⟩
    · by_cases c : go + 1 < 40
      · have e1 : (go + 1 == 40) = false := by simp; omega
        go_enter Try.func17, Try.ntmps17
        go_wp2_with (first | (go_at_call 15; refine (implVR_any _ _ _ _ _ _).mono ?_; rintro e w' ⟨rfl, hbw⟩; obtain ⟨X, d, rfl⟩ := Below.ext_ hbw; clear hbw) | go_in)
        go_returns
        exact ⟨by simp [sSucc, RS.v, *], (by repeat (first | (with_reducible exact Below.refl _ _) | (with_reducible refine Below.ext ?_ (by go_size) _ _) | (with_reducible refine Below.alloc ?_ (by go_size) _) | (with_reducible refine Below.setCell ?_ (by go_size) _) | (with_reducible refine Below.drew ?_) | (with_reducible refine Below.drewN_ ?_ _)))⟩
      · have e1 : ((40 : Int) == 40) = true := rfl
        by_cases d : r < 3
        · rcases (show go = 39 ∨ go = 40 by omega) with rfl | rfl
          · go_enter Try.func17, Try.ntmps17
            go_wp2_with (first | (go_at_call 15; refine (implVR_any _ _ _ _ _ _).mono ?_; rintro e w' ⟨rfl, hbw⟩; obtain ⟨X, d, rfl⟩ := Below.ext_ hbw; clear hbw) | go_in)
            go_returns
            exact ⟨by simp [sSucc, RS.v, *], (by repeat (first | (with_reducible exact Below.refl _ _) | (with_reducible refine Below.ext ?_ (by go_size) _ _) | (with_reducible refine Below.alloc ?_ (by go_size) _) | (with_reducible refine Below.setCell ?_ (by go_size) _) | (with_reducible refine Below.drew ?_) | (with_reducible refine Below.drewN_ ?_ _)))⟩
          · go_enter Try.func17, Try.ntmps17
            go_wp2_with (first | (go_at_call 15; refine (implVR_any _ _ _ _ _ _).mono ?_; rintro e w' ⟨rfl, hbw⟩; obtain ⟨X, d, rfl⟩ := Below.ext_ hbw; clear hbw) | go_in)
            go_returns
            exact ⟨by simp [sSucc, RS.v, *], (by repeat (first | (with_reducible exact Below.refl _ _) | (with_reducible refine Below.ext ?_ (by go_size) _ _) | (with_reducible refine Below.alloc ?_ (by go_size) _) | (with_reducible refine Below.setCell ?_ (by go_size) _) | (with_reducible refine Below.drew ?_) | (with_reducible refine Below.drewN_ ?_ _)))⟩
        · obtain rfl : r = 3 := by omega
          rcases (show go = 39 ∨ go = 40 by omega) with rfl | rfl
          · go_enter Try.func17, Try.ntmps17
            go_wp2_with (first | (go_at_call 15; refine (implVR_any _ _ _ _ _ _).mono ?_; rintro e w' ⟨rfl, hbw⟩; obtain ⟨X, d, rfl⟩ := Below.ext_ hbw; clear hbw) | go_in)
            go_returns
            exact ⟨by simp [sSucc, RS.v, *], (by repeat (first | (with_reducible exact Below.refl _ _) | (with_reducible refine Below.ext ?_ (by go_size) _ _) | (with_reducible refine Below.alloc ?_ (by go_size) _) | (with_reducible refine Below.setCell ?_ (by go_size) _) | (with_reducible refine Below.drew ?_) | (with_reducible refine Below.drewN_ ?_ _)))⟩
          · go_enter Try.func17, Try.ntmps17
            go_wp2_with (first | (go_at_call 15; refine (implVR_any _ _ _ _ _ _).mono ?_; rintro e w' ⟨rfl, hbw⟩; obtain ⟨X, d, rfl⟩ := Below.ext_ hbw; clear hbw) | go_in)
            go_returns
            exact ⟨by simp [sSucc, RS.v, *], (by repeat (first | (with_reducible exact Below.refl _ _) | (with_reducible refine Below.ext ?_ (by go_size) _ _) | (with_reducible refine Below.alloc ?_ (by go_size) _) | (with_reducible refine Below.setCell ?_ (by go_size) _) | (with_reducible refine Below.drew ?_) | (with_reducible refine Below.drewN_ ?_ _)))⟩

theorem specNewR_any (n : Int) (w : World) :
    Calls Try.prog 10 #[.int .i64 n] w fun e w' => e = .returned (.agg #[.int .i64 (sNewR n).r, .int .i64 (sNewR n).go, .int .i64 (sNewR n).b, .int .i64 (sNewR n).th, .bool (sNewR n).pr]) ∧ Below w.heap.size w w' := by
  cases h : inR n 0 3
  all_goals
    go_enter Try.func10, Try.ntmps10
    go_wp2_with (first | (go_at_call 34; refine (specRI_any _ _).mono ?_; rintro e w' ⟨rfl, rfl⟩))
    go_returns
    exact ⟨by simp [sNewR, *], (by repeat (first | (with_reducible exact Below.refl _ _) | (with_reducible refine Below.ext ?_ (by go_size) _ _) | (with_reducible refine Below.alloc ?_ (by go_size) _) | (with_reducible refine Below.setCell ?_ (by go_size) _) | (with_reducible refine Below.drew ?_) | (with_reducible refine Below.drewN_ ?_ _)))⟩

theorem implNewR_any (n : Int) (w : World) :
    Calls Try.prog 11 #[.int .i64 n] w fun e w' => e = .returned (.agg #[.int .i64 (sNewR n).r, .int .i64 (sNewR n).go, .int .i64 (sNewR n).b, .int .i64 (sNewR n).th, .bool (sNewR n).pr]) ∧ Below w.heap.size w w' := by
  cases h : inR n 0 3
  all_goals
    go_enter Try.func11, Try.ntmps11
    go_wp2_with (first | (go_at_call 35; refine (implRI_any _ _).mono ?_; rintro e w' ⟨rfl, rfl⟩))
    go_returns
    exact ⟨by simp [sNewR, *], (by repeat (first | (with_reducible exact Below.refl _ _) | (with_reducible refine Below.ext ?_ (by go_size) _ _) | (with_reducible refine Below.alloc ?_ (by go_size) _) | (with_reducible refine Below.setCell ?_ (by go_size) _) | (with_reducible refine Below.drew ?_) | (with_reducible refine Below.drewN_ ?_ _)))⟩

theorem newRateState_walk (n : Int) (hn : I64 n) (w : World) :
    Calls Try.prog 3 #[.int .i64 n] w fun e w' => e = .returned (.bool true) ∧ Below w.heap.size w w' := by
  go_enter Try.func3, Try.ntmps3
  go_wp2_with (first | (go_at_call 10; refine (specNewR_any _ _).mono ?_; rintro e w' ⟨rfl, hbw⟩; obtain ⟨X, d, rfl⟩ := Below.ext_ hbw; clear hbw) | (go_at_call 11; refine (implNewR_any _ _).mono ?_; rintro e w' ⟨rfl, hbw⟩; obtain ⟨X, d, rfl⟩ := Below.ext_ hbw; clear hbw) | (go_at_call 12; refine (eqRate_any _ _ _ _ _ _).mono ?_; rintro e w' ⟨rfl, hbw⟩; obtain ⟨X, d, rfl⟩ := Below.ext_ hbw; clear hbw))
  go_ret
  exact ⟨rfl, (by repeat (first | (with_reducible exact Below.refl _ _) | (with_reducible refine Below.ext ?_ (by go_size) _ _) | (with_reducible refine Below.alloc ?_ (by go_size) _) | (with_reducible refine Below.setCell ?_ (by go_size) _) | (with_reducible refine Below.drew ?_) | (with_reducible refine Below.drewN_ ?_ _)))⟩

theorem isValidRateState_walk (r go b th : Int) (pr : Bool) (hr : I64 r) (hgo : I64 go) (hb : I64 b) (hth : I64 th) (w : World) :
    Calls Try.prog 4 #[.agg #[.int .i64 r, .int .i64 go, .int .i64 b, .int .i64 th, .bool pr]] w fun e w' => e = .returned (.bool true) ∧ Below w.heap.size w w' := by
  go_enter Try.func4, Try.ntmps4
  go_wp2_with (first | (go_at_call 14; refine (toRate_any _ _ _ _ _ _).mono ?_; rintro e w' ⟨rfl, hbw⟩; obtain ⟨X, d, rfl⟩ := Below.ext_ hbw; clear hbw) | (go_at_call 13; refine (specVR_any _ _ _ _ _ _).mono ?_; rintro e w' ⟨rfl, hbw⟩; obtain ⟨X, d, rfl⟩ := Below.ext_ hbw; clear hbw) | (go_at_call 15; refine (implVR_any _ _ _ _ _ _).mono ?_; rintro e w' ⟨rfl, hbw⟩; obtain ⟨X, d, rfl⟩ := Below.ext_ hbw; clear hbw))
  go_ret
  exact ⟨rfl, (by repeat (first | (with_reducible exact Below.refl _ _) | (with_reducible refine Below.ext ?_ (by go_size) _ _) | (with_reducible refine Below.alloc ?_ (by go_size) _) | (with_reducible refine Below.setCell ?_ (by go_size) _) | (with_reducible refine Below.drew ?_) | (with_reducible refine Below.drewN_ ?_ _)))⟩

theorem rateSucceeded_walk (r go b th : Int) (pr : Bool) (hr : I64 r) (hgo : I64 go) (hb : I64 b) (hth : I64 th) (w : World) :
    Calls Try.prog 5 #[.agg #[.int .i64 r, .int .i64 go, .int .i64 b, .int .i64 th, .bool pr]] w fun e w' => e = .returned (.bool true) ∧ Below w.heap.size w w' := by
  go_enter Try.func5, Try.ntmps5
  go_wp2_with (first | (go_at_call 14; refine (toRate_any _ _ _ _ _ _).mono ?_; rintro e w' ⟨rfl, hbw⟩; obtain ⟨X, d, rfl⟩ := Below.ext_ hbw; clear hbw) | (go_at_call 16; refine (specSucc_any ⟨r, go, b, th, pr⟩ _).mono ?_; rintro e w' ⟨rfl, hbw⟩; obtain ⟨X, d, rfl⟩ := Below.ext_ hbw; clear hbw) | (go_at_call 17; refine (implSucc_any ⟨r, go, b, th, pr⟩ _).mono ?_; rintro e w' ⟨rfl, hbw⟩; obtain ⟨X, d, rfl⟩ := Below.ext_ hbw; clear hbw) | (go_at_call 12; refine (eqRate_any _ _ _ _ _ _).mono ?_; rintro e w' ⟨rfl, hbw⟩; obtain ⟨X, d, rfl⟩ := Below.ext_ hbw; clear hbw))
  go_ret
  exact ⟨rfl, (by repeat (first | (with_reducible exact Below.refl _ _) | (with_reducible refine Below.ext ?_ (by go_size) _ _) | (with_reducible refine Below.alloc ?_ (by go_size) _) | (with_reducible refine Below.setCell ?_ (by go_size) _) | (with_reducible refine Below.drew ?_) | (with_reducible refine Below.drewN_ ?_ _)))⟩

end Go.Proofs.Ytkjkhlncdopndaa
