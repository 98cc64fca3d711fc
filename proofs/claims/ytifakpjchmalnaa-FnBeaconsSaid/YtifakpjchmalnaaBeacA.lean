/- The contracts of the functions on beacons, and the walks of the exact laws. -/
import Derived.Test.YtifakpjchmalnaaSeqMod
import Derived.Test.YtifakpjchmalnaaBeacV
namespace Go.Proofs.Ytifakpjchmalnaa
open Go.RowKit
set_option linter.unusedVariables false
set_option linter.unusedSimpArgs false

theorem eqBeacon_any (f sl c p : Int) (g : Bool) (t : Int) (w : World) :
    Calls Try.prog 30 #[.agg #[.int .i64 f, .int .i64 sl, .int .i64 c, .int .i64 p, .bool g, .int .i64 t], .agg #[.int .i64 f, .int .i64 sl, .int .i64 c, .int .i64 p, .bool g, .int .i64 t]] w fun e w' => e = .returned (.bool true) ∧ Below w.heap.size w w' := by
  go_enter Try.func30, Try.ntmps30
  go_wp2
  go_returns
  exact ⟨by simp, (by repeat (first | (with_reducible exact Below.refl _ _) | (with_reducible refine Below.ext ?_ (by go_size) _ _) | (with_reducible refine Below.alloc ?_ (by go_size) _) | (with_reducible refine Below.setCell ?_ (by go_size) _) | (with_reducible refine Below.drew ?_) | (with_reducible refine Below.drewN_ ?_ _)))⟩

def timS (t st : Int) (kept : Bool) : Int := if inR st 0 15 then (if kept then bits .or .i64 t (wrap64 (2 ^ st.toNat)) else bits .andNot .i64 t (wrap64 (2 ^ st.toNat))) else t

set_option maxHeartbeats 1000000 in
theorem implSet_any (f sl c p : Int) (g : Bool) (t : Int) (st : Int) (k : Bool) (w : World) :
    Calls Try.prog 25 #[.agg #[.int .i64 f, .int .i64 sl, .int .i64 c, .int .i64 p, .bool g, .int .i64 t], .int .i64 st, .bool k] w fun e w' => e = .returned (.agg #[.int .i64 f, .int .i64 sl, .int .i64 c, .int .i64 p, .bool g, .int .i64 (timS t st k)]) ∧ Below w.heap.size w w' := by
  cases hs : inR st 0 15
  · go_enter Try.func25, Try.ntmps25
    go_wp2_with (first | (go_at_call 37; refine (isStation_any _ _).mono ?_; rintro e w' ⟨rfl, rfl⟩))
    go_returns
    exact ⟨by simp [timS, *], (by repeat (first | (with_reducible exact Below.refl _ _) | (with_reducible refine Below.ext ?_ (by go_size) _ _) | (with_reducible refine Below.alloc ?_ (by go_size) _) | (with_reducible refine Below.setCell ?_ (by go_size) _) | (with_reducible refine Below.drew ?_) | (with_reducible refine Below.drewN_ ?_ _)))⟩
  · have qhs := inR_true hs
    cases k
    · go_enter Try.func25, Try.ntmps25
      go_wp2_with (first | (go_at_call 37; refine (isStation_any _ _).mono ?_; rintro e w' ⟨rfl, rfl⟩))
      go_region
      all_goals (go_wp2; try go_region)
      all_goals (try go_wp2)
      all_goals (go_returns; exact ⟨by simp [timS, *], (by repeat (first | (with_reducible exact Below.refl _ _) | (with_reducible refine Below.ext ?_ (by go_size) _ _) | (with_reducible refine Below.alloc ?_ (by go_size) _) | (with_reducible refine Below.setCell ?_ (by go_size) _) | (with_reducible refine Below.drew ?_) | (with_reducible refine Below.drewN_ ?_ _)))⟩)
    · go_enter Try.func25, Try.ntmps25
      go_wp2_with (first | (go_at_call 37; refine (isStation_any _ _).mono ?_; rintro e w' ⟨rfl, rfl⟩))
      go_region
      all_goals (go_wp2; try go_region)
      all_goals (try go_wp2)
      all_goals (go_returns; exact ⟨by simp [timS, *], (by repeat (first | (with_reducible exact Below.refl _ _) | (with_reducible refine Below.ext ?_ (by go_size) _ _) | (with_reducible refine Below.alloc ?_ (by go_size) _) | (with_reducible refine Below.setCell ?_ (by go_size) _) | (with_reducible refine Below.drew ?_) | (with_reducible refine Below.drewN_ ?_ _)))⟩)

set_option maxHeartbeats 1000000 in
theorem specSet_any (f sl c p : Int) (g : Bool) (t : Int) (st : Int) (k : Bool) (w : World) :
    Calls Try.prog 29 #[.agg #[.int .i64 f, .int .i64 sl, .int .i64 c, .int .i64 p, .bool g, .int .i64 t], .int .i64 st, .bool k] w fun e w' => e = .returned (.agg #[.int .i64 f, .int .i64 sl, .int .i64 c, .int .i64 p, .bool g, .int .i64 (timS t st k)]) ∧ Below w.heap.size w w' := by
  cases hs : inR st 0 15
  · go_enter Try.func29, Try.ntmps29
    go_wp2_with (first | (go_at_call 36; refine (l1In_any _ _ _ _).mono ?_; rintro e w' ⟨rfl, rfl⟩))
    go_returns
    exact ⟨by simp [timS, *], (by repeat (first | (with_reducible exact Below.refl _ _) | (with_reducible refine Below.ext ?_ (by go_size) _ _) | (with_reducible refine Below.alloc ?_ (by go_size) _) | (with_reducible refine Below.setCell ?_ (by go_size) _) | (with_reducible refine Below.drew ?_) | (with_reducible refine Below.drewN_ ?_ _)))⟩
  · have qhs := inR_true hs
    cases k
    · go_enter Try.func29, Try.ntmps29
      go_wp2_with (first | (go_at_call 36; refine (l1In_any _ _ _ _).mono ?_; rintro e w' ⟨rfl, rfl⟩))
      go_region
      all_goals (go_wp2; try go_region)
      all_goals (try go_wp2)
      all_goals (go_returns; exact ⟨by simp [timS, *], (by repeat (first | (with_reducible exact Below.refl _ _) | (with_reducible refine Below.ext ?_ (by go_size) _ _) | (with_reducible refine Below.alloc ?_ (by go_size) _) | (with_reducible refine Below.setCell ?_ (by go_size) _) | (with_reducible refine Below.drew ?_) | (with_reducible refine Below.drewN_ ?_ _)))⟩)
    · go_enter Try.func29, Try.ntmps29
      go_wp2_with (first | (go_at_call 36; refine (l1In_any _ _ _ _).mono ?_; rintro e w' ⟨rfl, rfl⟩))
      go_region
      all_goals (go_wp2; try go_region)
      all_goals (try go_wp2)
      all_goals (go_returns; exact ⟨by simp [timS, *], (by repeat (first | (with_reducible exact Below.refl _ _) | (with_reducible refine Below.ext ?_ (by go_size) _ _) | (with_reducible refine Below.alloc ?_ (by go_size) _) | (with_reducible refine Below.setCell ?_ (by go_size) _) | (with_reducible refine Below.drew ?_) | (with_reducible refine Below.drewN_ ?_ _)))⟩)

def nextSlot (n : Int) : Int := if n < 0 then 0 else if 1000000000000 < n then -1 else (n / 10 + 1) * 10
def dtimI (sl p : Int) : Int := if slotB sl && inR p 1 8 then (-(sl / 10)) % p else -1

theorem implNext_any (n : Int) (hn : I64 n) (w : World) :
    Calls Try.prog 12 #[.int .i64 n] w fun e w' => e = .returned (.int .i64 (nextSlot n)) ∧ w = w' := by
  unfold nextSlot
  by_cases h1 : n < 0
  · rw [if_pos h1]
    go_enter Try.func12, Try.ntmps12
    go_wp2
    go_ret
    exact ⟨rfl, rfl⟩
  · rw [if_neg h1]
    by_cases h2 : 1000000000000 < n
    · rw [if_pos h2]
      go_enter Try.func12, Try.ntmps12
      go_wp2
      go_ret
      exact ⟨rfl, rfl⟩
    · rw [if_neg h2]
      go_enter Try.func12, Try.ntmps12
      go_wp2
      go_ret
      exact ⟨rfl, rfl⟩

theorem specNext_any (n : Int) (hn : I64 n) (w : World) :
    Calls Try.prog 11 #[.int .i64 n] w fun e w' => e = .returned (.int .i64 (nextSlot n)) ∧ w = w' := by
  unfold nextSlot
  by_cases h1 : n < 0
  · rw [if_pos h1]
    go_enter Try.func11, Try.ntmps11
    go_wp2
    go_ret
    exact ⟨rfl, rfl⟩
  · rw [if_neg h1]
    by_cases h2 : 1000000000000 < n
    · rw [if_pos h2]
      go_enter Try.func11, Try.ntmps11
      go_wp2
      go_ret
      exact ⟨rfl, rfl⟩
    · rw [if_neg h2]
      go_enter Try.func11, Try.ntmps11
      go_wp2
      go_ret
      exact ⟨rfl, rfl⟩

theorem implDtim_any (sl p : Int) (w : World) :
    Calls Try.prog 28 #[.int .i64 sl, .int .i64 p] w fun e w' => e = .returned (.int .i64 (dtimI sl p)) ∧ w = w' := by
  cases h2 : slotB sl
  · go_enter Try.func28, Try.ntmps28
    go_wp2_with (first | (go_at_call 39; refine (inRange_any _ _ _ _).mono ?_; rintro e w' ⟨rfl, rfl⟩) | (go_at_call 38; refine (isBeaconSlot_any _ _).mono ?_; rintro e w' ⟨rfl, rfl⟩) | (go_at_call 52; refine (implMod_any _ _ (by unfold I64; omega) hq _).mono ?_; rintro e w' ⟨rfl, rfl⟩))
    go_ret
    exact ⟨ret_int (by simp [dtimI, *]), rfl⟩
  · have qsl : 0 ≤ sl ∧ sl ≤ 1000000000000 := by simp only [slotB, Bool.and_eq_true] at h2; exact inR_true h2.1
    cases h4 : inR p 1 8
    · go_enter Try.func28, Try.ntmps28
      go_wp2_with (first | (go_at_call 39; refine (inRange_any _ _ _ _).mono ?_; rintro e w' ⟨rfl, rfl⟩) | (go_at_call 38; refine (isBeaconSlot_any _ _).mono ?_; rintro e w' ⟨rfl, rfl⟩) | (go_at_call 52; refine (implMod_any _ _ (by unfold I64; omega) hq _).mono ?_; rintro e w' ⟨rfl, rfl⟩))
      go_ret
      exact ⟨ret_int (by simp [dtimI, *]), rfl⟩
    · have qh4 := inR_true h4
      have hq : inR p 1 1000000000000 = true := inR_of (by omega)
      go_enter Try.func28, Try.ntmps28
      go_wp2_with (first | (go_at_call 39; refine (inRange_any _ _ _ _).mono ?_; rintro e w' ⟨rfl, rfl⟩) | (go_at_call 38; refine (isBeaconSlot_any _ _).mono ?_; rintro e w' ⟨rfl, rfl⟩) | (go_at_call 52; refine (implMod_any _ _ (by unfold I64; omega) hq _).mono ?_; rintro e w' ⟨rfl, rfl⟩))
      go_ret
      exact ⟨ret_int (by simp [dtimI, *]), rfl⟩

theorem specDtim_any (sl p : Int) (w : World) :
    Calls Try.prog 27 #[.int .i64 sl, .int .i64 p] w fun e w' => e = .returned (.int .i64 (dtimI sl p)) ∧ w = w' := by
  cases h2 : inR sl 0 1000000000000
  · go_enter Try.func27, Try.ntmps27
    go_wp2_with (first | (go_at_call 36; refine (l1In_any _ _ _ _).mono ?_; rintro e w' ⟨rfl, rfl⟩) | (go_at_call 51; refine (specMod_any _ _ (by unfold I64; omega) hq _).mono ?_; rintro e w' ⟨rfl, rfl⟩))
    go_ret
    exact ⟨ret_int (by simp [dtimI, slotB, *]), rfl⟩
  · have qh2 := inR_true h2
    cases h3 : sl % 10 == 0
    · have h3' : (sl % 10 != 0) = true := by simp at h3 ⊢; omega
      go_enter Try.func27, Try.ntmps27
      go_wp2_with (first | (go_at_call 36; refine (l1In_any _ _ _ _).mono ?_; rintro e w' ⟨rfl, rfl⟩) | (go_at_call 51; refine (specMod_any _ _ (by unfold I64; omega) hq _).mono ?_; rintro e w' ⟨rfl, rfl⟩))
      go_ret
      exact ⟨ret_int (by simp [dtimI, slotB, *]), rfl⟩
    · have h3' : (sl % 10 != 0) = false := by simp at h3 ⊢; omega
      cases h4 : inR p 1 8
      · go_enter Try.func27, Try.ntmps27
        go_wp2_with (first | (go_at_call 36; refine (l1In_any _ _ _ _).mono ?_; rintro e w' ⟨rfl, rfl⟩) | (go_at_call 51; refine (specMod_any _ _ (by unfold I64; omega) hq _).mono ?_; rintro e w' ⟨rfl, rfl⟩))
        go_ret
        exact ⟨ret_int (by simp [dtimI, slotB, *]), rfl⟩
      · have qh4 := inR_true h4
        have hq : inR p 1 1000000000000 = true := inR_of (by omega)
        go_enter Try.func27, Try.ntmps27
        go_wp2_with (first | (go_at_call 36; refine (l1In_any _ _ _ _).mono ?_; rintro e w' ⟨rfl, rfl⟩) | (go_at_call 51; refine (specMod_any _ _ (by unfold I64; omega) hq _).mono ?_; rintro e w' ⟨rfl, rfl⟩))
        go_ret
        exact ⟨ret_int (by simp [dtimI, slotB, *]), rfl⟩

theorem nextBeaconSlot_walk (n : Int) (hn : I64 n) (w : World) :
    Calls Try.prog 3 #[.int .i64 n] w fun e w' => e = .returned (.bool true) ∧ Below w.heap.size w w' := by
  go_enter Try.func3, Try.ntmps3
  go_wp2_with (first | (go_at_call 11; refine (specNext_any _ hn _).mono ?_; rintro e w' ⟨rfl, rfl⟩) | (go_at_call 12; refine (implNext_any _ hn _).mono ?_; rintro e w' ⟨rfl, rfl⟩))
  go_ret
  exact ⟨rfl, (by repeat (first | (with_reducible exact Below.refl _ _) | (with_reducible refine Below.ext ?_ (by go_size) _ _) | (with_reducible refine Below.alloc ?_ (by go_size) _) | (with_reducible refine Below.setCell ?_ (by go_size) _) | (with_reducible refine Below.drew ?_) | (with_reducible refine Below.drewN_ ?_ _)))⟩

theorem timContains_walk (f sl c p : Int) (g : Bool) (t : Int) (st : Int) (hf : I64 f) (hsl : I64 sl) (hc : I64 c) (hp : I64 p) (ht : I64 t) (hst : I64 st) (w : World) :
    Calls Try.prog 4 #[.agg #[.int .i64 f, .int .i64 sl, .int .i64 c, .int .i64 p, .bool g, .int .i64 t], .int .i64 st] w fun e w' => e = .returned (.bool true) ∧ Below w.heap.size w w' := by
  go_enter Try.func4, Try.ntmps4
  go_wp2_with (first | (go_at_call 14; refine (toBeacon_any _ _ _ _ _ _ _).mono ?_; rintro e w' ⟨rfl, hbw⟩; obtain ⟨X, d, rfl⟩ := Below.ext_ hbw; clear hbw) | (go_at_call 13; refine (specTim_any _ _ _ _ _ _ _ _).mono ?_; rintro e w' ⟨rfl, hbw⟩; obtain ⟨X, d, rfl⟩ := Below.ext_ hbw; clear hbw) | (go_at_call 15; refine (implTim_any _ _ _ _ _ _ _ _).mono ?_; rintro e w' ⟨rfl, hbw⟩; obtain ⟨X, d, rfl⟩ := Below.ext_ hbw; clear hbw))
  go_ret
  exact ⟨rfl, (by repeat (first | (with_reducible exact Below.refl _ _) | (with_reducible refine Below.ext ?_ (by go_size) _ _) | (with_reducible refine Below.alloc ?_ (by go_size) _) | (with_reducible refine Below.setCell ?_ (by go_size) _) | (with_reducible refine Below.drew ?_) | (with_reducible refine Below.drewN_ ?_ _)))⟩

theorem isValidBeacon_walk (f sl c p : Int) (g : Bool) (t : Int) (hf : I64 f) (hsl : I64 sl) (hc : I64 c) (hp : I64 p) (ht : I64 t) (w : World) :
    Calls Try.prog 5 #[.agg #[.int .i64 f, .int .i64 sl, .int .i64 c, .int .i64 p, .bool g, .int .i64 t]] w fun e w' => e = .returned (.bool true) ∧ Below w.heap.size w w' := by
  go_enter Try.func5, Try.ntmps5
  go_wp2_with (first | (go_at_call 14; refine (toBeacon_any _ _ _ _ _ _ _).mono ?_; rintro e w' ⟨rfl, hbw⟩; obtain ⟨X, d, rfl⟩ := Below.ext_ hbw; clear hbw) | (go_at_call 16; refine (specVB_any _ _ _ _ _ _ _).mono ?_; rintro e w' ⟨rfl, hbw⟩; obtain ⟨X, d, rfl⟩ := Below.ext_ hbw; clear hbw) | (go_at_call 17; refine (implVB_any _ _ _ _ _ _ _).mono ?_; rintro e w' ⟨rfl, hbw⟩; obtain ⟨X, d, rfl⟩ := Below.ext_ hbw; clear hbw))
  go_ret
  exact ⟨rfl, (by repeat (first | (with_reducible exact Below.refl _ _) | (with_reducible refine Below.ext ?_ (by go_size) _ _) | (with_reducible refine Below.alloc ?_ (by go_size) _) | (with_reducible refine Below.setCell ?_ (by go_size) _) | (with_reducible refine Below.drew ?_) | (with_reducible refine Below.drewN_ ?_ _)))⟩

theorem setTim_walk (f sl c p : Int) (g : Bool) (t : Int) (st : Int) (k : Bool) (hf : I64 f) (hsl : I64 sl) (hc : I64 c) (hp : I64 p) (ht : I64 t) (hst : I64 st) (w : World) :
    Calls Try.prog 8 #[.agg #[.int .i64 f, .int .i64 sl, .int .i64 c, .int .i64 p, .bool g, .int .i64 t], .int .i64 st, .bool k] w fun e w' => e = .returned (.bool true) ∧ Below w.heap.size w w' := by
  go_enter Try.func8, Try.ntmps8
  go_wp2_with (first | (go_at_call 14; refine (toBeacon_any _ _ _ _ _ _ _).mono ?_; rintro e w' ⟨rfl, hbw⟩; obtain ⟨X, d, rfl⟩ := Below.ext_ hbw; clear hbw) | (go_at_call 29; refine (specSet_any _ _ _ _ _ _ _ _ _).mono ?_; rintro e w' ⟨rfl, hbw⟩; obtain ⟨X, d, rfl⟩ := Below.ext_ hbw; clear hbw) | (go_at_call 25; refine (implSet_any _ _ _ _ _ _ _ _ _).mono ?_; rintro e w' ⟨rfl, hbw⟩; obtain ⟨X, d, rfl⟩ := Below.ext_ hbw; clear hbw) | (go_at_call 30; refine (eqBeacon_any _ _ _ _ _ _ _).mono ?_; rintro e w' ⟨rfl, hbw⟩; obtain ⟨X, d, rfl⟩ := Below.ext_ hbw; clear hbw))
  go_ret
  exact ⟨rfl, (by repeat (first | (with_reducible exact Below.refl _ _) | (with_reducible refine Below.ext ?_ (by go_size) _ _) | (with_reducible refine Below.alloc ?_ (by go_size) _) | (with_reducible refine Below.setCell ?_ (by go_size) _) | (with_reducible refine Below.drew ?_) | (with_reducible refine Below.drewN_ ?_ _)))⟩

theorem dtimCountAt_walk (sl p : Int) (hsl : I64 sl) (hp : I64 p) (w : World) :
    Calls Try.prog 7 #[.int .i64 sl, .int .i64 p] w fun e w' => e = .returned (.bool true) ∧ Below w.heap.size w w' := by
  go_enter Try.func7, Try.ntmps7
  go_wp2_with (first | (go_at_call 27; refine (specDtim_any _ _ _).mono ?_; rintro e w' ⟨rfl, rfl⟩) | (go_at_call 28; refine (implDtim_any _ _ _).mono ?_; rintro e w' ⟨rfl, rfl⟩))
  go_ret
  exact ⟨rfl, (by repeat (first | (with_reducible exact Below.refl _ _) | (with_reducible refine Below.ext ?_ (by go_size) _ _) | (with_reducible refine Below.alloc ?_ (by go_size) _) | (with_reducible refine Below.setCell ?_ (by go_size) _) | (with_reducible refine Below.drew ?_) | (with_reducible refine Below.drewN_ ?_ _)))⟩

end Go.Proofs.Ytifakpjchmalnaa
