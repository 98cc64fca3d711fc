/- The contracts of the functions on beacons, validity and TimContains. -/
import Derived.Test.YtncnlhmakigpgaaRange
namespace Go.Proofs.Ytncnlhmakigpgaa
open Go.RowKit
set_option linter.unusedVariables false
set_option linter.unusedSimpArgs false

def slotB (sl : Int) : Bool := inR sl 0 1000000000000 && sl % 10 == 0
def vBeac (f sl c p : Int) (g : Bool) (t : Int) : Bool := inR f 0 15 && slotB sl && inR p 1 8 && inR c 0 (p - 1) && inR t 0 65535 && (!g || c == 0)
theorem vBeac_true {f sl c p : Int} {g : Bool} {t : Int} (h : vBeac f sl c p g t = true) : 0 ≤ f ∧ f ≤ 15 ∧ 0 ≤ sl ∧ sl ≤ 1000000000000 ∧ sl % 10 = 0 ∧ 1 ≤ p ∧ p ≤ 8 ∧ 0 ≤ c ∧ c ≤ p - 1 ∧ 0 ≤ t ∧ t ≤ 65535 := by
  simp only [vBeac, slotB, inR, Bool.and_eq_true, decide_eq_true_eq, beq_iff_eq] at h
  omega

theorem isStation_any (n : Int) (w : World) :
    Calls Try.prog 42 #[.int .i64 n] w fun e w' => e = .returned (.bool (inR n 0 15)) ∧ w = w' := by
  go_enter Try.func42, Try.ntmps42
  go_wp2_with (first | (go_at_call 36; refine (inRange_any _ _ _ _).mono ?_; rintro e w' ⟨rfl, rfl⟩))
  go_ret
  exact ⟨by simp [inR, *], rfl⟩

theorem isBeaconSlot_any (sl : Int) (w : World) :
    Calls Try.prog 43 #[.int .i64 sl] w fun e w' => e = .returned (.bool (slotB sl)) ∧ w = w' := by
  cases h2 : inR sl 0 1000000000000
  · go_enter Try.func43, Try.ntmps43
    go_wp2_with (first | (go_at_call 36; refine (inRange_any _ _ _ _).mono ?_; rintro e w' ⟨rfl, rfl⟩))
    go_ret
    exact ⟨by simp [slotB, *], rfl⟩
  · have qh2 := inR_true h2
    cases h3 : sl % 10 == 0
    · go_enter Try.func43, Try.ntmps43
      go_wp2_with (first | (go_at_call 36; refine (inRange_any _ _ _ _).mono ?_; rintro e w' ⟨rfl, rfl⟩))
      go_ret
      exact ⟨by simp [slotB, *], rfl⟩
    · go_enter Try.func43, Try.ntmps43
      go_wp2_with (first | (go_at_call 36; refine (inRange_any _ _ _ _).mono ?_; rintro e w' ⟨rfl, rfl⟩))
      go_ret
      exact ⟨by simp [slotB, *], rfl⟩

set_option maxHeartbeats 1000000 in
theorem implVB_any (f sl c p : Int) (g : Bool) (t : Int) (w : World) :
    Calls Try.prog 40 #[.agg #[.int .i64 f, .int .i64 sl, .int .i64 c, .int .i64 p, .bool g, .int .i64 t]] w fun e w' => e = .returned (.bool (vBeac f sl c p g t)) ∧ Below w.heap.size w w' := by
  cases h1 : inR f 0 15
  · go_enter Try.func40, Try.ntmps40
    go_wp2_with (first | (go_at_call 36; refine (inRange_any _ _ _ _).mono ?_; rintro e w' ⟨rfl, rfl⟩) | (go_at_call 42; refine (isStation_any _ _).mono ?_; rintro e w' ⟨rfl, rfl⟩) | (go_at_call 43; refine (isBeaconSlot_any _ _).mono ?_; rintro e w' ⟨rfl, rfl⟩))
    go_ret
    exact ⟨by simp [vBeac, *], (by repeat (first | (with_reducible exact Below.refl _ _) | (with_reducible refine Below.ext ?_ (by go_size) _ _) | (with_reducible refine Below.alloc ?_ (by go_size) _) | (with_reducible refine Below.setCell ?_ (by go_size) _) | (with_reducible refine Below.drew ?_) | (with_reducible refine Below.drewN_ ?_ _)))⟩
  · have qh1 := inR_true h1
    cases h2 : slotB sl
    · go_enter Try.func40, Try.ntmps40
      go_wp2_with (first | (go_at_call 36; refine (inRange_any _ _ _ _).mono ?_; rintro e w' ⟨rfl, rfl⟩) | (go_at_call 42; refine (isStation_any _ _).mono ?_; rintro e w' ⟨rfl, rfl⟩) | (go_at_call 43; refine (isBeaconSlot_any _ _).mono ?_; rintro e w' ⟨rfl, rfl⟩))
      go_ret
      exact ⟨by simp [vBeac, *], (by repeat (first | (with_reducible exact Below.refl _ _) | (with_reducible refine Below.ext ?_ (by go_size) _ _) | (with_reducible refine Below.alloc ?_ (by go_size) _) | (with_reducible refine Below.setCell ?_ (by go_size) _) | (with_reducible refine Below.drew ?_) | (with_reducible refine Below.drewN_ ?_ _)))⟩
    · cases h4 : inR p 1 8
      · go_enter Try.func40, Try.ntmps40
        go_wp2_with (first | (go_at_call 36; refine (inRange_any _ _ _ _).mono ?_; rintro e w' ⟨rfl, rfl⟩) | (go_at_call 42; refine (isStation_any _ _).mono ?_; rintro e w' ⟨rfl, rfl⟩) | (go_at_call 43; refine (isBeaconSlot_any _ _).mono ?_; rintro e w' ⟨rfl, rfl⟩))
        go_ret
        exact ⟨by simp [vBeac, *], (by repeat (first | (with_reducible exact Below.refl _ _) | (with_reducible refine Below.ext ?_ (by go_size) _ _) | (with_reducible refine Below.alloc ?_ (by go_size) _) | (with_reducible refine Below.setCell ?_ (by go_size) _) | (with_reducible refine Below.drew ?_) | (with_reducible refine Below.drewN_ ?_ _)))⟩
      · have qh4 := inR_true h4
        cases h5 : inR c 0 (p - 1)
        · go_enter Try.func40, Try.ntmps40
          go_wp2_with (first | (go_at_call 36; refine (inRange_any _ _ _ _).mono ?_; rintro e w' ⟨rfl, rfl⟩) | (go_at_call 42; refine (isStation_any _ _).mono ?_; rintro e w' ⟨rfl, rfl⟩) | (go_at_call 43; refine (isBeaconSlot_any _ _).mono ?_; rintro e w' ⟨rfl, rfl⟩))
          go_ret
          exact ⟨by simp [vBeac, *], (by repeat (first | (with_reducible exact Below.refl _ _) | (with_reducible refine Below.ext ?_ (by go_size) _ _) | (with_reducible refine Below.alloc ?_ (by go_size) _) | (with_reducible refine Below.setCell ?_ (by go_size) _) | (with_reducible refine Below.drew ?_) | (with_reducible refine Below.drewN_ ?_ _)))⟩
        · have qh5 := inR_true h5
          cases h6 : inR t 0 65535
          · go_enter Try.func40, Try.ntmps40
            go_wp2_with (first | (go_at_call 36; refine (inRange_any _ _ _ _).mono ?_; rintro e w' ⟨rfl, rfl⟩) | (go_at_call 42; refine (isStation_any _ _).mono ?_; rintro e w' ⟨rfl, rfl⟩) | (go_at_call 43; refine (isBeaconSlot_any _ _).mono ?_; rintro e w' ⟨rfl, rfl⟩))
            go_ret
            exact ⟨by simp [vBeac, *], (by repeat (first | (with_reducible exact Below.refl _ _) | (with_reducible refine Below.ext ?_ (by go_size) _ _) | (with_reducible refine Below.alloc ?_ (by go_size) _) | (with_reducible refine Below.setCell ?_ (by go_size) _) | (with_reducible refine Below.drew ?_) | (with_reducible refine Below.drewN_ ?_ _)))⟩
          · have qh6 := inR_true h6
            cases g
            · go_enter Try.func40, Try.ntmps40
              go_wp2_with (first | (go_at_call 36; refine (inRange_any _ _ _ _).mono ?_; rintro e w' ⟨rfl, rfl⟩) | (go_at_call 42; refine (isStation_any _ _).mono ?_; rintro e w' ⟨rfl, rfl⟩) | (go_at_call 43; refine (isBeaconSlot_any _ _).mono ?_; rintro e w' ⟨rfl, rfl⟩))
              go_ret
              exact ⟨by simp [vBeac, *], (by repeat (first | (with_reducible exact Below.refl _ _) | (with_reducible refine Below.ext ?_ (by go_size) _ _) | (with_reducible refine Below.alloc ?_ (by go_size) _) | (with_reducible refine Below.setCell ?_ (by go_size) _) | (with_reducible refine Below.drew ?_) | (with_reducible refine Below.drewN_ ?_ _)))⟩
            · cases h8 : c == 0
              · go_enter Try.func40, Try.ntmps40
                go_wp2_with (first | (go_at_call 36; refine (inRange_any _ _ _ _).mono ?_; rintro e w' ⟨rfl, rfl⟩) | (go_at_call 42; refine (isStation_any _ _).mono ?_; rintro e w' ⟨rfl, rfl⟩) | (go_at_call 43; refine (isBeaconSlot_any _ _).mono ?_; rintro e w' ⟨rfl, rfl⟩))
                go_ret
                exact ⟨by simp [vBeac, *], (by repeat (first | (with_reducible exact Below.refl _ _) | (with_reducible refine Below.ext ?_ (by go_size) _ _) | (with_reducible refine Below.alloc ?_ (by go_size) _) | (with_reducible refine Below.setCell ?_ (by go_size) _) | (with_reducible refine Below.drew ?_) | (with_reducible refine Below.drewN_ ?_ _)))⟩
              · go_enter Try.func40, Try.ntmps40
                go_wp2_with (first | (go_at_call 36; refine (inRange_any _ _ _ _).mono ?_; rintro e w' ⟨rfl, rfl⟩) | (go_at_call 42; refine (isStation_any _ _).mono ?_; rintro e w' ⟨rfl, rfl⟩) | (go_at_call 43; refine (isBeaconSlot_any _ _).mono ?_; rintro e w' ⟨rfl, rfl⟩))
                go_ret
                exact ⟨by simp [vBeac, *], (by repeat (first | (with_reducible exact Below.refl _ _) | (with_reducible refine Below.ext ?_ (by go_size) _ _) | (with_reducible refine Below.alloc ?_ (by go_size) _) | (with_reducible refine Below.setCell ?_ (by go_size) _) | (with_reducible refine Below.drew ?_) | (with_reducible refine Below.drewN_ ?_ _)))⟩

set_option maxHeartbeats 1000000 in
theorem specVB_any (f sl c p : Int) (g : Bool) (t : Int) (w : World) :
    Calls Try.prog 38 #[.agg #[.int .i64 f, .int .i64 sl, .int .i64 c, .int .i64 p, .bool g, .int .i64 t]] w fun e w' => e = .returned (.bool (vBeac f sl c p g t)) ∧ Below w.heap.size w w' := by
  cases h1 : inR f 0 15
  · go_enter Try.func38, Try.ntmps38
    go_wp2_with (first | (go_at_call 35; refine (l1In_any _ _ _ _).mono ?_; rintro e w' ⟨rfl, rfl⟩))
    go_ret
    exact ⟨by simp [vBeac, slotB, *], (by repeat (first | (with_reducible exact Below.refl _ _) | (with_reducible refine Below.ext ?_ (by go_size) _ _) | (with_reducible refine Below.alloc ?_ (by go_size) _) | (with_reducible refine Below.setCell ?_ (by go_size) _) | (with_reducible refine Below.drew ?_) | (with_reducible refine Below.drewN_ ?_ _)))⟩
  · have qh1 := inR_true h1
    cases h2 : inR sl 0 1000000000000
    · go_enter Try.func38, Try.ntmps38
      go_wp2_with (first | (go_at_call 35; refine (l1In_any _ _ _ _).mono ?_; rintro e w' ⟨rfl, rfl⟩))
      go_ret
      exact ⟨by simp [vBeac, slotB, *], (by repeat (first | (with_reducible exact Below.refl _ _) | (with_reducible refine Below.ext ?_ (by go_size) _ _) | (with_reducible refine Below.alloc ?_ (by go_size) _) | (with_reducible refine Below.setCell ?_ (by go_size) _) | (with_reducible refine Below.drew ?_) | (with_reducible refine Below.drewN_ ?_ _)))⟩
    · have qh2 := inR_true h2
      cases h3 : sl % 10 == 0
      · go_enter Try.func38, Try.ntmps38
        go_wp2_with (first | (go_at_call 35; refine (l1In_any _ _ _ _).mono ?_; rintro e w' ⟨rfl, rfl⟩))
        go_ret
        exact ⟨by simp [vBeac, slotB, *], (by repeat (first | (with_reducible exact Below.refl _ _) | (with_reducible refine Below.ext ?_ (by go_size) _ _) | (with_reducible refine Below.alloc ?_ (by go_size) _) | (with_reducible refine Below.setCell ?_ (by go_size) _) | (with_reducible refine Below.drew ?_) | (with_reducible refine Below.drewN_ ?_ _)))⟩
      · cases h4 : inR p 1 8
        · go_enter Try.func38, Try.ntmps38
          go_wp2_with (first | (go_at_call 35; refine (l1In_any _ _ _ _).mono ?_; rintro e w' ⟨rfl, rfl⟩))
          go_ret
          exact ⟨by simp [vBeac, slotB, *], (by repeat (first | (with_reducible exact Below.refl _ _) | (with_reducible refine Below.ext ?_ (by go_size) _ _) | (with_reducible refine Below.alloc ?_ (by go_size) _) | (with_reducible refine Below.setCell ?_ (by go_size) _) | (with_reducible refine Below.drew ?_) | (with_reducible refine Below.drewN_ ?_ _)))⟩
        · have qh4 := inR_true h4
          cases h5 : inR c 0 (p - 1)
          · go_enter Try.func38, Try.ntmps38
            go_wp2_with (first | (go_at_call 35; refine (l1In_any _ _ _ _).mono ?_; rintro e w' ⟨rfl, rfl⟩))
            go_ret
            exact ⟨by simp [vBeac, slotB, *], (by repeat (first | (with_reducible exact Below.refl _ _) | (with_reducible refine Below.ext ?_ (by go_size) _ _) | (with_reducible refine Below.alloc ?_ (by go_size) _) | (with_reducible refine Below.setCell ?_ (by go_size) _) | (with_reducible refine Below.drew ?_) | (with_reducible refine Below.drewN_ ?_ _)))⟩
          · have qh5 := inR_true h5
            cases h6 : inR t 0 65535
            · go_enter Try.func38, Try.ntmps38
              go_wp2_with (first | (go_at_call 35; refine (l1In_any _ _ _ _).mono ?_; rintro e w' ⟨rfl, rfl⟩))
              go_ret
              exact ⟨by simp [vBeac, slotB, *], (by repeat (first | (with_reducible exact Below.refl _ _) | (with_reducible refine Below.ext ?_ (by go_size) _ _) | (with_reducible refine Below.alloc ?_ (by go_size) _) | (with_reducible refine Below.setCell ?_ (by go_size) _) | (with_reducible refine Below.drew ?_) | (with_reducible refine Below.drewN_ ?_ _)))⟩
            · have qh6 := inR_true h6
              cases g
              · go_enter Try.func38, Try.ntmps38
                go_wp2_with (first | (go_at_call 35; refine (l1In_any _ _ _ _).mono ?_; rintro e w' ⟨rfl, rfl⟩))
                go_ret
                exact ⟨by simp [vBeac, slotB, *], (by repeat (first | (with_reducible exact Below.refl _ _) | (with_reducible refine Below.ext ?_ (by go_size) _ _) | (with_reducible refine Below.alloc ?_ (by go_size) _) | (with_reducible refine Below.setCell ?_ (by go_size) _) | (with_reducible refine Below.drew ?_) | (with_reducible refine Below.drewN_ ?_ _)))⟩
              · cases h8 : c == 0
                · go_enter Try.func38, Try.ntmps38
                  go_wp2_with (first | (go_at_call 35; refine (l1In_any _ _ _ _).mono ?_; rintro e w' ⟨rfl, rfl⟩))
                  go_ret
                  exact ⟨by simp [vBeac, slotB, *], (by repeat (first | (with_reducible exact Below.refl _ _) | (with_reducible refine Below.ext ?_ (by go_size) _ _) | (with_reducible refine Below.alloc ?_ (by go_size) _) | (with_reducible refine Below.setCell ?_ (by go_size) _) | (with_reducible refine Below.drew ?_) | (with_reducible refine Below.drewN_ ?_ _)))⟩
                · go_enter Try.func38, Try.ntmps38
                  go_wp2_with (first | (go_at_call 35; refine (l1In_any _ _ _ _).mono ?_; rintro e w' ⟨rfl, rfl⟩))
                  go_ret
                  exact ⟨by simp [vBeac, slotB, *], (by repeat (first | (with_reducible exact Below.refl _ _) | (with_reducible refine Below.ext ?_ (by go_size) _ _) | (with_reducible refine Below.alloc ?_ (by go_size) _) | (with_reducible refine Below.setCell ?_ (by go_size) _) | (with_reducible refine Below.drew ?_) | (with_reducible refine Below.drewN_ ?_ _)))⟩

theorem toBeacon_any (f sl c p : Int) (g : Bool) (t : Int) (w : World) :
    Calls Try.prog 29 #[.agg #[.int .i64 f, .int .i64 sl, .int .i64 c, .int .i64 p, .bool g, .int .i64 t]] w fun e w' => e = .returned (.agg #[.int .i64 f, .int .i64 sl, .int .i64 c, .int .i64 p, .bool g, .int .i64 t]) ∧ Below w.heap.size w w' := by
  go_enter Try.func29, Try.ntmps29
  go_wp2
  go_returns
  exact ⟨by simp, (by repeat (first | (with_reducible exact Below.refl _ _) | (with_reducible refine Below.ext ?_ (by go_size) _ _) | (with_reducible refine Below.alloc ?_ (by go_size) _) | (with_reducible refine Below.setCell ?_ (by go_size) _) | (with_reducible refine Below.drew ?_) | (with_reducible refine Below.drewN_ ?_ _)))⟩

def timB (t st : Int) : Bool := inR st 0 15 && bits .and .i64 (t / 2 ^ st.toNat) 1 == 1

set_option maxHeartbeats 1000000 in
theorem implTim_any (f sl c p : Int) (g : Bool) (t : Int) (st : Int) (w : World) :
    Calls Try.prog 34 #[.agg #[.int .i64 f, .int .i64 sl, .int .i64 c, .int .i64 p, .bool g, .int .i64 t], .int .i64 st] w fun e w' => e = .returned (.bool (timB t st)) ∧ Below w.heap.size w w' := by
  cases hs : inR st 0 15
  · go_enter Try.func34, Try.ntmps34
    go_wp2_with (first | (go_at_call 42; refine (isStation_any _ _).mono ?_; rintro e w' ⟨rfl, rfl⟩))
    go_ret
    exact ⟨by simp [timB, *], (by repeat (first | (with_reducible exact Below.refl _ _) | (with_reducible refine Below.ext ?_ (by go_size) _ _) | (with_reducible refine Below.alloc ?_ (by go_size) _) | (with_reducible refine Below.setCell ?_ (by go_size) _) | (with_reducible refine Below.drew ?_) | (with_reducible refine Below.drewN_ ?_ _)))⟩
  · have qhs := inR_true hs
    go_enter Try.func34, Try.ntmps34
    go_wp2_with (first | (go_at_call 42; refine (isStation_any _ _).mono ?_; rintro e w' ⟨rfl, rfl⟩))
    go_ret
    exact ⟨by simp [timB, *], (by repeat (first | (with_reducible exact Below.refl _ _) | (with_reducible refine Below.ext ?_ (by go_size) _ _) | (with_reducible refine Below.alloc ?_ (by go_size) _) | (with_reducible refine Below.setCell ?_ (by go_size) _) | (with_reducible refine Below.drew ?_) | (with_reducible refine Below.drewN_ ?_ _)))⟩

set_option maxHeartbeats 1000000 in
theorem specTim_any (f sl c p : Int) (g : Bool) (t : Int) (st : Int) (w : World) :
    Calls Try.prog 39 #[.agg #[.int .i64 f, .int .i64 sl, .int .i64 c, .int .i64 p, .bool g, .int .i64 t], .int .i64 st] w fun e w' => e = .returned (.bool (timB t st)) ∧ Below w.heap.size w w' := by
  cases hs : inR st 0 15
  · go_enter Try.func39, Try.ntmps39
    go_wp2_with (first | (go_at_call 35; refine (l1In_any _ _ _ _).mono ?_; rintro e w' ⟨rfl, rfl⟩))
    go_ret
    exact ⟨by simp [timB, *], (by repeat (first | (with_reducible exact Below.refl _ _) | (with_reducible refine Below.ext ?_ (by go_size) _ _) | (with_reducible refine Below.alloc ?_ (by go_size) _) | (with_reducible refine Below.setCell ?_ (by go_size) _) | (with_reducible refine Below.drew ?_) | (with_reducible refine Below.drewN_ ?_ _)))⟩
  · have qhs := inR_true hs
    go_enter Try.func39, Try.ntmps39
    go_wp2_with (first | (go_at_call 35; refine (l1In_any _ _ _ _).mono ?_; rintro e w' ⟨rfl, rfl⟩))
    go_ret
    exact ⟨by simp [timB, *], (by repeat (first | (with_reducible exact Below.refl _ _) | (with_reducible refine Below.ext ?_ (by go_size) _ _) | (with_reducible refine Below.alloc ?_ (by go_size) _) | (with_reducible refine Below.setCell ?_ (by go_size) _) | (with_reducible refine Below.drew ?_) | (with_reducible refine Below.drewN_ ?_ _)))⟩

end Go.Proofs.Ytncnlhmakigpgaa
