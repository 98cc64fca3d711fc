/- The walk of FnExactDecodeBeacon. -/
import Derived.Test.YtifakpjchmalnaaDecB
import Derived.Test.YtifakpjchmalnaaByteS
import Derived.Test.YtifakpjchmalnaaToByteS
namespace Go.Proofs.Ytifakpjchmalnaa
open Go.RowKit
set_option linter.unusedVariables false
set_option linter.unusedSimpArgs false

theorem implDecBN {u : Bool} {T : Nat → Prop} (A : Option Addr) (cp : Nat) (xs : List Int) (hd : decB xs = none) (w : World) (hx : Rw u .u8 w T A xs) (hm : xs.length ≤ 1000000000) (hb : ∀ x ∈ xs, 0 ≤ x ∧ x ≤ 255) :
    Calls Try.prog 21 #[.slice A xs.length cp] w fun e w' => e = .returned (.tuple #[.agg #[.int .i64 0, .int .i64 0, .int .i64 0, .int .i64 0, .bool false, .int .i64 0], .bool false]) ∧ Below w.heap.size w w' :=
  (implDecB_any A cp xs w hx hm hb).mono fun e w' ⟨h1, h2⟩ => ⟨by rw [h1, hd]; rfl, h2⟩
theorem implDecBS {u : Bool} {T : Nat → Prop} (A : Option Addr) (cp : Nat) (xs : List Int) (b1 b2 b3 b4 : Int) (b5 : Bool) (b6 : Int) (hd : decB xs = some (b1, b2, b3, b4, b5, b6)) (w : World) (hx : Rw u .u8 w T A xs) (hm : xs.length ≤ 1000000000) (hb : ∀ x ∈ xs, 0 ≤ x ∧ x ≤ 255) :
    Calls Try.prog 21 #[.slice A xs.length cp] w fun e w' => e = .returned (.tuple #[.agg #[.int .i64 b1, .int .i64 b2, .int .i64 b3, .int .i64 b4, .bool b5, .int .i64 b6], .bool true]) ∧ Below w.heap.size w w' :=
  (implDecB_any A cp xs w hx hm hb).mono fun e w' ⟨h1, h2⟩ => ⟨by rw [h1, hd]; rfl, h2⟩
theorem specDecBN {u : Bool} {T : Nat → Prop} (A : Option Addr) (cp : Nat) (xs : List Int) (hd : decB xs = none) (w : World) (hx : Rw u .u8 w T A xs) (hm : xs.length ≤ 1000000000) (hb : ∀ x ∈ xs, 0 ≤ x ∧ x ≤ 255) :
    Calls Try.prog 23 #[.slice A xs.length cp] w fun e w' => e = .returned (.tuple #[.agg #[.int .i64 0, .int .i64 0, .int .i64 0, .int .i64 0, .bool false, .int .i64 0], .bool false]) ∧ Below w.heap.size w w' :=
  (specDecB_any A cp xs w hx hm hb).mono fun e w' ⟨h1, h2⟩ => ⟨by rw [h1, hd]; rfl, h2⟩
theorem specDecBS {u : Bool} {T : Nat → Prop} (A : Option Addr) (cp : Nat) (xs : List Int) (b1 b2 b3 b4 : Int) (b5 : Bool) (b6 : Int) (hd : decB xs = some (b1, b2, b3, b4, b5, b6)) (w : World) (hx : Rw u .u8 w T A xs) (hm : xs.length ≤ 1000000000) (hb : ∀ x ∈ xs, 0 ≤ x ∧ x ≤ 255) :
    Calls Try.prog 23 #[.slice A xs.length cp] w fun e w' => e = .returned (.tuple #[.agg #[.int .i64 b1, .int .i64 b2, .int .i64 b3, .int .i64 b4, .bool b5, .int .i64 b6], .bool true]) ∧ Below w.heap.size w w' :=
  (specDecB_any A cp xs w hx hm hb).mono fun e w' ⟨h1, h2⟩ => ⟨by rw [h1, hd]; rfl, h2⟩
set_option maxHeartbeats 2000000 in
theorem decodeBeacon_walk (A : Option Addr) (c : Nat) (xs : List Int) (w : World) (hx : Rw false .u8 w (fun g => g < w.heap.size) A xs) (hlen : xs.length ≤ 9223372036854775807) (hb : ∀ x ∈ xs, 0 ≤ x ∧ x ≤ 255) :
    Calls Try.prog 10 #[.slice A xs.length c] w fun e w' => e = .returned (.bool true) ∧ Below w.heap.size w w' := by
  by_cases hbig : 1048576 < xs.length
  · have hbig2 : (1048576 : Int) < (xs.length : Int) := by omega
    clear hx hb
    go_enter Try.func10, Try.ntmps10
    go_wp2
    go_ret
    exact ⟨rfl, (by repeat (first | (with_reducible exact Below.refl _ _) | (with_reducible refine Below.ext ?_ (by go_size) _ _) | (with_reducible refine Below.alloc ?_ (by go_size) _) | (with_reducible refine Below.setCell ?_ (by go_size) _) | (with_reducible refine Below.drew ?_) | (with_reducible refine Below.drewN_ ?_ _)))⟩
  have hbig2 : ¬ (1048576 : Int) < (xs.length : Int) := by omega
  have HX := Lib.hid hx.rwF
  have HB := Lib.hid hb
  clear hx hlen hb
  cases hd : decB xs with
  | none =>
    have HD := Lib.hid hd
    clear hd
    go_enter Try.func10, Try.ntmps10
    go_wp2_with fail
    refine (toByteS_any A c xs _ HX.out (by omega)).mono ?_
    rintro e w1 ⟨X1, d1, rfl, rfl, R1⟩
    go_wp2_with fail
    refine (specDecBN _ _ xs  HD.out _ R1.rw (by omega) HB.out).mono ?_
    rintro e w2 ⟨rfl, hb2⟩
    obtain ⟨X2, d2, rfl⟩ := Below.ext_ hb2
    clear hb2 R1
    go_wp2_with fail
    refine (toByteS_any A c xs _ (HX.out.below (by repeat (first | (with_reducible exact Below.refl _ _) | (with_reducible refine Below.ext ?_ (by go_size) _ _) | (with_reducible refine Below.alloc ?_ (by go_size) _) | (with_reducible refine Below.setCell ?_ (by go_size) _) | (with_reducible refine Below.drew ?_) | (with_reducible refine Below.drewN_ ?_ _)))) (by omega)).mono ?_
    rintro e w3 ⟨X3, d3, rfl, rfl, R3⟩
    simp only [World.size_ext, World.size_alloc] at R3
    go_wp2_with fail
    refine (implDecBN _ _ xs  HD.out _ R3.rw (by omega) HB.out).mono ?_
    rintro e w4 ⟨rfl, hb4⟩
    have R4 := R3.below hb4
    obtain ⟨X4, d4, rfl⟩ := Below.ext_ hb4
    clear hb4 R3
    go_wp2_with (first | (go_at_call 30; refine (eqBeacon_any _ _ _ _ _ _ _).mono ?_; rintro e w' ⟨rfl, hbw⟩; obtain ⟨X, d, rfl⟩ := Below.ext_ hbw; clear hbw))
    refine (toByteS_any A c xs _ (HX.out.below (by repeat (first | (with_reducible exact Below.refl _ _) | (with_reducible refine Below.ext ?_ (by go_size) _ _) | (with_reducible refine Below.alloc ?_ (by go_size) _) | (with_reducible refine Below.setCell ?_ (by go_size) _) | (with_reducible refine Below.drew ?_) | (with_reducible refine Below.drewN_ ?_ _)))) (by omega)).mono ?_
    rintro e w5 ⟨X5, d5, rfl, rfl, R5⟩
    simp only [World.size_ext, World.size_alloc] at R4 R5
    go_wp2_with fail
    refine (eqByteS_any _ _ _ _ xs xs _ (R4.below ?hb5).rw R5.rw (by omega) (by omega)).mono ?_
    case hb5 => exact (by repeat (first | (with_reducible exact Below.refl _ _) | (with_reducible refine Below.ext ?_ (by go_size) _ _) | (with_reducible refine Below.alloc ?_ (by go_size) _) | (with_reducible refine Below.setCell ?_ (by go_size) _) | (with_reducible refine Below.drew ?_) | (with_reducible refine Below.drewN_ ?_ _)))
    rintro e w6 ⟨rfl, hb6⟩
    obtain ⟨X6, d6, rfl⟩ := Below.ext_ hb6
    go_wp2
    go_ret
    exact ⟨rfl, (by repeat (first | (with_reducible exact Below.refl _ _) | (with_reducible refine Below.ext ?_ (by go_size) _ _) | (with_reducible refine Below.alloc ?_ (by go_size) _) | (with_reducible refine Below.setCell ?_ (by go_size) _) | (with_reducible refine Below.drew ?_) | (with_reducible refine Below.drewN_ ?_ _)))⟩
  | some r =>
    obtain ⟨b1, b2, b3, b4, b5, b6⟩ := r
    have HD := Lib.hid hd
    clear hd
    go_enter Try.func10, Try.ntmps10
    go_wp2_with fail
    refine (toByteS_any A c xs _ HX.out (by omega)).mono ?_
    rintro e w1 ⟨X1, d1, rfl, rfl, R1⟩
    go_wp2_with fail
    refine (specDecBS _ _ xs b1 b2 b3 b4 b5 b6 HD.out _ R1.rw (by omega) HB.out).mono ?_
    rintro e w2 ⟨rfl, hb2⟩
    obtain ⟨X2, d2, rfl⟩ := Below.ext_ hb2
    clear hb2 R1
    go_wp2_with fail
    refine (toByteS_any A c xs _ (HX.out.below (by repeat (first | (with_reducible exact Below.refl _ _) | (with_reducible refine Below.ext ?_ (by go_size) _ _) | (with_reducible refine Below.alloc ?_ (by go_size) _) | (with_reducible refine Below.setCell ?_ (by go_size) _) | (with_reducible refine Below.drew ?_) | (with_reducible refine Below.drewN_ ?_ _)))) (by omega)).mono ?_
    rintro e w3 ⟨X3, d3, rfl, rfl, R3⟩
    simp only [World.size_ext, World.size_alloc] at R3
    go_wp2_with fail
    refine (implDecBS _ _ xs b1 b2 b3 b4 b5 b6 HD.out _ R3.rw (by omega) HB.out).mono ?_
    rintro e w4 ⟨rfl, hb4⟩
    have R4 := R3.below hb4
    obtain ⟨X4, d4, rfl⟩ := Below.ext_ hb4
    clear hb4 R3
    go_wp2_with (first | (go_at_call 30; refine (eqBeacon_any _ _ _ _ _ _ _).mono ?_; rintro e w' ⟨rfl, hbw⟩; obtain ⟨X, d, rfl⟩ := Below.ext_ hbw; clear hbw))
    refine (toByteS_any A c xs _ (HX.out.below (by repeat (first | (with_reducible exact Below.refl _ _) | (with_reducible refine Below.ext ?_ (by go_size) _ _) | (with_reducible refine Below.alloc ?_ (by go_size) _) | (with_reducible refine Below.setCell ?_ (by go_size) _) | (with_reducible refine Below.drew ?_) | (with_reducible refine Below.drewN_ ?_ _)))) (by omega)).mono ?_
    rintro e w5 ⟨X5, d5, rfl, rfl, R5⟩
    simp only [World.size_ext, World.size_alloc] at R4 R5
    go_wp2_with fail
    refine (eqByteS_any _ _ _ _ xs xs _ (R4.below ?hb5).rw R5.rw (by omega) (by omega)).mono ?_
    case hb5 => exact (by repeat (first | (with_reducible exact Below.refl _ _) | (with_reducible refine Below.ext ?_ (by go_size) _ _) | (with_reducible refine Below.alloc ?_ (by go_size) _) | (with_reducible refine Below.setCell ?_ (by go_size) _) | (with_reducible refine Below.drew ?_) | (with_reducible refine Below.drewN_ ?_ _)))
    rintro e w6 ⟨rfl, hb6⟩
    obtain ⟨X6, d6, rfl⟩ := Below.ext_ hb6
    go_wp2
    go_ret
    exact ⟨rfl, (by repeat (first | (with_reducible exact Below.refl _ _) | (with_reducible refine Below.ext ?_ (by go_size) _ _) | (with_reducible refine Below.alloc ?_ (by go_size) _) | (with_reducible refine Below.setCell ?_ (by go_size) _) | (with_reducible refine Below.drew ?_) | (with_reducible refine Below.drewN_ ?_ _)))⟩

end Go.Proofs.Ytifakpjchmalnaa
