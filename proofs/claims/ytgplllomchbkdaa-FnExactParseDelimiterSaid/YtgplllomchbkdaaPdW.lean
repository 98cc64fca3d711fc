/- The walk of FnExactParseDelimiter. -/
import Derived.Test.YtgplllomchbkdaaPd
import Derived.Test.YtgplllomchbkdaaByteS
import Derived.Test.YtgplllomchbkdaaToByteS
namespace Go.Proofs.Ytgplllomchbkdaa
open Go.RowKit
set_option linter.unusedVariables false
set_option linter.unusedSimpArgs false

set_option maxHeartbeats 2000000 in
theorem parseDelimiter_walk (A : Option Addr) (c : Nat) (xs : List Int) (off : Int) (ho : I64 off) (w : World) (hx : Rw false .u8 w (fun g => g < w.heap.size) A xs) (hlen : xs.length ≤ 9223372036854775807) (hb : ∀ x ∈ xs, 0 ≤ x ∧ x ≤ 255) :
    Calls Try.prog 3 #[.slice A xs.length c, .int .i64 off] w fun e w' => e = .returned (.bool true) ∧ Below w.heap.size w w' := by
  by_cases hbig : 1048576 < xs.length
  · have hbig2 : (1048576 : Int) < (xs.length : Int) := by omega
    clear hx hb
    go_enter Try.func3, Try.ntmps3
    go_wp2
    go_ret
    exact ⟨rfl, (by repeat (first | (with_reducible exact Below.refl _ _) | (with_reducible refine Below.ext ?_ (by go_size) _ _) | (with_reducible refine Below.alloc ?_ (by go_size) _) | (with_reducible refine Below.setCell ?_ (by go_size) _) | (with_reducible refine Below.drew ?_) | (with_reducible refine Below.drewN_ ?_ _)))⟩
  have hbig2 : ¬ (1048576 : Int) < (xs.length : Int) := by omega
  have HX := Lib.hid hx
  have HB := Lib.hid hb
  have HO := Lib.hid ho
  generalize hp : pd xs off = p
  obtain ⟨p1, p2⟩ := p
  have HP := Lib.hid hp
  clear hx hlen hb ho hp
  go_enter Try.func3, Try.ntmps3
  go_wp2_with fail
  refine (toByteS_any A c xs _ (HX.out.below (by repeat (first | (with_reducible exact Below.refl _ _) | (with_reducible refine Below.ext ?_ (by go_size) _ _) | (with_reducible refine Below.alloc ?_ (by go_size) _) | (with_reducible refine Below.setCell ?_ (by go_size) _) | (with_reducible refine Below.drew ?_) | (with_reducible refine Below.drewN_ ?_ _)))).rwF (by omega)).mono ?_
  rintro e w1 ⟨X1, d1, rfl, rfl, R1⟩
  go_wp2_with fail
  refine (specPd_any _ _ xs off _ R1.rw (by omega) (Nat.le_refl _) HB.out HO.out).mono ?_
  rw [HP.out]
  rintro e w2 ⟨rfl, hb2⟩
  obtain ⟨X2, d2, rfl⟩ := Below.ext_ hb2
  clear hb2 R1
  go_wp2_with fail
  refine (toByteS_any A c xs _ (HX.out.below (by repeat (first | (with_reducible exact Below.refl _ _) | (with_reducible refine Below.ext ?_ (by go_size) _ _) | (with_reducible refine Below.alloc ?_ (by go_size) _) | (with_reducible refine Below.setCell ?_ (by go_size) _) | (with_reducible refine Below.drew ?_) | (with_reducible refine Below.drewN_ ?_ _)))).rwF (by omega)).mono ?_
  rintro e w3 ⟨X3, d3, rfl, rfl, R3⟩
  simp only [World.size_ext, World.size_alloc] at R3
  go_wp2_with fail
  refine (implPd_any _ _ xs off _ R3.rw (by omega) (Nat.le_refl _) HB.out HO.out).mono ?_
  rw [HP.out]
  rintro e w4 ⟨rfl, hb4⟩
  have R4 := R3.below hb4
  obtain ⟨X4, d4, rfl⟩ := Below.ext_ hb4
  clear hb4 R3
  go_wp2_with fail
  refine (toByteS_any A c xs _ (HX.out.below (by repeat (first | (with_reducible exact Below.refl _ _) | (with_reducible refine Below.ext ?_ (by go_size) _ _) | (with_reducible refine Below.alloc ?_ (by go_size) _) | (with_reducible refine Below.setCell ?_ (by go_size) _) | (with_reducible refine Below.drew ?_) | (with_reducible refine Below.drewN_ ?_ _)))).rwF (by omega)).mono ?_
  rintro e w5 ⟨X5, d5, rfl, rfl, R5⟩
  simp only [World.size_ext, World.size_alloc] at R5 R4
  go_wp2_with fail
  refine (eqByteS_any _ _ _ _ xs xs _ (R4.rw.below ?hb5) R5.rw (by omega) (by omega)).mono ?_
  case hb5 => exact (by repeat (first | (with_reducible exact Below.refl _ _) | (with_reducible refine Below.ext ?_ (by go_size) _ _) | (with_reducible refine Below.alloc ?_ (by go_size) _) | (with_reducible refine Below.setCell ?_ (by go_size) _) | (with_reducible refine Below.drew ?_) | (with_reducible refine Below.drewN_ ?_ _)))
  rintro e w6 ⟨rfl, hb6⟩
  obtain ⟨X6, d6, rfl⟩ := Below.ext_ hb6
  clear hb6
  go_wp2
  go_ret
  exact ⟨rfl, (by repeat (first | (with_reducible exact Below.refl _ _) | (with_reducible refine Below.ext ?_ (by go_size) _ _) | (with_reducible refine Below.alloc ?_ (by go_size) _) | (with_reducible refine Below.setCell ?_ (by go_size) _) | (with_reducible refine Below.drew ?_) | (with_reducible refine Below.drewN_ ?_ _)))⟩

end Go.Proofs.Ytgplllomchbkdaa
