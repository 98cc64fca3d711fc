/- The walk of the exact law of Outstanding. -/
import Derived.Test.YtipcjbmfogijeaaSendC
import Derived.Test.YtipcjbmfogijeaaIntS
namespace Go.Proofs.Ytipcjbmfogijeaa
open Go.RowKit
set_option linter.unusedVariables false
set_option linter.unusedSimpArgs false

set_option maxHeartbeats 2000000 in
theorem outstanding_walk (st nx ak : Int) (hst : I64 st) (hnx : I64 nx) (hak : I64 ak) (w : World) :
    Calls Try.prog 8 #[.agg #[.int .i64 st, .int .i64 nx, .int .i64 ak]] w fun e w' => e = .returned (.bool true) ∧ Below w.heap.size w w' := by
  have hle := outS_le st nx ak
  go_enter Try.func8, Try.ntmps8
  go_wp2_with (first
    | (go_at_call 19; refine (toSend_any _ _ _ _).mono ?_; rintro e w' ⟨rfl, hbw⟩; obtain ⟨X, d, rfl⟩ := Below.ext_ hbw; clear hbw)
    | (go_at_call 25; refine (specOutS_any st nx ak _).mono ?_; rintro e w' ⟨g1, c1, X1, d1, rfl, rfl, hg1, hown1⟩)
    | (go_at_call 26; refine (implOutS_any st nx ak _).mono ?_; rintro e w' ⟨g2, c2, X2, d2, rfl, rfl, hg2, hown2⟩))
  have R1 := (Rw.of_own hown1).below ((Below.ext (Below.ext (Below.refl _ _) (Nat.le_refl _) X d) (by simp) X2 d2))
  have R2 := Rw.of_own hown2
  have hlt1 : g1 < g2 := by
    have h1 := own_lt hown1
    simp only [World.size_ext] at h1 hg2
    omega
  refine (eqIntS_any _ _ _ _ _ _ _ R2 R1 (by omega) (by omega)).mono ?_
  rintro e w3 ⟨rfl, hb3⟩
  have R1' := R1.below hb3
  have R2' := R2.below hb3
  obtain ⟨X3, d3, rfl⟩ := Below.ext_ hb3
  go_wp2_with fail
  refine (markIntS_any _ _ _ _ _ R2' (by omega) (by omega) (by omega)).mono ?_
  rintro e w4 ⟨rfl, hc4, R2m⟩
  have R1m := R1'.frame hc4 (by rintro k ⟨_, h1⟩ ⟨_, h2⟩; injection h1 with h1; injection h2 with h2; injection h1 with h1; injection h2 with h2; omega)
  have hB4 : Below (w.heap.size + 1) (w.alloc (.cells #[.int .i64 st, .int .i64 nx, .int .i64 ak] 33)) w4 :=
    Below.trans (Below.ext (Below.ext (Below.ext (Below.ext (Below.ext (Below.refl _ _) (by simp) _ _) (by go_size) _ _) (by go_size) _ _) (by go_size) _ _) (by go_size) _ _) (hc4.below (by go_size) (fun k hk => by have := hk.1; simp at this hg2; omega))
  obtain ⟨X4, d4, rfl⟩ := Below.ext_ (w := w.alloc (.cells #[.int .i64 st, .int .i64 nx, .int .i64 ak] 33)) (by simpa using hB4)
  clear hc4 hB4 hown1 hown2 R1 R2 R1' R2' hb3
  go_wp2_with fail
  refine (heldIntS_any _ _ _ _ _ R2m (by omega) (by omega) (by omega)).mono ?_
  rintro e w5 ⟨rfl, hb5⟩
  have R1n := R1m.below hb5
  have R2n := R2m.below hb5
  obtain ⟨X5, d5, rfl⟩ := Below.ext_ hb5
  clear hb5 R1m R2m
  go_wp2_with (first
    | (go_at_call 19; refine (toSend_any _ _ _ _).mono ?_; rintro e w' ⟨rfl, hbw⟩; obtain ⟨X, d, rfl⟩ := Below.ext_ hbw; clear hbw)
    | (go_at_call 26; refine (implOutS_any st nx ak _).mono ?_; rintro e w' ⟨g3, c3, X6, d6, rfl, rfl, hg3, hown3⟩))
  have R1o := R1n.below (Below.ext (Below.ext (Below.refl _ _) (Nat.le_refl _) X d) (by go_size) X6 d6)
  have R2o := R2n.below (Below.ext (Below.ext (Below.refl _ _) (Nat.le_refl _) X d) (by go_size) X6 d6)
  have R3 := Rw.of_own hown3
  refine (eqIntS_any _ _ _ _ _ _ _ R3 R1o (by omega) (by omega)).mono ?_
  rintro e w7 ⟨rfl, hb7⟩
  have R2p := R2o.below hb7
  obtain ⟨X7, d7, rfl⟩ := Below.ext_ hb7
  go_wp2_with fail
  refine (heldIntS_any _ _ _ _ _ R2p (by omega) (by omega) (by omega)).mono ?_
  rintro e w8 ⟨rfl, hb8⟩
  obtain ⟨X8, d8, rfl⟩ := Below.ext_ hb8
  go_wp2
  go_ret
  exact ⟨rfl, (by repeat (first | (with_reducible exact Below.refl _ _) | (with_reducible refine Below.ext ?_ (by go_size) _ _) | (with_reducible refine Below.alloc ?_ (by go_size) _)))⟩

end Go.Proofs.Ytipcjbmfogijeaa
