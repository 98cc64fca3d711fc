/- Drawn beacons: any beacon. -/
import Derived.Test.YtifakpjchmalnaaCur
import Derived.Test.YtifakpjchmalnaaBeacA
namespace Go.Proofs.Ytifakpjchmalnaa
open Go.RowKit
set_option linter.unusedVariables false
set_option linter.unusedSimpArgs false

def SomeB (w : World) (g : Nat) (A : Option Addr) (n cap : Nat) (e : Ending) (w' : World) : Prop := ∃ (f sl c p : Int) (gt : Bool) (t : Int), e = .returned (.agg #[.int .i64 f, .int .i64 sl, .int .i64 c, .int .i64 p, .bool gt, .int .i64 t]) ∧ Drew w g A n cap w'

set_option maxHeartbeats 1000000 in
theorem l24Beacon_any (g : Nat) (A : Option Addr) (n cap : Nat) (w : World) (hcu : Cuu w g A n cap) :
    Calls Try.prog 42 #[.pointer (some ⟨g, 0, none⟩)] w fun e w' => SomeB w g A n cap e w' := by
  haveI := hcu.nz
  go_enter Try.func42, Try.ntmps42
  go_wp2_with (first | (go_at_call 46; refine (belowC g A n cap _ _ (by omega) (by repeat (first | exact hcu | (with_reducible refine Cuu.ext ?_ _ _) | (with_reducible refine Cuu.alloc ?_ _) | (with_reducible refine Cuu.put ?_ (by assumption) (by assumption)) | (with_reducible refine Cuu.drew ?_) | (with_reducible refine Cuu.drewN ?_ _)))).mono ?_; rintro e w' ⟨x, rfl, hx0, hx1, hx2, i, h, X, d, rfl, hi0, hi1⟩; have hx3 := hx2 (by omega); clear hx2) | (go_at_call 43; refine (onceC g A n cap _ _ (by omega) (by repeat (first | exact hcu | (with_reducible refine Cuu.ext ?_ _ _) | (with_reducible refine Cuu.alloc ?_ _) | (with_reducible refine Cuu.put ?_ (by assumption) (by assumption)) | (with_reducible refine Cuu.drew ?_) | (with_reducible refine Cuu.drewN ?_ _)))).mono ?_; rintro e w' ⟨x, rfl, i, h, X, d, rfl, hi0, hi1⟩) | (go_at_call 27; refine (specDtim_any _ _ _).mono ?_; rintro e w' ⟨rfl, rfl⟩))
  all_goals go_returns
  all_goals exact ⟨_, _, _, _, _, _, rfl, Drew.mk_put (i := i) (h := h) (by repeat (first | (with_reducible exact Below.refl _ _) | (with_reducible refine Below.ext ?_ (by go_size) _ _) | (with_reducible refine Below.alloc ?_ (by go_size) _) | (with_reducible refine Below.setCell ?_ (by go_size) _) | (with_reducible refine Below.drew ?_) | (with_reducible refine Below.drewN_ ?_ _))) hi0 hi1⟩


set_option maxRecDepth 8000 in
set_option maxHeartbeats 4000000 in
theorem l24Any_any (g : Nat) (A : Option Addr) (n cap : Nat) (w : World) (hcu : Cuu w g A n cap) :
    Calls Try.prog 53 #[.pointer (some ⟨g, 0, none⟩)] w fun e w' => SomeB w g A n cap e w' := by
  haveI := hcu.nz
  go_enter Try.func53, Try.ntmps53
  go_wp2_with (first | (go_at_call 42; refine (l24Beacon_any g A n cap _ (by repeat (first | exact hcu | (with_reducible refine Cuu.ext ?_ _ _) | (with_reducible refine Cuu.alloc ?_ _) | (with_reducible refine Cuu.put ?_ (by assumption) (by assumption)) | (with_reducible refine Cuu.drew ?_) | (with_reducible refine Cuu.drewN ?_ _)))).mono ?_; rintro e w' ⟨f, sl, c, p, gt, t, rfl, i, h, X, d, rfl, hi0, hi1⟩) | (go_at_call 46; refine (belowC g A n cap _ _ (by omega) (by repeat (first | exact hcu | (with_reducible refine Cuu.ext ?_ _ _) | (with_reducible refine Cuu.alloc ?_ _) | (with_reducible refine Cuu.put ?_ (by assumption) (by assumption)) | (with_reducible refine Cuu.drew ?_) | (with_reducible refine Cuu.drewN ?_ _)))).mono ?_; rintro e w' ⟨x, rfl, hx0, hx1, hx2, i, h, X, d, rfl, hi0, hi1⟩; have hx3 := hx2 (by omega); clear hx2) | (go_at_call 54; (refine Calls.mono (intX (A := A) (n := n) (cap := cap) ?_ ?_ ?_) ?_); simp; (repeat (first | exact hcu | (with_reducible refine Cuu.ext ?_ _ _) | (with_reducible refine Cuu.alloc ?_ _) | (with_reducible refine Cuu.put ?_ (by assumption) (by assumption)) | (with_reducible refine Cuu.drew ?_) | (with_reducible refine Cuu.drewN ?_ _))); (first | (exact ⟨[_], rfl, rfl, by simp, by simp⟩) | (exact ⟨[_, _], rfl, rfl, by simp, by simp⟩) | (exact ⟨[_, _, _], rfl, rfl, by simp, by simp⟩) | (exact ⟨[_, _, _, _], rfl, rfl, by simp, by simp⟩) | (exact ⟨[_, _, _, _, _], rfl, rfl, by simp, by simp⟩) | (exact ⟨[_, _, _, _, _, _], rfl, rfl, by simp, by simp⟩) | (exact ⟨[_, _, _, _, _, _, _], rfl, rfl, by simp, by simp⟩) | (exact ⟨[_, _, _, _, _, _, _, _], rfl, rfl, by simp, by simp⟩) | (exact ⟨[_, _, _, _, _, _, _, _, _], rfl, rfl, by simp, by simp⟩) | (exact ⟨[_, _, _, _, _, _, _, _, _, _], rfl, rfl, by simp, by simp⟩) | (exact ⟨[_, _, _, _, _, _, _, _, _, _, _], rfl, rfl, by simp, by simp⟩) | (exact ⟨[_, _, _, _, _, _, _, _, _, _, _, _], rfl, rfl, by simp, by simp⟩) | (exact ⟨[_, _, _, _, _, _, _, _, _, _, _, _, _], rfl, rfl, by simp, by simp⟩) | (exact ⟨[_, _, _, _, _, _, _, _, _, _, _, _, _, _], rfl, rfl, by simp, by simp⟩)); rintro e w' ⟨x, rfl, i, h, X, d, rfl, hi0, hi1⟩))
  all_goals go_returns
  all_goals exact ⟨_, _, _, _, _, _, rfl, Drew.mk_put (i := i) (h := h) (by repeat (first | (with_reducible exact Below.refl _ _) | (with_reducible refine Below.ext ?_ (by go_size) _ _) | (with_reducible refine Below.alloc ?_ (by go_size) _) | (with_reducible refine Below.setCell ?_ (by go_size) _) | (with_reducible refine Below.drew ?_) | (with_reducible refine Below.drewN_ ?_ _))) hi0 hi1⟩

end Go.Proofs.Ytifakpjchmalnaa
