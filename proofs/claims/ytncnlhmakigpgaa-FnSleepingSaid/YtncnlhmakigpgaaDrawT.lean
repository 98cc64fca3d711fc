/- Drawn sleeping stations: any state, from the code. -/
import Derived.Test.YtncnlhmakigpgaaDrawS
namespace Go.Proofs.Ytncnlhmakigpgaa
open Go.RowKit
set_option linter.unusedVariables false
set_option linter.unusedSimpArgs false

set_option maxRecDepth 8000 in
set_option maxHeartbeats 4000000 in
theorem l25Any_any (g : Nat) (A : Option Addr) (n cap : Nat) (w : World) (hcu : Cuu w g A n cap) :
    Calls Try.prog 45 #[.pointer (some ⟨g, 0, none⟩)] w fun e w' => SomeS w g A n cap e w' := by
  haveI := hcu.nz
  go_enter Try.func45, Try.ntmps45
  go_wp2_with (first | (go_at_call 46; refine (l25State_any g A n cap _ (by repeat (first | exact hcu | (with_reducible refine Cuu.ext ?_ _ _) | (with_reducible refine Cuu.alloc ?_ _) | (with_reducible refine Cuu.put ?_ (by assumption) (by assumption)) | (with_reducible refine Cuu.drew ?_) | (with_reducible refine Cuu.drewN ?_ _)))).mono ?_; rintro e w' ⟨⟨l, a, b, p, gg⟩, rfl, i, h, X, d, rfl, hi0, hi1⟩) | (go_at_call 47; refine (belowC g A n cap _ _ (by omega) (by repeat (first | exact hcu | (with_reducible refine Cuu.ext ?_ _ _) | (with_reducible refine Cuu.alloc ?_ _) | (with_reducible refine Cuu.put ?_ (by assumption) (by assumption)) | (with_reducible refine Cuu.drew ?_) | (with_reducible refine Cuu.drewN ?_ _)))).mono ?_; rintro e w' ⟨x, rfl, hx0, hx1, hx2, i, h, X, d, rfl, hi0, hi1⟩; have hx3 := hx2 (by omega); clear hx2) | (go_at_call 48; (refine Calls.mono (intX (A := A) (n := n) (cap := cap) ?_ ?_ ?_) ?_); simp; (repeat (first | exact hcu | (with_reducible refine Cuu.ext ?_ _ _) | (with_reducible refine Cuu.alloc ?_ _) | (with_reducible refine Cuu.put ?_ (by assumption) (by assumption)) | (with_reducible refine Cuu.drew ?_) | (with_reducible refine Cuu.drewN ?_ _))); (first | (exact ⟨[_], rfl, rfl, by simp, by simp⟩) | (exact ⟨[_, _], rfl, rfl, by simp, by simp⟩) | (exact ⟨[_, _, _], rfl, rfl, by simp, by simp⟩) | (exact ⟨[_, _, _, _], rfl, rfl, by simp, by simp⟩) | (exact ⟨[_, _, _, _, _], rfl, rfl, by simp, by simp⟩) | (exact ⟨[_, _, _, _, _, _], rfl, rfl, by simp, by simp⟩) | (exact ⟨[_, _, _, _, _, _, _], rfl, rfl, by simp, by simp⟩) | (exact ⟨[_, _, _, _, _, _, _, _], rfl, rfl, by simp, by simp⟩) | (exact ⟨[_, _, _, _, _, _, _, _, _], rfl, rfl, by simp, by simp⟩) | (exact ⟨[_, _, _, _, _, _, _, _, _, _], rfl, rfl, by simp, by simp⟩) | (exact ⟨[_, _, _, _, _, _, _, _, _, _, _], rfl, rfl, by simp, by simp⟩) | (exact ⟨[_, _, _, _, _, _, _, _, _, _, _, _], rfl, rfl, by simp, by simp⟩) | (exact ⟨[_, _, _, _, _, _, _, _, _, _, _, _, _], rfl, rfl, by simp, by simp⟩) | (exact ⟨[_, _, _, _, _, _, _, _, _, _, _, _, _, _], rfl, rfl, by simp, by simp⟩)); rintro e w' ⟨x, rfl, i, h, X, d, rfl, hi0, hi1⟩))
  all_goals go_returns
  all_goals exact ⟨⟨_, _, _, _, _⟩, rfl, Drew.mk_put (i := i) (h := h) (by repeat (first | (with_reducible exact Below.refl _ _) | (with_reducible refine Below.ext ?_ (by go_size) _ _) | (with_reducible refine Below.alloc ?_ (by go_size) _) | (with_reducible refine Below.setCell ?_ (by go_size) _) | (with_reducible refine Below.drew ?_) | (with_reducible refine Below.drewN_ ?_ _))) hi0 hi1⟩
set_option maxHeartbeats 1000000 in
theorem drawValid_any {u : Bool} (A : Option Addr) (cap : Nat) (xs : List Int) (w : World) (hx : Rw u .u8 w (fun b => b < w.heap.size) A xs) (hm : xs.length ≤ 1000000000) (hb : ∀ x ∈ xs, 0 ≤ x ∧ x ≤ 255) :
    Calls Try.prog 41 #[.slice A xs.length cap] w fun e w' => AnyS w e w' := by
  have HX := Lib.hid (code_below hx ((Below.refl _ _).alloc (Nat.le_refl _) (.cells #[.int .i64 0, .bool false, .int .i64 0, .int .i64 0, .bool false] 25)))
  have HB := Lib.hid hb
  clear hx hb
  go_enter Try.func41, Try.ntmps41
  go_wp2_with fail
  refine (new_any A cap xs _ HX.out (by omega)).mono ?_
  rintro e w1 ⟨h0, rfl, rfl⟩
  have hc := (cu_new (cap := cap) h0 HX.out (by omega) HB.out).cuu
  have HC : Hid (Cuu ((w.alloc (.cells #[.int .i64 0, .bool false, .int .i64 0, .int .i64 0, .bool false] 25)).alloc (curO A xs.length cap 0 h0)) (w.heap.size + 1) A xs.length cap) := Lib.hid (by simpa using hc)
  clear hc
  go_wp2_with fail
  refine (l25Any_any _ A xs.length cap _ HC.out).mono ?_
  rintro e w2 ⟨⟨l, a, b, p, gg⟩, rfl, hd⟩
  have hbl : Below (w.alloc (.cells #[.int .i64 0, .bool false, .int .i64 0, .int .i64 0, .bool false] 25)).heap.size (w.alloc (.cells #[.int .i64 0, .bool false, .int .i64 0, .int .i64 0, .bool false] 25)) w2 := hd.below HC.out.lt ((Below.refl _ _).alloc (Nat.le_refl _) _) (by simp)
  obtain ⟨X, d, rfl⟩ := Below.ext_ hbl
  clear hd hbl
  go_wp2
  go_returns
  exact ⟨_, _, _, _, _, rfl, (by repeat (first | (with_reducible exact Below.refl _ _) | (with_reducible refine Below.ext ?_ (by go_size) _ _) | (with_reducible refine Below.alloc ?_ (by go_size) _) | (with_reducible refine Below.setCell ?_ (by go_size) _) | (with_reducible refine Below.drew ?_) | (with_reducible refine Below.drewN_ ?_ _)))⟩
set_option maxHeartbeats 1000000 in
theorem drawBef_any {u : Bool} (A : Option Addr) (cap : Nat) (xs : List Int) (w : World) (hx : Rw u .u8 w (fun b => b < w.heap.size) A xs) (hm : xs.length ≤ 1000000000) (hb : ∀ x ∈ xs, 0 ≤ x ∧ x ≤ 255) :
    Calls Try.prog 32 #[.slice A xs.length cap] w fun e w' => AnyS w e w' := by
  have HX := Lib.hid (code_below hx ((Below.refl _ _).alloc (Nat.le_refl _) (.cells #[.int .i64 0, .bool false, .int .i64 0, .int .i64 0, .bool false] 25)))
  have HB := Lib.hid hb
  clear hx hb
  go_enter Try.func32, Try.ntmps32
  go_wp2_with fail
  refine (drawValid_any A cap xs _ HX.out hm HB.out).mono ?_
  rintro e w2 ⟨l, a, b, p, gg, rfl, hbl⟩
  obtain ⟨X, d, rfl⟩ := Below.ext_ hbl
  clear hbl
  go_wp2
  go_returns
  exact ⟨_, _, _, _, _, rfl, (by repeat (first | (with_reducible exact Below.refl _ _) | (with_reducible refine Below.ext ?_ (by go_size) _ _) | (with_reducible refine Below.alloc ?_ (by go_size) _) | (with_reducible refine Below.setCell ?_ (by go_size) _) | (with_reducible refine Below.drew ?_) | (with_reducible refine Below.drewN_ ?_ _)))⟩

end Go.Proofs.Ytncnlhmakigpgaa
