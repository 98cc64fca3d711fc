/- Drawn rate states: any state, from the code. -/
import Derived.Test.YtkjkhlncdopndaaDrawR
import Derived.Deep.RegionWith
namespace Go.Proofs.Ytkjkhlncdopndaa
open Go.RowKit
set_option linter.unusedVariables false
set_option linter.unusedSimpArgs false

def SomeR (w : World) (g : Nat) (A : Option Addr) (n cap : Nat) (e : Ending) (w' : World) : Prop := ∃ r go b th pr, e = .returned (.agg #[.int .i64 r, .int .i64 go, .int .i64 b, .int .i64 th, .bool pr]) ∧ Drew w g A n cap w'
def AnyR (w : World) (e : Ending) (w' : World) : Prop := ∃ r go b th pr, e = .returned (.agg #[.int .i64 r, .int .i64 go, .int .i64 b, .int .i64 th, .bool pr]) ∧ Below w.heap.size w w'
theorem suc_w (r go b th : Int) (pr : Bool) (w : World) : Calls Try.prog 16 #[.agg #[.int .i64 r, .int .i64 go, .int .i64 b, .int .i64 th, .bool pr]] w fun e w' => AnyR w e w' :=
  (specSucc_any ⟨r, go, b, th, pr⟩ w).mono fun e w' ⟨h1, h2⟩ => ⟨_, _, _, _, _, h1, h2⟩
theorem newr_w (m : Int) (w : World) : Calls Try.prog 10 #[.int .i64 m] w fun e w' => AnyR w e w' :=
  (specNewR_any m w).mono fun e w' ⟨h1, h2⟩ => ⟨_, _, _, _, _, h1, h2⟩
theorem app_w {u : Bool} {T : Nat → Prop} (r go b th : Int) (pr : Bool) (A : Option Addr) (c : Nat) (xs : List Bool) (w : World) (hx : RwF Value.bool u w T A xs) (hm : xs.length ≤ 1000000000000) : Calls Try.prog 29 #[.agg #[.int .i64 r, .int .i64 go, .int .i64 b, .int .i64 th, .bool pr], .slice A xs.length c] w fun e w' => AnyR w e w' :=
  (specApply_any ⟨r, go, b, th, pr⟩ A c xs w hx hm).mono fun e w' ⟨h1, h2⟩ => ⟨_, _, _, _, _, h1, h2⟩

set_option maxRecDepth 8000 in
set_option maxHeartbeats 4000000 in
theorem l23State_any (g : Nat) (A : Option Addr) (n cap : Nat) (w : World) (hcu : Cuu w g A n cap) :
    Calls Try.prog 51 #[.pointer (some ⟨g, 0, none⟩)] w fun e w' => SomeR w g A n cap e w' := by
  haveI := hcu.nz
  go_enter Try.func51, Try.ntmps51
  go_wp2_with fail
  refine (belowC g A n cap _ _ (by omega) (by repeat (first | exact hcu | (with_reducible refine Cuu.ext ?_ _ _) | (with_reducible refine Cuu.alloc ?_ _) | (with_reducible refine Cuu.put ?_ (by assumption) (by assumption)) | (with_reducible refine Cuu.drew ?_) | (with_reducible refine Cuu.drewN ?_ _)))).mono ?_
  rintro e w1 ⟨x1, rfl, hx0, hx1, hx2, i, h, X1, d1, rfl, hi0, hi1⟩
  clear hx2
  go_wp2_with fail
  refine (newr_w _ _).mono ?_
  rintro e w2 ⟨r, go, b, th, pr, rfl, hbw⟩
  obtain ⟨X2, d2, rfl⟩ := Below.ext_ hbw
  clear hbw
  go_wp2_with fail
  refine (outcomes_any g A n cap _ (by repeat (first | exact hcu | (with_reducible refine Cuu.ext ?_ _ _) | (with_reducible refine Cuu.alloc ?_ _) | (with_reducible refine Cuu.put ?_ (by assumption) (by assumption)) | (with_reducible refine Cuu.drew ?_) | (with_reducible refine Cuu.drewN ?_ _)))).mono ?_
  rintro e w3 ⟨⟨gb, cb, bs, rfl, hbl, hR⟩, i, h, X3, d3, rfl, hi0, hi1⟩
  simp only [World.put_ext, World.put_alloc, World.put_put] at hR
  go_wp2_with fail
  refine (app_w _ _ _ _ _ _ _ bs _ hR (by omega)).mono ?_
  rintro e w4 ⟨r, go, b, th, pr, rfl, hbw⟩
  obtain ⟨X4, d4, rfl⟩ := Below.ext_ hbw
  clear hbw hR
  go_wp2_with fail
  refine (belowC g A n cap _ _ (by omega) (by repeat (first | exact hcu | (with_reducible refine Cuu.ext ?_ _ _) | (with_reducible refine Cuu.alloc ?_ _) | (with_reducible refine Cuu.put ?_ (by assumption) (by assumption)) | (with_reducible refine Cuu.drew ?_) | (with_reducible refine Cuu.drewN ?_ _)))).mono ?_
  rintro e w5 ⟨x, rfl, hxx0, hxx1, hxx2, i, h, X5, d5, rfl, hi0, hi1⟩
  have hxx3 := hxx2 (by omega)
  clear hxx2
  go_wp2
  go_loopw [4] (fun v wr => ∃ (y : Int) (r go b th : Int) (pr : Bool) (i h : Int) (Y : List Obj) (dn : Nat), v = .int .i64 y ∧ 0 ≤ y ∧ y ≤ 40 ∧ 0 ≤ i ∧ i ≤ (n : Int) ∧ wr = World.ext ((World.ext (World.ext (World.ext (World.ext ((World.put w g (curO A n cap i h)).alloc (.cells #[.int .i64 0, .int .i64 0, .int .i64 0, .int .i64 0, .bool false] 23)) X1 d1) X2 d2) X3 d3) X4 d4).alloc (.cells #[.int .i64 r, .int .i64 go, .int .i64 b, .int .i64 th, .bool pr] 23)) Y dn) (fun v _ => (intOf v).toNat)
  case atStart => exact ⟨x, r, go, b, th, pr, i, h, X5, d5, rfl, by omega, by omega, hi0, hi1, rfl⟩
  case round =>
    clear hi0 hi1 hxx0 hxx1 hxx3
    obtain ⟨y, r, go, b, th, pr, i, h, Y, dn, rfl, hy0, hy1, hi0, hi1, rfl⟩ := hrel
    by_cases hy : 0 < y
    · go_wp2_with fail
      refine (onceC g A n cap _ _ (by omega) (by repeat (first | exact hcu | (with_reducible refine Cuu.ext ?_ _ _) | (with_reducible refine Cuu.alloc ?_ _) | (with_reducible refine Cuu.put ?_ (by assumption) (by assumption)) | (with_reducible refine Cuu.drew ?_) | (with_reducible refine Cuu.drewN ?_ _)))).mono ?_
      rintro e w6 ⟨q, rfl, i, h, X6, d6, rfl, hi0, hi1⟩
      cases q
      · go_wp2
        go_returns
        exact ⟨_, _, _, _, _, rfl, Drew.mk_put (i := i) (h := h) (by repeat (first | (with_reducible exact Below.refl _ _) | (with_reducible refine Below.ext ?_ (by go_size) _ _) | (with_reducible refine Below.alloc ?_ (by go_size) _) | (with_reducible refine Below.setCell ?_ (by go_size) _) | (with_reducible refine Below.drew ?_) | (with_reducible refine Below.drewN_ ?_ _))) hi0 hi1⟩
      · go_wp2_with (first | (go_at_call 16; refine (suc_w _ _ _ _ _ _).mono ?_; rintro e w' ⟨r', go', b', th', pr', rfl, hbw⟩; obtain ⟨X, d, rfl⟩ := Below.ext_ hbw; clear hbw))
        go_roundw
        case rel => exact ⟨y - 1, r', go', b', th', pr', i, h, _, _, rfl, by omega, by omega, hi0, hi1, by first | (with_reducible rfl) | (simp only [wext_ext]; rfl)⟩
        case measure => simp [intOf]; omega
    · go_wp2
      go_returns
      exact ⟨_, _, _, _, _, rfl, Drew.mk_put (i := i) (h := h) (by repeat (first | (with_reducible exact Below.refl _ _) | (with_reducible refine Below.ext ?_ (by go_size) _ _) | (with_reducible refine Below.alloc ?_ (by go_size) _) | (with_reducible refine Below.setCell ?_ (by go_size) _) | (with_reducible refine Below.drew ?_) | (with_reducible refine Below.drewN_ ?_ _))) hi0 hi1⟩

set_option maxRecDepth 8000 in
set_option maxHeartbeats 4000000 in
theorem l23Any_any (g : Nat) (A : Option Addr) (n cap : Nat) (w : World) (hcu : Cuu w g A n cap) :
    Calls Try.prog 49 #[.pointer (some ⟨g, 0, none⟩)] w fun e w' => SomeR w g A n cap e w' := by
  haveI := hcu.nz
  go_enter Try.func49, Try.ntmps49
  go_wp2_with (first | (go_at_call 51; refine (l23State_any g A n cap _ (by repeat (first | exact hcu | (with_reducible refine Cuu.ext ?_ _ _) | (with_reducible refine Cuu.alloc ?_ _) | (with_reducible refine Cuu.put ?_ (by assumption) (by assumption)) | (with_reducible refine Cuu.drew ?_) | (with_reducible refine Cuu.drewN ?_ _)))).mono ?_; rintro e w' ⟨r, go, b, th, pr, rfl, i, h, X, d, rfl, hi0, hi1⟩) | (go_at_call 46; refine (belowC g A n cap _ _ (by omega) (by repeat (first | exact hcu | (with_reducible refine Cuu.ext ?_ _ _) | (with_reducible refine Cuu.alloc ?_ _) | (with_reducible refine Cuu.put ?_ (by assumption) (by assumption)) | (with_reducible refine Cuu.drew ?_) | (with_reducible refine Cuu.drewN ?_ _)))).mono ?_; rintro e w' ⟨x, rfl, hx0, hx1, hx2, i, h, X, d, rfl, hi0, hi1⟩; have hx3 := hx2 (by omega); clear hx2) | (go_at_call 43; (refine Calls.mono (intX (A := A) (n := n) (cap := cap) ?_ ?_ ?_) ?_); simp; (repeat (first | exact hcu | (with_reducible refine Cuu.ext ?_ _ _) | (with_reducible refine Cuu.alloc ?_ _) | (with_reducible refine Cuu.put ?_ (by assumption) (by assumption)) | (with_reducible refine Cuu.drew ?_) | (with_reducible refine Cuu.drewN ?_ _))); (first | (exact ⟨[_], rfl, rfl, by simp, by simp⟩) | (exact ⟨[_, _], rfl, rfl, by simp, by simp⟩) | (exact ⟨[_, _, _], rfl, rfl, by simp, by simp⟩) | (exact ⟨[_, _, _, _], rfl, rfl, by simp, by simp⟩) | (exact ⟨[_, _, _, _, _], rfl, rfl, by simp, by simp⟩) | (exact ⟨[_, _, _, _, _, _], rfl, rfl, by simp, by simp⟩) | (exact ⟨[_, _, _, _, _, _, _], rfl, rfl, by simp, by simp⟩) | (exact ⟨[_, _, _, _, _, _, _, _], rfl, rfl, by simp, by simp⟩) | (exact ⟨[_, _, _, _, _, _, _, _, _], rfl, rfl, by simp, by simp⟩) | (exact ⟨[_, _, _, _, _, _, _, _, _, _], rfl, rfl, by simp, by simp⟩) | (exact ⟨[_, _, _, _, _, _, _, _, _, _, _], rfl, rfl, by simp, by simp⟩) | (exact ⟨[_, _, _, _, _, _, _, _, _, _, _, _], rfl, rfl, by simp, by simp⟩) | (exact ⟨[_, _, _, _, _, _, _, _, _, _, _, _, _], rfl, rfl, by simp, by simp⟩) | (exact ⟨[_, _, _, _, _, _, _, _, _, _, _, _, _, _], rfl, rfl, by simp, by simp⟩)); rintro e w' ⟨x, rfl, i, h, X, d, rfl, hi0, hi1⟩))
  all_goals go_returns
  all_goals exact ⟨_, _, _, _, _, rfl, Drew.mk_put (i := i) (h := h) (by repeat (first | (with_reducible exact Below.refl _ _) | (with_reducible refine Below.ext ?_ (by go_size) _ _) | (with_reducible refine Below.alloc ?_ (by go_size) _) | (with_reducible refine Below.setCell ?_ (by go_size) _) | (with_reducible refine Below.drew ?_) | (with_reducible refine Below.drewN_ ?_ _))) hi0 hi1⟩
set_option maxHeartbeats 1000000 in
theorem drawValid_any {u : Bool} (A : Option Addr) (cap : Nat) (xs : List Int) (w : World) (hx : Rw u .u8 w (fun b => b < w.heap.size) A xs) (hm : xs.length ≤ 1000000000) (hb : ∀ x ∈ xs, 0 ≤ x ∧ x ≤ 255) :
    Calls Try.prog 45 #[.slice A xs.length cap] w fun e w' => AnyR w e w' := by
  have HX := Lib.hid (code_below hx ((Below.refl _ _).alloc (Nat.le_refl _) (.cells #[.int .i64 0, .int .i64 0, .int .i64 0, .int .i64 0, .bool false] 23)))
  have HB := Lib.hid hb
  clear hx hb
  go_enter Try.func45, Try.ntmps45
  go_wp2_with fail
  refine (new_any A cap xs _ HX.out (by omega)).mono ?_
  rintro e w1 ⟨h0, rfl, rfl⟩
  have hc := (cu_new (cap := cap) h0 HX.out (by omega) HB.out).cuu
  have HC : Hid (Cuu ((w.alloc (.cells #[.int .i64 0, .int .i64 0, .int .i64 0, .int .i64 0, .bool false] 23)).alloc (curO A xs.length cap 0 h0)) (w.heap.size + 1) A xs.length cap) := Lib.hid (by simpa using hc)
  clear hc
  go_wp2_with fail
  refine (l23Any_any _ A xs.length cap _ HC.out).mono ?_
  rintro e w2 ⟨r, go, b, th, pr, rfl, hd⟩
  have hbl : Below (w.alloc (.cells #[.int .i64 0, .int .i64 0, .int .i64 0, .int .i64 0, .bool false] 23)).heap.size (w.alloc (.cells #[.int .i64 0, .int .i64 0, .int .i64 0, .int .i64 0, .bool false] 23)) w2 := hd.below HC.out.lt ((Below.refl _ _).alloc (Nat.le_refl _) _) (by simp)
  obtain ⟨X, d, rfl⟩ := Below.ext_ hbl
  clear hd hbl
  go_wp2
  go_returns
  exact ⟨_, _, _, _, _, rfl, (by repeat (first | (with_reducible exact Below.refl _ _) | (with_reducible refine Below.ext ?_ (by go_size) _ _) | (with_reducible refine Below.alloc ?_ (by go_size) _) | (with_reducible refine Below.setCell ?_ (by go_size) _) | (with_reducible refine Below.drew ?_) | (with_reducible refine Below.drewN_ ?_ _)))⟩
set_option maxHeartbeats 1000000 in
theorem drawSuc_any {u : Bool} (A : Option Addr) (cap : Nat) (xs : List Int) (w : World) (hx : Rw u .u8 w (fun b => b < w.heap.size) A xs) (hm : xs.length ≤ 1000000000) (hb : ∀ x ∈ xs, 0 ≤ x ∧ x ≤ 255) :
    Calls Try.prog 33 #[.slice A xs.length cap] w fun e w' => AnyR w e w' := by
  have HX := Lib.hid (code_below hx ((Below.refl _ _).alloc (Nat.le_refl _) (.cells #[.int .i64 0, .int .i64 0, .int .i64 0, .int .i64 0, .bool false] 23)))
  have HB := Lib.hid hb
  clear hx hb
  go_enter Try.func33, Try.ntmps33
  go_wp2_with fail
  refine (drawValid_any A cap xs _ HX.out hm HB.out).mono ?_
  rintro e w2 ⟨r, go, b, th, pr, rfl, hbl⟩
  obtain ⟨X, d, rfl⟩ := Below.ext_ hbl
  clear hbl
  go_wp2
  go_returns
  exact ⟨_, _, _, _, _, rfl, (by repeat (first | (with_reducible exact Below.refl _ _) | (with_reducible refine Below.ext ?_ (by go_size) _ _) | (with_reducible refine Below.alloc ?_ (by go_size) _) | (with_reducible refine Below.setCell ?_ (by go_size) _) | (with_reducible refine Below.drew ?_) | (with_reducible refine Below.drewN_ ?_ _)))⟩

end Go.Proofs.Ytkjkhlncdopndaa
