/- Drawn sleeping stations: any state. -/
import Derived.Test.YtncnlhmakigpgaaCur
import Derived.Test.YtncnlhmakigpgaaDtim
import Derived.Test.YtncnlhmakigpgaaSleepC
import Derived.Deep.RegionWith
namespace Go.Proofs.Ytncnlhmakigpgaa
open Go.RowKit
set_option linter.unusedVariables false
set_option linter.unusedSimpArgs false

theorem Drew.below {w0 w w' : World} {g n cap : Nat} {A : Option Addr} (h : Drew w g A n cap w') (hl : g < w.heap.size) (hb : Below w0.heap.size w0 w) (hg : w0.heap.size ≤ g) : Below w0.heap.size w0 w' := by
  obtain ⟨i, h, X, d, rfl, h0, h1⟩ := h
  have h2 : Below w0.heap.size w (World.put w g (curO A n cap i h)) := (put_chg w g _).below hb.size (fun k hk => by omega)
  exact Below.ext (hb.trans h2) (by have := hb.size; simpa using this) X d
theorem code_below {u : Bool} {w w' : World} {A : Option Addr} {xs : List Int} (hx : Rw u .u8 w (fun b => b < w.heap.size) A xs) (hb : Below w.heap.size w w') : Rw u .u8 w' (fun b => b < w'.heap.size) A xs :=
  (hx.below hb).wider (fun k hk => by have := hb.size; omega)

def SomeB (w : World) (g : Nat) (A : Option Addr) (n cap : Nat) (e : Ending) (w' : World) : Prop := ∃ (f sl c p : Int) (gt : Bool) (t : Int), e = .returned (.agg #[.int .i64 f, .int .i64 sl, .int .i64 c, .int .i64 p, .bool gt, .int .i64 t]) ∧ Drew w g A n cap w'

set_option maxHeartbeats 1000000 in
theorem l24Beacon_any (g : Nat) (A : Option Addr) (n cap : Nat) (w : World) (hcu : Cuu w g A n cap) :
    Calls Try.prog 49 #[.pointer (some ⟨g, 0, none⟩)] w fun e w' => SomeB w g A n cap e w' := by
  haveI := hcu.nz
  go_enter Try.func49, Try.ntmps49
  go_wp2_with (first | (go_at_call 47; refine (belowC g A n cap _ _ (by omega) (by repeat (first | exact hcu | (with_reducible refine Cuu.ext ?_ _ _) | (with_reducible refine Cuu.alloc ?_ _) | (with_reducible refine Cuu.put ?_ (by assumption) (by assumption)) | (with_reducible refine Cuu.drew ?_) | (with_reducible refine Cuu.drewN ?_ _)))).mono ?_; rintro e w' ⟨x, rfl, hx0, hx1, hx2, i, h, X, d, rfl, hi0, hi1⟩; have hx3 := hx2 (by omega); clear hx2) | (go_at_call 50; refine (onceC g A n cap _ _ (by omega) (by repeat (first | exact hcu | (with_reducible refine Cuu.ext ?_ _ _) | (with_reducible refine Cuu.alloc ?_ _) | (with_reducible refine Cuu.put ?_ (by assumption) (by assumption)) | (with_reducible refine Cuu.drew ?_) | (with_reducible refine Cuu.drewN ?_ _)))).mono ?_; rintro e w' ⟨x, rfl, i, h, X, d, rfl, hi0, hi1⟩) | (go_at_call 52; refine (specDtim_any _ _ _).mono ?_; rintro e w' ⟨rfl, rfl⟩))
  all_goals go_returns
  all_goals exact ⟨_, _, _, _, _, _, rfl, Drew.mk_put (i := i) (h := h) (by repeat (first | (with_reducible exact Below.refl _ _) | (with_reducible refine Below.ext ?_ (by go_size) _ _) | (with_reducible refine Below.alloc ?_ (by go_size) _) | (with_reducible refine Below.setCell ?_ (by go_size) _) | (with_reducible refine Below.drew ?_) | (with_reducible refine Below.drewN_ ?_ _))) hi0 hi1⟩


def SomeS (w : World) (g : Nat) (A : Option Addr) (n cap : Nat) (e : Ending) (w' : World) : Prop := ∃ s : SS, e = .returned (.agg #[.int .i64 s.l, .bool s.a, .int .i64 s.b, .int .i64 s.p, .bool s.g]) ∧ Drew w g A n cap w'
/- the same functions, the value forgotten -/
def AnyS (w : World) (e : Ending) (w' : World) : Prop := ∃ l a b p g, e = .returned (.agg #[.int .i64 l, .bool a, .int .i64 b, .int .i64 p, .bool g]) ∧ Below w.heap.size w w'
def AnyS2 (w : World) (e : Ending) (w' : World) : Prop := ∃ l a b p g q, e = .returned (.tuple #[.agg #[.int .i64 l, .bool a, .int .i64 b, .int .i64 p, .bool g], .bool q]) ∧ Below w.heap.size w w'
theorem bef_w (l : Int) (a : Bool) (b p : Int) (g : Bool) (w : World) : Calls Try.prog 24 #[.agg #[.int .i64 l, .bool a, .int .i64 b, .int .i64 p, .bool g]] w fun e w' => AnyS w e w' :=
  (specBefore_any ⟨l, a, b, p, g⟩ w).mono fun e w' ⟨h1, h2⟩ => ⟨_, _, _, _, _, h1, h2⟩
theorem grp_w (l : Int) (a : Bool) (b p : Int) (g : Bool) (w : World) : Calls Try.prog 20 #[.agg #[.int .i64 l, .bool a, .int .i64 b, .int .i64 p, .bool g]] w fun e w' => AnyS w e w' :=
  (specGroup_any ⟨l, a, b, p, g⟩ w).mono fun e w' ⟨h1, h2⟩ => ⟨_, _, _, _, _, h1, h2⟩
theorem new_w (m : Int) (w : World) : Calls Try.prog 15 #[.int .i64 m] w fun e w' => AnyS w e w' :=
  (specNew_any m w).mono fun e w' ⟨h1, h2⟩ => ⟨_, _, _, _, _, h1, h2⟩
theorem trf_w (l : Int) (a : Bool) (b p : Int) (g m : Bool) (w : World) : Calls Try.prog 26 #[.agg #[.int .i64 l, .bool a, .int .i64 b, .int .i64 p, .bool g], .bool m] w fun e w' => AnyS2 w e w' :=
  (specTraffic_any ⟨l, a, b, p, g⟩ m w).mono fun e w' ⟨h1, h2⟩ => ⟨_, _, _, _, _, _, h1, h2⟩
theorem hear_w (l : Int) (a : Bool) (b p : Int) (g : Bool) (bf bs bc bp : Int) (bg : Bool) (bt self : Int) (w : World) : Calls Try.prog 28 #[.agg #[.int .i64 l, .bool a, .int .i64 b, .int .i64 p, .bool g], .agg #[.int .i64 bf, .int .i64 bs, .int .i64 bc, .int .i64 bp, .bool bg, .int .i64 bt], .int .i64 self] w fun e w' => AnyS2 w e w' :=
  (specHear_any ⟨l, a, b, p, g⟩ bf bs bc bp bg bt self w).mono fun e w' ⟨h1, h2⟩ => ⟨_, _, _, _, _, _, h1, h2⟩

set_option maxRecDepth 8000 in
set_option maxHeartbeats 4000000 in
theorem l25State_any (g : Nat) (A : Option Addr) (n cap : Nat) (w : World) (hcu : Cuu w g A n cap) :
    Calls Try.prog 46 #[.pointer (some ⟨g, 0, none⟩)] w fun e w' => SomeS w g A n cap e w' := by
  haveI := hcu.nz
  go_enter Try.func46, Try.ntmps46
  go_wp2_with fail
  refine (belowC g A n cap _ _ (by omega) (by repeat (first | exact hcu | (with_reducible refine Cuu.ext ?_ _ _) | (with_reducible refine Cuu.alloc ?_ _) | (with_reducible refine Cuu.put ?_ (by assumption) (by assumption)) | (with_reducible refine Cuu.drew ?_) | (with_reducible refine Cuu.drewN ?_ _)))).mono ?_
  rintro e w1 ⟨x1, rfl, hx0, hx1, hx2, i, h, X1, d1, rfl, hi0, hi1⟩
  have hx3 := hx2 (by omega)
  clear hx2
  go_wp2_with fail
  refine (new_w _ _).mono ?_
  rintro e w2 ⟨l, a, b, p, gg, rfl, hbw⟩
  obtain ⟨X2, d2, rfl⟩ := Below.ext_ hbw
  clear hbw
  go_wp2_with fail
  refine (belowC g A n cap _ _ (by omega) (by repeat (first | exact hcu | (with_reducible refine Cuu.ext ?_ _ _) | (with_reducible refine Cuu.alloc ?_ _) | (with_reducible refine Cuu.put ?_ (by assumption) (by assumption)) | (with_reducible refine Cuu.drew ?_) | (with_reducible refine Cuu.drewN ?_ _)))).mono ?_
  rintro e w3 ⟨x, rfl, hxx0, hxx1, hxx2, i, h, X3, d3, rfl, hi0, hi1⟩
  have hxx3 := hxx2 (by omega)
  clear hxx2
  go_wp2
  go_loopw [4] (fun v wr => ∃ (y : Int) (l : Int) (a : Bool) (b p : Int) (gg : Bool) (i h : Int) (Y : List Obj) (dn : Nat), v = .int .i64 y ∧ 0 ≤ y ∧ y ≤ 12 ∧ 0 ≤ i ∧ i ≤ (n : Int) ∧ wr = World.ext ((World.ext (World.ext ((World.put w g (curO A n cap i h)).alloc (.cells #[.int .i64 0, .bool false, .int .i64 0, .int .i64 0, .bool false] 25)) X1 d1) X2 d2).alloc (.cells #[.int .i64 l, .bool a, .int .i64 b, .int .i64 p, .bool gg] 25)) Y dn) (fun v _ => (intOf v).toNat)
  case atStart => exact ⟨x, l, a, b, p, gg, i, h, X3, d3, rfl, by omega, by omega, hi0, hi1, rfl⟩
  case round =>
    clear hi0 hi1 hxx0 hxx1 hxx3
    obtain ⟨y, l, a, b, p, gg, i, h, Y, dn, rfl, hy0, hy1, hi0, hi1, rfl⟩ := hrel
    by_cases hy : 0 < y
    · go_wp2_with fail
      refine (belowC g A n cap _ _ (by omega) (by repeat (first | exact hcu | (with_reducible refine Cuu.ext ?_ _ _) | (with_reducible refine Cuu.alloc ?_ _) | (with_reducible refine Cuu.put ?_ (by assumption) (by assumption)) | (with_reducible refine Cuu.drew ?_) | (with_reducible refine Cuu.drewN ?_ _)))).mono ?_
      rintro e w4 ⟨z, rfl, hz0, hz1, hz2, i, h, X4, d4, rfl, hi0, hi1⟩
      have hz3 := hz2 (by omega)
      clear hz2
      by_cases hz : z = 0
      · subst hz
        go_wp2
        go_region_with (first | (go_at_call 49; refine (l24Beacon_any g A n cap _ (by repeat (first | exact hcu | (with_reducible refine Cuu.ext ?_ _ _) | (with_reducible refine Cuu.alloc ?_ _) | (with_reducible refine Cuu.put ?_ (by assumption) (by assumption)) | (with_reducible refine Cuu.drew ?_) | (with_reducible refine Cuu.drewN ?_ _)))).mono ?_; rintro e w' ⟨bf, bs, bc, bp, bg, bt, rfl, i, h, X, d, rfl, hi0, hi1⟩) | (go_at_call 47; refine (belowC g A n cap _ _ (by omega) (by repeat (first | exact hcu | (with_reducible refine Cuu.ext ?_ _ _) | (with_reducible refine Cuu.alloc ?_ _) | (with_reducible refine Cuu.put ?_ (by assumption) (by assumption)) | (with_reducible refine Cuu.drew ?_) | (with_reducible refine Cuu.drewN ?_ _)))).mono ?_; rintro e w' ⟨x, rfl, hx0, hx1, hx2, i, h, X, d, rfl, hi0, hi1⟩; have hx3 := hx2 (by omega); clear hx2) | (go_at_call 28; refine (hear_w _ _ _ _ _ _ _ _ _ _ _ _ _).mono ?_; rintro e w' ⟨l', a', b', p', g', q', rfl, hbw⟩; obtain ⟨X, d, rfl⟩ := Below.ext_ hbw; clear hbw))
        all_goals go_wp2
        all_goals
          go_roundw
          case rel => exact ⟨y - 1, l', a', b', p', g', i, h, _, _, rfl, by omega, by omega, hi0, hi1, by first | (with_reducible rfl) | (simp only [wext_ext]; rfl)⟩
          case measure => simp [intOf]; omega
      · by_cases hz1 : z = 1
        · subst hz1
          go_wp2
          go_region_with (first | (go_at_call 50; refine (onceC g A n cap _ _ (by omega) (by repeat (first | exact hcu | (with_reducible refine Cuu.ext ?_ _ _) | (with_reducible refine Cuu.alloc ?_ _) | (with_reducible refine Cuu.put ?_ (by assumption) (by assumption)) | (with_reducible refine Cuu.drew ?_) | (with_reducible refine Cuu.drewN ?_ _)))).mono ?_; rintro e w' ⟨x, rfl, i, h, X, d, rfl, hi0, hi1⟩) | (go_at_call 26; refine (trf_w _ _ _ _ _ _ _).mono ?_; rintro e w' ⟨l', a', b', p', g', q', rfl, hbw⟩; obtain ⟨X, d, rfl⟩ := Below.ext_ hbw; clear hbw))
          all_goals go_wp2
          all_goals
            go_roundw
            case rel => exact ⟨y - 1, l', a', b', p', g', i, h, _, _, rfl, by omega, by omega, hi0, hi1, by first | (with_reducible rfl) | (simp only [wext_ext]; rfl)⟩
            case measure => simp [intOf]; omega
        · by_cases hz2 : z = 2
          · subst hz2
            go_wp2_with (first | (go_at_call 20; refine (grp_w _ _ _ _ _ _).mono ?_; rintro e w' ⟨l', a', b', p', g', rfl, hbw⟩; obtain ⟨X, d, rfl⟩ := Below.ext_ hbw; clear hbw))
            all_goals
              go_roundw
              case rel => exact ⟨y - 1, l', a', b', p', g', i, h, _, _, rfl, by omega, by omega, hi0, hi1, by first | (with_reducible rfl) | (simp only [wext_ext]; rfl)⟩
              case measure => simp [intOf]; omega
          · go_wp2_with (first | (go_at_call 24; refine (bef_w _ _ _ _ _ _).mono ?_; rintro e w' ⟨l', a', b', p', g', rfl, hbw⟩; obtain ⟨X, d, rfl⟩ := Below.ext_ hbw; clear hbw))
            all_goals
              go_roundw
              case rel => exact ⟨y - 1, l', a', b', p', g', i, h, _, _, rfl, by omega, by omega, hi0, hi1, by first | (with_reducible rfl) | (simp only [wext_ext]; rfl)⟩
              case measure => simp [intOf]; omega
    · go_wp2
      go_returns
      exact ⟨⟨l, a, b, p, gg⟩, rfl, Drew.mk_put (i := i) (h := h) (by repeat (first | (with_reducible exact Below.refl _ _) | (with_reducible refine Below.ext ?_ (by go_size) _ _) | (with_reducible refine Below.alloc ?_ (by go_size) _) | (with_reducible refine Below.setCell ?_ (by go_size) _) | (with_reducible refine Below.drew ?_) | (with_reducible refine Below.drewN_ ?_ _))) hi0 hi1⟩

end Go.Proofs.Ytncnlhmakigpgaa
