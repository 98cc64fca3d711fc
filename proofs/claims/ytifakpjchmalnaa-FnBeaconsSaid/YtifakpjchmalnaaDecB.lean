/- DecodeBeacon of the program and of the reference. -/
import Derived.Test.YtifakpjchmalnaaDecI
namespace Go.Proofs.Ytifakpjchmalnaa
open Go.RowKit
set_option linter.unusedVariables false
set_option linter.unusedSimpArgs false

attribute [local go_sem ↓] Go.wp_at_zero Go.wp_at_succ
def decB (xs : List Int) : Option (Int × Int × Int × Int × Bool × Int) := match decN xs 6 0 with
  | some ([a, b, c, d, e, f], p) => if p = xs.length ∧ e ≤ 1 ∧ vBeac a b c d (e == 1) f = true then some (a, b, c, d, e == 1, f) else none
  | _ => none
def beE : Option (Int × Int × Int × Int × Bool × Int) → Ending
  | some (a, b, c, d, e, f) => .returned (.tuple #[.agg #[.int .i64 a, .int .i64 b, .int .i64 c, .int .i64 d, .bool e, .int .i64 f], .bool true])
  | none => .returned (.tuple #[.agg #[.int .i64 0, .int .i64 0, .int .i64 0, .int .i64 0, .bool false, .int .i64 0], .bool false])
theorem six {l : List Int} (h : l.length = 6) : ∃ a b c d e f, l = [a, b, c, d, e, f] := by
  match l, h with
  | [a, b, c, d, e, f], _ => exact ⟨a, b, c, d, e, f, rfl⟩
theorem decN_ge {xs : List Int} : ∀ {f p : Nat} {l : List Int} {q : Nat}, decN xs f p = some (l, q) → ∀ x ∈ l, 0 ≤ x ∧ x ≤ 1000000000000
  | 0, p, l, q, h, x, hx => by injection h with h; injection h with h1 h2; rw [← h1] at hx; cases hx
  | f + 1, p, l, q, h, x, hx => by
    cases hr : readU xs (p : Int) with
    | none => rw [decN_none hr] at h; cases h
    | some r =>
      obtain ⟨n, q'⟩ := r
      rw [decN_some hr] at h
      cases hd : decN xs f q' with
      | none => rw [hd] at h; cases h
      | some r2 =>
        obtain ⟨l2, q2⟩ := r2
        rw [hd] at h
        simp only [Option.map_some, Option.some.injEq, Prod.mk.injEq] at h
        rw [← h.1] at hx
        have := (readU_le hr).1
        rcases List.mem_cons.1 hx with rfl | hx
        · omega
        · exact decN_ge hd x hx
theorem decN_pos {xs : List Int} : ∀ {f p : Nat} {l : List Int} {q : Nat}, p ≤ xs.length → decN xs f p = some (l, q) → q ≤ xs.length
  | 0, p, l, q, hp, h => by injection h with h; injection h with h1 h2; omega
  | f + 1, p, l, q, hp, h => by
    cases hr : readU xs (p : Int) with
    | none => rw [decN_none hr] at h; cases h
    | some r =>
      obtain ⟨n, q'⟩ := r
      rw [decN_some hr] at h
      cases hd : decN xs f q' with
      | none => rw [hd] at h; cases h
      | some r2 =>
        obtain ⟨l2, q2⟩ := r2
        rw [hd] at h
        simp only [Option.map_some, Option.some.injEq, Prod.mk.injEq] at h
        rw [← h.2]
        exact decN_pos (readU_le hr).2 hd

theorem implDecS {u : Bool} {T : Nat → Prop} (A : Option Addr) (cp : Nat) (xs : List Int) (a b c d e f : Int) (p : Nat) (hr : decN xs 6 0 = some ([a, b, c, d, e, f], p)) (w : World) (hx : Rw u .u8 w T A xs) (hm : xs.length ≤ 1000000000) (hb : ∀ x ∈ xs, 0 ≤ x ∧ x ≤ 255) :
    Calls Try.prog 47 #[.slice A xs.length cp, .int .i64 0, .int .i64 6] w fun e' w' => ∃ g cap X dn, e' = .returned (.tuple #[.slice (some ⟨g, 0, none⟩) 6 cap, .int .i64 (p : Int), .bool true]) ∧ w' = World.ext w X dn ∧ w.heap.size ≤ g ∧ g < w.heap.size + X.length ∧
      (World.ext w X dn).cell? ⟨g, 0, none⟩ = some (.int .i64 a) ∧ (World.ext w X dn).cell? ⟨g, 1, none⟩ = some (.int .i64 b) ∧ (World.ext w X dn).cell? ⟨g, 2, none⟩ = some (.int .i64 c) ∧ (World.ext w X dn).cell? ⟨g, 3, none⟩ = some (.int .i64 d) ∧ (World.ext w X dn).cell? ⟨g, 4, none⟩ = some (.int .i64 e) ∧ (World.ext w X dn).cell? ⟨g, 5, none⟩ = some (.int .i64 f) := by
  refine (implDec6_any A cp xs w hx hm hb).mono ?_
  rw [hr]
  rintro e' w' ⟨g, cap, X, dn, rfl, rfl, hg, hown⟩
  have hl := own_lt hown
  rw [World.size_ext] at hl
  refine ⟨g, cap, X, dn, rfl, rfl, hg, hl, ?_, ?_, ?_, ?_, ?_, ?_⟩
  all_goals (first | exact hown.cells (g := g) rfl 0 _ rfl | exact hown.cells (g := g) rfl 1 _ rfl | exact hown.cells (g := g) rfl 2 _ rfl | exact hown.cells (g := g) rfl 3 _ rfl | exact hown.cells (g := g) rfl 4 _ rfl | exact hown.cells (g := g) rfl 5 _ rfl)
theorem implDecZ {u : Bool} {T : Nat → Prop} (A : Option Addr) (cp : Nat) (xs : List Int) (hr : decN xs 6 0 = none) (w : World) (hx : Rw u .u8 w T A xs) (hm : xs.length ≤ 1000000000) (hb : ∀ x ∈ xs, 0 ≤ x ∧ x ≤ 255) :
    Calls Try.prog 47 #[.slice A xs.length cp, .int .i64 0, .int .i64 6] w fun e' w' => ∃ g cap X dn, e' = .returned (.tuple #[.slice (some ⟨g, 0, none⟩) 0 cap, .int .i64 0, .bool false]) ∧ w' = World.ext w X dn := by
  refine (implDec6_any A cp xs w hx hm hb).mono ?_
  rw [hr]
  rintro e' w' ⟨g, cap, X, dn, rfl, rfl, hg, hown⟩
  exact ⟨g, cap, X, dn, rfl, rfl⟩

theorem specDecS {u : Bool} {T : Nat → Prop} (A : Option Addr) (cp : Nat) (xs : List Int) (a b c d e f : Int) (p : Nat) (hr : decN xs 6 0 = some ([a, b, c, d, e, f], p)) (w : World) (hx : Rw u .u8 w T A xs) (hm : xs.length ≤ 1000000000) (hb : ∀ x ∈ xs, 0 ≤ x ∧ x ≤ 255) :
    Calls Try.prog 50 #[.slice A xs.length cp, .int .i64 0, .int .i64 6] w fun e' w' => ∃ g cap X dn, e' = .returned (.tuple #[.slice (some ⟨g, 0, none⟩) 6 cap, .int .i64 (p : Int), .bool true]) ∧ w' = World.ext w X dn ∧ w.heap.size ≤ g ∧ g < w.heap.size + X.length ∧
      (World.ext w X dn).cell? ⟨g, 0, none⟩ = some (.int .i64 a) ∧ (World.ext w X dn).cell? ⟨g, 1, none⟩ = some (.int .i64 b) ∧ (World.ext w X dn).cell? ⟨g, 2, none⟩ = some (.int .i64 c) ∧ (World.ext w X dn).cell? ⟨g, 3, none⟩ = some (.int .i64 d) ∧ (World.ext w X dn).cell? ⟨g, 4, none⟩ = some (.int .i64 e) ∧ (World.ext w X dn).cell? ⟨g, 5, none⟩ = some (.int .i64 f) := by
  refine (specDec6_any A cp xs w hx hm hb).mono ?_
  rw [hr]
  rintro e' w' ⟨g, cap, X, dn, rfl, rfl, hg, hown⟩
  have hl := own_lt hown
  rw [World.size_ext] at hl
  refine ⟨g, cap, X, dn, rfl, rfl, hg, hl, ?_, ?_, ?_, ?_, ?_, ?_⟩
  all_goals (first | exact hown.cells (g := g) rfl 0 _ rfl | exact hown.cells (g := g) rfl 1 _ rfl | exact hown.cells (g := g) rfl 2 _ rfl | exact hown.cells (g := g) rfl 3 _ rfl | exact hown.cells (g := g) rfl 4 _ rfl | exact hown.cells (g := g) rfl 5 _ rfl)
theorem specDecZ {u : Bool} {T : Nat → Prop} (A : Option Addr) (cp : Nat) (xs : List Int) (hr : decN xs 6 0 = none) (w : World) (hx : Rw u .u8 w T A xs) (hm : xs.length ≤ 1000000000) (hb : ∀ x ∈ xs, 0 ≤ x ∧ x ≤ 255) :
    Calls Try.prog 50 #[.slice A xs.length cp, .int .i64 0, .int .i64 6] w fun e' w' => ∃ g cap X dn, e' = .returned (.tuple #[.slice (some ⟨g, 0, none⟩) 0 cap, .int .i64 0, .bool false]) ∧ w' = World.ext w X dn := by
  refine (specDec6_any A cp xs w hx hm hb).mono ?_
  rw [hr]
  rintro e' w' ⟨g, cap, X, dn, rfl, rfl, hg, hown⟩
  exact ⟨g, cap, X, dn, rfl, rfl⟩

set_option maxRecDepth 8000 in
set_option maxHeartbeats 4000000 in
theorem implDecB_any {u : Bool} {T : Nat → Prop} (A : Option Addr) (cp : Nat) (xs : List Int) (w : World) (hx : Rw u .u8 w T A xs) (hm : xs.length ≤ 1000000000) (hb : ∀ x ∈ xs, 0 ≤ x ∧ x ≤ 255) :
    Calls Try.prog 21 #[.slice A xs.length cp] w fun e w' => e = beE (decB xs) ∧ Below w.heap.size w w' := by
  have HX := Lib.hid hx
  have HB := Lib.hid hb
  clear hx hb
  cases hd : decN xs 6 0 with
  | none =>
    have HE : Hid (beE (decB xs) = beE none) := Lib.hid (by rw [decB, hd])
    have HD := Lib.hid hd
    clear hd
    rw [HE.out]
    unfold beE
    go_enter Try.func21, Try.ntmps21
    go_wp2_with (first | (go_at_call 47; refine (implDecZ A cp xs HD.out _ (HX.out.below ((Below.refl _ _).alloc (Nat.le_refl _) _)) hm HB.out).mono ?_; rintro e' w' ⟨g, cap, X, dn, rfl, rfl⟩))
    go_returns
    exact ⟨rfl, (by repeat (first | (with_reducible exact Below.refl _ _) | (with_reducible refine Below.ext ?_ (by go_size) _ _) | (with_reducible refine Below.alloc ?_ (by go_size) _) | (with_reducible refine Below.setCell ?_ (by go_size) _) | (with_reducible refine Below.drew ?_) | (with_reducible refine Below.drewN_ ?_ _)))⟩
  | some r =>
    obtain ⟨l, p⟩ := r
    obtain ⟨a, b, c, d, e, f, rfl⟩ := six (decN_len hd)
    have hp := decN_pos (Nat.zero_le _) hd
    have he0 := decN_ge hd e (by simp)
    have HD := Lib.hid hd
    by_cases hpl : p = xs.length
    · by_cases he : 1 < e
      · have HE : Hid (beE (decB xs) = beE none) := Lib.hid (by rw [decB, hd]; simp only; rw [if_neg (by rintro ⟨_, h, _⟩; omega)])
        have hpe : ((p : Int) != (xs.length : Int)) = false := by simp; omega
        have HP := Lib.hid hpl
        clear hd hpl
        rw [HE.out]
        unfold beE
        go_enter Try.func21, Try.ntmps21
        go_wp2_with (first | (go_at_call 47; refine (implDecS A cp xs a b c d e f p HD.out _ (HX.out.below ((Below.refl _ _).alloc (Nat.le_refl _) _)) hm HB.out).mono ?_; rintro e' w' ⟨g, cap, X, dn, rfl, rfl, hg, hgl, hc0, hc1, hc2, hc3, hc4, hc5⟩))
        go_returns
        exact ⟨rfl, (by repeat (first | (with_reducible exact Below.refl _ _) | (with_reducible refine Below.ext ?_ (by go_size) _ _) | (with_reducible refine Below.alloc ?_ (by go_size) _) | (with_reducible refine Below.setCell ?_ (by go_size) _) | (with_reducible refine Below.drew ?_) | (with_reducible refine Below.drewN_ ?_ _)))⟩
      · have hle : e ≤ 1 := by omega
        have hpe : ((p : Int) != (xs.length : Int)) = false := by simp; omega
        cases hv : vBeac a b c d (e == 1) f
        · have HE : Hid (beE (decB xs) = beE none) := Lib.hid (by rw [decB, hd]; simp only; rw [if_neg (by rintro ⟨_, _, h⟩; rw [hv] at h; cases h)])
          have HP := Lib.hid hpl
          have HV := Lib.hid hv
          clear hd hpl hv
          rw [HE.out]
          unfold beE
          go_enter Try.func21, Try.ntmps21
          go_wp2_with (first | (go_at_call 47; refine (implDecS A cp xs a b c d e f p HD.out _ (HX.out.below ((Below.refl _ _).alloc (Nat.le_refl _) _)) hm HB.out).mono ?_; rintro e' w' ⟨g, cap, X, dn, rfl, rfl, hg, hgl, hc0, hc1, hc2, hc3, hc4, hc5⟩))
          go_region_held3 (fun w' => w'.cell? ⟨g, 0, none⟩ = some (.int .i64 a) ∧ w'.cell? ⟨g, 1, none⟩ = some (.int .i64 b) ∧ w'.cell? ⟨g, 2, none⟩ = some (.int .i64 c) ∧ w'.cell? ⟨g, 3, none⟩ = some (.int .i64 d) ∧ w'.cell? ⟨g, 4, none⟩ = some (.int .i64 e) ∧ w'.cell? ⟨g, 5, none⟩ = some (.int .i64 f)) (first | exact ⟨hc0, hc1, hc2, hc3, hc4, hc5⟩ | exact ⟨(World.cell?_alloc_lt _ _ _ (by rw [World.size_ext]; exact hgl)).trans hc0, (World.cell?_alloc_lt _ _ _ (by rw [World.size_ext]; exact hgl)).trans hc1, (World.cell?_alloc_lt _ _ _ (by rw [World.size_ext]; exact hgl)).trans hc2, (World.cell?_alloc_lt _ _ _ (by rw [World.size_ext]; exact hgl)).trans hc3, (World.cell?_alloc_lt _ _ _ (by rw [World.size_ext]; exact hgl)).trans hc4, (World.cell?_alloc_lt _ _ _ (by rw [World.size_ext]; exact hgl)).trans hc5⟩) (fail)
          all_goals go_wp2_with (first | (go_at_call 17; refine (implVB_any a b c d (e == 1) f _).mono ?_; rw [HV.out]; rintro e w' ⟨rfl, hbw⟩; obtain ⟨X2, d2, rfl⟩ := Below.ext_ hbw; clear hbw))
          all_goals go_returns
          all_goals exact ⟨rfl, (by repeat (first | (with_reducible exact Below.refl _ _) | (with_reducible refine Below.ext ?_ (by go_size) _ _) | (with_reducible refine Below.alloc ?_ (by go_size) _) | (with_reducible refine Below.setCell ?_ (by go_size) _) | (with_reducible refine Below.drew ?_) | (with_reducible refine Below.drewN_ ?_ _)))⟩
        · have HE : Hid (beE (decB xs) = beE (some (a, b, c, d, e == 1, f))) := Lib.hid (by rw [decB, hd]; simp only; rw [if_pos ⟨hpl, hle, hv⟩])
          have HP := Lib.hid hpl
          have HV := Lib.hid hv
          clear hd hpl hv
          rw [HE.out]
          unfold beE
          go_enter Try.func21, Try.ntmps21
          go_wp2_with (first | (go_at_call 47; refine (implDecS A cp xs a b c d e f p HD.out _ (HX.out.below ((Below.refl _ _).alloc (Nat.le_refl _) _)) hm HB.out).mono ?_; rintro e' w' ⟨g, cap, X, dn, rfl, rfl, hg, hgl, hc0, hc1, hc2, hc3, hc4, hc5⟩))
          go_region_held3 (fun w' => w'.cell? ⟨g, 0, none⟩ = some (.int .i64 a) ∧ w'.cell? ⟨g, 1, none⟩ = some (.int .i64 b) ∧ w'.cell? ⟨g, 2, none⟩ = some (.int .i64 c) ∧ w'.cell? ⟨g, 3, none⟩ = some (.int .i64 d) ∧ w'.cell? ⟨g, 4, none⟩ = some (.int .i64 e) ∧ w'.cell? ⟨g, 5, none⟩ = some (.int .i64 f)) (first | exact ⟨hc0, hc1, hc2, hc3, hc4, hc5⟩ | exact ⟨(World.cell?_alloc_lt _ _ _ (by rw [World.size_ext]; exact hgl)).trans hc0, (World.cell?_alloc_lt _ _ _ (by rw [World.size_ext]; exact hgl)).trans hc1, (World.cell?_alloc_lt _ _ _ (by rw [World.size_ext]; exact hgl)).trans hc2, (World.cell?_alloc_lt _ _ _ (by rw [World.size_ext]; exact hgl)).trans hc3, (World.cell?_alloc_lt _ _ _ (by rw [World.size_ext]; exact hgl)).trans hc4, (World.cell?_alloc_lt _ _ _ (by rw [World.size_ext]; exact hgl)).trans hc5⟩) (fail)
          all_goals go_wp2_with (first | (go_at_call 17; refine (implVB_any a b c d (e == 1) f _).mono ?_; rw [HV.out]; rintro e w' ⟨rfl, hbw⟩; obtain ⟨X2, d2, rfl⟩ := Below.ext_ hbw; clear hbw))
          all_goals go_returns
          all_goals exact ⟨rfl, (by repeat (first | (with_reducible exact Below.refl _ _) | (with_reducible refine Below.ext ?_ (by go_size) _ _) | (with_reducible refine Below.alloc ?_ (by go_size) _) | (with_reducible refine Below.setCell ?_ (by go_size) _) | (with_reducible refine Below.drew ?_) | (with_reducible refine Below.drewN_ ?_ _)))⟩
    · have HE : Hid (beE (decB xs) = beE none) := Lib.hid (by rw [decB, hd]; simp only; rw [if_neg (by rintro ⟨h, _⟩; exact hpl h)])
      have hpe : ((p : Int) != (xs.length : Int)) = true := by simp; omega
      have HP := Lib.hid hpl
      clear hd hpl
      rw [HE.out]
      unfold beE
      go_enter Try.func21, Try.ntmps21
      go_wp2_with (first | (go_at_call 47; refine (implDecS A cp xs a b c d e f p HD.out _ (HX.out.below ((Below.refl _ _).alloc (Nat.le_refl _) _)) hm HB.out).mono ?_; rintro e' w' ⟨g, cap, X, dn, rfl, rfl, hg, hgl, hc0, hc1, hc2, hc3, hc4, hc5⟩))
      go_returns
      exact ⟨rfl, (by repeat (first | (with_reducible exact Below.refl _ _) | (with_reducible refine Below.ext ?_ (by go_size) _ _) | (with_reducible refine Below.alloc ?_ (by go_size) _) | (with_reducible refine Below.setCell ?_ (by go_size) _) | (with_reducible refine Below.drew ?_) | (with_reducible refine Below.drewN_ ?_ _)))⟩

set_option maxRecDepth 8000 in
set_option maxHeartbeats 4000000 in
theorem specDecB_any {u : Bool} {T : Nat → Prop} (A : Option Addr) (cp : Nat) (xs : List Int) (w : World) (hx : Rw u .u8 w T A xs) (hm : xs.length ≤ 1000000000) (hb : ∀ x ∈ xs, 0 ≤ x ∧ x ≤ 255) :
    Calls Try.prog 23 #[.slice A xs.length cp] w fun e w' => e = beE (decB xs) ∧ Below w.heap.size w w' := by
  have HX := Lib.hid hx
  have HB := Lib.hid hb
  clear hx hb
  cases hd : decN xs 6 0 with
  | none =>
    have HE : Hid (beE (decB xs) = beE none) := Lib.hid (by rw [decB, hd])
    have HD := Lib.hid hd
    clear hd
    rw [HE.out]
    unfold beE
    go_enter Try.func23, Try.ntmps23
    go_wp2_with (first | (go_at_call 50; refine (specDecZ A cp xs HD.out _ (HX.out.below ((Below.refl _ _).alloc (Nat.le_refl _) _)) hm HB.out).mono ?_; rintro e' w' ⟨g, cap, X, dn, rfl, rfl⟩))
    go_returns
    exact ⟨rfl, (by repeat (first | (with_reducible exact Below.refl _ _) | (with_reducible refine Below.ext ?_ (by go_size) _ _) | (with_reducible refine Below.alloc ?_ (by go_size) _) | (with_reducible refine Below.setCell ?_ (by go_size) _) | (with_reducible refine Below.drew ?_) | (with_reducible refine Below.drewN_ ?_ _)))⟩
  | some r =>
    obtain ⟨l, p⟩ := r
    obtain ⟨a, b, c, d, e, f, rfl⟩ := six (decN_len hd)
    have hp := decN_pos (Nat.zero_le _) hd
    have he0 := decN_ge hd e (by simp)
    have HD := Lib.hid hd
    by_cases hpl : p = xs.length
    · by_cases he : 1 < e
      · have HE : Hid (beE (decB xs) = beE none) := Lib.hid (by rw [decB, hd]; simp only; rw [if_neg (by rintro ⟨_, h, _⟩; omega)])
        have hpe : ((p : Int) != (xs.length : Int)) = false := by simp; omega
        have HP := Lib.hid hpl
        clear hd hpl
        rw [HE.out]
        unfold beE
        go_enter Try.func23, Try.ntmps23
        go_wp2_with (first | (go_at_call 50; refine (specDecS A cp xs a b c d e f p HD.out _ (HX.out.below ((Below.refl _ _).alloc (Nat.le_refl _) _)) hm HB.out).mono ?_; rintro e' w' ⟨g, cap, X, dn, rfl, rfl, hg, hgl, hc0, hc1, hc2, hc3, hc4, hc5⟩))
        go_returns
        exact ⟨rfl, (by repeat (first | (with_reducible exact Below.refl _ _) | (with_reducible refine Below.ext ?_ (by go_size) _ _) | (with_reducible refine Below.alloc ?_ (by go_size) _) | (with_reducible refine Below.setCell ?_ (by go_size) _) | (with_reducible refine Below.drew ?_) | (with_reducible refine Below.drewN_ ?_ _)))⟩
      · have hle : e ≤ 1 := by omega
        have hpe : ((p : Int) != (xs.length : Int)) = false := by simp; omega
        cases hv : vBeac a b c d (e == 1) f
        · have HE : Hid (beE (decB xs) = beE none) := Lib.hid (by rw [decB, hd]; simp only; rw [if_neg (by rintro ⟨_, _, h⟩; rw [hv] at h; cases h)])
          have HP := Lib.hid hpl
          have HV := Lib.hid hv
          clear hd hpl hv
          rw [HE.out]
          unfold beE
          go_enter Try.func23, Try.ntmps23
          go_wp2_with (first | (go_at_call 50; refine (specDecS A cp xs a b c d e f p HD.out _ (HX.out.below ((Below.refl _ _).alloc (Nat.le_refl _) _)) hm HB.out).mono ?_; rintro e' w' ⟨g, cap, X, dn, rfl, rfl, hg, hgl, hc0, hc1, hc2, hc3, hc4, hc5⟩))
          go_region_held3 (fun w' => w'.cell? ⟨g, 0, none⟩ = some (.int .i64 a) ∧ w'.cell? ⟨g, 1, none⟩ = some (.int .i64 b) ∧ w'.cell? ⟨g, 2, none⟩ = some (.int .i64 c) ∧ w'.cell? ⟨g, 3, none⟩ = some (.int .i64 d) ∧ w'.cell? ⟨g, 4, none⟩ = some (.int .i64 e) ∧ w'.cell? ⟨g, 5, none⟩ = some (.int .i64 f)) (first | exact ⟨hc0, hc1, hc2, hc3, hc4, hc5⟩ | exact ⟨(World.cell?_alloc_lt _ _ _ (by rw [World.size_ext]; exact hgl)).trans hc0, (World.cell?_alloc_lt _ _ _ (by rw [World.size_ext]; exact hgl)).trans hc1, (World.cell?_alloc_lt _ _ _ (by rw [World.size_ext]; exact hgl)).trans hc2, (World.cell?_alloc_lt _ _ _ (by rw [World.size_ext]; exact hgl)).trans hc3, (World.cell?_alloc_lt _ _ _ (by rw [World.size_ext]; exact hgl)).trans hc4, (World.cell?_alloc_lt _ _ _ (by rw [World.size_ext]; exact hgl)).trans hc5⟩) (fail)
          all_goals go_wp2_with (first | (go_at_call 16; refine (specVB_any a b c d (e == 1) f _).mono ?_; rw [HV.out]; rintro e w' ⟨rfl, hbw⟩; obtain ⟨X2, d2, rfl⟩ := Below.ext_ hbw; clear hbw))
          all_goals go_returns
          all_goals exact ⟨rfl, (by repeat (first | (with_reducible exact Below.refl _ _) | (with_reducible refine Below.ext ?_ (by go_size) _ _) | (with_reducible refine Below.alloc ?_ (by go_size) _) | (with_reducible refine Below.setCell ?_ (by go_size) _) | (with_reducible refine Below.drew ?_) | (with_reducible refine Below.drewN_ ?_ _)))⟩
        · have HE : Hid (beE (decB xs) = beE (some (a, b, c, d, e == 1, f))) := Lib.hid (by rw [decB, hd]; simp only; rw [if_pos ⟨hpl, hle, hv⟩])
          have HP := Lib.hid hpl
          have HV := Lib.hid hv
          clear hd hpl hv
          rw [HE.out]
          unfold beE
          go_enter Try.func23, Try.ntmps23
          go_wp2_with (first | (go_at_call 50; refine (specDecS A cp xs a b c d e f p HD.out _ (HX.out.below ((Below.refl _ _).alloc (Nat.le_refl _) _)) hm HB.out).mono ?_; rintro e' w' ⟨g, cap, X, dn, rfl, rfl, hg, hgl, hc0, hc1, hc2, hc3, hc4, hc5⟩))
          go_region_held3 (fun w' => w'.cell? ⟨g, 0, none⟩ = some (.int .i64 a) ∧ w'.cell? ⟨g, 1, none⟩ = some (.int .i64 b) ∧ w'.cell? ⟨g, 2, none⟩ = some (.int .i64 c) ∧ w'.cell? ⟨g, 3, none⟩ = some (.int .i64 d) ∧ w'.cell? ⟨g, 4, none⟩ = some (.int .i64 e) ∧ w'.cell? ⟨g, 5, none⟩ = some (.int .i64 f)) (first | exact ⟨hc0, hc1, hc2, hc3, hc4, hc5⟩ | exact ⟨(World.cell?_alloc_lt _ _ _ (by rw [World.size_ext]; exact hgl)).trans hc0, (World.cell?_alloc_lt _ _ _ (by rw [World.size_ext]; exact hgl)).trans hc1, (World.cell?_alloc_lt _ _ _ (by rw [World.size_ext]; exact hgl)).trans hc2, (World.cell?_alloc_lt _ _ _ (by rw [World.size_ext]; exact hgl)).trans hc3, (World.cell?_alloc_lt _ _ _ (by rw [World.size_ext]; exact hgl)).trans hc4, (World.cell?_alloc_lt _ _ _ (by rw [World.size_ext]; exact hgl)).trans hc5⟩) (fail)
          all_goals go_wp2_with (first | (go_at_call 16; refine (specVB_any a b c d (e == 1) f _).mono ?_; rw [HV.out]; rintro e w' ⟨rfl, hbw⟩; obtain ⟨X2, d2, rfl⟩ := Below.ext_ hbw; clear hbw))
          all_goals go_returns
          all_goals exact ⟨rfl, (by repeat (first | (with_reducible exact Below.refl _ _) | (with_reducible refine Below.ext ?_ (by go_size) _ _) | (with_reducible refine Below.alloc ?_ (by go_size) _) | (with_reducible refine Below.setCell ?_ (by go_size) _) | (with_reducible refine Below.drew ?_) | (with_reducible refine Below.drewN_ ?_ _)))⟩
    · have HE : Hid (beE (decB xs) = beE none) := Lib.hid (by rw [decB, hd]; simp only; rw [if_neg (by rintro ⟨h, _⟩; exact hpl h)])
      have hpe : ((p : Int) != (xs.length : Int)) = true := by simp; omega
      have HP := Lib.hid hpl
      clear hd hpl
      rw [HE.out]
      unfold beE
      go_enter Try.func23, Try.ntmps23
      go_wp2_with (first | (go_at_call 50; refine (specDecS A cp xs a b c d e f p HD.out _ (HX.out.below ((Below.refl _ _).alloc (Nat.le_refl _) _)) hm HB.out).mono ?_; rintro e' w' ⟨g, cap, X, dn, rfl, rfl, hg, hgl, hc0, hc1, hc2, hc3, hc4, hc5⟩))
      go_returns
      exact ⟨rfl, (by repeat (first | (with_reducible exact Below.refl _ _) | (with_reducible refine Below.ext ?_ (by go_size) _ _) | (with_reducible refine Below.alloc ?_ (by go_size) _) | (with_reducible refine Below.setCell ?_ (by go_size) _) | (with_reducible refine Below.drew ?_) | (with_reducible refine Below.drewN_ ?_ _)))⟩

end Go.Proofs.Ytifakpjchmalnaa
