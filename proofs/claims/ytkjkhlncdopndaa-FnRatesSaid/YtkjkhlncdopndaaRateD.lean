/- ApplyOutcomes of the program and of the reference, and the walk of its exact law. -/
import Derived.Test.YtkjkhlncdopndaaRateC
import Derived.Test.YtkjkhlncdopndaaToBoolS
namespace Go.Proofs.Ytkjkhlncdopndaa
open Go.RowKit
set_option linter.unusedVariables false
set_option linter.unusedSimpArgs false

def sApply (s : RS) (l : List Bool) : RS := l.foldl (fun t g => if g then sSucc t else sFail t) s
theorem sApply_snoc (s : RS) (l : List Bool) (g : Bool) : sApply s (l ++ [g]) = if g then sSucc (sApply s l) else sFail (sApply s l) := by simp [sApply, List.foldl_append]

set_option maxHeartbeats 2000000 in
theorem implApply_any {u : Bool} {T : Nat → Prop} (s : RS) (A : Option Addr) (c : Nat) (xs : List Bool) (w : World) (hx : RwF Value.bool u w T A xs) (hm : xs.length ≤ 1000000000000) :
    Calls Try.prog 31 #[.agg #[.int .i64 s.r, .int .i64 s.go, .int .i64 s.b, .int .i64 s.th, .bool s.pr], .slice A xs.length c] w fun e w' => e = .returned (.agg #[.int .i64 (sApply s xs).r, .int .i64 (sApply s xs).go, .int .i64 (sApply s xs).b, .int .i64 (sApply s xs).th, .bool (sApply s xs).pr]) ∧ Below w.heap.size w w' := by
  have HX := Lib.hid hx
  clear hx
  go_enter Try.func31, Try.ntmps31
  go_wp2
  go_loopw [6, 9] (fun x i wr => ∃ (k d : Nat) (X : List Obj), k ≤ xs.length ∧ i = .int .i64 (k : Int) ∧ wr = World.ext ((w.alloc (.cells #[.int .i64 (sApply s (xs.take k)).r, .int .i64 (sApply s (xs.take k)).go, .int .i64 (sApply s (xs.take k)).b, .int .i64 (sApply s (xs.take k)).th, .bool (sApply s (xs.take k)).pr] 23)).alloc (.cells #[.int .i64 0, .int .i64 0, .int .i64 0, .int .i64 0, .bool false] 23)) X d)
    (fun x i _ => xs.length - (intOf i).toNat)
  case atStart =>
    refine ⟨0, w.drawn, [], Nat.zero_le _, rfl, ?_⟩
    simp only [List.take_zero, sApply, List.foldl_nil]
    exact (wext_nil _).symm
  case round =>
    obtain ⟨k, d, X, hk, rfl, rfl⟩ := hrel
    by_cases hlt : k < xs.length
    · obtain ⟨g, o, rfl, _, hg, hc, _⟩ := HX.out k hlt
      have hlt2 : (k : Int) < (xs.length : Int) := by omega
      have hsn : sApply s (xs.take (k + 1)) = if xs[k] then sSucc (sApply s (xs.take k)) else sFail (sApply s (xs.take k)) := by
        rw [List.take_add_one, List.getElem?_eq_getElem hlt]; exact sApply_snoc _ _ _
      have HSN := Lib.hid hsn
      clear hsn
      generalize xs[k] = x at hc HSN
      generalize sApply s (xs.take k) = t at *
      have hcell : ∀ (cs : Array Value) (X : List Obj) (d : Nat), (World.ext ((w.alloc (.cells cs 23)).alloc (.cells #[.int .i64 0, .int .i64 0, .int .i64 0, .int .i64 0, .bool false] 23)) X d).cell? ⟨g, o + k, none⟩ = some (.bool x) := by
        intro cs X d
        rw [World.cell?_ext _ _ _ _ _ (by simp; omega), World.cell?_alloc_past _ _ _ (by simp; omega), World.cell?_alloc_past _ _ _ hg, hc]
      clear hc
      cases x
      all_goals
        go_wp2_with (first | (go_at_call 17; refine (implSucc_any _ _).mono ?_; rintro e w' ⟨rfl, hbw⟩; obtain ⟨X2, d2, rfl⟩ := Below.ext_ hbw; clear hbw) | (go_at_call 19; refine (implFail_any _ _).mono ?_; rintro e w' ⟨rfl, hbw⟩; obtain ⟨X2, d2, rfl⟩ := Below.ext_ hbw; clear hbw))
        go_roundw
        case rel => exact ⟨k + 1, _, X ++ X2, by omega, by go_num, by rw [HSN.out]; exact wext_ext _ _ _ _ _⟩
        case measure => simp [intOf]; omega
    · obtain rfl : k = xs.length := by omega
      rw [List.take_length]
      go_wp2
      go_returns
      exact ⟨by simp, (by repeat (first | (with_reducible exact Below.refl _ _) | (with_reducible refine Below.ext ?_ (by go_size) _ _) | (with_reducible refine Below.alloc ?_ (by go_size) _) | (with_reducible refine Below.setCell ?_ (by go_size) _) | (with_reducible refine Below.drew ?_) | (with_reducible refine Below.drewN_ ?_ _)))⟩

set_option maxHeartbeats 2000000 in
theorem specApply_any {u : Bool} {T : Nat → Prop} (s : RS) (A : Option Addr) (c : Nat) (xs : List Bool) (w : World) (hx : RwF Value.bool u w T A xs) (hm : xs.length ≤ 1000000000000) :
    Calls Try.prog 29 #[.agg #[.int .i64 s.r, .int .i64 s.go, .int .i64 s.b, .int .i64 s.th, .bool s.pr], .slice A xs.length c] w fun e w' => e = .returned (.agg #[.int .i64 (sApply s xs).r, .int .i64 (sApply s xs).go, .int .i64 (sApply s xs).b, .int .i64 (sApply s xs).th, .bool (sApply s xs).pr]) ∧ Below w.heap.size w w' := by
  have HX := Lib.hid hx
  clear hx
  go_enter Try.func29, Try.ntmps29
  go_wp2
  go_loopw [5] (fun i wr => ∃ (k d : Nat) (X : List Obj), k ≤ xs.length ∧ i = .int .i64 (k : Int) ∧ wr = World.ext ((w.alloc (.cells #[.int .i64 (sApply s (xs.take k)).r, .int .i64 (sApply s (xs.take k)).go, .int .i64 (sApply s (xs.take k)).b, .int .i64 (sApply s (xs.take k)).th, .bool (sApply s (xs.take k)).pr] 23)).alloc (.cells #[.int .i64 0, .int .i64 0, .int .i64 0, .int .i64 0, .bool false] 23)) X d)
    (fun i _ => xs.length - (intOf i).toNat)
  case atStart =>
    refine ⟨0, w.drawn, [], Nat.zero_le _, rfl, ?_⟩
    simp only [List.take_zero, sApply, List.foldl_nil]
    exact (wext_nil _).symm
  case round =>
    obtain ⟨k, d, X, hk, rfl, rfl⟩ := hrel
    by_cases hlt : k < xs.length
    · obtain ⟨g, o, rfl, _, hg, hc, _⟩ := HX.out k hlt
      have hlt2 : (k : Int) < (xs.length : Int) := by omega
      have hsn : sApply s (xs.take (k + 1)) = if xs[k] then sSucc (sApply s (xs.take k)) else sFail (sApply s (xs.take k)) := by
        rw [List.take_add_one, List.getElem?_eq_getElem hlt]; exact sApply_snoc _ _ _
      have HSN := Lib.hid hsn
      clear hsn
      generalize xs[k] = x at hc HSN
      generalize sApply s (xs.take k) = t at *
      have hcell : ∀ (cs : Array Value) (X : List Obj) (d : Nat), (World.ext ((w.alloc (.cells cs 23)).alloc (.cells #[.int .i64 0, .int .i64 0, .int .i64 0, .int .i64 0, .bool false] 23)) X d).cell? ⟨g, o + k, none⟩ = some (.bool x) := by
        intro cs X d
        rw [World.cell?_ext _ _ _ _ _ (by simp; omega), World.cell?_alloc_past _ _ _ (by simp; omega), World.cell?_alloc_past _ _ _ hg, hc]
      clear hc
      cases x
      all_goals
        go_wp2_with (first | (go_at_call 16; refine (specSucc_any _ _).mono ?_; rintro e w' ⟨rfl, hbw⟩; obtain ⟨X2, d2, rfl⟩ := Below.ext_ hbw; clear hbw) | (go_at_call 18; refine (specFail_any _ _).mono ?_; rintro e w' ⟨rfl, hbw⟩; obtain ⟨X2, d2, rfl⟩ := Below.ext_ hbw; clear hbw))
        go_roundw
        case rel => exact ⟨k + 1, _, X ++ X2, by omega, by go_num, by rw [HSN.out]; exact wext_ext _ _ _ _ _⟩
        case measure => simp [intOf]; omega
    · obtain rfl : k = xs.length := by omega
      rw [List.take_length]
      go_wp2
      go_returns
      exact ⟨by simp, (by repeat (first | (with_reducible exact Below.refl _ _) | (with_reducible refine Below.ext ?_ (by go_size) _ _) | (with_reducible refine Below.alloc ?_ (by go_size) _) | (with_reducible refine Below.setCell ?_ (by go_size) _) | (with_reducible refine Below.drew ?_) | (with_reducible refine Below.drewN_ ?_ _)))⟩

set_option maxHeartbeats 2000000 in
theorem applyOutcomes_walk (r go b th : Int) (pr : Bool) (A : Option Addr) (c : Nat) (xs : List Bool) (hr : I64 r) (hgo : I64 go) (hb : I64 b) (hth : I64 th) (w : World) (hx : RwF Value.bool false w (fun g => g < w.heap.size) A xs) (hlen : xs.length ≤ 9223372036854775807) :
    Calls Try.prog 8 #[.agg #[.int .i64 r, .int .i64 go, .int .i64 b, .int .i64 th, .bool pr], .slice A xs.length c] w fun e w' => e = .returned (.bool true) ∧ Below w.heap.size w w' := by
  by_cases hbig : 1048576 < xs.length
  · have hbig2 : (1048576 : Int) < (xs.length : Int) := by omega
    clear hx
    go_enter Try.func8, Try.ntmps8
    go_wp2
    go_ret
    exact ⟨rfl, (by repeat (first | (with_reducible exact Below.refl _ _) | (with_reducible refine Below.ext ?_ (by go_size) _ _) | (with_reducible refine Below.alloc ?_ (by go_size) _) | (with_reducible refine Below.setCell ?_ (by go_size) _) | (with_reducible refine Below.drew ?_) | (with_reducible refine Below.drewN_ ?_ _)))⟩
  have hbig2 : ¬ (1048576 : Int) < (xs.length : Int) := by omega
  have HX := Lib.hid hx
  clear hx hlen
  go_enter Try.func8, Try.ntmps8
  go_wp2_with (first | (go_at_call 14; refine (toRate_any _ _ _ _ _ _).mono ?_; rintro e w' ⟨rfl, hbw⟩; obtain ⟨X, d, rfl⟩ := Below.ext_ hbw; clear hbw))
  refine (toBoolS_any A c xs _ (HX.out.below (by repeat (first | (with_reducible exact Below.refl _ _) | (with_reducible refine Below.ext ?_ (by go_size) _ _) | (with_reducible refine Below.alloc ?_ (by go_size) _) | (with_reducible refine Below.setCell ?_ (by go_size) _) | (with_reducible refine Below.drew ?_) | (with_reducible refine Below.drewN_ ?_ _)))) (by omega)).mono ?_
  rintro e w1 ⟨X1, d1, rfl, rfl, R1⟩
  simp only [World.size_ext, World.size_alloc] at R1
  go_wp2_with fail
  refine (specApply_any ⟨r, go, b, th, pr⟩ _ _ xs _ R1 (by omega)).mono ?_
  rintro e w2 ⟨rfl, hb2⟩
  obtain ⟨X2, d2, rfl⟩ := Below.ext_ hb2
  clear hb2 R1
  go_wp2_with fail
  refine (toBoolS_any A c xs _ (HX.out.below (by repeat (first | (with_reducible exact Below.refl _ _) | (with_reducible refine Below.ext ?_ (by go_size) _ _) | (with_reducible refine Below.alloc ?_ (by go_size) _) | (with_reducible refine Below.setCell ?_ (by go_size) _) | (with_reducible refine Below.drew ?_) | (with_reducible refine Below.drewN_ ?_ _)))) (by omega)).mono ?_
  rintro e w3 ⟨X3, d3, rfl, rfl, R3⟩
  simp only [World.size_ext, World.size_alloc] at R3
  go_wp2_with (first | (go_at_call 14; refine (toRate_any _ _ _ _ _ _).mono ?_; rintro e w' ⟨rfl, hbw⟩; obtain ⟨Xt, dt, rfl⟩ := Below.ext_ hbw; clear hbw))
  have R3' := R3.below (Below.ext (Below.refl _ _) (Nat.le_refl _) Xt dt)
  refine (implApply_any ⟨r, go, b, th, pr⟩ _ _ xs _ R3' (by omega)).mono ?_
  rintro e w4 ⟨rfl, hb4⟩
  have R4 := R3'.below hb4
  obtain ⟨X4, d4, rfl⟩ := Below.ext_ hb4
  clear hb4 R3 R3'
  go_wp2_with (first | (go_at_call 12; refine (eqRate_any _ _ _ _ _ _).mono ?_; rintro e w' ⟨rfl, hbw⟩; obtain ⟨Xe, de, rfl⟩ := Below.ext_ hbw; clear hbw))
  refine (toBoolS_any A c xs _ (HX.out.below (by repeat (first | (with_reducible exact Below.refl _ _) | (with_reducible refine Below.ext ?_ (by go_size) _ _) | (with_reducible refine Below.alloc ?_ (by go_size) _) | (with_reducible refine Below.setCell ?_ (by go_size) _) | (with_reducible refine Below.drew ?_) | (with_reducible refine Below.drewN_ ?_ _)))) (by omega)).mono ?_
  rintro e w5 ⟨X5, d5, rfl, rfl, R5⟩
  simp only [World.size_ext, World.size_alloc] at R5 R4
  go_wp2_with fail
  refine (eqBoolS_any _ _ _ _ xs xs _ (R4.below ?hb5) R5 (by omega) (by omega)).mono ?_
  case hb5 => exact (by repeat (first | (with_reducible exact Below.refl _ _) | (with_reducible refine Below.ext ?_ (by go_size) _ _) | (with_reducible refine Below.alloc ?_ (by go_size) _) | (with_reducible refine Below.setCell ?_ (by go_size) _) | (with_reducible refine Below.drew ?_) | (with_reducible refine Below.drewN_ ?_ _)))
  rintro e w6 ⟨rfl, hb6⟩
  obtain ⟨X6, d6, rfl⟩ := Below.ext_ hb6
  go_wp2
  go_ret
  exact ⟨rfl, (by repeat (first | (with_reducible exact Below.refl _ _) | (with_reducible refine Below.ext ?_ (by go_size) _ _) | (with_reducible refine Below.alloc ?_ (by go_size) _) | (with_reducible refine Below.setCell ?_ (by go_size) _) | (with_reducible refine Below.drew ?_) | (with_reducible refine Below.drewN_ ?_ _)))⟩

end Go.Proofs.Ytkjkhlncdopndaa
