/- EncodeBeacon of the program and of the reference. -/
import Derived.Test.YtifakpjchmalnaaEnc
import Derived.Deep.RegionHeld3
import Derived.Deep.DrawnRows
namespace Go.Proofs.Ytifakpjchmalnaa
open Go.RowKit
set_option linter.unusedVariables false
set_option linter.unusedSimpArgs false

attribute [local go_sem ↓] Go.wp_at_zero Go.wp_at_succ
def bi (g : Bool) : Int := if g then 1 else 0
def encB (f sl c p : Int) (g : Bool) (t : Int) : List Int := if vBeac f sl c p g t then encL [f, sl, c, p, bi g, t] else []
theorem encB_le (f sl c p : Int) (g : Bool) (t : Int) : (encB f sl c p g t).length ≤ 36 := by
  unfold encB
  split
  · exact encL_len _
  · simp
theorem encB_ub (f sl c p : Int) (g : Bool) (t : Int) : ∀ y ∈ encB f sl c p g t, 0 ≤ y ∧ y ≤ 255 := by
  unfold encB
  split
  · exact encL_ub _
  · intro y hy; cases hy
theorem newB_nil {w w' : World} {k : Nat} (hb : Below w.heap.size w w') (hk : w.heap.size ≤ k) (h : w'.heap[k]? = some (.cells #[] 5 (0, 0))) : NewB w (.returned (.slice (some ⟨k, 0, none⟩) 0 0)) w' [] := by
  obtain ⟨X, d, rfl⟩ := Below.ext_ hb
  exact ⟨k, 0, X, d, rfl, rfl, hk, own_new hk h⟩
theorem newB_of {w w1 w' : World} {v : Value} {g cap : Nat} {xs : List Int} (hb : Below w.heap.size w w') (hg : w.heap.size ≤ g) (hv : v = .slice (some ⟨g, 0, none⟩) xs.length cap)
    (h : w'.ownsRow w1.heap.size 5 1 (.slice (some ⟨g, 0, none⟩) xs.length cap) xs.length (xs.map (Value.int .u8))) (h1 : w.heap.size ≤ w1.heap.size) : NewB w (.returned v) w' xs := by
  obtain ⟨X, d, rfl⟩ := Below.ext_ hb
  exact ⟨g, cap, X, d, by rw [hv], rfl, hg, own_lower h h1⟩
theorem rw6 {W : World} {k : Nat} {a b c d e f : Int} {t : TypeId} (h : W.heap[k]? = some (.cells #[.int .i64 a, .int .i64 b, .int .i64 c, .int .i64 d, .int .i64 e, .int .i64 f] t)) :
    Rw false .i64 W (fun _ => True) (some ⟨k, 0, none⟩) [a, b, c, d, e, f] := by
  intro j hj
  have hk : k < W.heap.size := by
    rcases Nat.lt_or_ge k W.heap.size with h1 | h1
    · exact h1
    · rw [Array.getElem?_eq_none h1] at h; cases h
  refine ⟨k, 0, rfl, trivial, hk, ?_, fun h => by cases h⟩
  simp only [World.cell?, h]
  simp only [List.length_cons, List.length_nil] at hj
  match j, hj with
  | 0, _ | 1, _ | 2, _ | 3, _ | 4, _ | 5, _ => rfl
theorem implEnc6 (a b c d e f : Int) (k : Nat) (t : TypeId) (w : World) (h : w.heap[k]? = some (.cells #[.int .i64 a, .int .i64 b, .int .i64 c, .int .i64 d, .int .i64 e, .int .i64 f] t)) :
    Calls Try.prog 48 #[.slice (some ⟨k, 0, none⟩) 6 6] w fun e' w' => NewB w e' w' (encL [a, b, c, d, e, f]) := implEnc_any _ _ [a, b, c, d, e, f] w (rw6 h) (by simp)
theorem specEnc6 (a b c d e f : Int) (k : Nat) (t : TypeId) (w : World) (h : w.heap[k]? = some (.cells #[.int .i64 a, .int .i64 b, .int .i64 c, .int .i64 d, .int .i64 e, .int .i64 f] t)) :
    Calls Try.prog 45 #[.slice (some ⟨k, 0, none⟩) 6 6] w fun e' w' => NewB w e' w' (encL [a, b, c, d, e, f]) := specEnc_any _ _ [a, b, c, d, e, f] w (rw6 h) (by simp)
theorem boolToInt_any (g : Bool) (w : World) : Calls Try.prog 49 #[.bool g] w fun e w' => e = .returned (.int .i64 (bi g)) ∧ w = w' := by
  cases g
  · go_enter Try.func49, Try.ntmps49
    go_wp2
    go_ret
    exact ⟨rfl, rfl⟩
  · go_enter Try.func49, Try.ntmps49
    go_wp2
    go_ret
    exact ⟨rfl, rfl⟩

set_option maxHeartbeats 4000000 in
theorem implEncB_any (f sl c p : Int) (g : Bool) (t : Int) (w : World) :
    Calls Try.prog 22 #[.agg #[.int .i64 f, .int .i64 sl, .int .i64 c, .int .i64 p, .bool g, .int .i64 t]] w fun e w' => NewB w e w' (encB f sl c p g t) := by
  cases hv : vBeac f sl c p g t
  · have he : encB f sl c p g t = [] := by simp [encB, hv]
    rw [he]
    go_enter Try.func22, Try.ntmps22
    go_wp2_with (first | (go_at_call 17; refine (implVB_any _ _ _ _ _ _ _).mono ?_; rintro e w' ⟨rfl, hbw⟩; obtain ⟨X, d, rfl⟩ := Below.ext_ hbw; clear hbw))
    go_ret
    refine newB_nil (by repeat (first | (with_reducible exact Below.refl _ _) | (with_reducible refine Below.ext ?_ (by go_size) _ _) | (with_reducible refine Below.alloc ?_ (by go_size) _) | (with_reducible refine Below.setCell ?_ (by go_size) _) | (with_reducible refine Below.drew ?_) | (with_reducible refine Below.drewN_ ?_ _))) ?_ (World.heap_new _ _ _ (by simp))
    omega
  · have he : encB f sl c p g t = encL [f, sl, c, p, bi g, t] := by simp [encB, hv]
    rw [he]
    go_enter Try.func22, Try.ntmps22
    go_wp2_with (first | (go_at_call 17; refine (implVB_any _ _ _ _ _ _ _).mono ?_; rintro e w' ⟨rfl, hbw⟩; obtain ⟨X, d, rfl⟩ := Below.ext_ hbw; clear hbw))
    go_region_held3 (fun w' => w'.cell? ⟨w.heap.size, 0, none⟩ = some (.int .i64 f) ∧ w'.cell? ⟨w.heap.size, 1, none⟩ = some (.int .i64 sl) ∧ w'.cell? ⟨w.heap.size, 2, none⟩ = some (.int .i64 c) ∧ w'.cell? ⟨w.heap.size, 3, none⟩ = some (.int .i64 p) ∧ w'.cell? ⟨w.heap.size, 4, none⟩ = some (.bool g) ∧ w'.cell? ⟨w.heap.size, 5, none⟩ = some (.int .i64 t)) (simp [go_sem]) (first | (go_at_call 49; refine (boolToInt_any _ _).mono ?_; rintro e w' ⟨rfl, rfl⟩) | (go_at_call 48; refine Calls.mono (implEnc6 f sl c p (bi g) t _ 3 _ ?_) ?_; exact World.heap_new _ _ _ (by simp); rintro e w' ⟨g', cap', X', d', rfl, rfl, hg', hown⟩))
    all_goals go_wp2
    all_goals go_ret
    all_goals exact newB_of (by repeat (first | (with_reducible exact Below.refl _ _) | (with_reducible refine Below.ext ?_ (by go_size) _ _) | (with_reducible refine Below.alloc ?_ (by go_size) _) | (with_reducible refine Below.setCell ?_ (by go_size) _) | (with_reducible refine Below.drew ?_) | (with_reducible refine Below.drewN_ ?_ _))) (by simp at hg' <;> omega) rfl hown (by simp <;> omega)

set_option maxHeartbeats 4000000 in
theorem specEncB_any (f sl c p : Int) (g : Bool) (t : Int) (w : World) :
    Calls Try.prog 31 #[.agg #[.int .i64 f, .int .i64 sl, .int .i64 c, .int .i64 p, .bool g, .int .i64 t]] w fun e w' => NewB w e w' (encB f sl c p g t) := by
  cases hv : vBeac f sl c p g t
  · have he : encB f sl c p g t = [] := by simp [encB, hv]
    rw [he]
    go_enter Try.func31, Try.ntmps31
    go_wp2_with (first | (go_at_call 16; refine (specVB_any _ _ _ _ _ _ _).mono ?_; rintro e w' ⟨rfl, hbw⟩; obtain ⟨X, d, rfl⟩ := Below.ext_ hbw; clear hbw))
    go_ret
    refine newB_nil (by repeat (first | (with_reducible exact Below.refl _ _) | (with_reducible refine Below.ext ?_ (by go_size) _ _) | (with_reducible refine Below.alloc ?_ (by go_size) _) | (with_reducible refine Below.setCell ?_ (by go_size) _) | (with_reducible refine Below.drew ?_) | (with_reducible refine Below.drewN_ ?_ _))) ?_ (World.heap_new _ _ _ (by simp))
    omega
  · have he : encB f sl c p g t = encL [f, sl, c, p, bi g, t] := by simp [encB, hv]
    rw [he]
    cases g
    · go_enter Try.func31, Try.ntmps31
      go_wp2_with (first | (go_at_call 16; refine (specVB_any _ _ _ _ _ _ _).mono ?_; rintro e w' ⟨rfl, hbw⟩; obtain ⟨X, d, rfl⟩ := Below.ext_ hbw; clear hbw))
      (go_at_call 45; refine Calls.mono (specEnc6 f sl c p 0 t _ 3 _ ?_) ?_; exact World.heap_new _ _ _ (by simp); rintro e w' ⟨g', cap', X', d', rfl, rfl, hg', hown⟩)
      all_goals go_wp2
      all_goals go_ret
      all_goals exact newB_of (by repeat (first | (with_reducible exact Below.refl _ _) | (with_reducible refine Below.ext ?_ (by go_size) _ _) | (with_reducible refine Below.alloc ?_ (by go_size) _) | (with_reducible refine Below.setCell ?_ (by go_size) _) | (with_reducible refine Below.drew ?_) | (with_reducible refine Below.drewN_ ?_ _))) (by simp at hg' <;> omega) rfl hown (by simp <;> omega)
    · go_enter Try.func31, Try.ntmps31
      go_wp2_with (first | (go_at_call 16; refine (specVB_any _ _ _ _ _ _ _).mono ?_; rintro e w' ⟨rfl, hbw⟩; obtain ⟨X, d, rfl⟩ := Below.ext_ hbw; clear hbw))
      (go_at_call 45; refine Calls.mono (specEnc6 f sl c p 1 t _ 3 _ ?_) ?_; exact World.heap_new _ _ _ (by simp); rintro e w' ⟨g', cap', X', d', rfl, rfl, hg', hown⟩)
      all_goals go_wp2
      all_goals go_ret
      all_goals exact newB_of (by repeat (first | (with_reducible exact Below.refl _ _) | (with_reducible refine Below.ext ?_ (by go_size) _ _) | (with_reducible refine Below.alloc ?_ (by go_size) _) | (with_reducible refine Below.setCell ?_ (by go_size) _) | (with_reducible refine Below.drew ?_) | (with_reducible refine Below.drewN_ ?_ _))) (by simp at hg' <;> omega) rfl hown (by simp <;> omega)

end Go.Proofs.Ytifakpjchmalnaa
