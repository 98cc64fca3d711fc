/- EncodeInts, EncodeBeacon of the program and of the reference. -/
import Derived.Test.YtifakpjchmalnaaUvar
import Derived.Test.YtifakpjchmalnaaBeacA
namespace Go.Proofs.Ytifakpjchmalnaa
open Go.RowKit
set_option linter.unusedVariables false
set_option linter.unusedSimpArgs false

theorem ext_ext (w : World) (X Y : List Obj) (d e : Nat) : World.ext (World.ext w X d) Y e = World.ext w (X ++ Y) e := by
  simp only [World.ext, World.mk.injEq, and_true]
  apply Array.ext'
  simp
theorem ext_nil (w : World) : World.ext w [] w.drawn = w := by simp [World.ext]
def encL (xs : List Int) : List Int := xs.flatMap uvar
theorem uvar_len (n : Int) : (uvar n).length ≤ 6 := by
  unfold uvar
  split
  · exact uv_len _ _
  · simp
theorem encL_len (xs : List Int) : (encL xs).length ≤ 6 * xs.length := by
  induction xs with
  | nil => simp [encL]
  | cons x xs ih =>
    have := uvar_len x
    simp only [encL, List.flatMap_cons, List.length_append, List.length_cons] at *
    omega
theorem uv_ub : ∀ f n : Nat, ∀ y ∈ uv f n, 0 ≤ y ∧ y ≤ 255
  | 0, _, y, h => by cases h
  | f + 1, n, y, h => by
    rw [uv] at h
    split at h
    · simp at h; omega
    · rcases List.mem_cons.1 h with rfl | h
      · omega
      · exact uv_ub f _ y h
theorem encL_ub (xs : List Int) : ∀ y ∈ encL xs, 0 ≤ y ∧ y ≤ 255 := by
  intro y hy
  simp only [encL, List.mem_flatMap] at hy
  obtain ⟨x, _, hx⟩ := hy
  unfold uvar at hx
  split at hx
  · exact uv_ub _ _ y hx
  · cases hx
theorem encL_take (xs : List Int) (i : Nat) (h : i < xs.length) : encL (xs.take (i + 1)) = encL (xs.take i) ++ uvar xs[i] := by
  rw [List.take_succ_eq_append_getElem h]
  simp only [encL, List.flatMap_append, List.flatMap_cons, List.flatMap_nil, List.append_nil]

set_option maxRecDepth 8000 in
set_option maxHeartbeats 2000000 in
theorem implEnc_any {u : Bool} {T : Nat → Prop} (A : Option Addr) (c : Nat) (xs : List Int) (w : World) (hx : Rw u .i64 w T A xs) (hm : xs.length ≤ 1000000) :
    Calls Try.prog 48 #[.slice A xs.length c] w fun e w' => NewB w e w' (encL xs) := by
  have HX := Lib.hid hx
  clear hx
  go_enter Try.func48, Try.ntmps48
  go_wp2
  go_loopw [3, 5, 9] (fun v q p wr => ∃ (i g cap : Nat) (X : List Obj) (d : Nat) (acc : List Int), i ≤ xs.length ∧ acc.length ≤ 6 * i ∧ p = .int .i64 (i : Int) ∧ v = .slice (some ⟨g, 0, none⟩) acc.length cap ∧ wr = World.ext w X d ∧ w.heap.size ≤ g ∧
      Hid (acc = encL (xs.take i)) ∧ wr.ownsRow w.heap.size 5 1 v acc.length (acc.map (Value.int .u8)))
    (fun v q p _ => xs.length - (intOf p).toNat)
  case atStart =>
    exact ⟨0, w.heap.size, 0, [.cells #[] 5 (0, 0)], w.drawn, [], Nat.zero_le _, by simp, rfl, rfl, rfl, Nat.le_refl _, Lib.hid (by simp [encL]), own_new (Nat.le_refl _) (World.heap_new _ _ _ rfl)⟩
  case round =>
    obtain ⟨i, g, cap, X, d, acc, hi, hal, rfl, rfl, rfl, hg, hacc, hown⟩ := hrel
    by_cases hlt : i < xs.length
    · obtain ⟨gx, ox, rfl, _, hgx, hc, _⟩ := HX.out i hlt
      have hlt2 : (i : Int) < (xs.length : Int) := by omega
      have hst := encL_take xs i hlt
      generalize xs[i] = x at hc hst
      have HST := Lib.hid hst
      clear hst
      go_wp2_with (first | (go_at_call 58; refine (implUvar_any (some ⟨g, 0, none⟩) cap acc x _ (Rw.of_own hown) (by omega)).mono ?_; rintro e w' ⟨g', cap', X', d', rfl, rfl, hg', hown'⟩))
      rw [ext_ext] at hown' ⊢
      have hown2 := own_lower hown' (by simp : w.heap.size ≤ (World.ext w X d).heap.size)
      have hul := uvar_len x
      clear hown hown'
      go_roundw
      case rel => exact ⟨i + 1, g', cap', X ++ X', d', acc ++ uvar x, by omega, by simp; omega, by go_num, by simp, rfl, by simp at hg'; omega, Lib.hid (by rw [HST.out, ← hacc.out]), by simpa using hown2⟩
      case measure => simp [intOf]; omega
    · obtain rfl : i = xs.length := by omega
      have hacc2 : acc = encL xs := by rw [hacc.out, List.take_length]
      go_wp2
      go_ret
      rw [← hacc2]
      exact ⟨g, cap, X, d, rfl, rfl, hg, hown⟩

set_option maxRecDepth 8000 in
set_option maxHeartbeats 2000000 in
theorem specEnc_any {u : Bool} {T : Nat → Prop} (A : Option Addr) (c : Nat) (xs : List Int) (w : World) (hx : Rw u .i64 w T A xs) (hm : xs.length ≤ 1000000) :
    Calls Try.prog 45 #[.slice A xs.length c] w fun e w' => NewB w e w' (encL xs) := by
  have HX := Lib.hid hx
  clear hx
  go_enter Try.func45, Try.ntmps45
  go_wp2
  go_loopw [3, 4] (fun v p wr => ∃ (i g cap : Nat) (X : List Obj) (d : Nat) (acc : List Int), i ≤ xs.length ∧ acc.length ≤ 6 * i ∧ p = .int .i64 (i : Int) ∧ v = .slice (some ⟨g, 0, none⟩) acc.length cap ∧ wr = World.ext w X d ∧ w.heap.size ≤ g ∧
      Hid (acc = encL (xs.take i)) ∧ wr.ownsRow w.heap.size 5 1 v acc.length (acc.map (Value.int .u8)))
    (fun v p _ => xs.length - (intOf p).toNat)
  case atStart =>
    exact ⟨0, w.heap.size, 0, [.cells #[] 5 (0, 0)], w.drawn, [], Nat.zero_le _, by simp, rfl, rfl, rfl, Nat.le_refl _, Lib.hid (by simp [encL]), own_new (Nat.le_refl _) (World.heap_new _ _ _ rfl)⟩
  case round =>
    obtain ⟨i, g, cap, X, d, acc, hi, hal, rfl, rfl, rfl, hg, hacc, hown⟩ := hrel
    by_cases hlt : i < xs.length
    · obtain ⟨gx, ox, rfl, _, hgx, hc, _⟩ := HX.out i hlt
      have hlt2 : (i : Int) < (xs.length : Int) := by omega
      have hst := encL_take xs i hlt
      generalize xs[i] = x at hc hst
      have HST := Lib.hid hst
      clear hst
      go_wp2_with (first | (go_at_call 55; refine (specUvar_any (some ⟨g, 0, none⟩) cap acc x _ (Rw.of_own hown) (by omega)).mono ?_; rintro e w' ⟨g', cap', X', d', rfl, rfl, hg', hown'⟩))
      rw [ext_ext] at hown' ⊢
      have hown2 := own_lower hown' (by simp : w.heap.size ≤ (World.ext w X d).heap.size)
      have hul := uvar_len x
      clear hown hown'
      go_roundw
      case rel => exact ⟨i + 1, g', cap', X ++ X', d', acc ++ uvar x, by omega, by simp; omega, by go_num, by simp, rfl, by simp at hg'; omega, Lib.hid (by rw [HST.out, ← hacc.out]), by simpa using hown2⟩
      case measure => simp [intOf]; omega
    · obtain rfl : i = xs.length := by omega
      have hacc2 : acc = encL xs := by rw [hacc.out, List.take_length]
      go_wp2
      go_ret
      rw [← hacc2]
      exact ⟨g, cap, X, d, rfl, rfl, hg, hown⟩

end Go.Proofs.Ytifakpjchmalnaa
