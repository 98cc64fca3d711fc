/- DecodeInts of the program and of the reference, six numbers from the start. -/
import Derived.Test.YtifakpjchmalnaaDec
namespace Go.Proofs.Ytifakpjchmalnaa
open Go.RowKit
set_option linter.unusedVariables false
set_option linter.unusedSimpArgs false

def decN (xs : List Int) : Nat → Nat → Option (List Int × Nat)
  | 0, p => some ([], p)
  | f + 1, p => match readU xs (p : Int) with
    | none => none
    | some (n, q) => (decN xs f q).map fun r => ((n : Int) :: r.1, r.2)
def decL : Option (List Int × Nat) → List Int
  | none => []
  | some r => r.1
def decP : Option (List Int × Nat) → Nat
  | none => 0
  | some r => r.2
theorem decN_some {xs : List Int} {f p n q : Nat} (h : readU xs (p : Int) = some (n, q)) : decN xs (f + 1) p = (decN xs f q).map fun r => ((n : Int) :: r.1, r.2) := by rw [decN, h]
theorem decN_none {xs : List Int} {f p : Nat} (h : readU xs (p : Int) = none) : decN xs (f + 1) p = none := by rw [decN, h]
theorem rdv_le {xs : List Int} : ∀ {f off k n m q : Nat}, rdv xs off f k n = some (m, q) → m ≤ 1000000000000 ∧ q ≤ xs.length := by
  intro f
  induction f with
  | zero => intro off k n m q h; cases h
  | succ f ih =>
    intro off k n m q h
    cases hx : xs[off + k]? with
    | none => rw [rdv, hx] at h; cases h
    | some c =>
      have hlt : off + k < xs.length := by
        rcases Nat.lt_or_ge (off + k) xs.length with h1 | h1
        · exact h1
        · rw [List.getElem?_eq_none h1] at hx; cases hx
      rw [rdv_at hx] at h
      split at h
      · split at h
        · cases h
        · injection h with h
          injection h with h1 h2
          omega
      · exact ih h
theorem readU_le {xs : List Int} {a : Int} {m q : Nat} (h : readU xs a = some (m, q)) : m ≤ 1000000000000 ∧ q ≤ xs.length := by
  unfold readU at h
  split at h
  · exact rdv_le h
  · cases h
theorem decN_len {xs : List Int} : ∀ {f p : Nat} {l : List Int} {q : Nat}, decN xs f p = some (l, q) → l.length = f
  | 0, p, l, q, h => by injection h with h; injection h with h1 h2; rw [← h1]; rfl
  | f + 1, p, l, q, h => by
    cases hr : readU xs (p : Int) with
    | none => rw [decN_none hr] at h; cases h
    | some r =>
      obtain ⟨n, q'⟩ := r
      rw [decN_some hr] at h
      cases hd : decN xs f q' with
      | none => rw [hd] at h; cases h
      | some r2 =>
        obtain ⟨l2, q2⟩ := r2
        rw [hd] at h
        simp only [Option.map_some, Option.some.injEq, Prod.mk.injEq] at h
        rw [← h.1, List.length_cons, decN_len hd]
def DecPost (w : World) (e : Ending) (w' : World) (r : Option (List Int × Nat)) : Prop := ∃ g cap X d, e = .returned (.tuple #[.slice (some ⟨g, 0, none⟩) (decL r).length cap, .int .i64 (decP r : Int), .bool r.isSome]) ∧ w' = World.ext w X d ∧ w.heap.size ≤ g ∧
  w'.ownsRow w.heap.size 3 1 (.slice (some ⟨g, 0, none⟩) (decL r).length cap) (decL r).length ((decL r).map (Value.int .i64))
theorem decPost_none {w w' : World} {k : Nat} {r : Option (List Int × Nat)} (hr : r = none) (hb : Below w.heap.size w w') (hk : w.heap.size ≤ k) (h : w'.heap[k]? = some (.cells #[] 3 (0, 0))) : DecPost w (.returned (.tuple #[.slice (some ⟨k, 0, none⟩) 0 0, .int .i64 0, .bool false])) w' r := by
  subst hr
  obtain ⟨X, d, rfl⟩ := Below.ext_ hb
  exact ⟨k, 0, X, d, rfl, rfl, hk, own_new hk h⟩

theorem implReadS {u : Bool} {T : Nat → Prop} (A : Option Addr) (c : Nat) (xs : List Int) (p n q : Nat) (hr : readU xs (p : Int) = some (n, q)) (w : World) (hx : Rw u .u8 w T A xs) (hm : xs.length ≤ 100000000000) (hb : ∀ x ∈ xs, 0 ≤ x ∧ x ≤ 255) :
    Calls Try.prog 57 #[.slice A xs.length c, .int .i64 (p : Int)] w fun e w' => e = .returned (.tuple #[.int .i64 (n : Int), .int .i64 (q : Int), .bool true]) ∧ w = w' :=
  (implRead_any A c xs p w hx hm hb).mono fun e w' ⟨h1, h2⟩ => ⟨by rw [h1, hr]; rfl, h2⟩
theorem implReadZ {u : Bool} {T : Nat → Prop} (A : Option Addr) (c : Nat) (xs : List Int) (p : Nat) (hr : readU xs (p : Int) = none) (w : World) (hx : Rw u .u8 w T A xs) (hm : xs.length ≤ 100000000000) (hb : ∀ x ∈ xs, 0 ≤ x ∧ x ≤ 255) :
    Calls Try.prog 57 #[.slice A xs.length c, .int .i64 (p : Int)] w fun e w' => e = .returned (.tuple #[.int .i64 0, .int .i64 0, .bool false]) ∧ w = w' :=
  (implRead_any A c xs p w hx hm hb).mono fun e w' ⟨h1, h2⟩ => ⟨by rw [h1, hr]; rfl, h2⟩

theorem specReadS {u : Bool} {T : Nat → Prop} (A : Option Addr) (c : Nat) (xs : List Int) (p n q : Nat) (hr : readU xs (p : Int) = some (n, q)) (w : World) (hx : Rw u .u8 w T A xs) (hm : xs.length ≤ 100000000000) (hb : ∀ x ∈ xs, 0 ≤ x ∧ x ≤ 255) :
    Calls Try.prog 59 #[.slice A xs.length c, .int .i64 (p : Int)] w fun e w' => e = .returned (.tuple #[.int .i64 (n : Int), .int .i64 (q : Int), .bool true]) ∧ w = w' :=
  (specRead_any A c xs p w hx hm hb).mono fun e w' ⟨h1, h2⟩ => ⟨by rw [h1, hr]; rfl, h2⟩
theorem specReadZ {u : Bool} {T : Nat → Prop} (A : Option Addr) (c : Nat) (xs : List Int) (p : Nat) (hr : readU xs (p : Int) = none) (w : World) (hx : Rw u .u8 w T A xs) (hm : xs.length ≤ 100000000000) (hb : ∀ x ∈ xs, 0 ≤ x ∧ x ≤ 255) :
    Calls Try.prog 59 #[.slice A xs.length c, .int .i64 (p : Int)] w fun e w' => e = .returned (.tuple #[.int .i64 0, .int .i64 0, .bool false]) ∧ w = w' :=
  (specRead_any A c xs p w hx hm hb).mono fun e w' ⟨h1, h2⟩ => ⟨by rw [h1, hr]; rfl, h2⟩

set_option maxRecDepth 8000 in
set_option maxHeartbeats 2000000 in
theorem implDec6_any {u : Bool} {T : Nat → Prop} (A : Option Addr) (c : Nat) (xs : List Int) (w : World) (hx : Rw u .u8 w T A xs) (hm : xs.length ≤ 1000000000) (hb : ∀ x ∈ xs, 0 ≤ x ∧ x ≤ 255) :
    Calls Try.prog 47 #[.slice A xs.length c, .int .i64 0, .int .i64 6] w fun e w' => DecPost w e w' (decN xs 6 0) := by
  obtain ⟨i0, hi, hz0, hz1, hz2⟩ := info_parts infoInt
  have HX := Lib.hid hx
  have HB := Lib.hid hb
  clear hx hb
  have h1 : inR 6 0 100 = true := by decide
  have h2 : inR 0 0 (xs.length : Int) = true := inR_of (by omega)
  go_enter Try.func47, Try.ntmps47
  go_wp2_with (first | (go_at_call 39; refine (inRange_any _ _ _ _).mono ?_; rintro e w' ⟨rfl, rfl⟩))
  go_loopw [9, 10, 11] (fun v a i wr => ∃ (k p g cap : Nat) (X : List Obj) (d : Nat) (acc : List Int), k ≤ 6 ∧ i = .int .i64 (k : Int) ∧ a = .int .i64 (p : Int) ∧ v = .slice (some ⟨g, 0, none⟩) acc.length cap ∧ wr = World.ext w X d ∧ acc.length ≤ 6 ∧ p ≤ 1000000000 ∧ w.heap.size ≤ g ∧
      Hid (acc.length = k ∧ decN xs 6 0 = (decN xs (6 - k) p).map fun r => (acc ++ r.1, r.2)) ∧ wr.ownsRow w.heap.size 3 1 v acc.length (acc.map (Value.int .i64)))
    (fun v a i _ => 6 - (intOf i).toNat)
  case atStart =>
    exact ⟨0, 0, w.heap.size, 0, [.cells #[] 3 (0, 0)], w.drawn, [], by omega, rfl, rfl, rfl, rfl, by simp, by omega, Nat.le_refl _, Lib.hid ⟨rfl, by simp⟩, own_new (Nat.le_refl _) (World.heap_new _ _ _ rfl)⟩
  case round =>
    obtain ⟨k, p, g, cap, X, d, acc, hk, rfl, rfl, rfl, rfl, hal, hp, hg, hacc, hown⟩ := hrel
    by_cases hk6 : k < 6
    · have hst : 6 - k = (6 - (k + 1)) + 1 := by omega
      cases hr : readU xs (p : Int) with
      | none =>
        have HE : Hid (decN xs 6 0 = none) := Lib.hid (by rw [hacc.out.2, hst, decN_none hr]; rfl)
        have HR := Lib.hid hr
        clear hr hst hown
        go_wp2_with (first | (go_at_call 57; refine (implReadZ A c xs p HR.out _ (HX.out.below (Below.ext (Below.refl _ _) (Nat.le_refl _) X d)) (by omega) HB.out).mono ?_; rintro e w' ⟨rfl, rfl⟩))
        go_returns
        refine decPost_none HE.out ((Below.ext (Below.refl _ _) (Nat.le_refl _) X d).alloc (by simp) _) ?_ (World.heap_new _ _ _ (by simp))
        omega
      | some r =>
        obtain ⟨n, q⟩ := r
        have hle := readU_le hr
        have hq : q ≤ 1000000000 := by omega
        have HN : Hid (decN xs 6 0 = (decN xs (6 - (k + 1)) q).map fun r => ((acc ++ [(n : Int)]) ++ r.1, r.2)) := Lib.hid (by
          rw [hacc.out.2, hst, decN_some hr, Option.map_map]
          congr 1
          funext r
          simp)
        have HR := Lib.hid hr
        have hal2 : acc.length < 6 := by have := hacc.out.1; omega
        clear hr hst
        go_wp2_with (first | (go_at_call 57; refine (implReadS A c xs p n q HR.out _ (HX.out.below (Below.ext (Below.refl _ _) (Nat.le_refl _) X d)) (by omega) HB.out).mono ?_; rintro e w' ⟨rfl, rfl⟩) | (at_builtin; refine wpList_append_own _ rfl _ _ 54 rfl w.heap.size 3 i0 (.int .i64 0) 1 8 Try.underlying54 hi hz0 hz1 hz2 rfl (by decide) _ _ _ rfl (hown.alloc _) ⟨w.heap.size + X.length, 0, none⟩ 1 1 [.int .i64 (n : Int)] rfl rfl ?c1 ?c2 ?c3 ?c4 ?c5 ?_))
        case c1 =>
          intro j u hj
          match j, hj with
          | 0, hj => simp at hj; subst hj; simp [Addr.add, go_sem]
        case c2 => intro u hu; simp at hu; subst hu; rfl
        case c3 => unfold maxLen; simp; omega
        case c4 => omega
        case c5 => simp <;> omega
        · intro v' w1 hown' hgrow hnil
          obtain ⟨g', cap', rfl, hg'⟩ := own_some hown' (by intro h; simp [h] at hnil)
          have hbe : Below w.heap.size w w1 := ((Below.ext (Below.refl _ _) (Nat.le_refl _) X d).alloc (by simp <;> omega) _).grown hgrow (by simp <;> omega) (own_ge hown)
          obtain ⟨X', d', rfl⟩ := Below.ext_ hbe
          clear hgrow hbe hown hnil
          go_wp2
          go_roundw
          case rel => exact ⟨k + 1, q, g', cap', X', d', acc ++ [(n : Int)], by omega, by go_num, rfl, by simp, rfl, by simp; omega, hq, hg', Lib.hid ⟨by simp [hacc.out.1], HN.out⟩, by simpa using hown'⟩
          case measure => simp [intOf]; omega
    · obtain rfl : k = 6 := by omega
      have HE : Hid (decN xs 6 0 = some (acc, p)) := Lib.hid (by rw [hacc.out.2]; simp [decN])
      go_wp2
      go_returns
      rw [HE.out]
      exact ⟨g, cap, X, d, rfl, rfl, hg, hown⟩

set_option maxRecDepth 8000 in
set_option maxHeartbeats 2000000 in
theorem specDec6_any {u : Bool} {T : Nat → Prop} (A : Option Addr) (c : Nat) (xs : List Int) (w : World) (hx : Rw u .u8 w T A xs) (hm : xs.length ≤ 1000000000) (hb : ∀ x ∈ xs, 0 ≤ x ∧ x ≤ 255) :
    Calls Try.prog 50 #[.slice A xs.length c, .int .i64 0, .int .i64 6] w fun e w' => DecPost w e w' (decN xs 6 0) := by
  obtain ⟨i0, hi, hz0, hz1, hz2⟩ := info_parts infoInt
  have HX := Lib.hid hx
  have HB := Lib.hid hb
  clear hx hb
  have h1 : inR 6 0 100 = true := by decide
  have h2 : inR 0 0 (xs.length : Int) = true := inR_of (by omega)
  go_enter Try.func50, Try.ntmps50
  go_wp2_with (first | (go_at_call 36; refine (l1In_any _ _ _ _).mono ?_; rintro e w' ⟨rfl, rfl⟩))
  go_loopw [1, 9, 10] (fun a v i wr => ∃ (k p g cap : Nat) (X : List Obj) (d : Nat) (acc : List Int), k ≤ 6 ∧ i = .int .i64 (k : Int) ∧ a = .int .i64 (p : Int) ∧ v = .slice (some ⟨g, 0, none⟩) acc.length cap ∧ wr = World.ext w X d ∧ acc.length ≤ 6 ∧ p ≤ 1000000000 ∧ w.heap.size ≤ g ∧
      Hid (acc.length = k ∧ decN xs 6 0 = (decN xs (6 - k) p).map fun r => (acc ++ r.1, r.2)) ∧ wr.ownsRow w.heap.size 3 1 v acc.length (acc.map (Value.int .i64)))
    (fun a v i _ => 6 - (intOf i).toNat)
  case atStart =>
    exact ⟨0, 0, w.heap.size, 0, [.cells #[] 3 (0, 0)], w.drawn, [], by omega, rfl, rfl, rfl, rfl, by simp, by omega, Nat.le_refl _, Lib.hid ⟨rfl, by simp⟩, own_new (Nat.le_refl _) (World.heap_new _ _ _ rfl)⟩
  case round =>
    obtain ⟨k, p, g, cap, X, d, acc, hk, rfl, rfl, rfl, rfl, hal, hp, hg, hacc, hown⟩ := hrel
    by_cases hk6 : k < 6
    · have hst : 6 - k = (6 - (k + 1)) + 1 := by omega
      cases hr : readU xs (p : Int) with
      | none =>
        have HE : Hid (decN xs 6 0 = none) := Lib.hid (by rw [hacc.out.2, hst, decN_none hr]; rfl)
        have HR := Lib.hid hr
        clear hr hst hown
        go_wp2_with (first | (go_at_call 59; refine (specReadZ A c xs p HR.out _ (HX.out.below (Below.ext (Below.refl _ _) (Nat.le_refl _) X d)) (by omega) HB.out).mono ?_; rintro e w' ⟨rfl, rfl⟩))
        go_returns
        refine decPost_none HE.out ((Below.ext (Below.refl _ _) (Nat.le_refl _) X d).alloc (by simp) _) ?_ (World.heap_new _ _ _ (by simp))
        omega
      | some r =>
        obtain ⟨n, q⟩ := r
        have hle := readU_le hr
        have hq : q ≤ 1000000000 := by omega
        have HN : Hid (decN xs 6 0 = (decN xs (6 - (k + 1)) q).map fun r => ((acc ++ [(n : Int)]) ++ r.1, r.2)) := Lib.hid (by
          rw [hacc.out.2, hst, decN_some hr, Option.map_map]
          congr 1
          funext r
          simp)
        have HR := Lib.hid hr
        have hal2 : acc.length < 6 := by have := hacc.out.1; omega
        clear hr hst
        go_wp2_with (first | (go_at_call 59; refine (specReadS A c xs p n q HR.out _ (HX.out.below (Below.ext (Below.refl _ _) (Nat.le_refl _) X d)) (by omega) HB.out).mono ?_; rintro e w' ⟨rfl, rfl⟩) | (at_builtin; refine wpList_append_own _ rfl _ _ 54 rfl w.heap.size 3 i0 (.int .i64 0) 1 8 Try.underlying54 hi hz0 hz1 hz2 rfl (by decide) _ _ _ rfl (hown.alloc _) ⟨w.heap.size + X.length, 0, none⟩ 1 1 [.int .i64 (n : Int)] rfl rfl ?c1 ?c2 ?c3 ?c4 ?c5 ?_))
        case c1 =>
          intro j u hj
          match j, hj with
          | 0, hj => simp at hj; subst hj; simp [Addr.add, go_sem]
        case c2 => intro u hu; simp at hu; subst hu; rfl
        case c3 => unfold maxLen; simp; omega
        case c4 => omega
        case c5 => simp <;> omega
        · intro v' w1 hown' hgrow hnil
          obtain ⟨g', cap', rfl, hg'⟩ := own_some hown' (by intro h; simp [h] at hnil)
          have hbe : Below w.heap.size w w1 := ((Below.ext (Below.refl _ _) (Nat.le_refl _) X d).alloc (by simp <;> omega) _).grown hgrow (by simp <;> omega) (own_ge hown)
          obtain ⟨X', d', rfl⟩ := Below.ext_ hbe
          clear hgrow hbe hown hnil
          go_wp2
          go_roundw
          case rel => exact ⟨k + 1, q, g', cap', X', d', acc ++ [(n : Int)], by omega, by go_num, rfl, by simp, rfl, by simp; omega, hq, hg', Lib.hid ⟨by simp [hacc.out.1], HN.out⟩, by simpa using hown'⟩
          case measure => simp [intOf]; omega
    · obtain rfl : k = 6 := by omega
      have HE : Hid (decN xs 6 0 = some (acc, p)) := Lib.hid (by rw [hacc.out.2]; simp [decN])
      go_wp2
      go_returns
      rw [HE.out]
      exact ⟨g, cap, X, d, rfl, rfl, hg, hown⟩

end Go.Proofs.Ytifakpjchmalnaa
