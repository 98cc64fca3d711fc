/- toBoolS of the laws: a copy of a slice in new memory; eqBoolS. -/
import Derived.Test.YtkjkhlncdopndaaRowF
namespace Go.Proofs.Ytkjkhlncdopndaa
open Go.RowKit
set_option linter.unusedVariables false
set_option linter.unusedSimpArgs false

theorem infoBoolS : (Try.prog.info? 4).map (fun i => (i.zero, i.size, i.bytes)) = some (some (.bool false), 1, 1) := by kernel_rfl

set_option maxHeartbeats 1000000 in
theorem toBoolS_any {u : Bool} {T : Nat → Prop} (A : Option Addr) (c : Nat) (xs : List Bool) (w : World) (hx : RwF Value.bool u w T A xs) (hm : xs.length ≤ 1000000000000) :
    Calls Try.prog 30 #[.slice A xs.length c] w fun e w' => ∃ X d, e = .returned (.slice (some ⟨w.heap.size, 0, none⟩) xs.length xs.length) ∧ w' = World.ext w X d ∧ RwF Value.bool true w' (fun g => g = w.heap.size) (some ⟨w.heap.size, 0, none⟩) xs := by
  obtain ⟨i0, hi, hz0, hz1, hz2⟩ := info_parts infoBoolS
  have HX := Lib.hid hx
  clear hx
  have hmk : ∀ W : World, (Instr.makeSlice 41 (.int .i64 (xs.length : Int)) (.int .i64 (xs.length : Int))).run Try.prog W = .ok (.slice (some ⟨W.heap.size, 0, none⟩) xs.length xs.length) (W.alloc (.cells (madeCells #[.bool false] (xs.length * 1)) 4)) := by
    intro W
    have h1 := run_make (P := Try.prog) W 41 4 i0 (.bool false) Try.underlying41 hi hz0 .i64 .i64 (xs.length : Int) (xs.length : Int) (by omega) (by omega) (by rw [hz2]; omega) (by omega)
    rw [hz1] at h1
    simpa [Value.cells] using h1
  have HMS := Lib.hid (made_size (.bool false) xs.length)
  have HMA := Lib.hid (made_at (.bool false) xs.length)
  generalize madeCells #[.bool false] (xs.length * 1) = cur0 at *
  go_enter Try.func30, Try.ntmps30
  go_wp2
  go_loopw [4] (fun p wr => ∃ (i : Nat) (cur : Array Value), i ≤ xs.length ∧ p = .int .i64 (i : Int) ∧ wr = w.alloc (.cells cur 4) ∧ Hid (cur.size = xs.length ∧ ∀ j (h : j < xs.length), cur[j]? = some (if j < i then Value.bool xs[j] else .bool false)))
    (fun p _ => xs.length - (intOf p).toNat)
  case atStart =>
    exact ⟨0, cur0, Nat.zero_le _, rfl, rfl, HMS.out, fun j h => by rw [if_neg (by omega)]; exact HMA.out j h⟩
  case round =>
    obtain ⟨i, cur, hi, rfl, rfl, hcur⟩ := hrel
    by_cases hlt : i < xs.length
    · obtain ⟨g, o, rfl, _, hg, hc, _⟩ := HX.out i hlt
      have hlt2 : (i : Int) < (xs.length : Int) := by omega
      have hci : cur[i]? = some (if i < i then Value.bool xs[i] else .bool false) := hcur.out.2 i hlt
      rw [if_neg (by omega)] at hci
      have hxi : xs[i]? = some xs[i] := List.getElem?_eq_getElem hlt
      generalize xs[i] = x at hc hxi
      have HXI := Lib.hid hxi
      clear hxi
      go_wp2
      go_roundw
      case rel =>
        refine ⟨i + 1, cur.setIfInBounds i (Value.bool x), by omega, by go_num, rfl, by simpa using hcur.out.1, fun j h => ?_⟩
        rw [Array.getElem?_setIfInBounds]
        by_cases hji : i = j
        · subst hji
          rw [if_pos rfl, if_pos (by rw [hcur.out.1]; exact h), if_pos (by omega)]
          have := HXI.out
          rw [List.getElem?_eq_getElem h] at this
          injection this with this
          rw [this]
        · rw [if_neg hji, hcur.out.2 j h]
          by_cases hj : j < i
          · rw [if_pos hj, if_pos (by omega)]
          · rw [if_neg hj, if_neg (by omega)]
      case measure => simp [intOf]; omega
    · obtain rfl : i = xs.length := by omega
      go_wp2
      go_ret
      refine ⟨[.cells cur 4], w.drawn, rfl, ?_, ?_⟩
      · simp only [World.ext, World.alloc, World.mk.injEq, and_true]
        apply Array.ext'
        simp
      · exact RwF.of_alloc w _ cur xs (fun k hk => by rw [hcur.out.2 k hk, if_pos hk])

set_option maxHeartbeats 1000000 in
theorem eqBoolS_any {u1 u2 : Bool} {T1 T2 : Nat → Prop} (A B : Option Addr) (c1 c2 : Nat) (xs ys : List Bool) (w : World) (hx : RwF Value.bool u1 w T1 A xs) (hy : RwF Value.bool u2 w T2 B ys) (hm : xs.length ≤ 1000000000000) (hm2 : ys.length ≤ 1000000000000) :
    Calls Try.prog 32 #[.slice A xs.length c1, .slice B ys.length c2] w fun e w' => e = .returned (.bool (xs == ys)) ∧ Below w.heap.size w w' := by
  by_cases hl : xs.length = ys.length
  · have hl2 : ((xs.length : Int) != (ys.length : Int)) = false := by simp; omega
    have hlle : ys.length ≤ xs.length ∧ xs.length ≤ ys.length := by omega
    obtain ⟨hl3, hl4⟩ := hlle
    have HL := Lib.hid hl
    have HX := Lib.hid hx
    have HY := Lib.hid hy
    clear hl hx hy
    go_enter Try.func32, Try.ntmps32
    go_wp2
    go_loopw [5] (fun i wr => ∃ k n : Nat, k ≤ xs.length ∧ i = .int .i64 (k : Int) ∧ wr = w.drewN n ∧ Hid (∀ j, j < k → xs[j]? = ys[j]?)) (fun i _ => xs.length - (intOf i).toNat)
    case atStart => exact ⟨0, 0, Nat.zero_le _, rfl, rfl, fun j hj => absurd hj (by omega)⟩
    case round =>
      obtain ⟨k, n, hk, rfl, rfl, heq⟩ := hrel
      by_cases hlt : k < xs.length
      · obtain ⟨g1, o1, rfl, _, _, hc1, _⟩ := HX.out k hlt
        obtain ⟨g2, o2, rfl, _, _, hc2, _⟩ := HY.out k (by omega)
        have e1 : xs[k]? = some xs[k] := List.getElem?_eq_getElem hlt
        have e2 : ys[k]? = some ys[k] := List.getElem?_eq_getElem (by omega)
        have hlt2 : (k : Int) < (xs.length : Int) := by omega
        have hlt3 : (k : Int) < (ys.length : Int) := by omega
        generalize xs[k] = x at *
        generalize ys[k] = y at *
        have E1 := Lib.hid e1
        have E2 := Lib.hid e2
        clear e1 e2
        by_cases hxy : x = y
        · subst hxy
          go_wp2
          go_quiet (fail)
          go_wp2
          go_roundw
          case rel => exact ⟨k + 1, _, by omega, by go_num, rfl, fun j hj => by
            rcases Nat.lt_or_ge j k with h | h
            · exact heq.out j h
            · obtain rfl : j = k := by omega
              rw [E1.out, E2.out]⟩
          case measure => simp [intOf]; omega
        · cases x <;> cases y <;> simp at hxy
          all_goals
            go_wp2
            go_quiet (fail)
            go_wp2
            go_ret
            have hf : (xs == ys) = false := by
              simp only [beq_eq_false_iff_ne, ne_eq]
              intro h
              rw [h, E2.out] at E1
              have := E1.out
              simp at this
            exact ⟨by simp [hf], (by repeat (first | (with_reducible exact Below.refl _ _) | (with_reducible refine Below.ext ?_ (by go_size) _ _) | (with_reducible refine Below.alloc ?_ (by go_size) _) | (with_reducible refine Below.setCell ?_ (by go_size) _) | (with_reducible refine Below.drew ?_) | (with_reducible refine Below.drewN_ ?_ _)))⟩
      · obtain rfl : k = xs.length := by omega
        go_wp2
        go_ret
        have ht : xs = ys := by
          apply List.ext_getElem?
          intro j
          rcases Nat.lt_or_ge j xs.length with h | h
          · exact heq.out j h
          · rw [List.getElem?_eq_none h, List.getElem?_eq_none (by omega)]
        exact ⟨by simp [ht], (by repeat (first | (with_reducible exact Below.refl _ _) | (with_reducible refine Below.ext ?_ (by go_size) _ _) | (with_reducible refine Below.alloc ?_ (by go_size) _) | (with_reducible refine Below.setCell ?_ (by go_size) _) | (with_reducible refine Below.drew ?_) | (with_reducible refine Below.drewN_ ?_ _)))⟩
  · have hl2 : ((xs.length : Int) != (ys.length : Int)) = true := by simp; omega
    have hf : (xs == ys) = false := by
      simp only [beq_eq_false_iff_ne, ne_eq]
      rintro rfl
      exact hl rfl
    clear hx hy
    have HF := Lib.hid hf
    have HL := Lib.hid hl
    clear hf hl
    go_enter Try.func32, Try.ntmps32
    go_wp2
    go_ret
    exact ⟨by rw [HF.out]; rfl, Below.refl _ _⟩

end Go.Proofs.Ytkjkhlncdopndaa
