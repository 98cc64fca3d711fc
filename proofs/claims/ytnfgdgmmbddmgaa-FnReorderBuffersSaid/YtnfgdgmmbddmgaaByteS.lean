/- eqByteS, markByteS and heldByteS of the laws: rows that are compared, written and looked at again. -/
import Derived.Test.YtnfgdgmmbddmgaaMem
namespace Go.Proofs.Ytnfgdgmmbddmgaa
open Go.RowKit
set_option linter.unusedVariables false
set_option linter.unusedSimpArgs false

/- what markByteS leaves in a row of n elements, counted from k -/
def marksByteS (k : Int) (n : Nat) : List Int := (List.range n).map fun (i : Nat) => ((k + (i : Int)) % 256)
theorem marksByteS_len (k : Int) (n : Nat) : (marksByteS k n).length = n := by simp [marksByteS]
theorem marksByteS_at (k : Int) (n i : Nat) (h : i < n) : (marksByteS k n)[i]? = some ((k + (i : Int)) % 256) := by simp [marksByteS, List.getElem?_range h]

set_option maxHeartbeats 1000000 in
theorem eqByteS_q {u1 u2 : Bool} {T1 T2 : Nat → Prop} (A B : Option Addr) (c1 c2 : Nat) (xs ys : List Int) (w : World) (hx : Rw u1 .u8 w T1 A xs) (hy : Rw u2 .u8 w T2 B ys) (hm : xs.length ≤ 1000000000000) (hm2 : ys.length ≤ 1000000000000) :
    Calls Try.prog 25 #[.slice A xs.length c1, .slice B ys.length c2] w fun e w' => e = .returned (.bool (xs == ys)) ∧ Dr w w' := by
  by_cases hl : xs.length = ys.length
  · have hl2 : ((xs.length : Int) != (ys.length : Int)) = false := by simp; omega
    have hlle : ys.length ≤ xs.length ∧ xs.length ≤ ys.length := by omega
    obtain ⟨hl3, hl4⟩ := hlle
    have HL := Lib.hid hl
    have HX := Lib.hid hx
    have HY := Lib.hid hy
    clear hl hx hy
    go_enter Try.func25, Try.ntmps25
    go_wp2
    go_loopw [5] (fun i wr => ∃ k n : Nat, k ≤ xs.length ∧ i = .int .i64 (k : Int) ∧ wr = w.drewN n ∧ Hid (∀ j, j < k → xs[j]? = ys[j]?)) (fun i _ => xs.length - (intOf i).toNat)
    case atStart => exact ⟨0, 0, Nat.zero_le _, rfl, rfl, fun j hj => absurd hj (by omega)⟩
    case round =>
      obtain ⟨k, n, hk, rfl, rfl, heq⟩ := hrel
      by_cases hlt : k < xs.length
      · obtain ⟨g1, o1, rfl, _, _, hc1, _⟩ := HX.out k hlt
        obtain ⟨g2, o2, rfl, _, _, hc2, _⟩ := HY.out k (by omega)
        have e1 : xs[k]? = some xs[k] := List.getElem?_eq_getElem hlt
        have e2 : ys[k]? = some ys[k] := List.getElem?_eq_getElem (by omega)
        have hlt2 : (k : Int) < (xs.length : Int) := by omega
        have hlt3 : (k : Int) < (ys.length : Int) := by omega
        generalize xs[k] = x at *
        generalize ys[k] = y at *
        have E1 := Lib.hid e1
        have E2 := Lib.hid e2
        clear e1 e2
        by_cases hxy : x = y
        · subst hxy
          go_wp2
          go_quiet (fail)
          go_wp2
          go_roundw
          case rel => exact ⟨k + 1, _, by omega, by go_num, rfl, fun j hj => by
            rcases Nat.lt_or_ge j k with h | h
            · exact heq.out j h
            · obtain rfl : j = k := by omega
              rw [E1.out, E2.out]⟩
          case measure => simp [intOf]; omega
        · have hne : (x != y) = true := by simp [hxy]
          go_wp2
          go_quiet (fail)
          go_wp2
          go_ret
          have hf : (xs == ys) = false := by
            simp only [beq_eq_false_iff_ne, ne_eq]
            intro h
            rw [h, E2.out] at E1
            have := E1.out
            simp at this
            exact hxy this.symm
          exact ⟨by simp [hf], (by repeat (first | (with_reducible exact Dr.refl _) | (with_reducible assumption) | (with_reducible refine Dr.drewN ?_ _) | (with_reducible refine Dr.drew ?_)))⟩
      · obtain rfl : k = xs.length := by omega
        go_wp2
        go_ret
        have ht : xs = ys := by
          apply List.ext_getElem?
          intro j
          rcases Nat.lt_or_ge j xs.length with h | h
          · exact heq.out j h
          · rw [List.getElem?_eq_none h, List.getElem?_eq_none (by omega)]
        exact ⟨by simp [ht], (by repeat (first | (with_reducible exact Dr.refl _) | (with_reducible assumption) | (with_reducible refine Dr.drewN ?_ _) | (with_reducible refine Dr.drew ?_)))⟩
  · have hl2 : ((xs.length : Int) != (ys.length : Int)) = true := by simp; omega
    have hf : (xs == ys) = false := by
      simp only [beq_eq_false_iff_ne, ne_eq]
      rintro rfl
      exact hl rfl
    clear hx hy
    have HF := Lib.hid hf
    have HL := Lib.hid hl
    clear hf hl
    go_enter Try.func25, Try.ntmps25
    go_wp2
    go_ret
    exact ⟨by rw [HF.out]; rfl, (by repeat (first | (with_reducible exact Dr.refl _) | (with_reducible assumption) | (with_reducible refine Dr.drewN ?_ _) | (with_reducible refine Dr.drew ?_)))⟩
theorem eqByteS_any {u1 u2 : Bool} {T1 T2 : Nat → Prop} (A B : Option Addr) (c1 c2 : Nat) (xs ys : List Int) (w : World) (hx : Rw u1 .u8 w T1 A xs) (hy : Rw u2 .u8 w T2 B ys) (hm : xs.length ≤ 1000000000000) (hm2 : ys.length ≤ 1000000000000) :
    Calls Try.prog 25 #[.slice A xs.length c1, .slice B ys.length c2] w fun e w' => e = .returned (.bool (xs == ys)) ∧ Below w.heap.size w w' :=
  (eqByteS_q A B c1 c2 xs ys w hx hy hm hm2).mono fun _ _ ⟨h1, h2⟩ => ⟨h1, h2.below⟩

set_option maxHeartbeats 1000000 in
theorem markByteS_any {T : Nat → Prop} (A : Option Addr) (c : Nat) (xs : List Int) (k : Int) (w : World) (hx : Rw true .u8 w T A xs) (hm : xs.length ≤ 1000000000000) (hk0 : 0 ≤ k) (hk1 : k ≤ 1000000000000) :
    Calls Try.prog 26 #[.slice A xs.length c, .int .i64 k] w fun e w' => e = .returned (.int .i64 (k + (xs.length : Int))) ∧ Chg T w w' ∧ Rw true .u8 w' T A (marksByteS k xs.length) := by
  have HX := Lib.hid hx
  clear hx
  go_enter Try.func26, Try.ntmps26
  go_wp2
  go_loopw [1, 5] (fun q p wr => ∃ i : Nat, i ≤ xs.length ∧ p = .int .i64 (i : Int) ∧ q = .int .i64 (k + (i : Int)) ∧ Chg T w wr ∧
      Hid (∀ j, j < xs.length → ∃ g o v, A = some ⟨g, o, none⟩ ∧ T g ∧ g < wr.heap.size ∧ wr.cell? ⟨g, o + j, none⟩ = some v ∧ wr.frozen? ⟨g, o + j, none⟩ = false ∧ (j < i → (marksByteS k xs.length)[j]?.map (Value.int .u8) = some v)))
    (fun _ p _ => xs.length - (intOf p).toNat)
  case atStart =>
    refine ⟨0, Nat.zero_le _, rfl, by simp, Chg.refl _ _, fun j hj => ?_⟩
    obtain ⟨g, o, h1, h2, h3, h4, h5⟩ := HX.out j hj
    exact ⟨g, o, _, h1, h2, h3, h4, h5 rfl, fun h => absurd h (by omega)⟩
  case round =>
    obtain ⟨i, hi, rfl, rfl, hch, hrow⟩ := hrel
    have HC := Lib.hid hch
    clear hch
    by_cases hlt : i < xs.length
    · obtain ⟨g, o, v, rfl, hT, hg, hc, hf, _⟩ := hrow.out i hlt
      have hlt2 : (i : Int) < (xs.length : Int) := by omega
      have hwr : IntKind.u8.wrap (k + (i : Int)) = (k + (i : Int)) % 256 := by rw [IntKind.wrap_u8]
      have HT := Lib.hid hT
      clear hT
      go_wp2
      go_roundw
      case rel =>
        refine ⟨i + 1, by omega, by go_num, by go_num, HC.out.setCell_ (p := ⟨g, o + i, none⟩) HT.out _, fun j hj => ?_⟩
        obtain ⟨g', o', v', h1, h2, h3, h4, h5, h6⟩ := hrow.out j hj
        injection h1 with h1
        injection h1 with hg1 ho1 _
        subst hg1 ho1
        refine ⟨g, o, _, rfl, h2, by simpa [World.setCell] using h3, setCell_cell h4 hc, by rw [World.frozen?_setCell]; exact h5, fun hj2 => ?_⟩
        by_cases hji : j = i
        · subst hji
          rw [if_pos rfl, marksByteS_at _ _ _ hj]
          first | rfl | simp [IntKind.wrap_u8]
        · rw [if_neg hji]
          exact h6 (by omega)
      case measure => simp [intOf]; omega
    · obtain rfl : i = xs.length := by omega
      go_wp2
      go_ret
      refine ⟨rfl, HC.out, fun j hj => ?_⟩
      rw [marksByteS_len] at hj
      obtain ⟨g, o, v, h1, h2, h3, h4, h5, h6⟩ := hrow.out j hj
      have h7 := h6 hj
      rw [List.getElem?_eq_getElem (by rw [marksByteS_len]; exact hj)] at h7
      simp only [Option.map_some, Option.some.injEq] at h7
      exact ⟨g, o, h1, h2, h3, by rw [h4, ← h7], fun _ => h5⟩

set_option maxHeartbeats 1000000 in
theorem heldByteS_q {u : Bool} {T : Nat → Prop} (A : Option Addr) (n c : Nat) (k : Int) (w : World) (hx : Rw u .u8 w T A (marksByteS k n)) (hm : n ≤ 1000000000000) (hk0 : 0 ≤ k) (hk1 : k ≤ 1000000000000) :
    Calls Try.prog 65 #[.slice A n c, .int .i64 k] w fun e w' => e = .returned (.int .i64 (k + (n : Int))) ∧ Dr w w' := by
  have HX := Lib.hid hx
  clear hx
  go_enter Try.func65, Try.ntmps65
  go_wp2
  go_loopw [1, 5] (fun q p wr => ∃ i m : Nat, i ≤ n ∧ p = .int .i64 (i : Int) ∧ q = .int .i64 (k + (i : Int)) ∧ wr = w.drewN m) (fun _ p _ => n - (intOf p).toNat)
  case atStart => exact ⟨0, 0, Nat.zero_le _, rfl, by simp, rfl⟩
  case round =>
    obtain ⟨i, m, hi, rfl, rfl, rfl⟩ := hrel
    by_cases hlt : i < n
    · obtain ⟨g, o, rfl, _, _, hc, _⟩ := HX.out i (by rw [marksByteS_len]; exact hlt)
      have hlt2 : (i : Int) < (n : Int) := by omega
      have he : (marksByteS k n)[i]'(by rw [marksByteS_len]; exact hlt) = ((k + (i : Int)) % 256) := by
        have h1 := marksByteS_at k n i hlt
        rw [List.getElem?_eq_getElem (by rw [marksByteS_len]; exact hlt)] at h1
        simpa using h1
      rw [he] at hc
      have hwr : IntKind.u8.wrap (k + (i : Int)) = (k + (i : Int)) % 256 := by rw [IntKind.wrap_u8]
      clear he
      go_wp2
      go_roundw
      case rel => exact ⟨i + 1, m, by omega, by go_num, by go_num, rfl⟩
      case measure => simp [intOf]; omega
    · obtain rfl : i = n := by omega
      go_wp2
      go_ret
      exact ⟨rfl, (by repeat (first | (with_reducible exact Dr.refl _) | (with_reducible assumption) | (with_reducible refine Dr.drewN ?_ _) | (with_reducible refine Dr.drew ?_)))⟩
theorem heldByteS_any {u : Bool} {T : Nat → Prop} (A : Option Addr) (n c : Nat) (k : Int) (w : World) (hx : Rw u .u8 w T A (marksByteS k n)) (hm : n ≤ 1000000000000) (hk0 : 0 ≤ k) (hk1 : k ≤ 1000000000000) :
    Calls Try.prog 65 #[.slice A n c, .int .i64 k] w fun e w' => e = .returned (.int .i64 (k + (n : Int))) ∧ Below w.heap.size w w' :=
  (heldByteS_q A n c k w hx hm hk0 hk1).mono fun _ _ ⟨h1, h2⟩ => ⟨h1, h2.below⟩

end Go.Proofs.Ytnfgdgmmbddmgaa
