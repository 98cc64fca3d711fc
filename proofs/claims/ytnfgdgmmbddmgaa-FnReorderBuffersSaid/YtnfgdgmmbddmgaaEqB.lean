/- EqualBytes of the program and of the reference. -/
import Derived.Test.YtnfgdgmmbddmgaaCopy
import Derived.Laws.BytesArg
import Derived.Laws.Strings
namespace Go.Proofs.Ytnfgdgmmbddmgaa
open Go.RowKit
set_option linter.unusedVariables false
set_option linter.unusedSimpArgs false

set_option maxHeartbeats 1000000 in
theorem implEqB_q {u1 u2 : Bool} {T1 T2 : Nat → Prop} (A B : Option Addr) (c1 c2 : Nat) (xs ys : List Int) (w : World) (hx : Rw u1 .u8 w T1 A xs) (hy : Rw u2 .u8 w T2 B ys) (hm : xs.length ≤ 1000000000000) (hm2 : ys.length ≤ 1000000000000) :
    Calls Try.prog 72 #[.slice A xs.length c1, .slice B ys.length c2] w fun e w' => e = .returned (.bool (xs == ys)) ∧ Dr w w' := by
  by_cases hl : xs.length = ys.length
  · have hl2 : ((xs.length : Int) != (ys.length : Int)) = false := by simp; omega
    have hlle : ys.length ≤ xs.length ∧ xs.length ≤ ys.length := by omega
    obtain ⟨hl3, hl4⟩ := hlle
    have HL := Lib.hid hl
    have HX := Lib.hid hx
    have HY := Lib.hid hy
    clear hl hx hy
    go_enter Try.func72, Try.ntmps72
    go_wp2
    go_loopw [13] (fun i wr => ∃ k n : Nat, k ≤ xs.length ∧ i = .int .i64 (k : Int) ∧ wr = w.drewN n ∧ Hid (∀ j, j < k → xs[j]? = ys[j]?)) (fun i _ => xs.length - (intOf i).toNat)
    case atStart => exact ⟨0, 0, Nat.zero_le _, rfl, rfl, fun j hj => absurd hj (by omega)⟩
    case round =>
      obtain ⟨k, n, hk, rfl, rfl, heq⟩ := hrel
      by_cases hlt : k < xs.length
      · obtain ⟨g1, o1, rfl, _, _, hc1, _⟩ := HX.out k hlt
        obtain ⟨g2, o2, rfl, _, _, hc2, _⟩ := HY.out k (by omega)
        have e1 : xs[k]? = some xs[k] := List.getElem?_eq_getElem hlt
        have e2 : ys[k]? = some ys[k] := List.getElem?_eq_getElem (by omega)
        have hlt2 : (k : Int) < (xs.length : Int) := by omega
        have hlt3 : (k : Int) < (ys.length : Int) := by omega
        generalize xs[k] = x at *
        generalize ys[k] = y at *
        have E1 := Lib.hid e1
        have E2 := Lib.hid e2
        clear e1 e2
        by_cases hxy : x = y
        · subst hxy
          go_wp2
          go_quiet (fail)
          go_wp2
          go_roundw
          case rel => exact ⟨k + 1, _, by omega, by go_num, rfl, fun j hj => by
            rcases Nat.lt_or_ge j k with h | h
            · exact heq.out j h
            · obtain rfl : j = k := by omega
              rw [E1.out, E2.out]⟩
          case measure => simp [intOf]; omega
        · have hne : (x != y) = true := by simp [hxy]
          go_wp2
          go_quiet (fail)
          go_wp2
          go_ret
          have hf : (xs == ys) = false := by
            simp only [beq_eq_false_iff_ne, ne_eq]
            intro h
            rw [h, E2.out] at E1
            have := E1.out
            simp at this
            exact hxy this.symm
          exact ⟨by simp [hf], (by repeat (first | (with_reducible exact Dr.refl _) | (with_reducible assumption) | (with_reducible refine Dr.drewN ?_ _) | (with_reducible refine Dr.drew ?_)))⟩
      · obtain rfl : k = xs.length := by omega
        go_wp2
        go_ret
        have ht : xs = ys := by
          apply List.ext_getElem?
          intro j
          rcases Nat.lt_or_ge j xs.length with h | h
          · exact heq.out j h
          · rw [List.getElem?_eq_none h, List.getElem?_eq_none (by omega)]
        exact ⟨by simp [ht], (by repeat (first | (with_reducible exact Dr.refl _) | (with_reducible assumption) | (with_reducible refine Dr.drewN ?_ _) | (with_reducible refine Dr.drew ?_)))⟩
  · have hl2 : ((xs.length : Int) != (ys.length : Int)) = true := by simp; omega
    have hf : (xs == ys) = false := by
      simp only [beq_eq_false_iff_ne, ne_eq]
      rintro rfl
      exact hl rfl
    clear hx hy
    have HF := Lib.hid hf
    have HL := Lib.hid hl
    clear hf hl
    go_enter Try.func72, Try.ntmps72
    go_wp2
    go_ret
    exact ⟨by rw [HF.out]; rfl, (by repeat (first | (with_reducible exact Dr.refl _) | (with_reducible assumption) | (with_reducible refine Dr.drewN ?_ _) | (with_reducible refine Dr.drew ?_)))⟩
theorem implEqB_any {u1 u2 : Bool} {T1 T2 : Nat → Prop} (A B : Option Addr) (c1 c2 : Nat) (xs ys : List Int) (w : World) (hx : Rw u1 .u8 w T1 A xs) (hy : Rw u2 .u8 w T2 B ys) (hm : xs.length ≤ 1000000000000) (hm2 : ys.length ≤ 1000000000000) :
    Calls Try.prog 72 #[.slice A xs.length c1, .slice B ys.length c2] w fun e w' => e = .returned (.bool (xs == ys)) ∧ Below w.heap.size w w' :=
  (implEqB_q A B c1 c2 xs ys w hx hy hm hm2).mono fun _ _ ⟨h1, h2⟩ => ⟨h1, h2.below⟩

theorem conv_rw {P : Program} {u : Bool} {T : Nat → Prop} {w : World} {A : Option Addr} {xs : List Int} (hx : Rw u .u8 w T A xs) (src e dst : TypeId) (hs : P.underlying src = some (.slice e)) (he : P.underlying e = some (.int .u8)) (hd : P.underlying dst = some .string) (c : Nat) :
    (convert src dst (.slice A xs.length c)).run P w = .ok (.string (strOfNums xs)) w := by
  rcases A with _ | a
  · rcases xs with _ | ⟨x, xs⟩
    · rw [run_convert_bytes_nil w src e hs he _ c dst hd]
      rfl
    · obtain ⟨g, o, h, _⟩ := hx 0 (by simp)
      cases h
  · have hl : (loadCells a xs.length).run P w = .ok (xs.map (Value.int .u8)).toArray w := by
      have := run_loadCells_list (P := P) w a (xs.map (Value.int .u8)) (fun j v hj => by
        have hjl : j < xs.length := by
          rcases Nat.lt_or_ge j xs.length with h | h
          · exact h
          · simp [List.getElem?_eq_none (show (xs.map (Value.int .u8)).length ≤ j by simpa using h)] at hj
        obtain ⟨g, o, h1, _, _, h4, _⟩ := hx j hjl
        injection h1 with h1
        subst h1
        have hplain : (⟨g, o, none⟩ : Addr).add j = ⟨g, o + j, none⟩ := by unfold Addr.add; split <;> simp_all
        rw [hplain, h4]
        simp [List.getElem?_eq_getElem hjl] at hj
        rw [hj])
      simpa using this
    rw [run_convert_bytes_string w src dst e _ xs.length c hs he hd, run_bytesToString w _ xs.length c xs hl, foldl_push_bytes]
    simp [strOfNums, ByteArray.empty, ByteArray.emptyWithCapacity]
    rfl
theorem str_inj {xs ys : List Int} (hx : ∀ x ∈ xs, 0 ≤ x ∧ x ≤ 255) (hy : ∀ x ∈ ys, 0 ≤ x ∧ x ≤ 255) (h : strOfNums xs = strOfNums ys) : xs = ys := by
  have h1 : xs.map (fun n => UInt8.ofNat n.toNat) = ys.map (fun n => UInt8.ofNat n.toNat) := by
    rw [← strOfNums_data, ← strOfNums_data, h]
  clear h
  induction xs generalizing ys with
  | nil => cases ys with
    | nil => rfl
    | cons y ys => simp at h1
  | cons x xs ih =>
    cases ys with
    | nil => simp at h1
    | cons y ys =>
      simp only [List.map_cons, List.cons.injEq] at h1
      have b1 := hx x (by simp)
      have b2 := hy y (by simp)
      have e1 : x = y := by
        have := congrArg UInt8.toNat h1.1
        simp at this
        omega
      rw [e1, ih (fun z hz => hx z (by simp [hz])) (fun z hz => hy z (by simp [hz])) h1.2]

set_option maxHeartbeats 1000000 in
theorem specEqB_s {u1 u2 : Bool} {T1 T2 : Nat → Prop} (A B : Option Addr) (c1 c2 : Nat) (xs ys : List Int) (w : World) (hx : Rw u1 .u8 w T1 A xs) (hy : Rw u2 .u8 w T2 B ys) (hb1 : ∀ x ∈ xs, 0 ≤ x ∧ x ≤ 255) (hb2 : ∀ x ∈ ys, 0 ≤ x ∧ x ≤ 255) :
    Calls Try.prog 71 #[.slice A xs.length c1, .slice B ys.length c2] w fun e w' => e = .returned (.bool (xs == ys)) ∧ w' = w := by
  have k1 := conv_rw (P := Try.prog) hx 38 5 9 Try.underlying38 Try.underlying5 Try.underlying9 c1
  have k2 := conv_rw (P := Try.prog) hy 38 5 9 Try.underlying38 Try.underlying5 Try.underlying9 c2
  have hinj := Lib.hid (str_inj hb1 hb2)
  clear hx hy hb1 hb2
  by_cases heq : xs = ys
  · subst heq
    go_enter Try.func71, Try.ntmps71
    go_wp2
    go_ret
    exact ⟨by simp, rfl⟩
  · have hne : ¬ strOfNums xs = strOfNums ys := fun h => heq (hinj.out h)
    have hne3 : ¬ (strOfNums xs).toList = (strOfNums ys).toList := fun h => hne (by rw [ByteArray.toList_eq, ByteArray.toList_eq] at h; exact ByteArray.ext (Array.toList_inj.1 h))
    have hf : (xs == ys) = false := by simpa using heq
    have HF := Lib.hid hf
    clear heq hf
    generalize strOfNums xs = s1 at *
    generalize strOfNums ys = s2 at *
    go_enter Try.func71, Try.ntmps71
    go_wp2
    go_ret
    exact ⟨by rw [HF.out]; simp [hne3], rfl⟩
theorem specEqB_any {u1 u2 : Bool} {T1 T2 : Nat → Prop} (A B : Option Addr) (c1 c2 : Nat) (xs ys : List Int) (w : World) (hx : Rw u1 .u8 w T1 A xs) (hy : Rw u2 .u8 w T2 B ys) (hb1 : ∀ x ∈ xs, 0 ≤ x ∧ x ≤ 255) (hb2 : ∀ x ∈ ys, 0 ≤ x ∧ x ≤ 255) :
    Calls Try.prog 71 #[.slice A xs.length c1, .slice B ys.length c2] w fun e w' => e = .returned (.bool (xs == ys)) ∧ Below w.heap.size w w' :=
  (specEqB_s A B c1 c2 xs ys w hx hy hb1 hb2).mono fun _ _ ⟨h1, h2⟩ => ⟨h1, by rw [h2]; exact Below.refl _ _⟩

end Go.Proofs.Ytnfgdgmmbddmgaa
