/- eqByteSS of the laws: rows of rows of bytes. -/
import Derived.Test.YtnfgdgmmbddmgaaNest
import Derived.Test.YtnfgdgmmbddmgaaByteS
namespace Go.Proofs.Ytnfgdgmmbddmgaa
open Go.RowKit
set_option linter.unusedVariables false
set_option linter.unusedSimpArgs false

theorem eqByteS_qb {u1 u2 : Bool} {T1 T2 : Nat → Prop} {xs ys : List Int} {b : Bool} (hb : (xs == ys) = b) (A B : Option Addr) (c1 c2 : Nat) (w : World) (hx : Rw u1 .u8 w T1 A xs) (hy : Rw u2 .u8 w T2 B ys) (hm : xs.length ≤ 1000000000000) (hm2 : ys.length ≤ 1000000000000) :
    Calls Try.prog 25 #[.slice A xs.length c1, .slice B ys.length c2] w fun e w' => e = .returned (.bool b) ∧ Dr w w' := by
  subst hb
  exact eqByteS_q A B c1 c2 xs ys w hx hy hm hm2
set_option maxHeartbeats 1000000 in
theorem eqByteSS_q {T1 T2 : Nat → Prop} (A B : Option Addr) (c1 c2 : Nat) (xs ys : List (List Int)) (w : World) (hx : Sl false 1 (EB false) w T1 A xs) (hy : Sl false 1 (EB false) w T2 B ys) (hm : xs.length ≤ 1000000000000) (hm2 : ys.length ≤ 1000000000000)
    (hmx : ∀ x ∈ xs, x.length ≤ 1000000000000) (hmy : ∀ x ∈ ys, x.length ≤ 1000000000000) :
    Calls Try.prog 17 #[.slice A xs.length c1, .slice B ys.length c2] w fun e w' => e = .returned (.bool (xs == ys)) ∧ Dr w w' := by
  have HMX := Lib.hid hmx
  have HMY := Lib.hid hmy
  clear hmx hmy
  by_cases hl : xs.length = ys.length
  · have hl2 : ((xs.length : Int) != (ys.length : Int)) = false := by simp; omega
    have hlle : ys.length ≤ xs.length ∧ xs.length ≤ ys.length := by omega
    obtain ⟨hl3, hl4⟩ := hlle
    have HL := Lib.hid hl
    have HX := Lib.hid hx
    have HY := Lib.hid hy
    clear hl hx hy
    go_enter Try.func17, Try.ntmps17
    go_wp2
    go_loopw [5] (fun i wr => ∃ k : Nat, k ≤ xs.length ∧ i = .int .i64 (k : Int) ∧ Hid (Dr w wr) ∧ Hid (∀ j, j < k → xs[j]? = ys[j]?)) (fun i _ => xs.length - (intOf i).toNat)
    case atStart => exact ⟨0, Nat.zero_le _, rfl, Lib.hid (Dr.refl _), Lib.hid (fun j hj => absurd hj (by omega))⟩
    case round =>
      obtain ⟨k, hk, rfl, HD, heq⟩ := hrel
      by_cases hlt : k < xs.length
      · have hlty : k < ys.length := by omega
        obtain ⟨g1, o1, F1, rfl, _, ⟨B1, d1, hc1, _, hr1⟩, _, _⟩ := HX.out.at_ k hlt
        obtain ⟨g2, o2, F2, rfl, _, ⟨B2, d2, hc2, _, hr2⟩, _, _⟩ := HY.out.at_ k hlty
        rw [Nat.mul_one, ← HD.out.cell] at hc1 hc2
        have R1 := Lib.hid (hr1.below HD.out.below)
        have R2 := Lib.hid (hr2.below HD.out.below)
        have L1 := HMX.out _ (List.getElem_mem hlt)
        have L2 := HMY.out _ (List.getElem_mem hlty)
        have e1 : xs[k]? = some xs[k] := List.getElem?_eq_getElem hlt
        have e2 : ys[k]? = some ys[k] := List.getElem?_eq_getElem hlty
        have hlt2 : (k : Int) < (xs.length : Int) := by omega
        have hlt3 : (k : Int) < (ys.length : Int) := by omega
        clear hr1 hr2
        generalize xs[k] = x at *
        generalize ys[k] = y at *
        have E1 := Lib.hid e1
        have E2 := Lib.hid e2
        clear e1 e2
        cases hxy : (x == y)
        · have XY := Lib.hid hxy
          clear hxy
          go_wp2
          go_quiet ((go_at_call 25; exact Calls.quiet_of (eqByteS_qb XY.out _ _ _ _ _ (R1.out.below (Dr.below (Dr.mk _ _))) (R2.out.below (Dr.below (Dr.mk _ _))) L1 L2)))
          go_wp2
          go_ret
          have hf : (xs == ys) = false := by
            simp only [beq_eq_false_iff_ne, ne_eq]
            intro h
            rw [h, E2.out] at E1
            have h1 := E1.out
            simp only [Option.some.injEq] at h1
            subst h1
            have h2 := XY.out
            simp at h2
          exact ⟨by simp [hf], HD.out.trans (by repeat (first | (with_reducible exact Dr.refl _) | (with_reducible assumption) | (with_reducible refine Dr.drewN ?_ _) | (with_reducible refine Dr.drew ?_)))⟩
        · have XY := Lib.hid hxy
          clear hxy
          go_wp2
          go_quiet ((go_at_call 25; exact Calls.quiet_of (eqByteS_qb XY.out _ _ _ _ _ (R1.out.below (Dr.below (Dr.mk _ _))) (R2.out.below (Dr.below (Dr.mk _ _))) L1 L2)))
          go_wp2
          go_roundw
          case rel => exact ⟨k + 1, by omega, by go_num, Lib.hid (HD.out.trans (by repeat (first | (with_reducible exact Dr.refl _) | (with_reducible assumption) | (with_reducible refine Dr.drewN ?_ _) | (with_reducible refine Dr.drew ?_)))), Lib.hid (fun j hj => by
            rcases Nat.lt_or_ge j k with h | h
            · exact heq.out j h
            · obtain rfl : j = k := by omega
              rw [E1.out, E2.out, show x = y from by simpa using XY.out])⟩
          case measure => simp [intOf]; omega
      · obtain rfl : k = xs.length := by omega
        go_wp2
        go_ret
        have ht : xs = ys := by
          apply List.ext_getElem?
          intro j
          rcases Nat.lt_or_ge j xs.length with h | h
          · exact heq.out j h
          · rw [List.getElem?_eq_none h, List.getElem?_eq_none (by omega)]
        exact ⟨by simp [ht], HD.out.trans (by repeat (first | (with_reducible exact Dr.refl _) | (with_reducible assumption) | (with_reducible refine Dr.drewN ?_ _) | (with_reducible refine Dr.drew ?_)))⟩
  · have hl2 : ((xs.length : Int) != (ys.length : Int)) = true := by simp; omega
    have hf : (xs == ys) = false := by
      simp only [beq_eq_false_iff_ne, ne_eq]
      rintro rfl
      exact hl rfl
    clear hx hy
    have HF := Lib.hid hf
    have HL := Lib.hid hl
    clear hf hl
    go_enter Try.func17, Try.ntmps17
    go_wp2
    go_ret
    exact ⟨by rw [HF.out]; rfl, Dr.refl _⟩

end Go.Proofs.Ytnfgdgmmbddmgaa
