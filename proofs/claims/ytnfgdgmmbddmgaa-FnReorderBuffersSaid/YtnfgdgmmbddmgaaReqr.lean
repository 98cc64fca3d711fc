/- EqualReorderBuffers of the program and of the reference. -/
import Derived.Test.YtnfgdgmmbddmgaaNF
import Derived.Test.YtnfgdgmmbddmgaaEqB
namespace Go.Proofs.Ytnfgdgmmbddmgaa
open Go.RowKit
set_option linter.unusedVariables false
set_option linter.unusedSimpArgs false

theorem implEqB_qb {u1 u2 : Bool} {T1 T2 : Nat → Prop} {xs ys : List Int} {b : Bool} (hb : (xs == ys) = b) (A B : Option Addr) (c1 c2 : Nat) (w : World) (hx : Rw u1 .u8 w T1 A xs) (hy : Rw u2 .u8 w T2 B ys) (hm : xs.length ≤ 1000000000000) (hm2 : ys.length ≤ 1000000000000) (_ : ∀ x ∈ xs, 0 ≤ x ∧ x ≤ 255) (_ : ∀ x ∈ ys, 0 ≤ x ∧ x ≤ 255) :
    Calls Try.prog 72 #[.slice A xs.length c1, .slice B ys.length c2] w fun e w' => e = .returned (.bool b) ∧ ∃ m, w' = w.drewN m := by
  subst hb
  exact implEqB_q A B c1 c2 xs ys w hx hy hm hm2
theorem specEqB_qb {u1 u2 : Bool} {T1 T2 : Nat → Prop} {xs ys : List Int} {b : Bool} (hb : (xs == ys) = b) (A B : Option Addr) (c1 c2 : Nat) (w : World) (hx : Rw u1 .u8 w T1 A xs) (hy : Rw u2 .u8 w T2 B ys) (hm : xs.length ≤ 1000000000000) (hm2 : ys.length ≤ 1000000000000) (hb1 : ∀ x ∈ xs, 0 ≤ x ∧ x ≤ 255) (hb2 : ∀ x ∈ ys, 0 ≤ x ∧ x ≤ 255) :
    Calls Try.prog 71 #[.slice A xs.length c1, .slice B ys.length c2] w fun e w' => e = .returned (.bool b) ∧ ∃ m, w' = w.drewN m := by
  subst hb
  exact (specEqB_s A B c1 c2 xs ys w hx hy hb1 hb2).mono fun _ _ ⟨a, b⟩ => ⟨a, 0, by rw [b]; rfl⟩

set_option maxHeartbeats 4000000 in
theorem implEqR_any {T1 T2 : Nat → Prop} {s1 s2 : Int} {xs ys : List NF} {b : Bool} (hb : (s1 == s2 && decide (xs = ys)) = b) (A B : Option Addr) (c1 c2 : Nat) (w : World) (hx : Sl false 2 (EN false) w T1 A xs) (hy : Sl false 2 (EN false) w T2 B ys) (hm : xs.length ≤ 1000000000) (hm2 : ys.length ≤ 1000000000)
    (hmx : ∀ x ∈ xs, x.2.length ≤ 1000000000000 ∧ ∀ z ∈ x.2, 0 ≤ z ∧ z ≤ 255) (hmy : ∀ x ∈ ys, x.2.length ≤ 1000000000000 ∧ ∀ z ∈ x.2, 0 ≤ z ∧ z ≤ 255) :
    Calls Try.prog 30 #[.agg #[.int .i64 s1, .slice A xs.length c1], .agg #[.int .i64 s2, .slice B ys.length c2]] w fun e w' => e = .returned (.bool b) ∧ Below w.heap.size w w' := by
  have HX := Lib.hid hx
  have HY := Lib.hid hy
  have HMX := Lib.hid hmx
  have HMY := Lib.hid hmy
  clear hx hy hmx hmy
  by_cases hs : s1 = s2
  · subst hs
    by_cases hl : xs.length = ys.length
    · have HB0 : Hid (decide (xs = ys) = b) := Lib.hid (by simpa using hb)
      have hl2 : ((xs.length : Int) != (ys.length : Int)) = false := by simp; omega
      have hlle : ys.length ≤ xs.length ∧ xs.length ≤ ys.length := by omega
      obtain ⟨hl3, hl4⟩ := hlle
      have HL := Lib.hid hl
      clear hl hb
      go_enter Try.func30, Try.ntmps30
      go_wp2
      go_loopw [23] (fun p wr => ∃ k : Nat, k ≤ xs.length ∧ p = .int .i64 (k : Int) ∧ Hid (Dr ((w.alloc (.cells #[.int .i64 s1, .slice A xs.length c1] 28)).alloc (.cells #[.int .i64 s1, .slice B ys.length c2] 28)) wr) ∧ Hid (∀ j, j < k → xs[j]? = ys[j]?)) (fun p _ => xs.length - (intOf p).toNat)
      case atStart => exact ⟨0, Nat.zero_le _, rfl, Lib.hid (Dr.refl _), Lib.hid (fun j hj => absurd hj (by omega))⟩
      case round =>
        obtain ⟨k, hk, rfl, HD, heq⟩ := hrel
        have HB : Hid (Below w.heap.size w wr) := Lib.hid (Below.trans (by repeat (first | (with_reducible exact Below.refl _ _) | (with_reducible refine Below.ext ?_ (by go_size) _ _) | (with_reducible refine Below.alloc ?_ (by go_size) _) | (with_reducible refine Below.setCell ?_ (by go_size) _) | (with_reducible refine Below.drew ?_) | (with_reducible refine Below.drewN_ ?_ _))) (HD.out.below.mono (by simp; omega)))
        have ca0 : wr.cell? ⟨w.heap.size, 0, none⟩ = some (.int .i64 s1) := (HD.out.cell _).trans (by simp [go_sem])
        have ca1 : wr.cell? ⟨w.heap.size, 1, none⟩ = some (.slice A xs.length c1) := (HD.out.cell _).trans (by simp [go_sem])
        have cb0 : wr.cell? ⟨w.heap.size + 1, 0, none⟩ = some (.int .i64 s1) := (HD.out.cell _).trans (by simp [go_sem])
        have cb1 : wr.cell? ⟨w.heap.size + 1, 1, none⟩ = some (.slice B ys.length c2) := (HD.out.cell _).trans (by simp [go_sem])
        by_cases hlt : k < xs.length
        · have hlty : k < ys.length := by omega
          obtain ⟨g1, o1, F1, rfl, hg1, ⟨hc1, _, ⟨B1, d1, hc2, _, hr1⟩⟩, _, _⟩ := HX.out.at_ k hlt
          obtain ⟨g2, o2, F2, rfl, hg2, ⟨hc3, _, ⟨B2, d2, hc4, _, hr2⟩⟩, _, _⟩ := HY.out.at_ k hlty
          replace hc1 := (HB.out.cell (p := ⟨g1, o1 + k * 2, none⟩) hg1).trans hc1
          replace hc2 := (HB.out.cell (p := ⟨g1, o1 + k * 2 + 1, none⟩) hg1).trans hc2
          replace hc3 := (HB.out.cell (p := ⟨g2, o2 + k * 2, none⟩) hg2).trans hc3
          replace hc4 := (HB.out.cell (p := ⟨g2, o2 + k * 2 + 1, none⟩) hg2).trans hc4
          have R1 := Lib.hid (hr1.below HB.out)
          have R2 := Lib.hid (hr2.below HB.out)
          obtain ⟨L1, Y1⟩ := HMX.out _ (List.getElem_mem hlt)
          obtain ⟨L2, Y2⟩ := HMY.out _ (List.getElem_mem hlty)
          have e1 : xs[k]? = some xs[k] := List.getElem?_eq_getElem hlt
          have e2 : ys[k]? = some ys[k] := List.getElem?_eq_getElem hlty
          have hlt2 : (k : Int) < (xs.length : Int) := by omega
          have hlt3 : (k : Int) < (ys.length : Int) := by omega
          clear hr1 hr2
          generalize xs[k] = p at *
          generalize ys[k] = q at *
          obtain ⟨t1, x⟩ := p
          obtain ⟨t2, y⟩ := q
          simp only at hc1 hc2 hc3 hc4 R1 R2 L1 L2 Y1 Y2
          have E1 := Lib.hid e1
          have E2 := Lib.hid e2
          replace Y1 := Lib.hid Y1
          replace Y2 := Lib.hid Y2
          clear e1 e2
          by_cases ht : t1 = t2
          · subst ht
            cases hxy : (x == y)
            · have XY := Lib.hid hxy
              clear hxy
              have hf : b = false := by
                rw [← HB0.out]
                simp only [decide_eq_false_iff_not]
                intro h
                rw [h, E2.out] at E1
                have h1 := E1.out
                simp only [Option.some.injEq, Prod.mk.injEq, true_and] at h1
                have h4 := XY.out
                subst h1
                simp at h4
              subst hf
              go_wp2
              go_quiet ((go_at_call 72; exact Calls.quiet_of (implEqB_qb XY.out _ _ _ _ _ (R1.out.below (Dr.below (Dr.mk _ _))) (R2.out.below (Dr.below (Dr.mk _ _))) L1 L2 Y1.out Y2.out)))
              go_wp2
              go_ret
              exact ⟨rfl, Below.drewN_ HB.out _⟩
            · have XY := Lib.hid hxy
              clear hxy
              go_wp2
              go_quiet ((go_at_call 72; exact Calls.quiet_of (implEqB_qb XY.out _ _ _ _ _ (R1.out.below (Dr.below (Dr.mk _ _))) (R2.out.below (Dr.below (Dr.mk _ _))) L1 L2 Y1.out Y2.out)))
              go_wp2
              go_roundw
              case rel => exact ⟨k + 1, by omega, by go_num, Lib.hid (HD.out.drewN _), Lib.hid (fun j hj => by
                rcases Nat.lt_or_ge j k with h | h
                · exact heq.out j h
                · obtain rfl : j = k := by omega
                  have h4 := XY.out
                  simp only [beq_iff_eq] at h4
                  rw [E1.out, E2.out, h4])⟩
              case measure => simp [intOf]; omega
          · have hne : (t1 != t2) = true := by simp [ht]
            have hf : b = false := by
              rw [← HB0.out]
              simp only [decide_eq_false_iff_not]
              intro h
              rw [h, E2.out] at E1
              have h1 := E1.out
              simp only [Option.some.injEq, Prod.mk.injEq] at h1
              exact ht h1.1.symm
            subst hf
            go_wp2
            go_quiet (fail)
            go_wp2
            go_ret
            exact ⟨rfl, Below.drewN_ HB.out _⟩
        · obtain rfl : k = xs.length := by omega
          have ht : xs = ys := by
            apply List.ext_getElem?
            intro j
            rcases Nat.lt_or_ge j xs.length with h | h
            · exact heq.out j h
            · rw [List.getElem?_eq_none h, List.getElem?_eq_none (by omega)]
          have hf : b = true := by rw [← HB0.out]; simp [ht]
          subst hf
          clear ht
          go_wp2
          go_ret
          exact ⟨rfl, HB.out⟩
    · have hl2 : ((xs.length : Int) != (ys.length : Int)) = true := by simp; omega
      have hf : b = false := by
        rw [← hb]
        have : ¬ xs = ys := by rintro rfl; exact hl rfl
        simp [this]
      subst hf
      have HL := Lib.hid hl
      clear hl hb
      go_enter Try.func30, Try.ntmps30
      go_wp2
      go_ret
      exact ⟨rfl, (by repeat (first | (with_reducible exact Below.refl _ _) | (with_reducible refine Below.ext ?_ (by go_size) _ _) | (with_reducible refine Below.alloc ?_ (by go_size) _) | (with_reducible refine Below.setCell ?_ (by go_size) _) | (with_reducible refine Below.drew ?_) | (with_reducible refine Below.drewN_ ?_ _)))⟩
  · have hb2 : b = false := by rw [← hb]; simp [hs]
    subst hb2
    have hne : (s1 != s2) = true := by simp [hs]
    clear hb
    go_enter Try.func30, Try.ntmps30
    go_wp2
    go_ret
    exact ⟨rfl, (by repeat (first | (with_reducible exact Below.refl _ _) | (with_reducible refine Below.ext ?_ (by go_size) _ _) | (with_reducible refine Below.alloc ?_ (by go_size) _) | (with_reducible refine Below.setCell ?_ (by go_size) _) | (with_reducible refine Below.drew ?_) | (with_reducible refine Below.drewN_ ?_ _)))⟩

set_option maxHeartbeats 4000000 in
theorem specEqR_any {T1 T2 : Nat → Prop} {s1 s2 : Int} {xs ys : List NF} {b : Bool} (hb : (s1 == s2 && decide (xs = ys)) = b) (A B : Option Addr) (c1 c2 : Nat) (w : World) (hx : Sl false 2 (EN false) w T1 A xs) (hy : Sl false 2 (EN false) w T2 B ys) (hm : xs.length ≤ 1000000000) (hm2 : ys.length ≤ 1000000000)
    (hmx : ∀ x ∈ xs, x.2.length ≤ 1000000000000 ∧ ∀ z ∈ x.2, 0 ≤ z ∧ z ≤ 255) (hmy : ∀ x ∈ ys, x.2.length ≤ 1000000000000 ∧ ∀ z ∈ x.2, 0 ≤ z ∧ z ≤ 255) :
    Calls Try.prog 29 #[.agg #[.int .i64 s1, .slice A xs.length c1], .agg #[.int .i64 s2, .slice B ys.length c2]] w fun e w' => e = .returned (.bool b) ∧ Below w.heap.size w w' := by
  have HX := Lib.hid hx
  have HY := Lib.hid hy
  have HMX := Lib.hid hmx
  have HMY := Lib.hid hmy
  clear hx hy hmx hmy
  by_cases hs : s1 = s2
  · subst hs
    by_cases hl : xs.length = ys.length
    · have HB0 : Hid (decide (xs = ys) = b) := Lib.hid (by simpa using hb)
      have hl2 : ((xs.length : Int) != (ys.length : Int)) = false := by simp; omega
      have hlle : ys.length ≤ xs.length ∧ xs.length ≤ ys.length := by omega
      obtain ⟨hl3, hl4⟩ := hlle
      have HL := Lib.hid hl
      clear hl hb
      go_enter Try.func29, Try.ntmps29
      go_wp2
      go_loopw [5] (fun p wr => ∃ k : Nat, k ≤ xs.length ∧ p = .int .i64 (k : Int) ∧ Hid (Dr ((w.alloc (.cells #[.int .i64 s1, .slice A xs.length c1] 28)).alloc (.cells #[.int .i64 s1, .slice B ys.length c2] 28)) wr) ∧ Hid (∀ j, j < k → xs[j]? = ys[j]?)) (fun p _ => xs.length - (intOf p).toNat)
      case atStart => exact ⟨0, Nat.zero_le _, rfl, Lib.hid (Dr.refl _), Lib.hid (fun j hj => absurd hj (by omega))⟩
      case round =>
        obtain ⟨k, hk, rfl, HD, heq⟩ := hrel
        have HB : Hid (Below w.heap.size w wr) := Lib.hid (Below.trans (by repeat (first | (with_reducible exact Below.refl _ _) | (with_reducible refine Below.ext ?_ (by go_size) _ _) | (with_reducible refine Below.alloc ?_ (by go_size) _) | (with_reducible refine Below.setCell ?_ (by go_size) _) | (with_reducible refine Below.drew ?_) | (with_reducible refine Below.drewN_ ?_ _))) (HD.out.below.mono (by simp; omega)))
        have ca0 : wr.cell? ⟨w.heap.size, 0, none⟩ = some (.int .i64 s1) := (HD.out.cell _).trans (by simp [go_sem])
        have ca1 : wr.cell? ⟨w.heap.size, 1, none⟩ = some (.slice A xs.length c1) := (HD.out.cell _).trans (by simp [go_sem])
        have cb0 : wr.cell? ⟨w.heap.size + 1, 0, none⟩ = some (.int .i64 s1) := (HD.out.cell _).trans (by simp [go_sem])
        have cb1 : wr.cell? ⟨w.heap.size + 1, 1, none⟩ = some (.slice B ys.length c2) := (HD.out.cell _).trans (by simp [go_sem])
        by_cases hlt : k < xs.length
        · have hlty : k < ys.length := by omega
          obtain ⟨g1, o1, F1, rfl, hg1, ⟨hc1, _, ⟨B1, d1, hc2, _, hr1⟩⟩, _, _⟩ := HX.out.at_ k hlt
          obtain ⟨g2, o2, F2, rfl, hg2, ⟨hc3, _, ⟨B2, d2, hc4, _, hr2⟩⟩, _, _⟩ := HY.out.at_ k hlty
          replace hc1 := (HB.out.cell (p := ⟨g1, o1 + k * 2, none⟩) hg1).trans hc1
          replace hc2 := (HB.out.cell (p := ⟨g1, o1 + k * 2 + 1, none⟩) hg1).trans hc2
          replace hc3 := (HB.out.cell (p := ⟨g2, o2 + k * 2, none⟩) hg2).trans hc3
          replace hc4 := (HB.out.cell (p := ⟨g2, o2 + k * 2 + 1, none⟩) hg2).trans hc4
          have R1 := Lib.hid (hr1.below HB.out)
          have R2 := Lib.hid (hr2.below HB.out)
          obtain ⟨L1, Y1⟩ := HMX.out _ (List.getElem_mem hlt)
          obtain ⟨L2, Y2⟩ := HMY.out _ (List.getElem_mem hlty)
          have e1 : xs[k]? = some xs[k] := List.getElem?_eq_getElem hlt
          have e2 : ys[k]? = some ys[k] := List.getElem?_eq_getElem hlty
          have hlt2 : (k : Int) < (xs.length : Int) := by omega
          have hlt3 : (k : Int) < (ys.length : Int) := by omega
          clear hr1 hr2
          generalize xs[k] = p at *
          generalize ys[k] = q at *
          obtain ⟨t1, x⟩ := p
          obtain ⟨t2, y⟩ := q
          simp only at hc1 hc2 hc3 hc4 R1 R2 L1 L2 Y1 Y2
          have E1 := Lib.hid e1
          have E2 := Lib.hid e2
          replace Y1 := Lib.hid Y1
          replace Y2 := Lib.hid Y2
          clear e1 e2
          by_cases ht : t1 = t2
          · subst ht
            cases hxy : (x == y)
            · have XY := Lib.hid hxy
              clear hxy
              have hf : b = false := by
                rw [← HB0.out]
                simp only [decide_eq_false_iff_not]
                intro h
                rw [h, E2.out] at E1
                have h1 := E1.out
                simp only [Option.some.injEq, Prod.mk.injEq, true_and] at h1
                have h4 := XY.out
                subst h1
                simp at h4
              subst hf
              go_wp2
              go_quiet ((go_at_call 71; exact Calls.quiet_of (specEqB_qb XY.out _ _ _ _ _ (R1.out.below (Dr.below (Dr.mk _ _))) (R2.out.below (Dr.below (Dr.mk _ _))) L1 L2 Y1.out Y2.out)))
              go_wp2
              go_ret
              exact ⟨rfl, Below.drewN_ HB.out _⟩
            · have XY := Lib.hid hxy
              clear hxy
              go_wp2
              go_quiet ((go_at_call 71; exact Calls.quiet_of (specEqB_qb XY.out _ _ _ _ _ (R1.out.below (Dr.below (Dr.mk _ _))) (R2.out.below (Dr.below (Dr.mk _ _))) L1 L2 Y1.out Y2.out)))
              go_wp2
              go_roundw
              case rel => exact ⟨k + 1, by omega, by go_num, Lib.hid (HD.out.drewN _), Lib.hid (fun j hj => by
                rcases Nat.lt_or_ge j k with h | h
                · exact heq.out j h
                · obtain rfl : j = k := by omega
                  have h4 := XY.out
                  simp only [beq_iff_eq] at h4
                  rw [E1.out, E2.out, h4])⟩
              case measure => simp [intOf]; omega
          · have hne : (t1 != t2) = true := by simp [ht]
            have hf : b = false := by
              rw [← HB0.out]
              simp only [decide_eq_false_iff_not]
              intro h
              rw [h, E2.out] at E1
              have h1 := E1.out
              simp only [Option.some.injEq, Prod.mk.injEq] at h1
              exact ht h1.1.symm
            subst hf
            go_wp2
            go_quiet (fail)
            go_wp2
            go_ret
            exact ⟨rfl, Below.drewN_ HB.out _⟩
        · obtain rfl : k = xs.length := by omega
          have ht : xs = ys := by
            apply List.ext_getElem?
            intro j
            rcases Nat.lt_or_ge j xs.length with h | h
            · exact heq.out j h
            · rw [List.getElem?_eq_none h, List.getElem?_eq_none (by omega)]
          have hf : b = true := by rw [← HB0.out]; simp [ht]
          subst hf
          clear ht
          go_wp2
          go_ret
          exact ⟨rfl, HB.out⟩
    · have hl2 : ((xs.length : Int) != (ys.length : Int)) = true := by simp; omega
      have hf : b = false := by
        rw [← hb]
        have : ¬ xs = ys := by rintro rfl; exact hl rfl
        simp [this]
      subst hf
      have HL := Lib.hid hl
      clear hl hb
      go_enter Try.func29, Try.ntmps29
      go_wp2
      go_ret
      exact ⟨rfl, (by repeat (first | (with_reducible exact Below.refl _ _) | (with_reducible refine Below.ext ?_ (by go_size) _ _) | (with_reducible refine Below.alloc ?_ (by go_size) _) | (with_reducible refine Below.setCell ?_ (by go_size) _) | (with_reducible refine Below.drew ?_) | (with_reducible refine Below.drewN_ ?_ _)))⟩
  · have hb2 : b = false := by rw [← hb]; simp [hs]
    subst hb2
    have hne : (s1 != s2) = true := by simp [hs]
    clear hb
    go_enter Try.func29, Try.ntmps29
    go_wp2
    go_ret
    exact ⟨rfl, (by repeat (first | (with_reducible exact Below.refl _ _) | (with_reducible refine Below.ext ?_ (by go_size) _ _) | (with_reducible refine Below.alloc ?_ (by go_size) _) | (with_reducible refine Below.setCell ?_ (by go_size) _) | (with_reducible refine Below.drew ?_) | (with_reducible refine Below.drewN_ ?_ _)))⟩

end Go.Proofs.Ytnfgdgmmbddmgaa
