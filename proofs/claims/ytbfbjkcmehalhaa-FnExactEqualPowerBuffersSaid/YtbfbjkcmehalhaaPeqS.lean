/- EqualPowerBuffers of the program and of the reference. -/
import Derived.Test.YtbfbjkcmehalhaaPeqA
namespace Go.Proofs.Ytbfbjkcmehalhaa
open Go.RowKit
set_option linter.unusedVariables false
set_option linter.unusedSimpArgs false

set_option maxHeartbeats 8000000 in
theorem specEqP_any {T1 T2 : Nat → Prop} {xs ys : List KT} {b : Bool} (hb : decide (xs = ys) = b) (A B : Option Addr) (c1 c2 : Nat) (w : World) (hx : Sl false 4 (EK false) w T1 A xs) (hy : Sl false 4 (EK false) w T2 B ys) (hm : xs.length ≤ 1000000000) (hm2 : ys.length ≤ 1000000000)
    (hmx : ∀ x ∈ xs, x.fr.length ≤ 1000000000000 ∧ ∀ f ∈ x.fr, f.length ≤ 1000000000000 ∧ ∀ z ∈ f, 0 ≤ z ∧ z ≤ 255) (hmy : ∀ x ∈ ys, x.fr.length ≤ 1000000000000 ∧ ∀ f ∈ x.fr, f.length ≤ 1000000000000 ∧ ∀ z ∈ f, 0 ≤ z ∧ z ≤ 255) :
    Calls Try.prog 19 #[.agg #[.slice A xs.length c1], .agg #[.slice B ys.length c2]] w fun e w' => e = .returned (.bool b) ∧ Below w.heap.size w w' := by
  have HX := Lib.hid hx
  have HY := Lib.hid hy
  have HMX := Lib.hid hmx
  have HMY := Lib.hid hmy
  clear hx hy hmx hmy
  by_cases hl : xs.length = ys.length
  · have HB0 : Hid (decide (xs = ys) = b) := Lib.hid hb
    have hl2 : ((xs.length : Int) != (ys.length : Int)) = false := by simp; omega
    have hlle : ys.length ≤ xs.length ∧ xs.length ≤ ys.length := by omega
    obtain ⟨hl3, hl4⟩ := hlle
    have HL := Lib.hid hl
    clear hl hb
    go_enter Try.func19, Try.ntmps19
    go_wp2
    go_loopw [5] (fun p wr => ∃ k : Nat, k ≤ xs.length ∧ p = .int .i64 (k : Int) ∧ Hid (Below w.heap.size w wr) ∧ Hid (∀ j, j < k → xs[j]? = ys[j]?) ∧ w.heap.size + 1 < wr.heap.size ∧ wr.cell? ⟨w.heap.size, 0, none⟩ = some (.slice A xs.length c1) ∧ wr.cell? ⟨w.heap.size + 1, 0, none⟩ = some (.slice B ys.length c2)) (fun p _ => xs.length - (intOf p).toNat)
    case atStart => exact ⟨0, Nat.zero_le _, rfl, Lib.hid (by repeat (first | (with_reducible exact Below.refl _ _) | (with_reducible refine Below.ext ?_ (by go_size) _ _) | (with_reducible refine Below.alloc ?_ (by go_size) _) | (with_reducible refine Below.setCell ?_ (by go_size) _) | (with_reducible refine Below.drew ?_) | (with_reducible refine Below.drewN_ ?_ _))), Lib.hid (fun j hj => absurd hj (by omega)), by simp, by simp [go_sem], by simp [go_sem]⟩
    case round =>
      obtain ⟨k, hk, rfl, HB, heq, hws1, hca, hcb⟩ := hrel
      have hws : w.heap.size ≤ wr.heap.size := by omega
      have hws2 : w.heap.size < wr.heap.size := by omega
      by_cases hlt : k < xs.length
      · have hlty : k < ys.length := by omega
        obtain ⟨g1, o1, F1, rfl, hg1, ⟨hc01, hc11, hc31, _, ⟨B1, d1, hc21, _, hr1⟩⟩, _, _⟩ := HX.out.at_ k hlt
        obtain ⟨g2, o2, F2, rfl, hg2, ⟨hc02, hc12, hc32, _, ⟨B2, d2, hc22, _, hr2⟩⟩, _, _⟩ := HY.out.at_ k hlty
        have hgw1 : g1 < wr.heap.size := by omega
        have hgw2 : g2 < wr.heap.size := by omega
        have R1 := Lib.hid (Sl.below (R := EB false) EB.framed hr1 HB.out)
        have R2 := Lib.hid (Sl.below (R := EB false) EB.framed hr2 HB.out)
        have L1 := Lib.hid (HMX.out _ (List.getElem_mem hlt)).1
        have L2 := Lib.hid (HMY.out _ (List.getElem_mem hlty)).1
        have LL1 := Lib.hid (HMX.out _ (List.getElem_mem hlt)).2
        have LL2 := Lib.hid (HMY.out _ (List.getElem_mem hlty)).2
        have e1 : xs[k]? = some xs[k] := List.getElem?_eq_getElem hlt
        have e2 : ys[k]? = some ys[k] := List.getElem?_eq_getElem hlty
        have hlt2 : (k : Int) < (xs.length : Int) := by omega
        have hlt3 : (k : Int) < (ys.length : Int) := by omega
        clear hr1 hr2
        generalize xs[k] = p at *
        generalize ys[k] = q at *
        obtain ⟨s1, a1, f1, l1⟩ := p
        obtain ⟨s2, a2, f2, l2⟩ := q
        simp only at hc01 hc11 hc21 hc31 hc02 hc12 hc22 hc32 R1 R2 L1 L2 LL1 LL2
        replace hc01 := (HB.out.cell (p := ⟨g1, o1 + k * 4, none⟩) hg1).trans hc01
        replace hc11 := (HB.out.cell (p := ⟨g1, o1 + k * 4 + 1, none⟩) hg1).trans hc11
        replace hc21 := (HB.out.cell (p := ⟨g1, o1 + k * 4 + 2, none⟩) hg1).trans hc21
        replace hc31 := (HB.out.cell (p := ⟨g1, o1 + k * 4 + 3, none⟩) hg1).trans hc31
        replace hc02 := (HB.out.cell (p := ⟨g2, o2 + k * 4, none⟩) hg2).trans hc02
        replace hc12 := (HB.out.cell (p := ⟨g2, o2 + k * 4 + 1, none⟩) hg2).trans hc12
        replace hc22 := (HB.out.cell (p := ⟨g2, o2 + k * 4 + 2, none⟩) hg2).trans hc22
        replace hc32 := (HB.out.cell (p := ⟨g2, o2 + k * 4 + 3, none⟩) hg2).trans hc32
        have E1 := Lib.hid e1
        have E2 := Lib.hid e2
        clear e1 e2
        have HF : Hid ((s1 == s2 && (a1 == a2 && (f1 == f2 && l1 == l2))) = false → b = false) := Lib.hid (fun h => by
          rw [← HB0.out]
          simp only [decide_eq_false_iff_not]
          intro hxy
          rw [hxy, E2.out] at E1
          have h1 := (kt_eq _ _ _ _ _ _ _ _).1 (Option.some.inj E1.out).symm
          rw [h] at h1
          cases h1)
        by_cases hs : s1 = s2
        · subst hs
          by_cases ha : a1 = a2
          · subst ha
            by_cases hll : l1 = l2
            · subst hll
              cases hxy : (f1 == f2)
              · have XY := Lib.hid hxy
                obtain rfl : b = false := HF.out (by simp [hxy])
                clear hxy
                go_wp2_with fail
                all_goals refine (specEqSS_q B1 B2 d1 d2 f1 f2 _ (Sl.below (R := EB false) EB.framed R1.out (by repeat (first | (with_reducible exact Below.refl _ _) | (with_reducible refine Below.ext ?_ (by go_size) _ _) | (with_reducible refine Below.alloc ?_ (by go_size) _) | (with_reducible refine Below.setCell ?_ (by go_size) _) | (with_reducible refine Below.drew ?_) | (with_reducible refine Below.drewN_ ?_ _)))) (Sl.below (R := EB false) EB.framed R2.out (by repeat (first | (with_reducible exact Below.refl _ _) | (with_reducible refine Below.ext ?_ (by go_size) _ _) | (with_reducible refine Below.alloc ?_ (by go_size) _) | (with_reducible refine Below.setCell ?_ (by go_size) _) | (with_reducible refine Below.drew ?_) | (with_reducible refine Below.drewN_ ?_ _)))) L1.out L2.out LL1.out LL2.out).mono ?_
                all_goals rw [XY.out]
                all_goals rintro e w2 ⟨rfl, hd⟩
                all_goals have hb1 := hd.below
                all_goals obtain ⟨X, d, rfl⟩ := Below.ext_ hb1
                all_goals clear hd hb1
                all_goals go_wp2
                all_goals go_ret
                all_goals exact ⟨rfl, Below.trans HB.out (Below.mono (by repeat (first | (with_reducible exact Below.refl _ _) | (with_reducible refine Below.ext ?_ (by go_size) _ _) | (with_reducible refine Below.alloc ?_ (by go_size) _) | (with_reducible refine Below.setCell ?_ (by go_size) _) | (with_reducible refine Below.drew ?_) | (with_reducible refine Below.drewN_ ?_ _))) hws)⟩
              · have XY := Lib.hid hxy
                clear hxy
                go_wp2_with fail
                all_goals refine (specEqSS_q B1 B2 d1 d2 f1 f2 _ (Sl.below (R := EB false) EB.framed R1.out (by repeat (first | (with_reducible exact Below.refl _ _) | (with_reducible refine Below.ext ?_ (by go_size) _ _) | (with_reducible refine Below.alloc ?_ (by go_size) _) | (with_reducible refine Below.setCell ?_ (by go_size) _) | (with_reducible refine Below.drew ?_) | (with_reducible refine Below.drewN_ ?_ _)))) (Sl.below (R := EB false) EB.framed R2.out (by repeat (first | (with_reducible exact Below.refl _ _) | (with_reducible refine Below.ext ?_ (by go_size) _ _) | (with_reducible refine Below.alloc ?_ (by go_size) _) | (with_reducible refine Below.setCell ?_ (by go_size) _) | (with_reducible refine Below.drew ?_) | (with_reducible refine Below.drewN_ ?_ _)))) L1.out L2.out LL1.out LL2.out).mono ?_
                all_goals rw [XY.out]
                all_goals rintro e w2 ⟨rfl, hd⟩
                all_goals have hb1 := hd.below
                all_goals obtain ⟨X, d, rfl⟩ := Below.ext_ hb1
                all_goals clear hd hb1
                all_goals go_wp2
                all_goals go_roundw
                all_goals first
                  | exact ⟨k + 1, by omega, by go_num, Lib.hid (Below.trans HB.out (Below.mono (by repeat (first | (with_reducible exact Below.refl _ _) | (with_reducible refine Below.ext ?_ (by go_size) _ _) | (with_reducible refine Below.alloc ?_ (by go_size) _) | (with_reducible refine Below.setCell ?_ (by go_size) _) | (with_reducible refine Below.drew ?_) | (with_reducible refine Below.drewN_ ?_ _))) hws)), Lib.hid (fun j hj => by
                      rcases Nat.lt_or_ge j k with h | h
                      · exact heq.out j h
                      · obtain rfl : j = k := by omega
                        rw [E1.out, E2.out, (beq_iff_eq.1 XY.out)]), Nat.lt_of_lt_of_le hws1 (Below.size (show Below wr.heap.size wr _ from (by repeat (first | (with_reducible exact Below.refl _ _) | (with_reducible refine Below.ext ?_ (by go_size) _ _) | (with_reducible refine Below.alloc ?_ (by go_size) _) | (with_reducible refine Below.setCell ?_ (by go_size) _) | (with_reducible refine Below.drew ?_) | (with_reducible refine Below.drewN_ ?_ _))))), (Below.cell (p := ⟨w.heap.size, 0, none⟩) (show Below wr.heap.size wr _ from (by repeat (first | (with_reducible exact Below.refl _ _) | (with_reducible refine Below.ext ?_ (by go_size) _ _) | (with_reducible refine Below.alloc ?_ (by go_size) _) | (with_reducible refine Below.setCell ?_ (by go_size) _) | (with_reducible refine Below.drew ?_) | (with_reducible refine Below.drewN_ ?_ _)))) hws2).trans hca, (Below.cell (p := ⟨w.heap.size + 1, 0, none⟩) (show Below wr.heap.size wr _ from (by repeat (first | (with_reducible exact Below.refl _ _) | (with_reducible refine Below.ext ?_ (by go_size) _ _) | (with_reducible refine Below.alloc ?_ (by go_size) _) | (with_reducible refine Below.setCell ?_ (by go_size) _) | (with_reducible refine Below.drew ?_) | (with_reducible refine Below.drewN_ ?_ _)))) hws1).trans hcb⟩
                  | (simp [intOf]; omega)
            · obtain rfl : b = false := HF.out (by simp [hll])
              have hne : (l1 != l2) = true := by simp [hll]
              go_wp2
              all_goals go_ret
              all_goals exact ⟨rfl, Below.trans HB.out (Below.mono (by repeat (first | (with_reducible exact Below.refl _ _) | (with_reducible refine Below.ext ?_ (by go_size) _ _) | (with_reducible refine Below.alloc ?_ (by go_size) _) | (with_reducible refine Below.setCell ?_ (by go_size) _) | (with_reducible refine Below.drew ?_) | (with_reducible refine Below.drewN_ ?_ _))) hws)⟩
          · obtain rfl : b = false := HF.out (by simp [ha])
            have hne : (a1 == a2) = false := by simpa using ha
            go_wp2
            all_goals go_ret
            all_goals exact ⟨rfl, Below.trans HB.out (Below.mono (by repeat (first | (with_reducible exact Below.refl _ _) | (with_reducible refine Below.ext ?_ (by go_size) _ _) | (with_reducible refine Below.alloc ?_ (by go_size) _) | (with_reducible refine Below.setCell ?_ (by go_size) _) | (with_reducible refine Below.drew ?_) | (with_reducible refine Below.drewN_ ?_ _))) hws)⟩
        · obtain rfl : b = false := HF.out (by simp [hs])
          have hne : (s1 != s2) = true := by simp [hs]
          go_wp2
          all_goals go_ret
          all_goals exact ⟨rfl, Below.trans HB.out (Below.mono (by repeat (first | (with_reducible exact Below.refl _ _) | (with_reducible refine Below.ext ?_ (by go_size) _ _) | (with_reducible refine Below.alloc ?_ (by go_size) _) | (with_reducible refine Below.setCell ?_ (by go_size) _) | (with_reducible refine Below.drew ?_) | (with_reducible refine Below.drewN_ ?_ _))) hws)⟩
      · obtain rfl : k = xs.length := by omega
        have ht : xs = ys := by
          apply List.ext_getElem?
          intro j
          rcases Nat.lt_or_ge j xs.length with h | h
          · exact heq.out j h
          · rw [List.getElem?_eq_none h, List.getElem?_eq_none (by omega)]
        have hf : b = true := by rw [← HB0.out]; simp [ht]
        subst hf
        clear ht
        go_wp2
        go_ret
        exact ⟨rfl, HB.out⟩
  · have hl2 : ((xs.length : Int) != (ys.length : Int)) = true := by simp; omega
    have hf : b = false := by
      rw [← hb]
      have : ¬ xs = ys := by rintro rfl; exact hl rfl
      simp [this]
    subst hf
    have HL := Lib.hid hl
    clear hl hb
    go_enter Try.func19, Try.ntmps19
    go_wp2
    go_ret
    exact ⟨rfl, (by repeat (first | (with_reducible exact Below.refl _ _) | (with_reducible refine Below.ext ?_ (by go_size) _ _) | (with_reducible refine Below.alloc ?_ (by go_size) _) | (with_reducible refine Below.setCell ?_ (by go_size) _) | (with_reducible refine Below.drew ?_) | (with_reducible refine Below.drewN_ ?_ _)))⟩


end Go.Proofs.Ytbfbjkcmehalhaa
