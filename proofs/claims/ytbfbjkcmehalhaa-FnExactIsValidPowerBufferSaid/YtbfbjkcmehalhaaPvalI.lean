/- IsValidPowerBuffer of the program. -/
import Derived.Test.YtbfbjkcmehalhaaPvp
namespace Go.Proofs.Ytbfbjkcmehalhaa
open Go.RowKit
set_option linter.unusedVariables false
set_option linter.unusedSimpArgs false

set_option maxHeartbeats 4000000 in
theorem implVP_any {T : Nat → Prop} (A : Option Addr) (c : Nat) (xs : List KT) (w : World) (hx : Sl false 4 (EK false) w T A xs) (hm : xs.length ≤ 1000000000) (hmx : ∀ x ∈ xs, x.fr.length ≤ 1000000000 ∧ ∀ f ∈ x.fr, f.length ≤ 1000000000) :
    Calls Try.prog 18 #[.agg #[.slice A xs.length c]] w fun e w' => e = .returned (.bool (vChK (-1) xs)) ∧ Below w.heap.size w w' := by
  have HX := Lib.hid hx
  have HMX := Lib.hid hmx
  clear hx hmx
  go_enter Try.func18, Try.ntmps18
  go_wp2
  go_loopw [3, 11] (fun v p wr => ∃ (i : Nat) (b : Int), i ≤ xs.length ∧ p = .int .i64 (i : Int) ∧ v = .int .i64 b ∧ -1 ≤ b ∧ b ≤ 15 ∧ Hid (vChK (-1) xs = vChK b (xs.drop i)) ∧ Hid (Below w.heap.size w wr) ∧ w.heap.size < wr.heap.size) (fun _ p _ => xs.length - (intOf p).toNat)
  case atStart => exact ⟨0, -1, Nat.zero_le _, rfl, rfl, by omega, by omega, Lib.hid rfl, Lib.hid (by repeat (first | (with_reducible exact Below.refl _ _) | (with_reducible refine Below.ext ?_ (by go_size) _ _) | (with_reducible refine Below.alloc ?_ (by go_size) _) | (with_reducible refine Below.setCell ?_ (by go_size) _) | (with_reducible refine Below.drew ?_) | (with_reducible refine Below.drewN_ ?_ _))), by simp⟩
  case round =>
    obtain ⟨i, b, hi, rfl, rfl, hb0, hb1, HV, HB, hws⟩ := hrel
    by_cases hlt : i < xs.length
    · obtain ⟨g, o, F, rfl, hg, ⟨hc0, hc1, hc3, _, ⟨B1, d1, hc2, _, hr1⟩⟩, _, _⟩ := HX.out.at_ i hlt
      replace hc0 := (HB.out.cell (p := ⟨g, o + i * 4, none⟩) hg).trans hc0
      replace hc1 := (HB.out.cell (p := ⟨g, o + i * 4 + 1, none⟩) hg).trans hc1
      replace hc2 := (HB.out.cell (p := ⟨g, o + i * 4 + 2, none⟩) hg).trans hc2
      replace hc3 := (HB.out.cell (p := ⟨g, o + i * 4 + 3, none⟩) hg).trans hc3
      have R1 := Lib.hid (Sl.below (R := EB false) EB.framed hr1 HB.out)
      have hdr := HV.out
      rw [List.drop_eq_getElem_cons hlt] at hdr
      have hlt2 : (i : Int) < (xs.length : Int) := by omega
      have hgw : g < wr.heap.size := by omega
      have hmx := (HMX.out _ (List.getElem_mem hlt)).1
      have HMF := Lib.hid (HMX.out _ (List.getElem_mem hlt)).2
      clear hr1
      generalize xs[i] = x at *
      obtain ⟨s, a, f, l⟩ := x
      simp only [vChK] at hdr hc0 hc1 hc2 hc3 hmx HMF R1
      rw [okK_mk] at hdr
      cases hr : inR s 0 15
      · have hE : Hid (vChK (-1) xs = false) := Lib.hid (by rw [hdr, hr]; rfl)
        have HR := Lib.hid hr
        clear hdr hr
        go_wp2_with (go_at_call 36; refine (isStation_any _ _).mono ?_; rw [HR.out]; rintro e w' ⟨rfl, rfl⟩)
        go_ret
        exact ⟨by rw [hE.out]; rfl, Below.alloc HB.out (by omega) _⟩
      have hrr := inR_true hr
      obtain ⟨hr0, hr1⟩ := hrr
      have HR := Lib.hid hr
      rw [hr, Bool.true_and] at hdr
      clear hr
      by_cases hbs : b < s
      · rw [decide_eq_true hbs, Bool.true_and] at hdr
        have hbs2 : ¬ s ≤ b := by omega
        by_cases hlo : 0 ≤ l
        · rw [decide_eq_true hlo, Bool.true_and] at hdr
          have hlo2 : ¬ l < 0 := by omega
          by_cases h6 : f.length ≤ 6
          · rw [decide_eq_true h6, Bool.true_and] at hdr
            have h62 : ¬ (6 : Int) < (f.length : Int) := by omega
            by_cases haz : a = false ∧ 0 < f.length
            · obtain ⟨rfl, hf0⟩ := haz
              have hf1 : (0 : Int) < (f.length : Int) := by omega
              have hE : Hid (vChK (-1) xs = false) := Lib.hid (by rw [hdr, decide_eq_false (by omega)]; rfl)
              clear hdr
              go_wp2_with (go_at_call 36; refine (isStation_any _ _).mono ?_; rw [HR.out]; rintro e w' ⟨rfl, rfl⟩)
              go_ret
              exact ⟨by rw [hE.out]; rfl, Below.alloc HB.out (by omega) _⟩
            · have hazt : (a || decide (f.length = 0)) = true := by
                cases a
                · have : f.length = 0 := by simp at haz; simp [haz]
                  rw [decide_eq_true this]; rfl
                · rfl
              rw [hazt, Bool.true_and] at hdr
              have HD := Lib.hid hdr
              clear hdr
              have hazw : (a = true ∨ (a = false ∧ ¬ (0 : Int) < (f.length : Int))) := by
                cases a
                · right; simp at haz; exact ⟨rfl, by simp [haz]⟩
                · left; rfl
              clear hazt haz
              rcases hazw with rfl | ⟨rfl, hf0⟩
              all_goals
                go_wp2_with (go_at_call 36; refine (isStation_any _ _).mono ?_; rw [HR.out]; rintro e w' ⟨rfl, rfl⟩)
                go_loop [50] (fun q => ∃ j : Nat, j ≤ f.length ∧ q = .int .i64 (j : Int) ∧ Hid (shortL f = shortL (f.drop j))) (fun q => f.length - (intOf q).toNat)
                case atStart => exact ⟨0, Nat.zero_le _, rfl, Lib.hid rfl⟩
                case round =>
                  obtain ⟨j, hj, rfl, HJ⟩ := hrel
                  by_cases hjl : j < f.length
                  · obtain ⟨g2, o2, F2, rfl, hg2, ⟨B2, d2, hc4, _, _⟩, _, _⟩ := R1.out.at_ j hjl
                    rw [Nat.mul_one] at hc4
                    have hsd := HJ.out
                    rw [shortL_drop hjl] at hsd
                    have hyl := HMF.out _ (List.getElem_mem hjl)
                    have hjl2 : (j : Int) < (f.length : Int) := by omega
                    generalize f[j] = y at *
                    by_cases hy : y.length ≤ 100
                    · rw [decide_eq_true hy, Bool.true_and] at hsd
                      have HSD := Lib.hid hsd
                      have hy2 : ¬ (100 : Int) < (y.length : Int) := by omega
                      clear hsd
                      go_wp2
                      go_round
                      case rel => exact ⟨j + 1, by omega, by go_num, HSD⟩
                      case measure => simp [intOf]; omega
                    · rw [decide_eq_false hy, Bool.false_and] at hsd
                      have hE : Hid (vChK (-1) xs = false) := Lib.hid (by rw [HD.out, hsd]; rfl)
                      have hy2 : (100 : Int) < (y.length : Int) := by omega
                      clear hsd
                      go_wp2
                      go_ret
                      exact ⟨by rw [hE.out]; rfl, Below.alloc HB.out (by omega) _⟩
                  · obtain rfl : j = f.length := by omega
                    have HN : Hid (vChK (-1) xs = vChK s (xs.drop (i + 1))) := Lib.hid (by rw [HD.out, HJ.out, List.drop_length]; rfl)
                    go_wp2
                    go_roundw
                    case rel => exact ⟨i + 1, s, by omega, by go_num, rfl, by omega, by omega, HN, Lib.hid (Below.alloc HB.out (by omega) _), by simp; omega⟩
                    case measure => simp [intOf]; omega
          · have hE : Hid (vChK (-1) xs = false) := Lib.hid (by rw [hdr, decide_eq_false h6]; rfl)
            have h62 : (6 : Int) < (f.length : Int) := by omega
            clear hdr
            go_wp2_with (go_at_call 36; refine (isStation_any _ _).mono ?_; rw [HR.out]; rintro e w' ⟨rfl, rfl⟩)
            go_ret
            exact ⟨by rw [hE.out]; rfl, Below.alloc HB.out (by omega) _⟩
        · have hE : Hid (vChK (-1) xs = false) := Lib.hid (by rw [hdr, decide_eq_false hlo]; rfl)
          have hlo2 : l < 0 := by omega
          clear hdr
          go_wp2_with (go_at_call 36; refine (isStation_any _ _).mono ?_; rw [HR.out]; rintro e w' ⟨rfl, rfl⟩)
          go_ret
          exact ⟨by rw [hE.out]; rfl, Below.alloc HB.out (by omega) _⟩
      · have hE : Hid (vChK (-1) xs = false) := Lib.hid (by rw [hdr, decide_eq_false hbs]; rfl)
        have hbs2 : s ≤ b := by omega
        clear hdr
        go_wp2_with (go_at_call 36; refine (isStation_any _ _).mono ?_; rw [HR.out]; rintro e w' ⟨rfl, rfl⟩)
        go_ret
        exact ⟨by rw [hE.out]; rfl, Below.alloc HB.out (by omega) _⟩
    · obtain rfl : i = xs.length := by omega
      have hE : Hid (vChK (-1) xs = true) := Lib.hid (by rw [HV.out, List.drop_length]; rfl)
      go_wp2
      go_ret
      exact ⟨by rw [hE.out]; rfl, HB.out⟩

end Go.Proofs.Ytbfbjkcmehalhaa
