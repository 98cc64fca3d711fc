/- isStation, TimOf of the program and of the reference. -/
import Derived.Test.YtbfbjkcmehalhaaPk
import Derived.Test.YtbfbjkcmehalhaaOwn
namespace Go.Proofs.Ytbfbjkcmehalhaa
open Go.RowKit
set_option linter.unusedVariables false
set_option linter.unusedSimpArgs false

theorem isStation_any (n : Int) (w : World) : Calls Try.prog 36 #[.int .i64 n] w fun e w' => e = .returned (.bool (inR n 0 15)) ∧ w = w' := by
  go_enter Try.func36, Try.ntmps36
  go_wp2_with fail
  refine (inRange_any n 0 15 _).mono ?_
  rintro e w' ⟨rfl, rfl⟩
  go_wp2
  go_ret
  exact ⟨rfl, rfl⟩
theorem wrap64_eqt (x : Int) : wrap64 x = IntKind.i64.wrap x := by rw [IntKind.wrap_i64]; unfold wrap64; omega
def tB : Nat → List KT → Nat
  | n, [] => n
  | n, x :: xs => tB (if inR x.st 0 15 && decide (0 < x.fr.length) then n ||| 2 ^ x.st.toNat else n) xs

set_option maxHeartbeats 2000000 in
theorem implTim_any {T : Nat → Prop} (A : Option Addr) (c : Nat) (xs : List KT) (w : World) (hx : Sl false 4 (EK false) w T A xs) (hm : xs.length ≤ 1000000000) (hmx : ∀ x ∈ xs, x.fr.length ≤ 1000000000 ∧ ∀ f ∈ x.fr, f.length ≤ 1000000000) :
    Calls Try.prog 13 #[.agg #[.slice A xs.length c]] w fun e w' => e = .returned (.int .i64 (tB 0 xs : Nat)) ∧ Below w.heap.size w w' := by
  have HX := Lib.hid hx
  have HMX := Lib.hid hmx
  clear hx hmx
  go_enter Try.func13, Try.ntmps13
  go_wp2
  go_loopw [3, 9] (fun v p wr => ∃ (i n : Nat), i ≤ xs.length ∧ p = .int .i64 (i : Int) ∧ v = .int .i64 (n : Int) ∧ n < 65536 ∧ Hid (tB 0 xs = tB n (xs.drop i)) ∧ Hid (Below w.heap.size w wr) ∧ w.heap.size < wr.heap.size) (fun _ p _ => xs.length - (intOf p).toNat)
  case atStart => exact ⟨0, 0, Nat.zero_le _, rfl, rfl, by omega, Lib.hid rfl, Lib.hid (by repeat (first | (with_reducible exact Below.refl _ _) | (with_reducible refine Below.ext ?_ (by go_size) _ _) | (with_reducible refine Below.alloc ?_ (by go_size) _) | (with_reducible refine Below.setCell ?_ (by go_size) _) | (with_reducible refine Below.drew ?_) | (with_reducible refine Below.drewN_ ?_ _))), by simp⟩
  case round =>
    obtain ⟨i, n, hi, rfl, rfl, hn, HV, HB, hws⟩ := hrel
    by_cases hlt : i < xs.length
    · obtain ⟨g, o, F, rfl, hg, ⟨hc0, hc1, hc3, _, ⟨B1, d1, hc2, _, _⟩⟩, _, _⟩ := HX.out.at_ i hlt
      replace hc0 := (HB.out.cell (p := ⟨g, o + i * 4, none⟩) hg).trans hc0
      replace hc1 := (HB.out.cell (p := ⟨g, o + i * 4 + 1, none⟩) hg).trans hc1
      replace hc2 := (HB.out.cell (p := ⟨g, o + i * 4 + 2, none⟩) hg).trans hc2
      replace hc3 := (HB.out.cell (p := ⟨g, o + i * 4 + 3, none⟩) hg).trans hc3
      have hdr := HV.out
      rw [List.drop_eq_getElem_cons hlt] at hdr
      have hlt2 : (i : Int) < (xs.length : Int) := by omega
      have hgw : g < wr.heap.size := by omega
      have hmx := (HMX.out _ (List.getElem_mem hlt)).1
      generalize xs[i] = x at *
      obtain ⟨s, a, f, l⟩ := x
      simp only [tB] at hdr hc0 hc1 hc2 hc3 hmx
      cases hr : inR s 0 15
      · rw [hr] at hdr
        have HN : Hid (tB 0 xs = tB n (xs.drop (i + 1))) := Lib.hid hdr
        have HR := Lib.hid hr
        clear hdr hr
        go_wp2_with (go_at_call 36; refine (isStation_any _ _).mono ?_; rw [HR.out]; rintro e w' ⟨rfl, rfl⟩)
        go_roundw
        case rel => exact ⟨i + 1, n, by omega, by go_num, rfl, hn, HN, Lib.hid (Below.alloc HB.out (by omega) _), by simp; omega⟩
        case measure => simp [intOf]; omega
      · have hrr := inR_true hr
        obtain ⟨hr0, hr1⟩ := hrr
        by_cases hf : 0 < f.length
        · have hf2 : (0 : Int) < (f.length : Int) := by omega
          have hfd : (inR s 0 15 && decide (0 < f.length)) = true := by rw [hr, decide_eq_true hf]; rfl
          rw [if_pos hfd] at hdr
          have HN := Lib.hid hdr
          have HR := Lib.hid hr
          have hor := or_bit n s.toNat (by omega) (by omega)
          have hor2 : bits .or .i64 ((n : Nat) : Int) (wrap64 (2 ^ s.toNat)) = ((n ||| 2 ^ s.toNat : Nat) : Int) := by rw [wrap64_eqt]; exact hor
          have hlt16 : n ||| 2 ^ s.toNat < 65536 := Nat.or_lt_two_pow (n := 16) hn (Nat.pow_lt_pow_right (by omega) (by omega))
          clear hdr hr hfd
          generalize n ||| 2 ^ s.toNat = m at *
          go_wp2_with (go_at_call 36; refine (isStation_any _ _).mono ?_; rw [HR.out]; rintro e w' ⟨rfl, rfl⟩)
          go_roundw
          case rel => exact ⟨i + 1, m, by omega, by go_num, rfl, hlt16, HN, Lib.hid (Below.alloc HB.out (by omega) _), by simp; omega⟩
          case measure => simp [intOf]; omega
        · have hf2 : ¬ (0 : Int) < (f.length : Int) := by omega
          have hfd : ¬ (inR s 0 15 && decide (0 < f.length)) = true := by rw [decide_eq_false hf, Bool.and_false]; simp
          rw [if_neg hfd] at hdr
          have HN := Lib.hid hdr
          have HR := Lib.hid hr
          clear hdr hr hfd
          go_wp2_with (go_at_call 36; refine (isStation_any _ _).mono ?_; rw [HR.out]; rintro e w' ⟨rfl, rfl⟩)
          go_roundw
          case rel => exact ⟨i + 1, n, by omega, by go_num, rfl, hn, HN, Lib.hid (Below.alloc HB.out (by omega) _), by simp; omega⟩
          case measure => simp [intOf]; omega
    · obtain rfl : i = xs.length := by omega
      have hE : Hid (tB 0 xs = n) := Lib.hid (by rw [HV.out, List.drop_length]; rfl)
      go_wp2
      go_ret
      exact ⟨by rw [hE.out]; rfl, HB.out⟩

set_option maxHeartbeats 2000000 in
theorem specTim_any {T : Nat → Prop} (A : Option Addr) (c : Nat) (xs : List KT) (w : World) (hx : Sl false 4 (EK false) w T A xs) (hm : xs.length ≤ 1000000000) (hmx : ∀ x ∈ xs, x.fr.length ≤ 1000000000 ∧ ∀ f ∈ x.fr, f.length ≤ 1000000000) :
    Calls Try.prog 11 #[.agg #[.slice A xs.length c]] w fun e w' => e = .returned (.int .i64 (tB 0 xs : Nat)) ∧ Below w.heap.size w w' := by
  have HX := Lib.hid hx
  have HMX := Lib.hid hmx
  clear hx hmx
  go_enter Try.func11, Try.ntmps11
  go_wp2
  go_loopw [3, 4] (fun v p wr => ∃ (i n : Nat), i ≤ xs.length ∧ p = .int .i64 (i : Int) ∧ v = .int .i64 (n : Int) ∧ n < 65536 ∧ Hid (tB 0 xs = tB n (xs.drop i)) ∧ Hid (Below w.heap.size w wr) ∧ w.heap.size < wr.heap.size ∧ wr.cell? ⟨w.heap.size, 0, none⟩ = some (.slice A xs.length c)) (fun _ p _ => xs.length - (intOf p).toNat)
  case atStart => exact ⟨0, 0, Nat.zero_le _, rfl, rfl, by omega, Lib.hid rfl, Lib.hid (by repeat (first | (with_reducible exact Below.refl _ _) | (with_reducible refine Below.ext ?_ (by go_size) _ _) | (with_reducible refine Below.alloc ?_ (by go_size) _) | (with_reducible refine Below.setCell ?_ (by go_size) _) | (with_reducible refine Below.drew ?_) | (with_reducible refine Below.drewN_ ?_ _))), by simp, by simp [go_sem]⟩
  case round =>
    obtain ⟨i, n, hi, rfl, rfl, hn, HV, HB, hws, hcp⟩ := hrel
    by_cases hlt : i < xs.length
    · obtain ⟨g, o, F, rfl, hg, ⟨hc0, hc1, hc3, _, ⟨B1, d1, hc2, _, _⟩⟩, _, _⟩ := HX.out.at_ i hlt
      replace hc0 := (HB.out.cell (p := ⟨g, o + i * 4, none⟩) hg).trans hc0
      replace hc1 := (HB.out.cell (p := ⟨g, o + i * 4 + 1, none⟩) hg).trans hc1
      replace hc2 := (HB.out.cell (p := ⟨g, o + i * 4 + 2, none⟩) hg).trans hc2
      replace hc3 := (HB.out.cell (p := ⟨g, o + i * 4 + 3, none⟩) hg).trans hc3
      have hdr := HV.out
      rw [List.drop_eq_getElem_cons hlt] at hdr
      have hlt2 : (i : Int) < (xs.length : Int) := by omega
      have hgw : g < wr.heap.size := by omega
      have hmx := (HMX.out _ (List.getElem_mem hlt)).1
      generalize xs[i] = x at *
      obtain ⟨s, a, f, l⟩ := x
      simp only [tB] at hdr hc0 hc1 hc2 hc3 hmx
      cases hr : inR s 0 15
      · rw [hr] at hdr
        have HN : Hid (tB 0 xs = tB n (xs.drop (i + 1))) := Lib.hid hdr
        have HR := Lib.hid hr
        clear hdr hr
        go_wp2_with (go_at_call 34; refine (l1In_any _ _ _ _).mono ?_; rw [HR.out]; rintro e w' ⟨rfl, rfl⟩)
        go_roundw
        case rel => exact ⟨i + 1, n, by omega, by go_num, rfl, hn, HN, HB, hws, hcp⟩
        case measure => simp [intOf]; omega
      · have hrr := inR_true hr
        obtain ⟨hr0, hr1⟩ := hrr
        by_cases hf : 0 < f.length
        · have hf2 : (0 : Int) < (f.length : Int) := by omega
          have hfd : (inR s 0 15 && decide (0 < f.length)) = true := by rw [hr, decide_eq_true hf]; rfl
          rw [if_pos hfd] at hdr
          have HN := Lib.hid hdr
          have HR := Lib.hid hr
          have hor := or_bit n s.toNat (by omega) (by omega)
          have hor2 : bits .or .i64 ((n : Nat) : Int) (wrap64 (2 ^ s.toNat)) = ((n ||| 2 ^ s.toNat : Nat) : Int) := by rw [wrap64_eqt]; exact hor
          have hlt16 : n ||| 2 ^ s.toNat < 65536 := Nat.or_lt_two_pow (n := 16) hn (Nat.pow_lt_pow_right (by omega) (by omega))
          clear hdr hr hfd
          generalize n ||| 2 ^ s.toNat = m at *
          go_wp2_with (go_at_call 34; refine (l1In_any _ _ _ _).mono ?_; rw [HR.out]; rintro e w' ⟨rfl, rfl⟩)
          go_roundw
          case rel => exact ⟨i + 1, m, by omega, by go_num, rfl, hlt16, HN, HB, hws, hcp⟩
          case measure => simp [intOf]; omega
        · have hf2 : ¬ (0 : Int) < (f.length : Int) := by omega
          have hfd : ¬ (inR s 0 15 && decide (0 < f.length)) = true := by rw [decide_eq_false hf, Bool.and_false]; simp
          rw [if_neg hfd] at hdr
          have HN := Lib.hid hdr
          have HR := Lib.hid hr
          clear hdr hr hfd
          go_wp2_with (go_at_call 34; refine (l1In_any _ _ _ _).mono ?_; rw [HR.out]; rintro e w' ⟨rfl, rfl⟩)
          go_roundw
          case rel => exact ⟨i + 1, n, by omega, by go_num, rfl, hn, HN, HB, hws, hcp⟩
          case measure => simp [intOf]; omega
    · obtain rfl : i = xs.length := by omega
      have hE : Hid (tB 0 xs = n) := Lib.hid (by rw [HV.out, List.drop_length]; rfl)
      go_wp2
      go_ret
      exact ⟨by rw [hE.out]; rfl, HB.out⟩

end Go.Proofs.Ytbfbjkcmehalhaa
