/- IsValidReorderBuffer of the program and of the reference; isPending. -/
import Derived.Test.YtnfgdgmmbddmgaaNF
import Derived.Test.YtnfgdgmmbddmgaaSeqA
namespace Go.Proofs.Ytnfgdgmmbddmgaa
open Go.RowKit
set_option linter.unusedVariables false
set_option linter.unusedSimpArgs false

def vChain (st : Int) : Int → List NF → Bool
  | _, [] => true
  | b, x :: xs => decide (x.2.length ≤ 100) && inR (seqD st x.1) (b + 1) 15 && vChain st (seqD st x.1) xs
def vROB (st : Int) (xs : List NF) : Bool := inR st 0 4095 && vChain st 0 xs
theorem specDist_q (a b : Int) (w : World) : Calls Try.prog 51 #[.int .i64 a, .int .i64 b] w fun e w' => e = .returned (.int .i64 (seqD a b)) ∧ w' = w :=
  (specDist_any a b w).mono fun _ _ ⟨a, b⟩ => ⟨a, b.symm⟩
theorem implDist_q (a b : Int) (w : World) : Calls Try.prog 59 #[.int .i64 a, .int .i64 b] w fun e w' => e = .returned (.int .i64 (seqD a b)) ∧ w' = w :=
  (implDist_any a b w).mono fun _ _ ⟨a, b⟩ => ⟨a, b.symm⟩
theorem seqD_self (st s : Int) (h : inR st 0 4095 = false) : seqD st s = -1 := by unfold seqD; rw [h]; rfl

set_option maxHeartbeats 2000000 in
theorem implVR_any {T : Nat → Prop} (st : Int) (A : Option Addr) (c : Nat) (xs : List NF) (w : World) (hx : Sl false 2 (EN false) w T A xs) (hm : xs.length ≤ 1000000000) (hmx : ∀ x ∈ xs, x.2.length ≤ 1000000000) :
    Calls Try.prog 32 #[.agg #[.int .i64 st, .slice A xs.length c]] w fun e w' => e = .returned (.bool (vROB st xs)) ∧ Below w.heap.size w w' := by
  have HX := Lib.hid hx
  have HMX := Lib.hid hmx
  clear hx hmx
  cases h : inR st 0 4095
  · have hE : Hid (vROB st xs = false) := Lib.hid (by unfold vROB; rw [h]; rfl)
    go_enter Try.func32, Try.ntmps32
    go_wp2_with (first | (go_at_call 60; refine (inRange_any _ _ _ _).mono ?_; rintro e w' ⟨rfl, rfl⟩))
    go_ret
    exact ⟨by rw [hE.out]; rfl, (by repeat (first | (with_reducible exact Below.refl _ _) | (with_reducible refine Below.ext ?_ (by go_size) _ _) | (with_reducible refine Below.alloc ?_ (by go_size) _) | (with_reducible refine Below.setCell ?_ (by go_size) _) | (with_reducible refine Below.drew ?_) | (with_reducible refine Below.drewN_ ?_ _)))⟩
  · go_enter Try.func32, Try.ntmps32
    go_wp2_with (first | (go_at_call 60; refine (inRange_any _ _ _ _).mono ?_; rintro e w' ⟨rfl, rfl⟩))
    go_loopw [3, 14] (fun v p wr => ∃ (i : Nat) (b : Int), i ≤ xs.length ∧ p = .int .i64 (i : Int) ∧ v = .int .i64 b ∧ 0 ≤ b ∧ b ≤ 15 ∧ Hid (vROB st xs = vChain st b (xs.drop i)) ∧ Hid (Below w.heap.size w wr) ∧ w.heap.size < wr.heap.size ∧ wr.cell? ⟨w.heap.size, 0, none⟩ = some (.int .i64 st)) (fun _ p _ => xs.length - (intOf p).toNat)
    case atStart => exact ⟨0, 0, Nat.zero_le _, rfl, rfl, by omega, by omega, Lib.hid (by unfold vROB; rw [h]; rfl), Lib.hid (by repeat (first | (with_reducible exact Below.refl _ _) | (with_reducible refine Below.ext ?_ (by go_size) _ _) | (with_reducible refine Below.alloc ?_ (by go_size) _) | (with_reducible refine Below.setCell ?_ (by go_size) _) | (with_reducible refine Below.drew ?_) | (with_reducible refine Below.drewN_ ?_ _))), by simp, by simp [go_sem]⟩
    case round =>
      obtain ⟨i, b, hi, rfl, rfl, hb0, hb1, HV, HB, hws, hcst⟩ := hrel
      by_cases hlt : i < xs.length
      · obtain ⟨g, o, F, rfl, hg, ⟨hc0, _, ⟨B1, d1, hc1, _, _⟩⟩, _, _⟩ := HX.out.at_ i hlt
        replace hc0 := (HB.out.cell (p := ⟨g, o + i * 2, none⟩) hg).trans hc0
        replace hc1 := (HB.out.cell (p := ⟨g, o + i * 2 + 1, none⟩) hg).trans hc1
        have hdr := HV.out
        rw [List.drop_eq_getElem_cons hlt] at hdr
        have hlt2 : (i : Int) < (xs.length : Int) := by omega
        have hgw : g < wr.heap.size := by omega
        have hmx := HMX.out _ (List.getElem_mem hlt)
        generalize xs[i] = x at *
        obtain ⟨s, x⟩ := x
        simp only [vChain] at hdr hc0 hc1 hmx
        have hbd := seqD_bd st s
        by_cases h100 : 100 < x.length
        · have h101 : (100 : Int) < (x.length : Int) := by omega
          have hE : Hid (vROB st xs = false) := Lib.hid (by rw [hdr, show decide (x.length ≤ 100) = false by simp; omega]; rfl)
          clear hdr
          go_wp2_with (go_at_call 59; refine (implDist_any _ _ _).mono ?_; rintro e w' ⟨rfl, rfl⟩)
          go_ret
          exact ⟨by rw [hE.out]; rfl, Below.alloc HB.out (by omega) _⟩
        · have h101 : ¬ (100 : Int) < (x.length : Int) := by omega
          have hd100 : decide (x.length ≤ 100) = true := by simp; omega
          rw [hd100] at hdr
          clear hd100
          generalize hd : seqD st s = d at *
          have HD := Lib.hid hd
          clear hd
          cases hr : inR d (b + 1) 15
          · have hE : Hid (vROB st xs = false) := Lib.hid (by rw [hdr, hr]; rfl)
            have HR := Lib.hid hr
            clear hdr hr
            go_wp2_with (first | (go_at_call 59; refine (implDist_any _ _ _).mono ?_; rw [HD.out]; rintro e w' ⟨rfl, rfl⟩) | (go_at_call 60; refine (inRange_any _ _ _ _).mono ?_; rw [HR.out]; rintro e w' ⟨rfl, rfl⟩))
            go_ret
            exact ⟨by rw [hE.out]; rfl, Below.alloc HB.out (by omega) _⟩
          · have HN : Hid (vROB st xs = vChain st d (xs.drop (i + 1))) := Lib.hid (by rw [hdr, hr]; rfl)
            have hrr := inR_true hr
            have HR := Lib.hid hr
            clear hdr hr
            obtain ⟨hr0, hr1⟩ := hrr
            go_wp2_with (first | (go_at_call 59; refine (implDist_any _ _ _).mono ?_; rw [HD.out]; rintro e w' ⟨rfl, rfl⟩) | (go_at_call 60; refine (inRange_any _ _ _ _).mono ?_; rw [HR.out]; rintro e w' ⟨rfl, rfl⟩))
            go_roundw
            case rel => exact ⟨i + 1, d, by omega, by go_num, rfl, by omega, by omega, HN, Lib.hid (Below.alloc HB.out (by omega) _), by simp; omega, by simp [go_sem, hws, hcst]⟩
            case measure => simp [intOf]; omega
      · obtain rfl : i = xs.length := by omega
        have hE : Hid (vROB st xs = true) := Lib.hid (by rw [HV.out, List.drop_length]; rfl)
        go_wp2
        go_ret
        exact ⟨by rw [hE.out]; rfl, HB.out⟩
set_option maxHeartbeats 2000000 in
theorem specVR_any {T : Nat → Prop} (st : Int) (A : Option Addr) (c : Nat) (xs : List NF) (w : World) (hx : Sl false 2 (EN false) w T A xs) (hm : xs.length ≤ 1000000000) (hmx : ∀ x ∈ xs, x.2.length ≤ 1000000000) :
    Calls Try.prog 31 #[.agg #[.int .i64 st, .slice A xs.length c]] w fun e w' => e = .returned (.bool (vROB st xs)) ∧ Below w.heap.size w w' := by
  have HX := Lib.hid hx
  have HMX := Lib.hid hmx
  clear hx hmx
  go_enter Try.func31, Try.ntmps31
  go_wp2
  go_loopw [3, 4] (fun v p wr => ∃ (i : Nat) (b : Int), i ≤ xs.length ∧ p = .int .i64 (i : Int) ∧ v = .int .i64 b ∧ 0 ≤ b ∧ b ≤ 15 ∧ Hid (vROB st xs = (inR st 0 4095 && vChain st b (xs.drop i))) ∧ Hid (Below w.heap.size w wr) ∧ w.heap.size < wr.heap.size ∧ wr.cell? ⟨w.heap.size, 0, none⟩ = some (.int .i64 st) ∧ wr.cell? ⟨w.heap.size, 1, none⟩ = some (.slice A xs.length c)) (fun _ p _ => xs.length - (intOf p).toNat)
  case atStart => exact ⟨0, 0, Nat.zero_le _, rfl, rfl, by omega, by omega, Lib.hid rfl, Lib.hid (by repeat (first | (with_reducible exact Below.refl _ _) | (with_reducible refine Below.ext ?_ (by go_size) _ _) | (with_reducible refine Below.alloc ?_ (by go_size) _) | (with_reducible refine Below.setCell ?_ (by go_size) _) | (with_reducible refine Below.drew ?_) | (with_reducible refine Below.drewN_ ?_ _))), by simp, by simp [go_sem], by simp [go_sem]⟩
  case round =>
    obtain ⟨i, b, hi, rfl, rfl, hb0, hb1, HV, HB, hws, hcst, hcp⟩ := hrel
    by_cases hlt : i < xs.length
    · obtain ⟨g, o, F, rfl, hg, ⟨hc0, _, ⟨B1, d1, hc1, _, _⟩⟩, _, _⟩ := HX.out.at_ i hlt
      replace hc0 := (HB.out.cell (p := ⟨g, o + i * 2, none⟩) hg).trans hc0
      replace hc1 := (HB.out.cell (p := ⟨g, o + i * 2 + 1, none⟩) hg).trans hc1
      have hdr := HV.out
      rw [List.drop_eq_getElem_cons hlt] at hdr
      have hlt2 : (i : Int) < (xs.length : Int) := by omega
      have hmx := HMX.out _ (List.getElem_mem hlt)
      generalize xs[i] = x at *
      obtain ⟨s, x⟩ := x
      simp only [vChain] at hdr hc0 hc1 hmx
      have hbd := seqD_bd st s
      generalize hd : seqD st s = d at *
      have HD := Lib.hid hd
      clear hd
      cases hr : inR d (b + 1) 15
      · have hE : Hid (vROB st xs = false) := Lib.hid (by rw [hdr, hr]; simp)
        have HR := Lib.hid hr
        clear hdr hr
        go_wp2
        go_quiet ((go_at_call 51; exact Calls.quiet_of_same (by have := specDist_q st s; rw [HD.out] at this; exact this _)))
        go_wp2_with (go_at_call 54; refine (l1In_any _ _ _ _).mono ?_; rw [HR.out]; rintro e w' ⟨rfl, rfl⟩)
        go_ret
        exact ⟨by rw [hE.out]; rfl, Below.drewN_ HB.out _⟩
      · have hrr := inR_true hr
        have HR := Lib.hid hr
        obtain ⟨hr0, hr1⟩ := hrr
        rw [hr] at hdr
        clear hr
        by_cases h100 : 100 < x.length
        · have h101 : (100 : Int) < (x.length : Int) := by omega
          have hE : Hid (vROB st xs = false) := Lib.hid (by rw [hdr, show decide (x.length ≤ 100) = false by simp; omega]; simp)
          clear hdr
          go_wp2
          go_quiet ((go_at_call 51; exact Calls.quiet_of_same (by have := specDist_q st s; rw [HD.out] at this; exact this _)))
          go_wp2_with (go_at_call 54; refine (l1In_any _ _ _ _).mono ?_; rw [HR.out]; rintro e w' ⟨rfl, rfl⟩)
          go_ret
          exact ⟨by rw [hE.out]; rfl, Below.drewN_ HB.out _⟩
        · have h101 : ¬ (100 : Int) < (x.length : Int) := by omega
          have HN : Hid (vROB st xs = (inR st 0 4095 && vChain st d (xs.drop (i + 1)))) := Lib.hid (by rw [hdr, show decide (x.length ≤ 100) = true by simp; omega]; simp)
          clear hdr
          go_wp2
          go_quiet ((go_at_call 51; exact Calls.quiet_of_same (by have := specDist_q st s; rw [HD.out] at this; exact this _)))
          go_wp2_with (go_at_call 54; refine (l1In_any _ _ _ _).mono ?_; rw [HR.out]; rintro e w' ⟨rfl, rfl⟩)
          go_roundw
          case rel => exact ⟨i + 1, d, by omega, by go_num, rfl, by omega, by omega, HN, Lib.hid (Below.drewN_ HB.out _), by simpa using hws, hcst, hcp⟩
          case measure => simp [intOf]; omega
    · obtain rfl : i = xs.length := by omega
      have hE : Hid (vROB st xs = inR st 0 4095) := Lib.hid (by rw [HV.out, List.drop_length]; simp [vChain])
      go_wp2_with (first | (go_at_call 54; refine (l1In_any _ _ _ _).mono ?_; rintro e w' ⟨rfl, rfl⟩))
      go_ret
      exact ⟨by rw [hE.out]; rfl, HB.out⟩
def pendB (xs : List NF) (s : Int) : Bool := xs.any fun x => x.1 == s
set_option maxHeartbeats 2000000 in
theorem isPending_any {T : Nat → Prop} (st : Int) (A : Option Addr) (c : Nat) (xs : List NF) (s : Int) (w : World) (hx : Sl false 2 (EN false) w T A xs) (hm : xs.length ≤ 1000000000) :
    Calls Try.prog 66 #[.agg #[.int .i64 st, .slice A xs.length c], .int .i64 s] w fun e w' => e = .returned (.bool (pendB xs s)) ∧ Below w.heap.size w w' := by
  have HX := Lib.hid hx
  clear hx
  go_enter Try.func66, Try.ntmps66
  go_wp2
  go_loopw [10] (fun p wr => ∃ i : Nat, i ≤ xs.length ∧ p = .int .i64 (i : Int) ∧ Hid (pendB xs s = pendB (xs.drop i) s) ∧ Hid (Below w.heap.size w wr)) (fun p _ => xs.length - (intOf p).toNat)
  case atStart => exact ⟨0, Nat.zero_le _, rfl, Lib.hid rfl, Lib.hid (by repeat (first | (with_reducible exact Below.refl _ _) | (with_reducible refine Below.ext ?_ (by go_size) _ _) | (with_reducible refine Below.alloc ?_ (by go_size) _) | (with_reducible refine Below.setCell ?_ (by go_size) _) | (with_reducible refine Below.drew ?_) | (with_reducible refine Below.drewN_ ?_ _)))⟩
  case round =>
    obtain ⟨i, hi, rfl, HV, HB⟩ := hrel
    have hws := HB.out.size
    by_cases hlt : i < xs.length
    · obtain ⟨g, o, F, rfl, hg, ⟨hc0, _, ⟨B1, d1, hc1, _, _⟩⟩, _, _⟩ := HX.out.at_ i hlt
      replace hc0 := (HB.out.cell (p := ⟨g, o + i * 2, none⟩) hg).trans hc0
      replace hc1 := (HB.out.cell (p := ⟨g, o + i * 2 + 1, none⟩) hg).trans hc1
      have hdr := HV.out
      rw [List.drop_eq_getElem_cons hlt] at hdr
      have hlt2 : (i : Int) < (xs.length : Int) := by omega
      generalize xs[i] = x at *
      obtain ⟨t, x⟩ := x
      simp only [pendB, List.any_cons] at hdr hc0 hc1
      cases ht : (t == s)
      · have HN : Hid (pendB xs s = pendB (xs.drop (i + 1)) s) := Lib.hid (by unfold pendB; rw [hdr, ht]; rfl)
        clear hdr
        go_wp2
        go_roundw
        case rel => exact ⟨i + 1, by omega, by go_num, HN, Lib.hid (Below.alloc HB.out hws _)⟩
        case measure => simp [intOf]; omega
      · have hE : Hid (pendB xs s = true) := Lib.hid (by unfold pendB; rw [hdr, ht]; rfl)
        clear hdr
        go_wp2
        go_ret
        exact ⟨by rw [hE.out]; rfl, Below.alloc HB.out hws _⟩
    · obtain rfl : i = xs.length := by omega
      have hE : Hid (pendB xs s = false) := Lib.hid (by rw [HV.out, List.drop_length]; rfl)
      go_wp2
      go_ret
      exact ⟨by rw [hE.out]; rfl, HB.out⟩

end Go.Proofs.Ytnfgdgmmbddmgaa
