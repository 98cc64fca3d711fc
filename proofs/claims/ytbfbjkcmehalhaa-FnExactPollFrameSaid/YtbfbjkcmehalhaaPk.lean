/- findKept, l26Find, KeptFrames; a struct of one field that came in. -/
import Derived.Test.YtbfbjkcmehalhaaKT
import Derived.Lib.SmallJoins
namespace Go.Proofs.Ytbfbjkcmehalhaa
open Go.RowKit
set_option linter.unusedVariables false
set_option linter.unusedSimpArgs false

section
open Go.Joins Go.ChangeShapes Go.WideShapes Go.Deep
variable {H : Type} {enc : TypeId × Value → H} {P : Program} {w : World} {base : Nat} {spare : Nat → Bool} {held : Bool}
theorem open_agg1 {r : Reach} {b0 : Nat} {t : TypeId} {f0 : Field} {v : Value} {d : DataW H} {p : List MemPlace} (hs : P.underlying t = some (.struct #[f0])) (hone : oneCellFields P #[f0] = true) (hC : P.cellsOf t = 1)
    (hv : Value.okWide P w r b0 t v) (h : DataW.Trod enc P w base spare held t v d p) :
    ∃ (v0 : Value) (y0 : DataW H × List MemPlace) (n : Nat), v = .agg #[v0] ∧ d = .agg [y0.1] ∧ p = y0.2 ∧ DataW.trod enc P w base spare held n f0.type [v0] = some y0 := by
  obtain ⟨cs, rfl, hsz⟩ := okWide_struct hs hv
  obtain ⟨c0, rfl⟩ : ∃ c0, cs = #[c0] := by
    have h1 := hsz.trans hC
    match cs, h1 with
    | ⟨[c0]⟩, _ => exact ⟨c0, rfl⟩
  obtain ⟨fuel, hf⟩ := h
  obtain ⟨xs, n, _, hx, hl, hlen, hf2⟩ := DataW.trod_struct hs hf
  match xs, hlen with
  | [y0], _ =>
    obtain ⟨o0, k0⟩ := hone_of hone 0 f0 rfl
    simp only [Prod.mk.injEq] at hx
    exact ⟨c0, y0, n, rfl, by simpa using hx.1, by simpa using hx.2, by simpa [Value.cells, o0, k0] using hf2 0 f0 rfl⟩
end

def fRec (s : Int) : Nat → List KT → Int
  | _, [] => -1
  | n, x :: xs => if x.st = s then (n : Int) else fRec s (n + 1) xs
def fV (s : Int) (xs : List KT) : Int := fRec s 0 xs
theorem fRec_cases (s : Int) : ∀ (xs : List KT) (n : Nat), fRec s n xs = -1 ∨ ∃ i, ∃ h : i < xs.length, fRec s n xs = ((n + i : Nat) : Int) ∧ xs[i].st = s
  | [], n => .inl rfl
  | x :: xs, n => by
    unfold fRec
    by_cases hx : x.st = s
    · rw [if_pos hx]; exact .inr ⟨0, by simp, rfl, hx⟩
    · rw [if_neg hx]
      rcases fRec_cases s xs (n + 1) with h | ⟨i, hi, h, he⟩
      · exact .inl h
      · exact .inr ⟨i + 1, by simpa using hi, by rw [h]; congr 1; omega, by simpa using he⟩
theorem fV_cases (s : Int) (xs : List KT) : fV s xs = -1 ∨ ∃ i, ∃ h : i < xs.length, fV s xs = (i : Int) ∧ xs[i].st = s := by
  rcases fRec_cases s xs 0 with h | ⟨i, hi, h, he⟩
  · exact .inl h
  · exact .inr ⟨i, hi, by rw [fV, h]; simp, he⟩
def kF (s : Int) (xs : List KT) : Int := if fV s xs < 0 then 0 else (((xs[(fV s xs).toNat]?).map (fun x => x.fr.length)).getD 0 : Nat)
theorem kF_no {s : Int} {xs : List KT} (h : fV s xs = -1) : kF s xs = 0 := by unfold kF; rw [h]; rfl
theorem kF_yes {s : Int} {xs : List KT} {i : Nat} (hi : i < xs.length) (h : fV s xs = (i : Int)) : kF s xs = (xs[i].fr.length : Int) := by
  unfold kF; rw [h, if_neg (by omega)]; simp [List.getElem?_eq_getElem hi]

set_option maxHeartbeats 1000000 in
theorem implFind_any {T : Nat → Prop} (s : Int) (A : Option Addr) (c : Nat) (xs : List KT) (w : World) (hx : Sl false 4 (EK false) w T A xs) (hm : xs.length ≤ 1000000000) :
    Calls Try.prog 39 #[.agg #[.slice A xs.length c], .int .i64 s] w fun e w' => e = .returned (.int .i64 (fV s xs)) ∧ Below w.heap.size w w' := by
  have HX := Lib.hid hx
  clear hx
  go_enter Try.func39, Try.ntmps39
  go_wp2
  go_loopw [10] (fun p wr => ∃ i : Nat, i ≤ xs.length ∧ p = .int .i64 (i : Int) ∧ Hid (fV s xs = fRec s i (xs.drop i)) ∧ Hid (Below w.heap.size w wr) ∧ w.heap.size < wr.heap.size) (fun p _ => xs.length - (intOf p).toNat)
  case atStart => exact ⟨0, Nat.zero_le _, rfl, Lib.hid rfl, Lib.hid (by repeat (first | (with_reducible exact Below.refl _ _) | (with_reducible refine Below.ext ?_ (by go_size) _ _) | (with_reducible refine Below.alloc ?_ (by go_size) _) | (with_reducible refine Below.setCell ?_ (by go_size) _) | (with_reducible refine Below.drew ?_) | (with_reducible refine Below.drewN_ ?_ _))), by simp⟩
  case round =>
    obtain ⟨i, hi, rfl, HV, HB, hws⟩ := hrel
    by_cases hlt : i < xs.length
    · obtain ⟨g, o, F, rfl, hg, ⟨hc0, hc1, hc3, _, ⟨B1, d1, hc2, _, _⟩⟩, _, _⟩ := HX.out.at_ i hlt
      replace hc0 := (HB.out.cell (p := ⟨g, o + i * 4, none⟩) hg).trans hc0
      replace hc1 := (HB.out.cell (p := ⟨g, o + i * 4 + 1, none⟩) hg).trans hc1
      replace hc2 := (HB.out.cell (p := ⟨g, o + i * 4 + 2, none⟩) hg).trans hc2
      replace hc3 := (HB.out.cell (p := ⟨g, o + i * 4 + 3, none⟩) hg).trans hc3
      have hdr := HV.out
      rw [List.drop_eq_getElem_cons hlt] at hdr
      have hlt2 : (i : Int) < (xs.length : Int) := by omega
      have hgw : g < wr.heap.size := by omega
      generalize xs[i] = x at *
      obtain ⟨s1, a, f, l⟩ := x
      simp only [fRec] at hdr hc0 hc1 hc2 hc3
      by_cases hs : s1 = s
      · subst hs
        rw [if_pos rfl] at hdr
        have hE := Lib.hid hdr
        clear hdr
        have hbt : (s1 == s1) = true := by simp
        go_wp2
        go_ret
        exact ⟨by rw [hE.out]; first | rfl | (congr 1), Below.alloc HB.out (by omega) _⟩
      · rw [if_neg hs] at hdr
        have HN := Lib.hid hdr
        clear hdr
        have hbt : (s1 == s) = false := by simpa using hs
        go_wp2
        go_roundw
        case rel => exact ⟨i + 1, by omega, by go_num, HN, Lib.hid (Below.alloc HB.out (by omega) _), by simp; omega⟩
        case measure => simp [intOf]; omega
    · obtain rfl : i = xs.length := by omega
      have hE : Hid (fV s xs = -1) := Lib.hid (by rw [HV.out, List.drop_length]; rfl)
      go_wp2
      go_ret
      exact ⟨by rw [hE.out]; rfl, HB.out⟩

set_option maxHeartbeats 1000000 in
theorem specFind_any {T : Nat → Prop} (s : Int) (A : Option Addr) (c : Nat) (xs : List KT) (w : World) (hx : Sl false 4 (EK false) w T A xs) (hm : xs.length ≤ 1000000000) :
    Calls Try.prog 38 #[.agg #[.slice A xs.length c], .int .i64 s] w fun e w' => e = .returned (.int .i64 (fV s xs)) ∧ Below w.heap.size w w' := by
  have HX := Lib.hid hx
  clear hx
  go_enter Try.func38, Try.ntmps38
  go_wp2
  go_loopw [5] (fun p wr => ∃ i : Nat, i ≤ xs.length ∧ p = .int .i64 (i : Int) ∧ Hid (fV s xs = fRec s i (xs.drop i)) ∧ Hid (Below w.heap.size w wr) ∧ w.heap.size < wr.heap.size ∧ wr.cell? ⟨w.heap.size, 0, none⟩ = some (.slice A xs.length c)) (fun p _ => xs.length - (intOf p).toNat)
  case atStart => exact ⟨0, Nat.zero_le _, rfl, Lib.hid rfl, Lib.hid (by repeat (first | (with_reducible exact Below.refl _ _) | (with_reducible refine Below.ext ?_ (by go_size) _ _) | (with_reducible refine Below.alloc ?_ (by go_size) _) | (with_reducible refine Below.setCell ?_ (by go_size) _) | (with_reducible refine Below.drew ?_) | (with_reducible refine Below.drewN_ ?_ _))), by simp, by simp [go_sem]⟩
  case round =>
    obtain ⟨i, hi, rfl, HV, HB, hws, hcp⟩ := hrel
    by_cases hlt : i < xs.length
    · obtain ⟨g, o, F, rfl, hg, ⟨hc0, hc1, hc3, _, ⟨B1, d1, hc2, _, _⟩⟩, _, _⟩ := HX.out.at_ i hlt
      replace hc0 := (HB.out.cell (p := ⟨g, o + i * 4, none⟩) hg).trans hc0
      replace hc1 := (HB.out.cell (p := ⟨g, o + i * 4 + 1, none⟩) hg).trans hc1
      replace hc2 := (HB.out.cell (p := ⟨g, o + i * 4 + 2, none⟩) hg).trans hc2
      replace hc3 := (HB.out.cell (p := ⟨g, o + i * 4 + 3, none⟩) hg).trans hc3
      have hdr := HV.out
      rw [List.drop_eq_getElem_cons hlt] at hdr
      have hlt2 : (i : Int) < (xs.length : Int) := by omega
      have hgw : g < wr.heap.size := by omega
      generalize xs[i] = x at *
      obtain ⟨s1, a, f, l⟩ := x
      simp only [fRec] at hdr hc0 hc1 hc2 hc3
      by_cases hs : s1 = s
      · subst hs
        rw [if_pos rfl] at hdr
        have hE := Lib.hid hdr
        clear hdr
        have hbt : (s1 == s1) = true := by simp
        go_wp2
        go_ret
        exact ⟨by rw [hE.out]; first | rfl | (congr 1), HB.out⟩
      · rw [if_neg hs] at hdr
        have HN := Lib.hid hdr
        clear hdr
        have hbt : (s1 == s) = false := by simpa using hs
        go_wp2
        go_roundw
        case rel => exact ⟨i + 1, by omega, by go_num, HN, HB, hws, hcp⟩
        case measure => simp [intOf]; omega
    · obtain rfl : i = xs.length := by omega
      have hE : Hid (fV s xs = -1) := Lib.hid (by rw [HV.out, List.drop_length]; rfl)
      go_wp2
      go_ret
      exact ⟨by rw [hE.out]; rfl, HB.out⟩

set_option maxHeartbeats 1000000 in
theorem implKF_any {T : Nat → Prop} (s : Int) (A : Option Addr) (c : Nat) (xs : List KT) (w : World) (hx : Sl false 4 (EK false) w T A xs) (hm : xs.length ≤ 1000000000) :
    Calls Try.prog 16 #[.agg #[.slice A xs.length c], .int .i64 s] w fun e w' => e = .returned (.int .i64 (kF s xs)) ∧ Below w.heap.size w w' := by
  have HX := Lib.hid hx
  clear hx
  rcases fV_cases s xs with h | ⟨i, hi, h, _⟩
  · have HE := Lib.hid h
    have HK := Lib.hid (kF_no h)
    clear h
    go_enter Try.func16, Try.ntmps16
    go_wp2_with fail
    refine (implFind_any s A c xs _ (Sl.below (R := EK false) EK.framed HX.out (by repeat (first | (with_reducible exact Below.refl _ _) | (with_reducible refine Below.ext ?_ (by go_size) _ _) | (with_reducible refine Below.alloc ?_ (by go_size) _) | (with_reducible refine Below.setCell ?_ (by go_size) _) | (with_reducible refine Below.drew ?_) | (with_reducible refine Below.drewN_ ?_ _)))) hm).mono ?_
    rw [HE.out]
    rintro e w1 ⟨rfl, hb⟩
    obtain ⟨X, d, rfl⟩ := Below.ext_ hb
    clear hb
    go_wp2
    go_ret
    exact ⟨by rw [HK.out]; rfl, (by repeat (first | (with_reducible exact Below.refl _ _) | (with_reducible refine Below.ext ?_ (by go_size) _ _) | (with_reducible refine Below.alloc ?_ (by go_size) _) | (with_reducible refine Below.setCell ?_ (by go_size) _) | (with_reducible refine Below.drew ?_) | (with_reducible refine Below.drewN_ ?_ _)))⟩
  · have HE := Lib.hid h
    have HK := Lib.hid (kF_yes hi h)
    clear h
    have hl2 : (i : Int) < (xs.length : Int) := by omega
    have hl3 : ¬ (i : Int) < 0 := by omega
    go_enter Try.func16, Try.ntmps16
    go_wp2_with fail
    refine (implFind_any s A c xs _ (Sl.below (R := EK false) EK.framed HX.out (by repeat (first | (with_reducible exact Below.refl _ _) | (with_reducible refine Below.ext ?_ (by go_size) _ _) | (with_reducible refine Below.alloc ?_ (by go_size) _) | (with_reducible refine Below.setCell ?_ (by go_size) _) | (with_reducible refine Below.drew ?_) | (with_reducible refine Below.drewN_ ?_ _)))) hm).mono ?_
    rw [HE.out]
    rintro e w1 ⟨rfl, hb⟩
    obtain ⟨g, o, F, rfl, hg, ⟨hc0, hc1, hc3, _, ⟨B1, d1, hc2, _, _⟩⟩, _, _⟩ := HX.out.at_ i hi
    have HB : Hid (Below w.heap.size w w1) := Lib.hid (Below.trans ((Below.refl _ _).alloc (Nat.le_refl _) _) (hb.mono (by simp)))
    have hcb : w1.cell? ⟨w.heap.size, 0, none⟩ = some (.slice (some ⟨g, o, none⟩) xs.length c) := (hb.cell (p := ⟨w.heap.size, 0, none⟩) (by simp)).trans (by simp [go_sem])
    replace hc2 := (HB.out.cell (p := ⟨g, o + i * 4 + 2, none⟩) hg).trans hc2
    clear hb hc0 hc1 hc3
    go_wp2
    go_ret
    exact ⟨by rw [HK.out]; rfl, HB.out⟩

set_option maxHeartbeats 1000000 in
theorem specKF_any {T : Nat → Prop} (s : Int) (A : Option Addr) (c : Nat) (xs : List KT) (w : World) (hx : Sl false 4 (EK false) w T A xs) (hm : xs.length ≤ 1000000000) :
    Calls Try.prog 15 #[.agg #[.slice A xs.length c], .int .i64 s] w fun e w' => e = .returned (.int .i64 (kF s xs)) ∧ Below w.heap.size w w' := by
  have HX := Lib.hid hx
  clear hx
  rcases fV_cases s xs with h | ⟨i, hi, h, _⟩
  · have HE := Lib.hid h
    have HK := Lib.hid (kF_no h)
    clear h
    go_enter Try.func15, Try.ntmps15
    go_wp2_with fail
    refine (specFind_any s A c xs _ (Sl.below (R := EK false) EK.framed HX.out (by repeat (first | (with_reducible exact Below.refl _ _) | (with_reducible refine Below.ext ?_ (by go_size) _ _) | (with_reducible refine Below.alloc ?_ (by go_size) _) | (with_reducible refine Below.setCell ?_ (by go_size) _) | (with_reducible refine Below.drew ?_) | (with_reducible refine Below.drewN_ ?_ _)))) hm).mono ?_
    rw [HE.out]
    rintro e w1 ⟨rfl, hb⟩
    obtain ⟨X, d, rfl⟩ := Below.ext_ hb
    clear hb
    go_wp2
    go_ret
    exact ⟨by rw [HK.out]; rfl, (by repeat (first | (with_reducible exact Below.refl _ _) | (with_reducible refine Below.ext ?_ (by go_size) _ _) | (with_reducible refine Below.alloc ?_ (by go_size) _) | (with_reducible refine Below.setCell ?_ (by go_size) _) | (with_reducible refine Below.drew ?_) | (with_reducible refine Below.drewN_ ?_ _)))⟩
  · have HE := Lib.hid h
    have HK := Lib.hid (kF_yes hi h)
    clear h
    have hl2 : (i : Int) < (xs.length : Int) := by omega
    have hl3 : ¬ (i : Int) < 0 := by omega
    go_enter Try.func15, Try.ntmps15
    go_wp2_with fail
    refine (specFind_any s A c xs _ (Sl.below (R := EK false) EK.framed HX.out (by repeat (first | (with_reducible exact Below.refl _ _) | (with_reducible refine Below.ext ?_ (by go_size) _ _) | (with_reducible refine Below.alloc ?_ (by go_size) _) | (with_reducible refine Below.setCell ?_ (by go_size) _) | (with_reducible refine Below.drew ?_) | (with_reducible refine Below.drewN_ ?_ _)))) hm).mono ?_
    rw [HE.out]
    rintro e w1 ⟨rfl, hb⟩
    obtain ⟨g, o, F, rfl, hg, ⟨hc0, hc1, hc3, _, ⟨B1, d1, hc2, _, _⟩⟩, _, _⟩ := HX.out.at_ i hi
    have HB : Hid (Below w.heap.size w w1) := Lib.hid (Below.trans ((Below.refl _ _).alloc (Nat.le_refl _) _) (hb.mono (by simp)))
    have hcb : w1.cell? ⟨w.heap.size, 0, none⟩ = some (.slice (some ⟨g, o, none⟩) xs.length c) := (hb.cell (p := ⟨w.heap.size, 0, none⟩) (by simp)).trans (by simp [go_sem])
    replace hc2 := (HB.out.cell (p := ⟨g, o + i * 4 + 2, none⟩) hg).trans hc2
    clear hb hc0 hc1 hc3
    go_wp2
    go_ret
    exact ⟨by rw [HK.out]; rfl, HB.out⟩

end Go.Proofs.Ytbfbjkcmehalhaa
