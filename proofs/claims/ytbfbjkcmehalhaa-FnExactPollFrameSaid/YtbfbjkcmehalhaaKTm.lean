/- The laws' own functions on kept traffic and power buffers: mark, held. -/
import Derived.Test.YtbfbjkcmehalhaaKTl
import Derived.Test.YtbfbjkcmehalhaaSSm
import Derived.Test.YtbfbjkcmehalhaaHeld
namespace Go.Proofs.Ytbfbjkcmehalhaa
open Go.RowKit
set_option linter.unusedVariables false
set_option linter.unusedSimpArgs false

/- how far the counter moves -/
def mkN (xs : List KT) : Nat := (xs.map fun x => 3 + sumL x.fr).sum
theorem mkN_snoc (xs : List KT) (x : KT) : mkN (xs ++ [x]) = mkN xs + (3 + sumL x.fr) := by simp [mkN]
theorem mkN_take (xs : List KT) (k : Nat) (h : k < xs.length) : mkN (xs.take (k + 1)) = mkN (xs.take k) + (3 + sumL xs[k].fr) := by
  rw [List.take_add_one, List.getElem?_eq_getElem h]; exact mkN_snoc _ _
theorem mkN_le (xs : List KT) (k : Nat) : mkN (xs.take k) ≤ mkN xs := by
  have : mkN xs = mkN (xs.take k) + mkN (xs.drop k) := by
    conv => lhs; rw [← List.take_append_drop k xs]
    simp [mkN, -List.take_append_drop]
  omega
theorem mkN_sz : ∀ xs : List KT, mkN xs ≤ 3 * szK xs
  | [] => by simp [mkN]
  | x :: xs => by
    have := mkN_sz xs
    simp only [mkN, szK, sumK, szSS, List.map_cons, List.sum_cons, List.length_cons] at this ⊢
    omega
def marksK : Int → List KT → List KT
  | _, [] => []
  | k, x :: xs => ⟨k, (k + 1) % 3 == 0, marksSS (k + 2) x.fr, k + 2 + (sumL x.fr : Int)⟩ :: marksK (k + ((3 + sumL x.fr : Nat) : Int)) xs
theorem marksK_len : ∀ (xs : List KT) (k : Int), (marksK k xs).length = xs.length
  | [], _ => rfl
  | x :: xs, k => by simp [marksK, marksK_len xs]
theorem marksK_at : ∀ (xs : List KT) (k kk : Int) (i : Nat) (h : i < xs.length) (hk : kk = k + (mkN (xs.take i) : Int)), (marksK k xs)[i]? = some ⟨kk, (kk + 1) % 3 == 0, marksSS (kk + 2) xs[i].fr, kk + 2 + (sumL xs[i].fr : Int)⟩
  | [], k, kk, i, h, _ => by simp at h
  | x :: xs, k, kk, 0, _, hk => by
    obtain rfl : kk = k := by simpa [mkN] using hk
    simp [marksK]
  | x :: xs, k, kk, i + 1, h, hk => by
    have := marksK_at xs (k + ((3 + sumL x.fr : Nat) : Int)) kk i (by simpa using h) (by
      rw [hk]
      simp only [List.take_succ_cons, mkN, List.map_cons, List.sum_cons]
      omega)
    rw [marksK, List.getElem?_cons_succ, this]
    simp only [List.getElem_cons_succ]
set_option maxHeartbeats 2000000 in
theorem markKTS_any {T : Nat → Prop} (A : Option Addr) (c : Nat) (xs : List KT) (k : Int) (w : World) (hx : Sl true 4 (EK true) w T A xs) (hm : xs.length ≤ 1000000000) (hs : szK xs ≤ 1000000000) (hk0 : 0 ≤ k) (hk1 : k ≤ 900000000000) :
    Calls Try.prog 44 #[.slice A xs.length c, .int .i64 k] w fun e w' => e = .returned (.int .i64 (k + (mkN xs : Int))) ∧ Chg T w w' ∧ Sl true 4 (EK true) w' T A (marksK k xs) := by
  have HX := Lib.hid hx
  have hml := marksK_len xs k
  have HML := Lib.hid hml
  have hms := mkN_sz xs
  clear hx hml
  go_enter Try.func44, Try.ntmps44
  go_wp2
  go_loopw [1, 5] (fun q p wr => ∃ (i : Nat) (kk : Int), i ≤ xs.length ∧ p = .int .i64 (i : Int) ∧ q = .int .i64 kk ∧ Hid (kk = k + (mkN (xs.take i) : Int)) ∧ Hid (Chg T w wr) ∧ Hid (Sl true 4 (EK true) wr T A (mixL (marksK k xs) xs i))) (fun _ p _ => xs.length - (intOf p).toNat)
  case atStart => exact ⟨0, k, Nat.zero_le _, rfl, rfl, Lib.hid (by simp [mkN]), Lib.hid (Chg.refl _ _), Lib.hid (by rw [mixL_zero]; exact HX.out)⟩
  case round =>
    obtain ⟨i, kk, hi, rfl, rfl, HK, HC, HS⟩ := hrel
    have hsle0 := mkN_le xs i
    have hkk : 0 ≤ kk ∧ kk ≤ 910000000000 := by have := HK.out; omega
    obtain ⟨hkk0, hkk1⟩ := hkk
    by_cases hlt : i < xs.length
    · have hlm : i < (mixL (marksK k xs) xs i).length := by rw [mixL_len HML.out i hi]; exact hlt
      obtain ⟨g, o, F, rfl, hg, hT, hnF, hFT, ⟨hc0, hc1, hc3, hf0, ⟨B1, d1, hc2, hf2, hr1⟩⟩, hset⟩ := Sl.open_at (R := EK true) EK.local_ HS.out i hlm
      have hat := marksK_at xs k kk i hlt HK.out
      have hst := mixL_step HML.out i hlt _ hat
      have hsum := mkN_take xs i hlt
      have hsle := mkN_le xs (i + 1)
      have hsx := sumK_mem (List.getElem_mem hlt)
      have hcap := (hf2 rfl).2
      have hg2 := (hf2 rfl).1
      rw [mixL_here HML.out i hlt hlm] at hc0 hc1 hc2 hc3 hr1 hcap
      have hlt2 : (i : Int) < (xs.length : Int) := by omega
      obtain ⟨hg0, hg1, hg3⟩ := hf0 rfl
      have R1 := Lib.hid hr1
      have HST := Lib.hid hst
      have HSET := Lib.hid hset
      have HSUM := Lib.hid hsum
      have HF0 := Lib.hid hg0
      have HF1 := Lib.hid hg1
      have HF2 := Lib.hid hg2
      have HF3 := Lib.hid hg3
      have HC1 := Lib.hid hc1
      have HC2 := Lib.hid hc2
      have HC3 := Lib.hid hc3
      clear hr1 hst hset hf0 hf2 hsum hat HS hg0 hg1 hg2 hg3 hc1 hc2 hc3
      generalize xs[i] = x at *
      obtain ⟨s, a, f, l⟩ := x
      simp only [szSS] at hc0 HC1 HC2 HC3 R1 HST HSUM hsx hcap
      have HCAP := Lib.hid hcap
      clear hcap
      have hb1 : f.length ≤ 1000000000 ∧ sumL f ≤ 1000000000 := by unfold szK at hs; omega
      obtain ⟨hb1, hb2⟩ := hb1
      have hfr0 := HF0.out
      have hchg : Chg (fun b => b = g) wr ((wr.setCell ⟨g, o + i * 4, none⟩ (.int .i64 kk)).setCell ⟨g, o + i * 4 + 1, none⟩ (.bool ((kk + 1) % 3 == 0))) := Chg.setCell_ (S := fun b => b = g) (Chg.setCell_ (S := fun b => b = g) (Chg.refl _ _) (p := ⟨g, o + i * 4, none⟩) rfl _) (p := ⟨g, o + i * 4 + 1, none⟩) rfl _
      have HCH := Lib.hid hchg
      have R2 := Lib.hid (Sl.frame (R := EB true) EB.framed R1.out hchg (fun b h1 h2 => by subst h2; exact hnF h1))
      have c1 : (wr.setCell ⟨g, o + i * 4, none⟩ (.int .i64 kk)).cell? ⟨g, o + i * 4 + 1, none⟩ = some (.bool a) := by rw [World.cell?_setCell_other _ _ _ _ (fun e => by injection e with _ e2; omega)]; exact HC1.out
      have fr1 : (wr.setCell ⟨g, o + i * 4, none⟩ (.int .i64 kk)).frozen? ⟨g, o + i * 4 + 1, none⟩ = false := (World.frozen?_setCell _ _ _ _).trans HF1.out
      have c2 : ((wr.setCell ⟨g, o + i * 4, none⟩ (.int .i64 kk)).setCell ⟨g, o + i * 4 + 1, none⟩ (.bool ((kk + 1) % 3 == 0))).cell? ⟨g, o + i * 4 + 2, none⟩ = some (.slice B1 f.length d1) := by rw [World.cell?_setCell_other _ _ _ _ (fun e => by injection e with _ e2; omega), World.cell?_setCell_other _ _ _ _ (fun e => by injection e with _ e2; omega)]; exact HC2.out
      have D0 : Hid (((wr.setCell ⟨g, o + i * 4, none⟩ (.int .i64 kk)).setCell ⟨g, o + i * 4 + 1, none⟩ (.bool ((kk + 1) % 3 == 0))).cell? ⟨g, o + i * 4, none⟩ = some (.int .i64 kk)) := Lib.hid (by rw [World.cell?_setCell_other _ _ _ _ (fun e => by injection e with _ e2; omega)]; exact World.cell?_setCell_same _ _ _ hc0)
      have D1 : Hid (((wr.setCell ⟨g, o + i * 4, none⟩ (.int .i64 kk)).setCell ⟨g, o + i * 4 + 1, none⟩ (.bool ((kk + 1) % 3 == 0))).cell? ⟨g, o + i * 4 + 1, none⟩ = some (.bool ((kk + 1) % 3 == 0))) := Lib.hid (World.cell?_setCell_same _ _ _ c1)
      have D3 : Hid (((wr.setCell ⟨g, o + i * 4, none⟩ (.int .i64 kk)).setCell ⟨g, o + i * 4 + 1, none⟩ (.bool ((kk + 1) % 3 == 0))).cell? ⟨g, o + i * 4 + 3, none⟩ = some (.int .i64 l)) := Lib.hid (by rw [World.cell?_setCell_other _ _ _ _ (fun e => by injection e with _ e2; omega), World.cell?_setCell_other _ _ _ _ (fun e => by injection e with _ e2; omega)]; exact HC3.out)
      have G : Hid (∀ j, ((wr.setCell ⟨g, o + i * 4, none⟩ (.int .i64 kk)).setCell ⟨g, o + i * 4 + 1, none⟩ (.bool ((kk + 1) % 3 == 0))).frozen? ⟨g, j, none⟩ = wr.frozen? ⟨g, j, none⟩) := Lib.hid (fun j => (World.frozen?_setCell _ _ _ _).trans (World.frozen?_setCell _ _ _ _))
      have GC : Hid (∀ j, (j < o + i * 4 ∨ o + i * 4 + 4 ≤ j) → ((wr.setCell ⟨g, o + i * 4, none⟩ (.int .i64 kk)).setCell ⟨g, o + i * 4 + 1, none⟩ (.bool ((kk + 1) % 3 == 0))).cell? ⟨g, j, none⟩ = wr.cell? ⟨g, j, none⟩) := Lib.hid (fun j hj => by rw [World.cell?_setCell_other _ _ _ _ (fun e => by injection e with _ e2; omega), World.cell?_setCell_other _ _ _ _ (fun e => by injection e with _ e2; omega)])
      have hg2 : g < ((wr.setCell ⟨g, o + i * 4, none⟩ (.int .i64 kk)).setCell ⟨g, o + i * 4 + 1, none⟩ (.bool ((kk + 1) % 3 == 0))).heap.size := by simpa [World.setCell] using hg
      clear hchg R1
      go_wp2_with fail
      refine (markByteSS_any B1 d1 f _ _ R2.out (by omega) (by omega) (by omega) (by omega) (by omega)).mono ?_
      rintro e w2 ⟨rfl, hc2', hr2⟩
      have HC2' := Lib.hid hc2'
      have HR2 := Lib.hid hr2
      have c3 := (hc2'.cell (p := ⟨g, o + i * 4 + 3, none⟩) hg2 hnF).trans D3.out
      have fr3 := (hc2'.frozen (p := ⟨g, o + i * 4 + 3, none⟩) hg2 hnF).trans ((G.out _).trans HF3.out)
      have HCC2 := Lib.hid c2
      clear hc2' hr2 c2
      have hg3 : g < w2.heap.size := Nat.lt_of_lt_of_le hg2 HC2'.out.size
      go_wp2
      go_roundw
      case rel =>
        have hc4 : Chg (fun b => b = g) w2 (w2.setCell ⟨g, o + i * 4 + 3, none⟩ (.int .i64 (kk + 1 + 1 + (sumL f : Int)))) := Chg.setCell_ (S := fun b => b = g) (Chg.refl _ _) (p := ⟨g, o + i * 4 + 3, none⟩) rfl _
        have hboth : Chg (fun b => b = g ∨ F b) wr (w2.setCell ⟨g, o + i * 4 + 3, none⟩ (.int .i64 (kk + 1 + 1 + (sumL f : Int)))) := ((HCH.out.mono (fun b _ hb => .inl hb)).trans (HC2'.out.mono (fun b _ hb => .inr hb))).trans (hc4.mono (fun b _ hb => .inl hb))
        have e2 : kk + 2 + (sumL f : Int) = kk + 1 + 1 + (sumL f : Int) := by omega
        refine ⟨i + 1, _, by omega, by go_num, rfl, Lib.hid (by rw [HSUM.out]; have := HK.out; simp only [Int.natCast_add]; omega), Lib.hid (HC.out.trans (hboth.mono (fun b _ hb => by rcases hb with rfl | hb; exact hT; exact hFT b hb))), Lib.hid ?_⟩
        rw [HST.out]
        refine HSET.out _ _ hboth (fun j hj => ?_) ?_
        · refine ⟨?_, (World.frozen?_setCell _ _ _ _).trans ((HC2'.out.frozen (p := ⟨g, j, none⟩) hg2 hnF).trans (G.out j))⟩
          rw [World.cell?_setCell_other _ _ _ _ (fun e => by injection e with _ e2; omega)]
          exact (HC2'.out.cell (p := ⟨g, j, none⟩) hg2 hnF).trans (GC.out j hj)
        · have fz : ∀ j v, w2.frozen? ⟨g, j, none⟩ = v → (w2.setCell ⟨g, o + i * 4 + 3, none⟩ (.int .i64 (kk + 1 + 1 + (sumL f : Int)))).frozen? ⟨g, j, none⟩ = v := fun j v h => (World.frozen?_setCell _ _ _ _).trans h
          have f2 : ∀ j, w2.frozen? ⟨g, j, none⟩ = wr.frozen? ⟨g, j, none⟩ := fun j => (HC2'.out.frozen (p := ⟨g, j, none⟩) hg2 hnF).trans (G.out j)
          have oth : ∀ j, j ≠ o + i * 4 + 3 → (w2.setCell ⟨g, o + i * 4 + 3, none⟩ (.int .i64 (kk + 1 + 1 + (sumL f : Int)))).cell? ⟨g, j, none⟩ = w2.cell? ⟨g, j, none⟩ := fun j hj => World.cell?_setCell_other _ _ _ _ (fun e => by injection e with _ e2; omega)
          refine ⟨(oth _ (by omega)).trans ((HC2'.out.cell (p := ⟨g, o + i * 4, none⟩) hg2 hnF).trans D0.out), (oth _ (by omega)).trans ((HC2'.out.cell (p := ⟨g, o + i * 4 + 1, none⟩) hg2 hnF).trans D1.out), ?_, fun _ => ⟨fz _ _ ((f2 _).trans HF0.out), fz _ _ ((f2 _).trans HF1.out), fz _ _ ((f2 _).trans HF3.out)⟩, B1, d1, ?_, fun _ => ⟨fz _ _ ((f2 _).trans HF2.out), by rw [marksSS_len]; exact HCAP.out⟩, ?_⟩
          · rw [e2]; exact World.cell?_setCell_same _ _ _ c3
          · rw [marksSS_len]
            exact (oth _ (by omega)).trans ((HC2'.out.cell (p := ⟨g, o + i * 4 + 2, none⟩) hg2 hnF).trans HCC2.out)
          · have e3 : kk + 2 = kk + 1 + 1 := by omega
            rw [e3]
            exact Sl.frame (R := EB true) EB.framed HR2.out hc4 (fun b h1 h2 => by subst h2; exact hnF h1)
      case measure => simp [intOf]; omega
    · obtain rfl : i = xs.length := by omega
      have HS2 : Hid (Sl true 4 (EK true) wr T A (marksK k xs)) := Lib.hid (by have := HS.out; rwa [mixL_all HML.out] at this)
      have HKE : Hid (kk = k + (mkN xs : Int)) := Lib.hid (by rw [HK.out, List.take_length])
      go_wp2
      go_ret
      exact ⟨by rw [← HKE.out]; rfl, HC.out, HS2.out⟩

set_option maxHeartbeats 2000000 in
theorem heldKTS_any {T : Nat → Prop} (A : Option Addr) (n c : Nat) (xs : List KT) (k : Int) (w : World) (hn : n = xs.length) (hx : Sl false 4 (EK false) w T A (marksK k xs)) (hm : xs.length ≤ 1000000000) (hs : szK xs ≤ 1000000000) (hk0 : 0 ≤ k) (hk1 : k ≤ 900000000000) :
    Calls Try.prog 45 #[.slice A n c, .int .i64 k] w fun e w' => e = .returned (.int .i64 (k + (mkN xs : Int))) ∧ Dr w w' := by
  subst hn
  have HX := Lib.hid hx
  have hms := mkN_sz xs
  clear hx
  go_enter Try.func45, Try.ntmps45
  go_wp2
  go_loopw [1, 5] (fun q p wr => ∃ (i : Nat) (kk : Int), i ≤ xs.length ∧ p = .int .i64 (i : Int) ∧ q = .int .i64 kk ∧ Hid (kk = k + (mkN (xs.take i) : Int)) ∧ Hid (Dr w wr)) (fun _ p _ => xs.length - (intOf p).toNat)
  case atStart => exact ⟨0, k, Nat.zero_le _, rfl, rfl, Lib.hid (by simp [mkN]), Lib.hid (Dr.refl _)⟩
  case round =>
    obtain ⟨i, kk, hi, rfl, rfl, HK, HD⟩ := hrel
    have hsle0 := mkN_le xs i
    have hkk : 0 ≤ kk ∧ kk ≤ 910000000000 := by have := HK.out; omega
    obtain ⟨hkk0, hkk1⟩ := hkk
    by_cases hlt : i < xs.length
    · have hlm : i < (marksK k xs).length := by rw [marksK_len]; exact hlt
      obtain ⟨g, o, F, rfl, hg, ⟨hc0, hc1, hc3, _, ⟨B1, d1, hc2, _, hr1⟩⟩, _, _⟩ := HX.out.at_ i hlm
      have hat := marksK_at xs k kk i hlt HK.out
      rw [List.getElem?_eq_getElem hlm] at hat
      have hat2 := Option.some.inj hat
      rw [hat2] at hc0 hc1 hc2 hc3 hr1
      simp only [marksSS_len] at hc0 hc1 hc2 hc3 hr1
      rw [← HD.out.cell] at hc0 hc1 hc2 hc3
      have R1 := Lib.hid (Sl.below (R := EB false) EB.framed hr1 HD.out.below)
      have hsum := mkN_take xs i hlt
      have hsle := mkN_le xs (i + 1)
      have hsx := sumK_mem (List.getElem_mem hlt)
      have hlt2 : (i : Int) < (xs.length : Int) := by omega
      have HSUM := Lib.hid hsum
      clear hr1 hat hat2 hsum
      generalize xs[i] = x at *
      obtain ⟨s, a, f, l⟩ := x
      simp only [szSS] at hc0 hc1 hc2 hc3 R1 HSUM hsx
      have hb1 : f.length ≤ 1000000000 ∧ sumL f ≤ 1000000000 := by unfold szK at hs; omega
      obtain ⟨hb1, hb2⟩ := hb1
      have e2 : kk + 2 = kk + 1 + 1 := by omega
      rw [e2] at R1 hc3
      have hnn : ¬ kk + 1 + 1 + (sumL f : Int) < 0 := by omega
      have hbb : (((kk + 1) % 3 == 0) == ((kk + 1) % 3 == 0)) = true := by simp
      go_wp2_with fail
      refine (heldByteSS_q B1 f.length d1 f _ _ rfl R1.out (by omega) (by omega) (by omega) (by omega) (by omega)).mono ?_
      rintro e w2 ⟨rfl, hd2⟩
      have HD2 := Lib.hid hd2
      rw [← hd2.cell] at hc3
      clear hd2
      go_wp2
      go_roundw
      case rel => exact ⟨i + 1, _, by omega, by go_num, rfl, Lib.hid (by rw [HSUM.out]; have := HK.out; simp only [Int.natCast_add]; omega), Lib.hid (HD.out.trans HD2.out)⟩
      case measure => simp [intOf]; omega
    · obtain rfl : i = xs.length := by omega
      have HKE : Hid (kk = k + (mkN xs : Int)) := Lib.hid (by rw [HK.out, List.take_length])
      go_wp2
      go_ret
      exact ⟨by rw [← HKE.out]; rfl, HD.out⟩
theorem markPB_any {T : Nat → Prop} (A : Option Addr) (c : Nat) (xs : List KT) (k : Int) (w : World) (hx : Sl true 4 (EK true) w T A xs) (hT : ∀ b, T b → b < w.heap.size) (hm : xs.length ≤ 1000000000) (hs : szK xs ≤ 1000000000) (hk0 : 0 ≤ k) (hk1 : k ≤ 900000000000) :
    Calls Try.prog 23 #[.agg #[.slice A xs.length c], .int .i64 k] w fun e w' => e = .returned (.int .i64 (k + (mkN xs : Int))) ∧ Chg T w w' ∧ Sl true 4 (EK true) w' T A (marksK k xs) := by
  have HX := Lib.hid (Sl.below (R := EK true) EK.framed hx ((Below.refl _ _).alloc (Nat.le_refl _) (.cells #[.slice A xs.length c] 29)))
  have HT := Lib.hid hT
  clear hx hT
  go_enter Try.func23, Try.ntmps23
  go_wp2_with fail
  refine (markKTS_any A c xs k _ HX.out hm hs hk0 hk1).mono ?_
  rintro e w1 ⟨rfl, hc, hr⟩
  have HC := Lib.hid hc
  have HR := Lib.hid hr
  clear hc hr
  go_wp2
  go_ret
  exact ⟨rfl, (Chg.of_below ((Below.refl _ _).alloc (Nat.le_refl _) _)).trans HC.out, HR.out⟩
theorem heldPB_any {T : Nat → Prop} (A : Option Addr) (n c : Nat) (xs : List KT) (k : Int) (w : World) (hn : n = xs.length) (hx : Sl false 4 (EK false) w T A (marksK k xs)) (hm : xs.length ≤ 1000000000) (hs : szK xs ≤ 1000000000) (hk0 : 0 ≤ k) (hk1 : k ≤ 900000000000) :
    Calls Try.prog 24 #[.agg #[.slice A n c], .int .i64 k] w fun e w' => e = .returned (.int .i64 (k + (mkN xs : Int))) ∧ Below w.heap.size w w' := by
  have HX := Lib.hid (Sl.below (R := EK false) EK.framed hx ((Below.refl _ _).alloc (Nat.le_refl _) (.cells #[.slice A n c] 29)))
  have HN := Lib.hid hn
  clear hx hn
  have hsz : ¬ k + (mkN xs : Int) < 0 := by omega
  go_enter Try.func24, Try.ntmps24
  go_wp2_with fail
  refine (heldKTS_any A n c xs k _ HN.out HX.out hm hs hk0 hk1).mono ?_
  rintro e w1 ⟨rfl, hd⟩
  have hb1 := hd.below
  obtain ⟨X, d, rfl⟩ := Below.ext_ hb1
  clear hd hb1
  go_wp2
  go_ret
  exact ⟨rfl, (by repeat (first | (with_reducible exact Below.refl _ _) | (with_reducible refine Below.ext ?_ (by go_size) _ _) | (with_reducible refine Below.alloc ?_ (by go_size) _) | (with_reducible refine Below.setCell ?_ (by go_size) _) | (with_reducible refine Below.drew ?_) | (with_reducible refine Below.drewN_ ?_ _)))⟩

end Go.Proofs.Ytbfbjkcmehalhaa
