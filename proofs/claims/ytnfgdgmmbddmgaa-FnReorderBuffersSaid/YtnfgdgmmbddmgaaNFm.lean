/- The laws' own functions on numbered frames and reorder buffers: mark, held. -/
import Derived.Test.YtnfgdgmmbddmgaaNFl
namespace Go.Proofs.Ytnfgdgmmbddmgaa
open Go.RowKit
set_option linter.unusedVariables false
set_option linter.unusedSimpArgs false

def marksN : Int → List NF → List NF
  | _, [] => []
  | k, x :: xs => (k, marksByteS (k + 1) x.2.length) :: marksN (k + 1 + (x.2.length : Int)) xs
theorem marksN_len : ∀ (xs : List NF) (k : Int), (marksN k xs).length = xs.length
  | [], _ => rfl
  | x :: xs, k => by simp [marksN, marksN_len xs]
theorem marksN_at : ∀ (xs : List NF) (k : Int) (i : Nat) (h : i < xs.length), (marksN k xs)[i]? = some (k + (i : Int) + (sumN (xs.take i) : Int), marksByteS (k + (i : Int) + (sumN (xs.take i) : Int) + 1) xs[i].2.length)
  | [], k, i, h => by simp at h
  | x :: xs, k, 0, _ => by simp [marksN, sumN]
  | x :: xs, k, i + 1, h => by
    have := marksN_at xs (k + 1 + (x.2.length : Int)) i (by simpa using h)
    rw [marksN, List.getElem?_cons_succ, this]
    simp only [List.take_succ_cons, List.getElem_cons_succ, sumN, List.map_cons, List.sum_cons]
    have e : k + 1 + (x.2.length : Int) + (i : Int) + ((List.map (fun x => x.2.length) (xs.take i)).sum : Nat) = k + ((i + 1 : Nat) : Int) + ((x.2.length + (List.map (fun x => x.2.length) (xs.take i)).sum : Nat) : Int) := by omega
    rw [e]
set_option maxHeartbeats 1000000 in
theorem markNFS_any {T : Nat → Prop} (A : Option Addr) (c : Nat) (xs : List NF) (k : Int) (w : World) (hx : Sl true 2 (EN true) w T A xs) (hm : xs.length ≤ 1000000000) (hs : szN xs ≤ 1000000000) (hk0 : 0 ≤ k) (hk1 : k ≤ 900000000000) :
    Calls Try.prog 63 #[.slice A xs.length c, .int .i64 k] w fun e w' => e = .returned (.int .i64 (k + (szN xs : Int))) ∧ Chg T w w' ∧ Sl true 2 (EN true) w' T A (marksN k xs) := by
  have HX := Lib.hid hx
  have hml := marksN_len xs k
  have HML := Lib.hid hml
  clear hx hml
  go_enter Try.func63, Try.ntmps63
  go_wp2
  go_loopw [1, 5] (fun q p wr => ∃ (i : Nat) (kk : Int), i ≤ xs.length ∧ p = .int .i64 (i : Int) ∧ q = .int .i64 kk ∧ Hid (kk = k + (i : Int) + (sumN (xs.take i) : Int)) ∧ Hid (Chg T w wr) ∧ Hid (Sl true 2 (EN true) wr T A (mixL (marksN k xs) xs i))) (fun _ p _ => xs.length - (intOf p).toNat)
  case atStart => exact ⟨0, k, Nat.zero_le _, rfl, rfl, Lib.hid (by simp [sumN]), Lib.hid (Chg.refl _ _), Lib.hid (by rw [mixL_zero]; exact HX.out)⟩
  case round =>
    obtain ⟨i, kk, hi, rfl, rfl, HK, HC, HS⟩ := hrel
    have hsle0 := sumN_le xs i
    have hkk : 0 ≤ kk ∧ kk ≤ 902000000000 := by have := HK.out; unfold szN at hs; omega
    obtain ⟨hkk0, hkk1⟩ := hkk
    by_cases hlt : i < xs.length
    · have hlm : i < (mixL (marksN k xs) xs i).length := by rw [mixL_len HML.out i hi]; exact hlt
      obtain ⟨g, o, F, rfl, hg, hT, hnF, hFT, ⟨hc0, hf0, ⟨B1, d1, hc1, hf1, hr1⟩⟩, hset⟩ := Sl.open_at (R := EN true) EN.local_ HS.out i hlm
      have hat := marksN_at xs k i hlt
      rw [← HK.out] at hat
      have hst := mixL_step HML.out i hlt _ hat
      have hsum := sumN_take xs i hlt
      have hsle := sumN_le xs (i + 1)
      rw [mixL_here HML.out i hlt hlm] at hc0 hc1 hr1
      have hlt2 : (i : Int) < (xs.length : Int) := by omega
      have hf0' := hf0 rfl
      have hf1' := hf1 rfl
      have R1 := Lib.hid hr1
      have HST := Lib.hid hst
      have HSET := Lib.hid hset
      have HC1 := Lib.hid hc1
      have HF0 := Lib.hid hf0'
      have HF1 := Lib.hid hf1'
      have HSUM := Lib.hid hsum
      clear hr1 hst hset hf1 hf0 hsum hat HS
      generalize xs[i] = x at *
      obtain ⟨s, x⟩ := x
      simp only at hc0 hc1 R1 HST HC1 HSUM
      have hb1 : x.length ≤ 1000000000 := by have := HSUM.out; unfold szN at hs; omega
      have hw : wr.setCell ⟨g, o + i * 2, none⟩ (.int .i64 kk) = wr.setCell ⟨g, o + i * 2, none⟩ (.int .i64 kk) := rfl
      have hchg1 : Chg (fun b => b = g) wr (wr.setCell ⟨g, o + i * 2, none⟩ (.int .i64 kk)) := Chg.setCell_ (S := fun b => b = g) (Chg.refl _ _) (p := ⟨g, o + i * 2, none⟩) rfl _
      have HCH := Lib.hid hchg1
      have R2 := Lib.hid (R1.out.frame hchg1 (fun b h1 h2 => by subst h2; exact hnF h1))
      have hc1' : (wr.setCell ⟨g, o + i * 2, none⟩ (.int .i64 kk)).cell? ⟨g, o + i * 2 + 1, none⟩ = some (.slice B1 x.length d1) := by
        rw [World.cell?_setCell_other _ _ _ _ (fun e => by injection e with _ e2; omega)]; exact hc1
      have hc0' : (wr.setCell ⟨g, o + i * 2, none⟩ (.int .i64 kk)).cell? ⟨g, o + i * 2, none⟩ = some (.int .i64 kk) := World.cell?_setCell_same _ _ _ hc0
      have HC0' := Lib.hid hc0'
      clear hw hchg1 hc0' R1
      go_wp2_with fail
      refine (markByteS_any B1 d1 x _ _ R2.out (by omega) (by omega) (by omega)).mono ?_
      rintro e w2 ⟨rfl, hc2, hr2⟩
      have HC2 := Lib.hid hc2
      have HR2 := Lib.hid hr2
      have hg1 : g < (wr.setCell ⟨g, o + i * 2, none⟩ (.int .i64 kk)).heap.size := by simpa [World.setCell] using hg
      have HC1' := Lib.hid hc1'
      clear hc2 hr2 hc1'
      go_wp2
      go_roundw
      case rel =>
        have hboth : Chg (fun b => b = g ∨ F b) wr w2 := (HCH.out.mono (fun b _ hb => .inl hb)).trans (HC2.out.mono (fun b _ hb => .inr hb))
        refine ⟨i + 1, _, by omega, by go_num, rfl, Lib.hid (by rw [HK.out, HSUM.out]; simp only [Int.natCast_add]; omega), Lib.hid (HC.out.trans (hboth.mono (fun b _ hb => by rcases hb with rfl | hb; exact hT; exact hFT b hb))), Lib.hid ?_⟩
        rw [HST.out]
        refine HSET.out w2 _ hboth (fun j hj => ?_) ?_
        · refine ⟨(HC2.out.cell (p := ⟨g, j, none⟩) hg1 hnF).trans ?_, (HC2.out.frozen (p := ⟨g, j, none⟩) hg1 hnF).trans (World.frozen?_setCell _ _ _ _)⟩
          exact World.cell?_setCell_other _ _ _ _ (fun e => by injection e with _ e2; omega)
        · refine ⟨(HC2.out.cell (p := ⟨g, o + i * 2, none⟩) hg1 hnF).trans HC0'.out, fun _ => (HC2.out.frozen (p := ⟨g, o + i * 2, none⟩) hg1 hnF).trans ((World.frozen?_setCell _ _ _ _).trans HF0.out), B1, d1, ?_, fun _ => (HC2.out.frozen (p := ⟨g, o + i * 2 + 1, none⟩) hg1 hnF).trans ((World.frozen?_setCell _ _ _ _).trans HF1.out), HR2.out⟩
          rw [marksByteS_len]
          exact (HC2.out.cell (p := ⟨g, o + i * 2 + 1, none⟩) hg1 hnF).trans HC1'.out
      case measure => simp [intOf]; omega
    · obtain rfl : i = xs.length := by omega
      have HS2 : Hid (Sl true 2 (EN true) wr T A (marksN k xs)) := Lib.hid (by have := HS.out; rwa [mixL_all HML.out] at this)
      have HKE : Hid (kk = k + (szN xs : Int)) := Lib.hid (by rw [HK.out, List.take_length]; unfold szN; omega)
      go_wp2
      go_ret
      exact ⟨by rw [← HKE.out]; rfl, HC.out, HS2.out⟩
set_option maxHeartbeats 1000000 in
theorem heldNFS_any {T : Nat → Prop} (A : Option Addr) (n c : Nat) (xs : List NF) (k : Int) (w : World) (hn : n = xs.length) (hx : Sl false 2 (EN false) w T A (marksN k xs)) (hm : xs.length ≤ 1000000000) (hs : szN xs ≤ 1000000000) (hk0 : 0 ≤ k) (hk1 : k ≤ 900000000000) :
    Calls Try.prog 64 #[.slice A n c, .int .i64 k] w fun e w' => e = .returned (.int .i64 (k + (szN xs : Int))) ∧ Dr w w' := by
  subst hn
  have HX := Lib.hid hx
  clear hx
  go_enter Try.func64, Try.ntmps64
  go_wp2
  go_loopw [1, 5] (fun q p wr => ∃ (i : Nat) (kk : Int), i ≤ xs.length ∧ p = .int .i64 (i : Int) ∧ q = .int .i64 kk ∧ Hid (kk = k + (i : Int) + (sumN (xs.take i) : Int)) ∧ Hid (Dr w wr)) (fun _ p _ => xs.length - (intOf p).toNat)
  case atStart => exact ⟨0, k, Nat.zero_le _, rfl, rfl, Lib.hid (by simp [sumN]), Lib.hid (Dr.refl _)⟩
  case round =>
    obtain ⟨i, kk, hi, rfl, rfl, HK, HD⟩ := hrel
    have hsle0 := sumN_le xs i
    have hkk : 0 ≤ kk ∧ kk ≤ 902000000000 := by have := HK.out; unfold szN at hs; omega
    obtain ⟨hkk0, hkk1⟩ := hkk
    by_cases hlt : i < xs.length
    · have hlm : i < (marksN k xs).length := by rw [marksN_len]; exact hlt
      obtain ⟨g, o, F, rfl, hg, ⟨hc0, _, ⟨B1, d1, hc1, _, hr1⟩⟩, _, _⟩ := HX.out.at_ i hlm
      have hat := marksN_at xs k i hlt
      rw [← HK.out, List.getElem?_eq_getElem hlm] at hat
      have hat2 := Option.some.inj hat
      rw [hat2] at hc0 hc1 hr1
      simp only [marksByteS_len] at hc0 hc1
      rw [← HD.out.cell] at hc0 hc1
      have R1 := Lib.hid (hr1.below HD.out.below)
      have hsum := sumN_take xs i hlt
      have hsle := sumN_le xs (i + 1)
      have hlt2 : (i : Int) < (xs.length : Int) := by omega
      have HSUM := Lib.hid hsum
      clear hr1 hat hat2 hsum
      generalize xs[i] = x at *
      obtain ⟨s, x⟩ := x
      simp only at hc0 hc1 R1 HSUM
      have hb1 : x.length ≤ 1000000000 := by have := HSUM.out; unfold szN at hs; omega
      go_wp2_with fail
      refine (heldByteS_q B1 x.length d1 _ _ R1.out (by omega) (by omega) (by omega)).mono ?_
      rintro e w2 ⟨rfl, hd2⟩
      have HD2 := Lib.hid hd2
      clear hd2
      go_wp2
      go_roundw
      case rel => exact ⟨i + 1, _, by omega, by go_num, rfl, Lib.hid (by rw [HK.out, HSUM.out]; simp only [Int.natCast_add]; omega), Lib.hid (HD.out.trans HD2.out)⟩
      case measure => simp [intOf]; omega
    · obtain rfl : i = xs.length := by omega
      have HKE : Hid (kk = k + (szN xs : Int)) := Lib.hid (by rw [HK.out, List.take_length]; unfold szN; omega)
      go_wp2
      go_ret
      exact ⟨by rw [← HKE.out]; rfl, HD.out⟩
theorem markROB_any {T : Nat → Prop} (st : Int) (A : Option Addr) (c : Nat) (xs : List NF) (k : Int) (w : World) (hx : Sl true 2 (EN true) w T A xs) (hT : ∀ b, T b → b < w.heap.size) (hm : xs.length ≤ 1000000000) (hs : szN xs ≤ 1000000000) (hk0 : 0 ≤ k) (hk1 : k ≤ 900000000000) :
    Calls Try.prog 18 #[.agg #[.int .i64 st, .slice A xs.length c], .int .i64 k] w fun e w' => e = .returned (.int .i64 (k + (szN xs : Int))) ∧ Chg T w w' ∧ Sl true 2 (EN true) w' T A (marksN k xs) := by
  have HX := Lib.hid (Sl.below (R := EN true) EN.framed hx ((Below.refl _ _).alloc (Nat.le_refl _) (.cells #[.int .i64 st, .slice A xs.length c] 28)))
  have HT := Lib.hid hT
  clear hx hT
  go_enter Try.func18, Try.ntmps18
  go_wp2_with fail
  refine (markNFS_any A c xs k _ HX.out hm hs hk0 hk1).mono ?_
  rintro e w1 ⟨rfl, hc, hr⟩
  have HC := Lib.hid hc
  have HR := Lib.hid hr
  clear hc hr
  go_wp2
  go_ret
  exact ⟨rfl, (Chg.of_below ((Below.refl _ _).alloc (Nat.le_refl _) _)).trans HC.out, HR.out⟩
theorem heldROB_any {T : Nat → Prop} (st : Int) (A : Option Addr) (n c : Nat) (xs : List NF) (k : Int) (w : World) (hn : n = xs.length) (hx : Sl false 2 (EN false) w T A (marksN k xs)) (hm : xs.length ≤ 1000000000) (hs : szN xs ≤ 1000000000) (hk0 : 0 ≤ k) (hk1 : k ≤ 900000000000) :
    Calls Try.prog 20 #[.agg #[.int .i64 st, .slice A n c], .int .i64 k] w fun e w' => e = .returned (.int .i64 (k + (szN xs : Int))) ∧ Below w.heap.size w w' := by
  have HX := Lib.hid (Sl.below (R := EN false) EN.framed hx ((Below.refl _ _).alloc (Nat.le_refl _) (.cells #[.int .i64 st, .slice A n c] 28)))
  have HN := Lib.hid hn
  clear hx hn
  have hsz : ¬ k + (szN xs : Int) < 0 := by omega
  go_enter Try.func20, Try.ntmps20
  go_wp2_with fail
  refine (heldNFS_any A n c xs k _ HN.out HX.out hm hs hk0 hk1).mono ?_
  rintro e w1 ⟨rfl, hd⟩
  have hb1 := hd.below
  obtain ⟨X, d, rfl⟩ := Below.ext_ hb1
  clear hd hb1
  go_wp2
  go_ret
  exact ⟨rfl, (by repeat (first | (with_reducible exact Below.refl _ _) | (with_reducible refine Below.ext ?_ (by go_size) _ _) | (with_reducible refine Below.alloc ?_ (by go_size) _) | (with_reducible refine Below.setCell ?_ (by go_size) _) | (with_reducible refine Below.drew ?_) | (with_reducible refine Below.drewN_ ?_ _)))⟩

end Go.Proofs.Ytnfgdgmmbddmgaa
