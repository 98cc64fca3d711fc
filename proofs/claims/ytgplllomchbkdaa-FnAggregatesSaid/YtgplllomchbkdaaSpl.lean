/- SplitAggregate of the program and of the reference. -/
import Derived.Test.YtgplllomchbkdaaSplP
import Derived.Test.YtgplllomchbkdaaOwN
import Derived.Test.YtgplllomchbkdaaAggF
namespace Go.Proofs.Ytgplllomchbkdaa
open Go.RowKit
set_option linter.unusedVariables false
set_option linter.unusedSimpArgs false

theorem infoBytes : (Try.prog.info? 22).map (fun i => (i.zero, i.size, i.bytes)) = some (some (.slice none 0 0), 1, 24) := by kernel_rfl
theorem implCd4 (n : Nat) (w : World) (hn : n ≤ 200) : Calls Try.prog 36 #[.int .i64 (n : Int), .int .i64 4] w fun e w' => e = .returned (.int .i64 (((n : Int) + 3) / 4)) ∧ w = w' := by
  have h1 : inR (n : Int) 0 1000000000000 = true := inR_of (by omega)
  have h2 : inR 4 1 1000000000000 = true := by decide
  have h3 : (n : Int) + 4 - 1 = (n : Int) + 3 := by omega
  go_enter Try.func36, Try.ntmps36
  go_wp2_with (first | (go_at_call 34; refine (inRange_any _ _ _ _).mono ?_; rintro e w' ⟨rfl, rfl⟩))
  go_ret
  exact ⟨reti (by omega), rfl⟩
theorem specCd4 (n : Nat) (w : World) (hn : n ≤ 200) : Calls Try.prog 47 #[.int .i64 (n : Int), .int .i64 4] w fun e w' => e = .returned (.int .i64 (((n : Int) + 3) / 4)) ∧ w = w' := by
  have h1 : inR (n : Int) 0 1000000000000 = true := inR_of (by omega)
  have h2 : inR 4 1 1000000000000 = true := by decide
  go_enter Try.func47, Try.ntmps47
  go_wp2_with (first | (go_at_call 31; refine (l1In_any _ _ _ _).mono ?_; rintro e w' ⟨rfl, rfl⟩))
  go_ret
  exact ⟨reti (by omega), rfl⟩
theorem implSub_any (n : Nat) (w : World) (hn : n ≤ 200) : Calls Try.prog 15 #[.int .i64 (n : Int)] w fun e w' => e = .returned (.int .i64 (subN n : Nat)) ∧ w = w' := by
  have h1 : inR (n : Int) 0 200 = true := inR_of (by omega)
  have hE : Hid (((subN n : Nat) : Int) = 4 + 4 * (((n : Int) + 3) / 4)) := Lib.hid (by unfold subN; omega)
  have hb : 0 ≤ ((n : Int) + 3) / 4 ∧ ((n : Int) + 3) / 4 ≤ 60 := by omega
  obtain ⟨hb0, hb1⟩ := hb
  go_enter Try.func15, Try.ntmps15
  go_wp2_with (first | (go_at_call 34; refine (inRange_any _ _ _ _).mono ?_; rintro e w' ⟨rfl, rfl⟩))
  refine (implCd4 n _ hn).mono ?_
  rintro e w' ⟨rfl, rfl⟩
  generalize ht : ((n : Int) + 3) / 4 = t at *
  go_wp2
  go_ret
  exact ⟨reti (by rw [hE.out]), rfl⟩
theorem specSub_any (n : Nat) (w : World) (hn : n ≤ 200) : Calls Try.prog 43 #[.int .i64 (n : Int)] w fun e w' => e = .returned (.int .i64 (subN n : Nat)) ∧ w = w' := by
  have h1 : inR (n : Int) 0 200 = true := inR_of (by omega)
  have hE : Hid (((subN n : Nat) : Int) = 4 + 4 * (((n : Int) + 3) / 4)) := Lib.hid (by unfold subN; omega)
  have hb : 0 ≤ ((n : Int) + 3) / 4 ∧ ((n : Int) + 3) / 4 ≤ 60 := by omega
  obtain ⟨hb0, hb1⟩ := hb
  go_enter Try.func43, Try.ntmps43
  go_wp2_with (first | (go_at_call 31; refine (l1In_any _ _ _ _).mono ?_; rintro e w' ⟨rfl, rfl⟩))
  refine (specCd4 n _ hn).mono ?_
  rintro e w' ⟨rfl, rfl⟩
  generalize ht : ((n : Int) + 3) / 4 = t at *
  go_wp2
  go_ret
  exact ⟨reti (by rw [hE.out]), rfl⟩
def NewN (w : World) (xs : List (List Int)) (e : Ending) (w' : World) : Prop := ∃ g c, e = .returned (.slice (some ⟨g, 0, none⟩) xs.length c) ∧ Below w.heap.size w w' ∧ OwN 22 w' w.heap.size g c xs

set_option maxHeartbeats 4000000 in
theorem implSpl_any {u : Bool} {T : Nat → Prop} (A : Option Addr) (cap : Nat) (xs : List Int) (w : World) (hx : Rw u .u8 w T A xs) (hm : xs.length ≤ 1000000000000) (hc : xs.length ≤ cap) (hb : ∀ x ∈ xs, 0 ≤ x ∧ x ≤ 255) :
    Calls Try.prog 17 #[.slice A xs.length cap] w fun e w' => NewN w (split xs) e w' := by
  obtain ⟨i0, hi, hz0, hz1, hz2⟩ := info_parts infoBytes
  obtain ⟨j0, hj, hy0, hy1, hy2⟩ := info_parts infoU8
  have HX := Lib.hid ((hx.inW.wider (T' := fun b => b < w.heap.size) (fun _ hb => hb.2)))
  have HBD := Lib.hid hb
  clear hx hb
  go_enter Try.func17, Try.ntmps17
  go_wp2
  go_loopw [3, 4] (fun v p wr => ∃ (a f g c : Nat) (l : List (List Int)), p = .int .i64 (a : Int) ∧ v = .slice (some ⟨g, 0, none⟩) l.length c ∧ a ≤ xs.length + 300 ∧ l.length ≤ 8 ∧ Hid (xs.length ≤ a + f) ∧ Hid (splK xs f a l = split xs) ∧ Hid (Below w.heap.size w wr) ∧ Hid (OwN 22 wr w.heap.size g c l)) (fun _ p _ => xs.length + 300 - (intOf p).toNat)
  case atStart => exact ⟨0, xs.length, w.heap.size, 0, [], rfl, rfl, by omega, by simp, Lib.hid (by omega), Lib.hid rfl, Lib.hid ((Below.refl _ _).alloc (Nat.le_refl _) _), Lib.hid (OwN.new (Nat.le_refl _) (World.heap_new _ _ _ rfl))⟩
  case round =>
    obtain ⟨a, f, g, c, l, rfl, rfl, ha, hl8, HFU, HSP, HB, HO⟩ := hrel
    have hws := HB.out.size
    by_cases hin : a < xs.length ∧ l.length < 8
    · obtain ⟨ha1, hl1⟩ := hin
      have ha2 : (a : Int) < (xs.length : Int) := by omega
      have hl2 : (l.length : Int) < 8 := by omega
      obtain ⟨f, rfl⟩ : ∃ f', f = f' + 1 := ⟨f - 1, by have := HFU.out; omega⟩
      have hrng := pdN_rng xs a
      generalize hp : pdN xs a = p at *
      obtain ⟨n, ok⟩ := p
      obtain ⟨hr0, hr1⟩ := hrng
      simp only at hr0 hr1
      obtain ⟨n, rfl⟩ := Int.eq_ofNat_of_zero_le hr0
      have hpd : pd xs (a : Int) = ((n : Int), ok) := by rw [pd, if_pos (by omega)]; exact hp
      have HP := Lib.hid hpd
      have HPN := Lib.hid hp
      have hI : I64 (a : Int) := ⟨by omega, by omega⟩
      have HI := Lib.hid hI
      have RX := Lib.hid (HX.out.below HB.out)
      clear hpd hp hI
      go_wp2_with fail
      refine (implPd_any _ _ xs (a : Int) _ RX.out hm hc HBD.out HI.out).mono ?_
      rw [HP.out]
      rintro e w2 ⟨rfl, hb2⟩
      have hs2 := hb2.size
      have HB2 := Lib.hid (HB.out.trans (hb2.mono hws))
      have RX2 := Lib.hid (RX.out.below hb2)
      have HO2 := Lib.hid (HO.out.below hb2)
      clear hb2 RX HO HB
      have hfu := HFU.out
      cases ok
      · have HN : Hid (splK xs f (a + 4) l = split xs) := Lib.hid (by rw [← HSP.out, splK_no ha1 hl1 HPN.out (by simp)])
        go_wp2
        go_roundw
        case rel => exact ⟨a + 4, f, g, c, l, by go_num, rfl, by omega, hl8, Lib.hid (by omega), HN, HB2, HO2⟩
        case measure => simp [intOf]; omega
      · by_cases hfit : a + 4 + n ≤ xs.length
        · have hsn : 4 ≤ subN n ∧ subN n ≤ 300 := by unfold subN; omega
          have HN : Hid (splK xs f (a + subN n) (l ++ [(xs.drop (a + 4)).take n]) = split xs) := Lib.hid (by rw [← HSP.out, splK_yes ha1 hl1 HPN.out hfit])
          have hfit2 : (a : Int) + 4 + (n : Int) ≤ (xs.length : Int) := by omega
          have RS := Lib.hid (sub_rw (l := a + 4) (m := n) RX2.out hc hfit)
          have hxl : ((xs.drop (a + 4)).take n).length = n := by simp; omega
          have HXL := Lib.hid hxl
          have hsl : ∀ W : World, (Instr.slice 22 (.slice A xs.length cap) (some (.int .i64 ((a : Int) + 4))) (some (.int .i64 ((a : Int) + 4 + (n : Int)))) none).run Try.prog W = .ok (.slice (subA A cap (a + 4)) ((xs.drop (a + 4)).take n).length (cap - (a + 4))) W := fun W => by
            rw [hxl]
            exact run_sub (P := Try.prog) Try.underlying22 sz1 A xs.length cap (a + 4) n ((a : Int) + 4) ((a : Int) + 4 + (n : Int)) (by omega) (by omega) (by omega) W
          generalize hxx : (xs.drop (a + 4)).take n = x at *
          have hxl8 : x.length ≤ 200 := by omega
          clear hxl hxx RX2
          obtain ⟨vs, F, o1, o2, o3, o4, o5⟩ := HO2.out
          have hgl := HO2.out.lt
          have hge := HO2.out.ge
          have hbs2 := HB2.out.size
          have O2 := Lib.hid o2; have O3 := Lib.hid o3; have O4 := Lib.hid o4; have O5 := Lib.hid o5
          clear o2 o3 o4 o5 HO2
          rw [← o1]
          have hvsl : vs.length ≤ 8 := by omega
          have O1 := Lib.hid o1
          clear o1
          go_wp2_with fail
          refine (copyBytes_any _ _ x _ RS.out (by have := HXL.out; omega)).mono ?_
          intro e w3 hnew
          obtain ⟨g3, c3, rfl, hb3, ho3⟩ := hnew.owr
          have hs3 := hb3.size
          have hg3l := ho3.lt
          have hg3e := ho3.ge
          have R3 := Lib.hid ho3.rwF.rw
          have HB3 := Lib.hid (HB2.out.trans (hb3.mono hbs2))
          have hbs3 := HB3.out.size
          have O2' := Lib.hid ((O2.out.below hb3).below ((Below.refl _ _).alloc (Nat.le_refl _) (.cells #[.slice (some ⟨g3, 0, none⟩) x.length c3] 22)))
          have O5' : Hid (∀ k (h : k < l.length), ∃ A c, vs[k]? = some (.slice A l[k].length c) ∧ Rw true .u8 (w3.alloc (.cells #[.slice (some ⟨g3, 0, none⟩) x.length c3] 22)) (F k) A l[k]) := Lib.hid (fun k h => by
            obtain ⟨A, c, q1, q2⟩ := O5.out k h
            exact ⟨A, c, q1, (q2.below hb3).below ((Below.refl _ _).alloc (Nat.le_refl _) _)⟩)
          clear hb3 ho3 hnew O2 O5 HB2
          go_wp2_with (at_builtin; refine wpList_appR rfl (.tmp 35) (.tmp 43) 29 rfl 22 i0 (.slice none 0 0) 24 Try.underlying29 hi hz0 hz1 hz2 rfl w.heap.size _ _ _ rfl O2'.out _ [.slice (some ⟨g3, 0, none⟩) x.length c3] _ (by intro y hy; simp only [List.mem_singleton] at hy; subst hy; rfl) rfl (rwF_one_at (by simp)) (by first | omega | (simp; done) | (simp; omega)) (by decide) (by first | omega | (simp; done) | (simp; omega)) ?_)
          intro g4 c4 w4 vs' HQ HO4 HG HC4
          have hq4 : vs'.length = (l ++ [x]).length := by rw [HQ.out]; simp [O1.out]
          have HB4 := Lib.hid (below_chg1 (HB3.out.alloc hbs3 _) HC4.out (by simp; omega) hge)
          have HON : Hid (OwN 22 w4 w.heap.size g4 c4 (l ++ [x])) := Lib.hid (OwN.snoc (Fn := fun b => b = g3) vs F O1.out (fun k b hF => by have := O3.out k b hF; simp; omega) O4.out O5'.out HQ.out HO4.out (by simpa using HG.out) HC4.out (R3.out.below ((Below.refl _ _).alloc (Nat.le_refl _) _)) (fun b hb => by subst hb; simp; omega))
          have HQ4 := Lib.hid hq4
          rw [hq4]
          clear HQ HO4 HG HC4 O2' O5' R3 O3 O4 hq4
          go_wp2_with (go_at_call 15; refine (implSub_any n _ (by omega)).mono ?_; rintro e w' ⟨rfl, rfl⟩)
          obtain ⟨hsn0, hsn1⟩ := hsn
          go_roundw
          case rel => exact ⟨a + subN n, f, g4, c4, l ++ [x], by go_num, by simp, by omega, by simp; omega, Lib.hid (by omega), HN, HB4, HON⟩
          case measure => simp [intOf]; omega
        · have hfit2 : (xs.length : Int) < (a : Int) + 4 + (n : Int) := by omega
          have HN : Hid (splK xs f (a + 4) l = split xs) := Lib.hid (by rw [← HSP.out, splK_no ha1 hl1 HPN.out (by omega)])
          go_wp2
          go_roundw
          case rel => exact ⟨a + 4, f, g, c, l, by go_num, rfl, by omega, hl8, Lib.hid (by omega), HN, HB2, HO2⟩
          case measure => simp [intOf]; omega
    · have HE : Hid (split xs = l) := Lib.hid (by rw [← HSP.out, splK_stop hin])
      by_cases ha1 : a < xs.length
      · have hl2 : ¬ (l.length : Int) < 8 := by omega
        have ha2 : (a : Int) < (xs.length : Int) := by omega
        clear hin
        go_wp2
        go_ret
        rw [HE.out]
        exact ⟨g, c, rfl, HB.out, HO.out⟩
      · have ha2 : ¬ (a : Int) < (xs.length : Int) := by omega
        clear hin
        go_wp2
        go_ret
        rw [HE.out]
        exact ⟨g, c, rfl, HB.out, HO.out⟩

set_option maxHeartbeats 4000000 in
theorem specSpl_any {u : Bool} {T : Nat → Prop} (A : Option Addr) (cap : Nat) (xs : List Int) (w : World) (hx : Rw u .u8 w T A xs) (hm : xs.length ≤ 1000000000000) (hc : xs.length ≤ cap) (hb : ∀ x ∈ xs, 0 ≤ x ∧ x ≤ 255) :
    Calls Try.prog 29 #[.slice A xs.length cap] w fun e w' => NewN w (split xs) e w' := by
  obtain ⟨i0, hi, hz0, hz1, hz2⟩ := info_parts infoBytes
  obtain ⟨j0, hj, hy0, hy1, hy2⟩ := info_parts infoU8
  have HX := Lib.hid ((hx.inW.wider (T' := fun b => b < w.heap.size) (fun _ hb => hb.2)))
  have HBD := Lib.hid hb
  clear hx hb
  go_enter Try.func29, Try.ntmps29
  go_wp2
  go_loopw [3, 4] (fun v p wr => ∃ (a f g c : Nat) (l : List (List Int)), p = .int .i64 (a : Int) ∧ v = .slice (some ⟨g, 0, none⟩) l.length c ∧ a ≤ xs.length + 300 ∧ l.length ≤ 8 ∧ Hid (xs.length ≤ a + f) ∧ Hid (splK xs f a l = split xs) ∧ Hid (Below w.heap.size w wr) ∧ Hid (OwN 22 wr w.heap.size g c l)) (fun _ p _ => xs.length + 300 - (intOf p).toNat)
  case atStart => exact ⟨0, xs.length, w.heap.size, 0, [], rfl, rfl, by omega, by simp, Lib.hid (by omega), Lib.hid rfl, Lib.hid ((Below.refl _ _).alloc (Nat.le_refl _) _), Lib.hid (OwN.new (Nat.le_refl _) (World.heap_new _ _ _ rfl))⟩
  case round =>
    obtain ⟨a, f, g, c, l, rfl, rfl, ha, hl8, HFU, HSP, HB, HO⟩ := hrel
    have hws := HB.out.size
    by_cases hin : a < xs.length ∧ l.length < 8
    · obtain ⟨ha1, hl1⟩ := hin
      have ha2 : (a : Int) < (xs.length : Int) := by omega
      have hl2 : (l.length : Int) < 8 := by omega
      obtain ⟨f, rfl⟩ : ∃ f', f = f' + 1 := ⟨f - 1, by have := HFU.out; omega⟩
      have hrng := pdN_rng xs a
      generalize hp : pdN xs a = p at *
      obtain ⟨n, ok⟩ := p
      obtain ⟨hr0, hr1⟩ := hrng
      simp only at hr0 hr1
      obtain ⟨n, rfl⟩ := Int.eq_ofNat_of_zero_le hr0
      have hpd : pd xs (a : Int) = ((n : Int), ok) := by rw [pd, if_pos (by omega)]; exact hp
      have HP := Lib.hid hpd
      have HPN := Lib.hid hp
      have hI : I64 (a : Int) := ⟨by omega, by omega⟩
      have HI := Lib.hid hI
      have RX := Lib.hid (HX.out.below HB.out)
      clear hpd hp hI
      go_wp2_with fail
      refine (specPd_any _ _ xs (a : Int) _ RX.out hm hc HBD.out HI.out).mono ?_
      rw [HP.out]
      rintro e w2 ⟨rfl, hb2⟩
      have hs2 := hb2.size
      have HB2 := Lib.hid (HB.out.trans (hb2.mono hws))
      have RX2 := Lib.hid (RX.out.below hb2)
      have HO2 := Lib.hid (HO.out.below hb2)
      clear hb2 RX HO HB
      have hfu := HFU.out
      cases ok
      · have HN : Hid (splK xs f (a + 4) l = split xs) := Lib.hid (by rw [← HSP.out, splK_no ha1 hl1 HPN.out (by simp)])
        go_wp2
        go_roundw
        case rel => exact ⟨a + 4, f, g, c, l, by go_num, rfl, by omega, hl8, Lib.hid (by omega), HN, HB2, HO2⟩
        case measure => simp [intOf]; omega
      · by_cases hfit : a + 4 + n ≤ xs.length
        · have hsn : 4 ≤ subN n ∧ subN n ≤ 300 := by unfold subN; omega
          have HN : Hid (splK xs f (a + subN n) (l ++ [(xs.drop (a + 4)).take n]) = split xs) := Lib.hid (by rw [← HSP.out, splK_yes ha1 hl1 HPN.out hfit])
          have hfit2 : (a : Int) + 4 + (n : Int) ≤ (xs.length : Int) := by omega
          have RS := Lib.hid (sub_rw (l := a + 4) (m := n) RX2.out hc hfit)
          have hxl : ((xs.drop (a + 4)).take n).length = n := by simp; omega
          have HXL := Lib.hid hxl
          have hsl : ∀ W : World, (Instr.slice 22 (.slice A xs.length cap) (some (.int .i64 ((a : Int) + 4))) (some (.int .i64 ((a : Int) + 4 + (n : Int)))) none).run Try.prog W = .ok (.slice (subA A cap (a + 4)) ((xs.drop (a + 4)).take n).length (cap - (a + 4))) W := fun W => by
            rw [hxl]
            exact run_sub (P := Try.prog) Try.underlying22 sz1 A xs.length cap (a + 4) n ((a : Int) + 4) ((a : Int) + 4 + (n : Int)) (by omega) (by omega) (by omega) W
          generalize hxx : (xs.drop (a + 4)).take n = x at *
          have hxl8 : x.length ≤ 200 := by omega
          clear hxl hxx RX2
          obtain ⟨vs, F, o1, o2, o3, o4, o5⟩ := HO2.out
          have hgl := HO2.out.lt
          have hge := HO2.out.ge
          have hbs2 := HB2.out.size
          have O2 := Lib.hid o2; have O3 := Lib.hid o3; have O4 := Lib.hid o4; have O5 := Lib.hid o5
          clear o2 o3 o4 o5 HO2
          rw [← o1]
          have hvsl : vs.length ≤ 8 := by omega
          have O1 := Lib.hid o1
          clear o1
          go_wp2_with (at_builtin; refine wpList_appR rfl (.tmp 37) (.tmp 45) 22 rfl 5 j0 (.int .u8 0) 1 Try.underlying22 hj hy0 hy1 hy2 rfl w2.heap.size _ _ _ rfl (OwR.new (f := Value.int .u8) (Nat.le_refl _) (World.heap_new _ _ _ rfl)) _ x _ (fun _ _ => rfl) rfl (RS.out.below ((Below.refl _ _).alloc (Nat.le_refl _) _)).rwF (by first | omega | (simp; done) | (simp; omega)) (by decide) (by first | omega | (simp; done) | (simp; omega)) ?_)
          intro g3 c3 w3 q1 HQ1 HO3 HG3 HC3
          obtain rfl : x = q1 := by simpa using HQ1.out.symm
          have hb3 : Below w2.heap.size w2 w3 := below_chg1 ((Below.refl _ _).alloc (Nat.le_refl _) _) HC3.out (by simp) (Nat.le_refl _)
          have ho3 := HO3.out
          have hnew := HG3
          clear HC3 HQ1
          have hs3 := hb3.size
          have hg3l := ho3.lt
          have hg3e := ho3.ge
          have R3 := Lib.hid ho3.rwF.rw
          have HB3 := Lib.hid (HB2.out.trans (hb3.mono hbs2))
          have hbs3 := HB3.out.size
          have O2' := Lib.hid ((O2.out.below hb3).below ((Below.refl _ _).alloc (Nat.le_refl _) (.cells #[.slice (some ⟨g3, 0, none⟩) x.length c3] 22)))
          have O5' : Hid (∀ k (h : k < l.length), ∃ A c, vs[k]? = some (.slice A l[k].length c) ∧ Rw true .u8 (w3.alloc (.cells #[.slice (some ⟨g3, 0, none⟩) x.length c3] 22)) (F k) A l[k]) := Lib.hid (fun k h => by
            obtain ⟨A, c, q1, q2⟩ := O5.out k h
            exact ⟨A, c, q1, (q2.below hb3).below ((Below.refl _ _).alloc (Nat.le_refl _) _)⟩)
          clear hb3 ho3 hnew HO3 O2 O5 HB2
          go_wp2_with (at_builtin; refine wpList_appR rfl (.tmp 36) (.tmp 47) 29 rfl 22 i0 (.slice none 0 0) 24 Try.underlying29 hi hz0 hz1 hz2 rfl w.heap.size _ _ _ rfl O2'.out _ [.slice (some ⟨g3, 0, none⟩) x.length c3] _ (by intro y hy; simp only [List.mem_singleton] at hy; subst hy; rfl) rfl (rwF_one_at (by simp)) (by first | omega | (simp; done) | (simp; omega)) (by decide) (by first | omega | (simp; done) | (simp; omega)) ?_)
          intro g4 c4 w4 vs' HQ HO4 HG HC4
          have hq4 : vs'.length = (l ++ [x]).length := by rw [HQ.out]; simp [O1.out]
          have HB4 := Lib.hid (below_chg1 (HB3.out.alloc hbs3 _) HC4.out (by simp; omega) hge)
          have HON : Hid (OwN 22 w4 w.heap.size g4 c4 (l ++ [x])) := Lib.hid (OwN.snoc (Fn := fun b => b = g3) vs F O1.out (fun k b hF => by have := O3.out k b hF; simp; omega) O4.out O5'.out HQ.out HO4.out (by simpa using HG.out) HC4.out (R3.out.below ((Below.refl _ _).alloc (Nat.le_refl _) _)) (fun b hb => by subst hb; simp; omega))
          have HQ4 := Lib.hid hq4
          rw [hq4]
          clear HQ HO4 HG HC4 O2' O5' R3 O3 O4 hq4
          go_wp2_with (go_at_call 43; refine (specSub_any n _ (by omega)).mono ?_; rintro e w' ⟨rfl, rfl⟩)
          obtain ⟨hsn0, hsn1⟩ := hsn
          go_roundw
          case rel => exact ⟨a + subN n, f, g4, c4, l ++ [x], by go_num, by simp, by omega, by simp; omega, Lib.hid (by omega), HN, HB4, HON⟩
          case measure => simp [intOf]; omega
        · have hfit2 : (xs.length : Int) < (a : Int) + 4 + (n : Int) := by omega
          have HN : Hid (splK xs f (a + 4) l = split xs) := Lib.hid (by rw [← HSP.out, splK_no ha1 hl1 HPN.out (by omega)])
          go_wp2
          go_roundw
          case rel => exact ⟨a + 4, f, g, c, l, by go_num, rfl, by omega, hl8, Lib.hid (by omega), HN, HB2, HO2⟩
          case measure => simp [intOf]; omega
    · have HE : Hid (split xs = l) := Lib.hid (by rw [← HSP.out, splK_stop hin])
      by_cases ha1 : a < xs.length
      · have hl2 : ¬ (l.length : Int) < 8 := by omega
        have ha2 : (a : Int) < (xs.length : Int) := by omega
        clear hin
        go_wp2
        go_ret
        rw [HE.out]
        exact ⟨g, c, rfl, HB.out, HO.out⟩
      · have ha2 : ¬ (a : Int) < (xs.length : Int) := by omega
        clear hin
        go_wp2
        go_ret
        rw [HE.out]
        exact ⟨g, c, rfl, HB.out, HO.out⟩

end Go.Proofs.Ytgplllomchbkdaa
