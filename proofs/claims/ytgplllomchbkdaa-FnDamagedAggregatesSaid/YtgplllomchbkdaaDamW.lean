/- The walk of FnDamagedAggregates. -/
import Derived.Test.YtgplllomchbkdaaDamP
import Derived.Test.YtgplllomchbkdaaSpl
import Derived.Test.YtgplllomchbkdaaOwL
import Derived.Test.YtgplllomchbkdaaSame
import Derived.Test.YtgplllomchbkdaaLawM
namespace Go.Proofs.Ytgplllomchbkdaa
open Go.RowKit
set_option linter.unusedVariables false
set_option linter.unusedSimpArgs false

theorem at_n {u : Bool} {T : Nat → Prop} (A : Option Addr) (c : Nat) (xs : List Int) (i : Nat) (n : Int) (hn : n = (i : Int)) (w : World) (hx : Rw u .u8 w T A xs) (hm : xs.length ≤ 1000000000) (hb : ∀ x ∈ xs, 0 ≤ x ∧ x ≤ 255) (hi : i ≤ 1000000000) :
    Calls Try.prog 13 #[.slice A xs.length c, .int .i64 n] w fun e w' => e = .returned (.int .i64 (atV xs i)) ∧ w = w' := by
  subst hn
  exact at_any A c xs i w hx hm hb hi
theorem implAgg_o {T : Nat → Prop} (A : Option Addr) (c : Nat) (fs : List (List Int)) (w : World) (hx : Sl false 1 (EB false) w T A fs) (hm : fs.length ≤ 1000000000000) (hmx : ∀ x ∈ fs, x.length ≤ 1000000000000) :
    Calls Try.prog 14 #[.slice A fs.length c] w fun e w' => ∃ g c, e = .returned (.slice (some ⟨g, 0, none⟩) (agg fs).length c) ∧ Below w.heap.size w w' ∧ OwR (Value.int .u8) 5 w' w.heap.size g c (agg fs) :=
  (implAgg_any A c fs w hx hm hmx).mono fun _ _ h => h.owr
def dM (xs : List Int) (j : Nat) : Nat := 1 + (atV xs (j + 1) % 5).toNat
def dF (xs : List Int) (n : Nat) : List (List Int) := (List.range n).map fun j => frm j (dM xs j)
theorem dF_succ (xs : List Int) (n : Nat) : dF xs (n + 1) = dF xs n ++ [frm n (dM xs n)] := by simp [dF, List.range_succ]
theorem dF_len (xs : List Int) (n : Nat) : (dF xs n).length = n := by simp [dF]
theorem dF_at (xs : List Int) (n j : Nat) (h : j < (dF xs n).length) : (dF xs n)[j] = frm j (dM xs j) := by simp [dF]
theorem dM_rng (xs : List Int) (j : Nat) : 1 ≤ dM xs j ∧ dM xs j ≤ 5 := by unfold dM; omega
def posN (fs : List (List Int)) (k : Nat) : Nat := ((fs.take k).map subF).flatten.length
theorem posN_succ {fs : List (List Int)} {k : Nat} (hk : k < fs.length) (h : ∀ f ∈ fs, f.length ≤ 200) : posN fs (k + 1) = posN fs k + subN fs[k].length := by
  unfold posN
  rw [flat_take_succ fs k hk, List.length_append, subF_len (h _ (List.getElem_mem hk))]
theorem posN_le {fs : List (List Int)} {k : Nat} (hk : k < fs.length) (h8 : fs.length ≤ 8) (h : ∀ f ∈ fs, f.length ≤ 200) : posN fs k + 4 ≤ (agg fs).length ∧ (agg fs)[posN fs k + 3]? = some 78 := agg_at hk h8 h
def rest (fs : List (List Int)) (K i : Nat) : List (List Int) := if i ≤ K then fs.take i else fs.take K ++ (fs.take i).drop (K + 1)
theorem rest_at {fs : List (List Int)} {K i : Nat} (hi : i < fs.length) (h : ¬ i = K) : rest fs K (i + 1) = rest fs K i ++ [fs[i]] := by
  have htk : fs.take (i + 1) = fs.take i ++ [fs[i]] := by rw [List.take_add_one, List.getElem?_eq_getElem hi]; rfl
  unfold rest
  by_cases h1 : i < K
  · rw [if_pos (by omega), if_pos (by omega), htk]
  · rw [if_neg (by omega), if_neg (by omega), htk, List.drop_append_of_le_length (by simp; omega)]
    simp
theorem rest_skip {fs : List (List Int)} {K : Nat} (hK : K < fs.length) : rest fs K (K + 1) = rest fs K K := by
  unfold rest
  rw [if_neg (by omega), if_pos (Nat.le_refl _), List.drop_eq_nil_of_le (by simp; omega), List.append_nil]
theorem rest_all {fs : List (List Int)} {K : Nat} (hK : K < fs.length) : rest fs K fs.length = fs.take K ++ fs.drop (K + 1) := by
  unfold rest
  rw [if_neg (by omega), List.take_length]
theorem rest_len (fs : List (List Int)) (K i : Nat) : (rest fs K i).length ≤ fs.length + fs.length := by
  unfold rest
  split
  · simp; omega
  · simp; omega
theorem sameLists_o {T1 T2 : Nat → Prop} (A B : Option Addr) (c1 c2 : Nat) (xs ys : List (List Int)) (he : xs = ys) (w : World) (hx : Sl false 1 (EB false) w T1 A xs) (hy : Sl false 1 (EB false) w T2 B ys) (hm : xs.length ≤ 1000000000000) (hmx : ∀ x ∈ xs, x.length ≤ 1000000000000) :
    Calls Try.prog 16 #[.slice A xs.length c1, .slice B ys.length c2] w fun e w' => e = .returned (.bool true) ∧ Below w.heap.size w w' := by
  subst he
  exact (sameLists_q A B c1 c2 xs xs w hx hy hm hm hmx hmx).mono fun _ _ ⟨h1, h2⟩ => ⟨by rw [h1]; simp, h2.below⟩

set_option maxRecDepth 8000 in
set_option maxHeartbeats 600000 in
theorem damagedAggregates_walk (A : Option Addr) (c : Nat) (xs : List Int) (w : World) (hx : Rw false .u8 w (fun g => g < w.heap.size) A xs) (hlen : xs.length ≤ 9223372036854775807) (hb : ∀ x ∈ xs, 0 ≤ x ∧ x ≤ 255) :
    Calls Try.prog 4 #[.slice A xs.length c] w fun e w' => e = .returned (.bool true) ∧ Below w.heap.size w w' := by
  obtain ⟨i0, hi, hz0, hz1, hz2⟩ := info_parts infoBytes
  by_cases hbig : 1048576 < xs.length
  · have HBG : Hid (bigB xs.length = true) := Lib.hid (by simp [bigB, hbig])
    clear hx hb
    go_enter Try.func4, Try.ntmps4
    go_wp2_with (first | (go_at_call 12; refine (big_any _ _ _ _).mono ?_; rw [HBG.out]; rintro e w' ⟨rfl, rfl⟩))
    go_ret
    exact ⟨rfl, Below.refl _ _⟩
  have HBG : Hid (bigB xs.length = false) := Lib.hid (by simp [bigB, hbig])
  have HX := Lib.hid hx
  have HB := Lib.hid hb
  have ha := atV_le hb 0
  have ha9 := atV_le hb 9
  generalize hA : atV xs 0 = a0 at ha
  generalize hA9 : atV xs 9 = a9 at ha9
  have HA := Lib.hid hA
  have HA9 := Lib.hid hA9
  obtain ⟨ha0, ha1⟩ := ha
  obtain ⟨h90, h91⟩ := ha9
  obtain ⟨N, hN⟩ := Int.eq_ofNat_of_zero_le (show 0 ≤ 2 + a0 % 4 by omega)
  have hN1 : 2 ≤ N ∧ N ≤ 5 := by omega
  obtain ⟨hN1, hN2⟩ := hN1
  clear hx hlen hb hA hA9
  go_enter Try.func4, Try.ntmps4
  go_wp2_with (first | (go_at_call 12; refine (big_any _ _ _ _).mono ?_; rw [HBG.out]; rintro e w' ⟨rfl, rfl⟩))
  go_loopw [3, 4] (fun v p wr => ∃ (i g c : Nat) (l : List (List Int)), i ≤ N ∧ p = .int .i64 (i : Int) ∧ v = .slice (some ⟨g, 0, none⟩) l.length c ∧ Hid (l = dF xs i) ∧ Hid (Below w.heap.size w wr) ∧ Hid (OwN 22 wr w.heap.size g c l)) (fun _ p _ => 5 - (intOf p).toNat)
  case atStart => exact ⟨0, w.heap.size, 0, [], by omega, rfl, rfl, Lib.hid rfl, Lib.hid ((Below.refl _ _).alloc (Nat.le_refl _) _), Lib.hid (OwN.new (Nat.le_refl _) (World.heap_new _ _ _ rfl))⟩
  case round =>
    obtain ⟨i, g, c3, l, hi5, rfl, rfl, HL, HBw, HO⟩ := hrel
    have hws := HBw.out.size
    have hll : l.length = i := by rw [HL.out, dF_len]
    have HLL := Lib.hid hll
    have hl5 : l.length ≤ 5 := by omega
    clear hll
    by_cases hlt : i < N
    · have hlt2 : (i : Int) < 2 + a0 % 4 := by omega
      have hm := dM_rng xs i
      have hv1 := atV_le HB.out (i + 1)
      have hmE : ((dM xs i : Nat) : Int) = 1 + atV xs (i + 1) % 5 := by unfold dM; omega
      have hfl : (frm i (dM xs i)).length = dM xs i := by simp [frm]; omega
      have hs5 := dF_succ xs i
      have hcur : ∀ k (h : k < (frm i (dM xs i)).length), (#[Value.int .u8 ((i : Int) + 1), .int .u8 200, .int .u8 201, .int .u8 202, .int .u8 203] : Array Value)[k]? = some (Value.int .u8 (frm i (dM xs i))[k]) := by
        intro k hk
        rw [hfl] at hk
        have hk5 : k = 0 ∨ k = 1 ∨ k = 2 ∨ k = 3 ∨ k = 4 := by omega
        simp only [frm, List.getElem_take]
        rcases hk5 with rfl | rfl | rfl | rfl | rfl <;> rfl
      generalize hxe : frm i (dM xs i) = x at *
      have hx5 : x.length ≤ 5 := by omega
      generalize hav : atV xs (i + 1) = a1 at *
      have HAV := Lib.hid hav
      have hxl : (x.length : Int) = 1 + a1 % 5 := by omega
      have hsl : ∀ (W : World) (b : Nat), (Instr.slice 22 (.slice (some ⟨b, 0, none⟩) 5 5) none (some (.int .i64 (1 + a1 % 5))) none).run Try.prog W = .ok (.slice (some ⟨b, 0, none⟩) x.length 5) W := fun W b => by
        have ht' : Try.prog.underlying 22 = some (.slice (Try.prog.elem 22)) := by simp [Program.elem, Try.underlying22]
        have he : Try.prog.elem 22 = 5 := by simp [Program.elem, Try.underlying22]
        rw [← hxl, run_slice_h W 22 _ _ _ ht' .i64 _ (by omega) (by omega), he, sz1]
        simp [Result.andThen, sliced, Addr.add]
      have hu8 : IntKind.u8.wrap ((i : Int) + 1) = (i : Int) + 1 := by rw [IntKind.wrap_u8]; omega
      obtain ⟨hv10, hv11⟩ := hv1
      have HCUR := Lib.hid hcur
      have HS5 : Hid (dF xs (i + 1) = dF xs i ++ [x]) := Lib.hid hs5
      obtain ⟨vs, F, o1, o2, o3, o4, o5⟩ := HO.out
      have hgl := HO.out.lt
      have hge := HO.out.ge
      have O2 := Lib.hid o2; have O3 := Lib.hid o3; have O4 := Lib.hid o4; have O5 := Lib.hid o5
      rw [← o1]
      have hvsl : vs.length ≤ 5 := by omega
      have O1 := Lib.hid o1
      have RX := Lib.hid (HX.out.below HBw.out)
      clear o1 o2 o3 o4 o5 hm hmE hfl hs5 hcur hxe hav hxl
      go_wp2_with fail
      refine (at_n A c xs 0 0 rfl _ RX.out (by omega) HB.out (by omega)).mono ?_
      rw [HA.out]
      rintro e w' ⟨rfl, rfl⟩
      go_wp2_with fail
      refine (at_n A c xs (i + 1) _ (by omega) _ (RX.out.below ((Below.refl _ _).alloc (Nat.le_refl _) _)) (by omega) HB.out (by omega)).mono ?_
      rw [HAV.out]
      rintro e w' ⟨rfl, rfl⟩
      have R3 : Hid (Rw true .u8 (wr.alloc (.cells #[.int .u8 ((i : Int) + 1), .int .u8 200, .int .u8 201, .int .u8 202, .int .u8 203] 5)) (fun b => b = wr.heap.size) (some ⟨wr.heap.size, 0, none⟩) x) := Lib.hid (RwF.of_alloc wr _ _ x HCUR.out).rw
      have O2' := Lib.hid ((O2.out.below ((Below.refl _ _).alloc (Nat.le_refl _) (.cells #[.int .u8 ((i : Int) + 1), .int .u8 200, .int .u8 201, .int .u8 202, .int .u8 203] 5))).below ((Below.refl _ _).alloc (Nat.le_refl _) (.cells #[.slice (some ⟨wr.heap.size, 0, none⟩) x.length 5] 22)))
      have O5' : Hid (∀ k (h : k < l.length), ∃ A c, vs[k]? = some (.slice A l[k].length c) ∧ Rw true .u8 ((wr.alloc (.cells #[.int .u8 ((i : Int) + 1), .int .u8 200, .int .u8 201, .int .u8 202, .int .u8 203] 5)).alloc (.cells #[.slice (some ⟨wr.heap.size, 0, none⟩) x.length 5] 22)) (F k) A l[k]) := Lib.hid (fun k h => by
        obtain ⟨A, c, q1, q2⟩ := O5.out k h
        exact ⟨A, c, q1, (q2.below ((Below.refl _ _).alloc (Nat.le_refl _) _)).below ((Below.refl _ _).alloc (Nat.le_refl _) _)⟩)
      go_wp2_with (at_builtin; refine wpList_appR rfl (.tmp 22) (.tmp 34) 29 rfl 22 i0 (.slice none 0 0) 24 Try.underlying29 hi hz0 hz1 hz2 rfl w.heap.size _ _ _ rfl O2'.out _ [.slice (some ⟨wr.heap.size, 0, none⟩) x.length 5] _ (by intro y hy; simp only [List.mem_singleton] at hy; subst hy; rfl) rfl (rwF_one_at (by simp)) (by first | omega | (simp; done) | (simp; omega)) (by decide) (by first | omega | (simp; done) | (simp; omega)) ?_)
      intro g4 c4 w4 vs' HQ HO4 HG HC4
      have hq4 : vs'.length = (l ++ [x]).length := by rw [HQ.out]; simp [O1.out]
      have HB4 := Lib.hid (below_chg1 ((HBw.out.alloc hws _).alloc (by simp; omega) _) HC4.out (by simp; omega) hge)
      have HON : Hid (OwN 22 w4 w.heap.size g4 c4 (l ++ [x])) := Lib.hid (OwN.snoc (Fn := fun b => b = wr.heap.size) vs F O1.out (fun k b hF => by have := O3.out k b hF; simp; omega) O4.out O5'.out HQ.out HO4.out (by simpa using HG.out) HC4.out (R3.out.below ((Below.refl _ _).alloc (Nat.le_refl _) _)) (fun b hb => by subst hb; simp; omega))
      rw [hq4]
      clear hq4 HQ HO4 HG HC4 O2' O5' R3 O3 O4 O2 O5 HBw HO
      go_wp2
      go_roundw
      case rel => exact ⟨i + 1, g4, c4, l ++ [x], by omega, by go_num, by simp, Lib.hid (by rw [HS5.out, HL.out]), HB4, HON⟩
      case measure => simp [intOf]; omega
    · obtain rfl : i = N := by omega
      have hlt2 : ¬ (i : Int) < 2 + a0 % 4 := by omega
      obtain rfl : l = dF xs i := HL.out
      have hf : ∀ j (hj : j < (dF xs i).length), ∃ m, 1 ≤ m ∧ m ≤ 5 ∧ (dF xs i)[j] = frm j m := fun j hj => ⟨dM xs j, (dM_rng xs j).1, (dM_rng xs j).2, dF_at xs i j hj⟩
      have h200 : ∀ f ∈ dF xs i, f.length ≤ 200 := by
        intro f hf2
        obtain ⟨j, hj, rfl⟩ := List.mem_iff_getElem.1 hf2
        obtain ⟨m, h1, h2, h3⟩ := hf j hj
        rw [h3]; simp [frm]; omega
      have hfl := dF_len xs i
      clear HL HLL
      generalize hfse : dF xs i = fs at *
      obtain rfl : fs.length = i := hfl
      obtain ⟨K, hK⟩ := Int.eq_ofNat_of_zero_le (show 0 ≤ a9 % (fs.length : Int) from Int.emod_nonneg _ (by omega))
      have hKlt : K < fs.length := by
        have h := Int.emod_lt_of_pos a9 (show 0 < (fs.length : Int) by omega)
        rw [hK] at h
        omega
      have hsd := split_dam hKlt (by omega) hf
      obtain ⟨hp4, hp78⟩ := posN_le hKlt (by omega) h200
      have H200 := Lib.hid h200
      have HM : Hid (∀ x ∈ fs, x.length ≤ 1000000000000) := Lib.hid (fun x h => by have := h200 x h; omega)
      have HSD : Hid (split ((agg fs).set (posN fs K + 3) 177) = fs.take K ++ fs.drop (K + 1)) := Lib.hid hsd
      have hagl := agg_len fs
      have hub := agg_ub fs (by
        intro f hf2 y hy
        obtain ⟨j, hj, rfl⟩ := List.mem_iff_getElem.1 hf2
        obtain ⟨m, h1, h2, h3⟩ := hf j hj
        rw [h3] at hy
        have := List.mem_of_mem_take hy
        simp only [List.mem_cons, List.not_mem_nil, or_false] at this
        omega)
      have HUB := Lib.hid hub
      have HSl := Lib.hid HO.out.sl
      have hgl := HO.out.lt
      have hge := HO.out.ge
      have HK := Lib.hid hK
      have HNN := Lib.hid hN
      have hne : ((fs.length : Int) == 0) = false := beq_eq_false_iff_ne.2 (by omega)
      have hne2 : ¬ fs = [] := by intro h; subst h; simp at hKlt
      clear hf h200 hsd hub HO hfse hK hN
      go_wp2_with (go_at_call 13; refine (at_n A c xs 0 0 rfl _ (HX.out.below HBw.out) (by omega) HB.out (by omega)).mono ?_; rw [HA.out]; rintro e w' ⟨rfl, rfl⟩)
      refine (implAgg_o _ _ fs _ (SlB.read HSl.out) (by omega) HM.out).mono ?_
      rintro e w2 ⟨g5, c5, rfl, hb2, ho5⟩
      have hs2 := hb2.size
      have HB2 := Lib.hid (HBw.out.trans (hb2.mono hws))
      have HS2 := Lib.hid (Sl.below (R := EB true) EB.framed HSl.out hb2)
      have RB := Lib.hid ho5.rwF.rw
      have hg5 := ho5.lt
      have hg5e := ho5.ge
      have hbc := ho5.le_cap
      have HPI : Hid (∀ j, j < fs.length → posN fs j ≤ 1656) := Lib.hid (fun j hj => by have := (posN_le hj (by omega) H200.out).1; omega)
      clear hb2 ho5 HSl
      generalize agg fs = bs at *
      go_wp2_with (go_at_call 13; refine (at_n A c xs 9 9 rfl _ (HX.out.below HB2.out) (by omega) HB.out (by omega)).mono ?_; rw [HA9.out]; rintro e w' ⟨rfl, rfl⟩)
      rw [HK.out]
      clear HK
      go_loop [7, 8] (fun v p => ∃ i : Nat, i ≤ K ∧ p = .int .i64 (i : Int) ∧ v = .int .i64 (posN fs i : Nat)) (fun _ p => K - (intOf p).toNat)
      case atStart => exact ⟨0, by omega, rfl, by simp [posN]⟩
      case round =>
        obtain ⟨i, hi6, rfl, rfl⟩ := hrel
        by_cases hlt3 : i < K
        · obtain ⟨g1, o1, F1, hA1, hg1, ⟨B1, d1, hc1, _, _⟩, _, _⟩ := Sl.at_ HS2.out i (by omega)
          injection hA1 with hA1
          injection hA1 with e1 e2
          subst e1 e2
          rw [Nat.mul_one, Nat.zero_add] at hc1
          have hx2 := H200.out _ (List.getElem_mem (show i < fs.length by omega))
          have hps := posN_succ (show i < fs.length by omega) H200.out
          have hpi := HPI.out i (by omega)
          have hlt4 : (i : Int) < (K : Int) := by omega
          have hlt5 : (i : Int) < (fs.length : Int) := by omega
          have HPS := Lib.hid hps
          clear hps
          generalize fs[i] = x at *
          have hsn : subN x.length ≤ 300 := by unfold subN; omega
          go_wp2_with (go_at_call 15; refine (implSub_any x.length _ hx2).mono ?_; rintro e w' ⟨rfl, rfl⟩)
          go_wp2
          go_round
          case rel => exact ⟨i + 1, by omega, by go_num, by rw [HPS.out]; go_num⟩
          case measure => simp [intOf]; omega
        · obtain rfl : i = K := by omega
          have hps : (bs.set (posN fs i + 3) 177).length = bs.length := by simp
          rw [← hps] at hbc
          obtain ⟨gb, ob, hAb, _, _, hcb, hfb⟩ := RB.out (posN fs i + 3) (by omega)
          injection hAb with hAb
          injection hAb with e1 e2
          subst e1 e2
          rw [Nat.zero_add] at hcb hfb
          have h78 : bs[posN fs i + 3]'(by omega) = 78 := by
            rw [List.getElem?_eq_getElem (by omega)] at hp78
            exact Option.some.inj hp78
          rw [h78] at hcb
          have hfb2 := hfb rfl
          have RB3 := Lib.hid (Rw.set_ RB.out (posN fs i + 3) (by omega) 177)
          have HB3 : Hid (Below w.heap.size w (w2.setCell ⟨g5, posN fs i + 3, none⟩ (.int .u8 177))) := Lib.hid (HB2.out.setCell (show w.heap.size ≤ g5 by omega) _)
          have HS3 : Hid (Sl true 1 (EB true) (w2.setCell ⟨g5, posN fs i + 3, none⟩ (.int .u8 177)) (fun b => w.heap.size ≤ b ∧ b < wr.heap.size) (some ⟨g, 0, none⟩) fs) := Lib.hid (Sl.frame (R := EB true) EB.framed HS2.out (S := fun b => b = g5) (Chg.setCell_ (S := fun b => b = g5) (Chg.refl _ _) (p := ⟨g5, posN fs i + 3, none⟩) rfl _) (fun b h1 h2 => by omega))
          have hsz3 : (w2.setCell ⟨g5, posN fs i + 3, none⟩ (.int .u8 177)).heap.size = w2.heap.size := by simp [World.setCell]
          have HUB3 : Hid (∀ y ∈ bs.set (posN fs i + 3) 177, 0 ≤ y ∧ y ≤ 255) := Lib.hid (fun y hy => by
            rcases List.mem_or_eq_of_mem_set hy with h | h
            · exact HUB.out y h
            · omega)
          have HPSL := Lib.hid hps
          have h3 : posN fs i ≤ 1656 := HPI.out i hKlt
          have hlt4 : ¬ (i : Int) < (i : Int) := by omega
          clear h78 hp78 hfb RB HB2 HS2 HUB HPI hps
          generalize bs.set (posN fs i + 3) 177 = bd at *
          generalize posN fs i = ps at *
          have j1 : ((ps : Int) + 3).toNat = ps + 3 := by omega
          have j2 : (ps : Int) + 3 < (bs.length : Int) := by omega
          have j3 : ¬ (bs.length : Int) < (ps : Int) + 4 := by omega
          have hxor : bits .xor .u8 78 255 = 177 := by decide
          go_wp2
          obtain ⟨wa, rfl⟩ : ∃ wa : World, wa = wr := ⟨_, rfl⟩
          go_loopw [9, 10] (fun v p wr => ∃ (n g' c' : Nat) (q : List (List Int)), p = .int .i64 (n : Int) ∧ n ≤ fs.length ∧ v = .slice (some ⟨g', 0, none⟩) q.length c' ∧ Hid (q = rest fs i n) ∧ Hid (Below w.heap.size w wr) ∧ Hid (OwL 22 wr (fun b => w.heap.size ≤ b ∧ b < wa.heap.size) w2.heap.size g' c' q) ∧
            Hid (Sl true 1 (EB true) wr (fun b => w.heap.size ≤ b ∧ b < wa.heap.size) (some ⟨g, 0, none⟩) fs) ∧ Hid (Rw true .u8 wr (fun b => b = g5) (some ⟨g5, 0, none⟩) bd) ∧ w2.heap.size ≤ wr.heap.size) (fun _ p _ => fs.length - (intOf p).toNat)
          case atStart => exact ⟨0, w2.heap.size, 0, [], rfl, by omega, by simp [World.setCell], Lib.hid (by simp [rest]), Lib.hid (HB3.out.alloc (by rw [hsz3]; omega) _), Lib.hid (OwL.new (Nat.le_refl _) (World.heap_new _ _ _ hsz3.symm)), Lib.hid (Sl.below (R := EB true) EB.framed HS3.out ((Below.refl _ _).alloc (Nat.le_refl _) _)), Lib.hid (RB3.out.below ((Below.refl _ _).alloc (Nat.le_refl _) _)), by simp [World.setCell]⟩
          case round =>
            obtain ⟨n, g6, c6, q, rfl, hn, rfl, HQ, HB6, HO6, HS6, RB6, hs6⟩ := hrel
            have hql : q.length ≤ 10 := by rw [HQ.out]; have := rest_len fs i n; omega
            by_cases hn2 : n < fs.length
            · have hn3 : (n : Int) < (fs.length : Int) := by omega
              by_cases hni : n = i
              · have HR : Hid (rest fs i (n + 1) = rest fs i n) := Lib.hid (by rw [hni]; exact rest_skip (by omega))
                have hni2 : ((n : Int) != (i : Int)) = false := by simp; omega
                have HNI := Lib.hid hni
                clear hni
                go_wp2
                go_roundw
                case rel => exact ⟨n + 1, g6, c6, q, by go_num, by omega, rfl, Lib.hid (by rw [HR.out]; exact HQ.out), HB6, HO6, HS6, RB6, hs6⟩
                case measure => simp [intOf]; omega
              · have HR := Lib.hid (rest_at hn2 hni)
                have hni2 : ((n : Int) != (i : Int)) = true := by simp; omega
                obtain ⟨g1, o1, F1, hA1, hg1, ⟨B1, d1, hc1, _, hr1⟩, _, hF1⟩ := Sl.at_ HS6.out n hn2
                injection hA1 with hA1
                injection hA1 with e1 e2
                subst e1 e2
                rw [Nat.mul_one, Nat.zero_add] at hc1
                have R1 := Lib.hid ((hr1.read).wider hF1)
                obtain ⟨vs, o1, o2, o5⟩ := HO6.out
                have hge6 := HO6.out.ge
                have hgl6 := HO6.out.lt
                clear hr1 hni
                generalize fs[n] = x at *
                have O2' := Lib.hid (o2.below ((Below.refl _ _).alloc (Nat.le_refl _) (.cells #[.slice B1 x.length d1] 22)))
                have O5' : Hid (∀ k (h : k < q.length), ∃ A c, vs[k]? = some (.slice A q[k].length c) ∧ Rw false .u8 (wr.alloc (.cells #[.slice B1 x.length d1] 22)) (fun b => w.heap.size ≤ b ∧ b < wa.heap.size) A q[k]) := Lib.hid (fun k h => by
                  obtain ⟨A, c, q1, q2⟩ := o5 k h
                  exact ⟨A, c, q1, q2.below ((Below.refl _ _).alloc (Nat.le_refl _) _)⟩)
                rw [← o1]
                have hvsl : vs.length ≤ 10 := by omega
                have O1 := Lib.hid o1
                clear o1 o2 o5
                go_wp2_with (at_builtin; refine wpList_appR rfl (.tmp 81) (.tmp 86) 29 rfl 22 i0 (.slice none 0 0) 24 Try.underlying29 hi hz0 hz1 hz2 rfl w2.heap.size _ _ _ rfl O2'.out _ [.slice B1 x.length d1] _ (by intro y hy; simp only [List.mem_singleton] at hy; subst hy; rfl) rfl (rwF_one_at (by simp)) (by first | omega | (simp; done) | (simp; omega)) (by decide) (by first | omega | (simp; done) | (simp; omega)) ?_)
                intro g7 c7 w7 vs' HQ7 HO7 HG7 HC7
                have hq7 : vs'.length = (q ++ [x]).length := by rw [HQ7.out]; simp [O1.out]
                have hb6 := HB6.out.size
                have HB7 := Lib.hid (below_chg1 (HB6.out.alloc hb6 _) HC7.out (by simp; omega) (by omega))
                have HO8 : Hid (OwL 22 w7 (fun b => w.heap.size ≤ b ∧ b < wa.heap.size) w2.heap.size g7 c7 (q ++ [x])) := Lib.hid (OwL.snoc O1.out O5'.out HQ7.out HO7.out HC7.out (R1.out.below ((Below.refl _ _).alloc (Nat.le_refl _) _)) (fun b hb => by omega))
                have HS7 : Hid (Sl true 1 (EB true) w7 (fun b => w.heap.size ≤ b ∧ b < wa.heap.size) (some ⟨g, 0, none⟩) fs) := Lib.hid (Sl.frame (R := EB true) EB.framed (Sl.below (R := EB true) EB.framed HS6.out ((Below.refl _ _).alloc (Nat.le_refl _) _)) HC7.out (fun b h1 h2 => by omega))
                have RB7 : Hid (Rw true .u8 w7 (fun b => b = g5) (some ⟨g5, 0, none⟩) bd) := Lib.hid ((RB6.out.below ((Below.refl _ _).alloc (Nat.le_refl _) _)).frame HC7.out (fun b h1 h2 => by omega))
                have hs7 : w2.heap.size ≤ w7.heap.size := by have := HC7.out.size; simp at this; omega
                rw [hq7]
                clear hq7 HQ7 HO7 HG7 HC7 O2' O5' R1 HB6 HO6 HS6 RB6
                go_wp2
                go_roundw
                case rel => exact ⟨n + 1, g7, c7, q ++ [x], by go_num, by omega, by simp, Lib.hid (by rw [HR.out, HQ.out]), HB7, HO8, HS7, RB7, hs7⟩
                case measure => simp [intOf]; omega
            · obtain rfl : n = fs.length := by omega
              have HQ2 : Hid (q = fs.take i ++ fs.drop (i + 1)) := Lib.hid (by rw [HQ.out]; exact rest_all hKlt)
              have hn3 : ¬ (fs.length : Int) < (fs.length : Int) := by omega
              rw [← HPSL.out]
              clear HS6
              go_wp2_with fail
              refine (implSpl_any _ c5 _ _ RB6.out (by have := HPSL.out; omega) hbc HUB3.out).mono ?_
              rintro e w8 ⟨g8, c8, rfl, hb8, ho8⟩
              have hs8 := hb8.size
              have HB8 := Lib.hid (HB6.out.trans (hb8.mono HB6.out.size))
              have S8 := Lib.hid (SlB.read ho8.sl)
              have SQ := Lib.hid (Sl.below (R := EB false) EB.framed HO6.out.sl hb8)
              have HL8 := Lib.hid (split_len bd)
              have HM8 := Lib.hid (split_mem bd)
              clear hb8 ho8 HO6 RB6
              go_wp2_with fail
              refine (sameLists_o _ _ _ _ _ _ (by rw [HSD.out, HQ2.out]) _ S8.out SQ.out (by have := HL8.out; omega) (fun x hx => by have := HM8.out x hx; omega)).mono ?_
              rintro e w9 ⟨rfl, hb9⟩
              have HB9 := Lib.hid (HB8.out.trans (hb9.mono HB8.out.size))
              go_wp2
              go_ret
              exact ⟨rfl, HB9.out⟩

end Go.Proofs.Ytgplllomchbkdaa
