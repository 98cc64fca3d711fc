/- AggregateFrames of the program and of the reference. -/
import Derived.Test.YtgplllomchbkdaaAggP
import Derived.Test.YtgplllomchbkdaaApp
import Derived.Test.YtgplllomchbkdaaEqB
import Derived.Deep.RegionWith
import Derived.Test.YtgplllomchbkdaaHeld
namespace Go.Proofs.Ytgplllomchbkdaa
open Go.RowKit
set_option linter.unusedVariables false
set_option linter.unusedSimpArgs false

theorem NewB.owr {w w' : World} {e : Ending} {xs : List Int} (h : NewB w e w' xs) : ∃ g c, e = .returned (.slice (some ⟨g, 0, none⟩) xs.length c) ∧ Below w.heap.size w w' ∧ OwR (Value.int .u8) 5 w' w.heap.size g c xs := by
  obtain ⟨g, c, X, d, h1, rfl, h3, h4⟩ := h
  exact ⟨g, c, h1, Below.ext (Below.refl _ _) (Nat.le_refl _) X d, h4⟩
theorem OwR.newB {w w' : World} {g c : Nat} {xs : List Int} (h : OwR (Value.int .u8) 5 w' w.heap.size g c xs) (hb : Below w.heap.size w w') : NewB w (.returned (.slice (some ⟨g, 0, none⟩) xs.length c)) w' xs := by
  obtain ⟨X, d, rfl⟩ := Below.ext_ hb
  exact ⟨g, c, X, d, rfl, rfl, h.ge, h⟩
theorem below_chg1 {B g : Nat} {a w w' : World} (h : Below B a w) (hc : Chg (fun b => b = g) w w') (hB : B ≤ w.heap.size) (hg : B ≤ g) : Below B a w' :=
  h.trans (hc.below hB (fun k hk => by omega))
def lenOf : Value → Nat
  | .slice _ n _ => n
  | _ => 0
abbrev NewBt (w : World) (xs : List Int) (e : Ending) (w' : World) : Prop := NewB w e w' xs
set_option maxHeartbeats 4000000 in
theorem implAgg_any {T : Nat → Prop} (A : Option Addr) (c : Nat) (fs : List (List Int)) (w : World) (hx : Sl false 1 (EB false) w T A fs) (hm : fs.length ≤ 1000000000000) (hmx : ∀ x ∈ fs, x.length ≤ 1000000000000) :
    Calls Try.prog 14 #[.slice A fs.length c] w fun e w' => NewB w e w' (agg fs) := by
  obtain ⟨i0, hi, hz0, hz1, hz2⟩ := info_parts infoU8
  have HX := Lib.hid hx
  have HMX := Lib.hid hmx
  clear hx hmx
  by_cases h8 : 8 < fs.length
  · have hE : agg fs = [] := by rw [agg, if_neg (by rw [fit_false_len h8]; decide)]
    rw [hE]
    have h82 : (8 : Int) < (fs.length : Int) := by omega
    go_enter Try.func14, Try.ntmps14
    go_wp2
    go_ret
    exact newB_nil (by repeat (first | (with_reducible exact Below.refl _ _) | (with_reducible refine Below.ext ?_ (by go_size) _ _) | (with_reducible refine Below.alloc ?_ (by go_size) _) | (with_reducible refine Below.setCell ?_ (by go_size) _) | (with_reducible refine Below.drew ?_) | (with_reducible refine Below.drewN_ ?_ _))) (by simp) (World.heap_new _ _ _ rfl)
  have h82 : ¬ (8 : Int) < (fs.length : Int) := by omega
  go_enter Try.func14, Try.ntmps14
  go_wp2
  go_loopw [3, 13] (fun v p wr => ∃ (k g c : Nat) (l : List Int), k ≤ fs.length ∧ p = .int .i64 (k : Int) ∧ v = .slice (some ⟨g, 0, none⟩) l.length c ∧ Hid (Below w.heap.size w wr) ∧ Hid (OwR (Value.int .u8) 5 wr w.heap.size g c l) ∧ Hid (l = aggL (fs.take k)) ∧ Hid (∀ j (hj : j < fs.length), j < k → fs[j].length ≤ 200)) (fun _ p _ => fs.length - (intOf p).toNat)
  case atStart => exact ⟨0, w.heap.size, 0, [], Nat.zero_le _, rfl, rfl, Lib.hid ((Below.refl _ _).alloc (Nat.le_refl _) _), Lib.hid (OwR.new (Nat.le_refl _) (World.heap_new _ _ _ rfl)), Lib.hid rfl, Lib.hid (fun j _ h => absurd h (by omega))⟩
  case round =>
    obtain ⟨k, g, c, l, hk, rfl, rfl, HB, HO, HL, HF⟩ := hrel
    have hws := HB.out.size
    by_cases hlt : k < fs.length
    · obtain ⟨g1, o1, F1, rfl, hg1, ⟨B1, d1, hc1, _, hr1⟩, _, _⟩ := HX.out.at_ k hlt
      rw [Nat.mul_one] at hc1
      have hc2 : wr.cell? ⟨g1, o1 + k, none⟩ = some (.slice B1 fs[k].length d1) := (HB.out.cell (p := ⟨g1, o1 + k, none⟩) hg1).trans hc1
      have R1 := Lib.hid ((hr1.inW.wider (T' := fun b => b < w.heap.size) (fun _ hb => hb.2)).below HB.out)
      have hlt2 : (k : Int) < (fs.length : Int) := by omega
      have hxl := HMX.out _ (List.getElem_mem hlt)
      by_cases h200 : 200 < fs[k].length
      · have hE : Hid (agg fs = []) := Lib.hid (by rw [agg, if_neg (by rw [fit_false_mem hlt h200]; decide)])
        have h201 : (200 : Int) < (fs[k].length : Int) := by omega
        clear hr1 hc1
        generalize fs[k] = x at *
        go_wp2
        go_ret
        rw [hE.out]
        refine newB_nil ((HB.out).alloc hws _) hws (World.heap_new _ _ _ rfl)
      · have h201 : ¬ (200 : Int) < (fs[k].length : Int) := by omega
        have hst := aggL_take fs k hlt
        have hll : l.length ≤ 1656 := by
          have h1 := aggL_len (fs.take k) (fun f hf => by
            obtain ⟨j, hj, rfl⟩ := List.mem_iff_getElem.1 hf
            rw [List.length_take] at hj
            rw [List.getElem_take]
            exact HF.out j (by omega) (by omega))
          rw [← HL.out, List.length_take] at h1
          omega
        rw [← HL.out] at hst
        have HST := Lib.hid hst
        have HF2 : Hid (∀ j (hj : j < fs.length), j < k + 1 → fs[j].length ≤ 200) := Lib.hid (fun j hj h => by
          rcases Nat.lt_or_ge j k with h1 | h1
          · exact HF.out j hj h1
          · obtain rfl : j = k := by omega
            omega)
        clear hr1 hc1 hst HF
        generalize hfx : fs[k] = x at *
        have HFX := Lib.hid hfx
        clear hfx
        have hdl := dlm_len (x.length : Int)
        go_wp2_with fail
        refine (implDlm_any _ _).mono ?_
        intro e w2 hnew
        obtain ⟨g2, c2, rfl, hb2, ho2⟩ := hnew.owr
        have hs2 := hb2.size
        have HO2 := Lib.hid ho2
        have HO1 := Lib.hid (HO.out.below hb2)
        have HB2 := Lib.hid (HB.out.trans (hb2.mono hws))
        have R2 := Lib.hid (R1.out.below hb2)
        have hc3 : w2.cell? ⟨g1, o1 + k, none⟩ = some (.slice B1 x.length d1) := (HB2.out.cell (p := ⟨g1, o1 + k, none⟩) hg1).trans ((HB.out.cell (p := ⟨g1, o1 + k, none⟩) hg1).symm.trans hc2)
        have hge := HO1.out.ge
        have hgl := HO1.out.lt
        have hg2l := HO2.out.lt
        have hg2e := HO2.out.ge
        have hgr := HO.out.lt
        have hhne : ¬ g2 = g := by omega
        clear hb2 ho2 hnew
        go_wp2_with (at_builtin; refine wpList_appR rfl (.tmp 21) (.tmp 24) 22 rfl 5 i0 (.int .u8 0) 1 Try.underlying22 hi hz0 hz1 hz2 rfl w.heap.size _ _ _ rfl HO1.out _ _ _ (fun _ _ => rfl) rfl HO2.out.rwF (by first | omega | (simp; omega)) (by decide) (by first | omega | (simp; omega)) ?_; skip)
        intro g3 c3 w3 q1 HQ1 HO3 HG3 HC3
        have hln3 : q1.length ≤ 1660 := by rw [HQ1.out]; simp; omega
        have HB3 := Lib.hid (below_chg1 HB2.out HC3.out (by omega) hge)
        have R3 := Lib.hid (R2.out.frame HC3.out (fun b hb e => by omega))
        have hs3 := HC3.out.size
        have hc4 : w3.cell? ⟨g1, o1 + k, none⟩ = some (.slice B1 x.length d1) := (HC3.out.cell (p := ⟨g1, o1 + k, none⟩) (by simp; omega) (by simp; omega)).trans hc3
        have hge3 := HO3.out.ge
        clear HG3 HC3 HO2 HO1 R2 hc3 hc2
        go_wp2_with (at_builtin; refine wpList_appR rfl (.tmp 26) (.tmp 27) 22 rfl 5 i0 (.int .u8 0) 1 Try.underlying22 hi hz0 hz1 hz2 rfl w.heap.size _ _ _ rfl HO3.out _ _ _ (fun _ _ => rfl) rfl R3.out.rwF (by first | omega | (simp; omega)) (by decide) (by first | omega | (simp; omega)) ?_; skip)
        intro g4 c4 w4 q0 HQ0 HO4 HG4 HC4
        have HB4 := Lib.hid (below_chg1 HB3.out HC4.out (by omega) hge3)
        have hlo : q0.length ≤ 1860 := by rw [HQ0.out]; simp; omega
        have hO : aggO l x = q0 := by rw [HQ0.out, HQ1.out]; rfl
        have HSO : Hid (aggS l x = q0 ++ List.replicate (pad4 q0.length) 0) := Lib.hid (by rw [← hO]; rfl)
        clear HG4 HC4 HO3 R3 hdl HO HB HB2 HB3 R1 HQ0 hO HQ1
        go_wp2
        go_loopw [3] (fun v wi => ∃ (m g c : Nat) (q : List Int), m ≤ pad4 q0.length ∧ v = .slice (some ⟨g, 0, none⟩) q.length c ∧ Hid (q = q0 ++ List.replicate m 0) ∧ Hid (Below w.heap.size w wi) ∧ Hid (OwR (Value.int .u8) 5 wi w.heap.size g c q)) (fun v _ => q0.length + 4 - lenOf v)
        case atStart => exact ⟨0, g4, c4, q0, Nat.zero_le _, rfl, Lib.hid (by simp), HB4, HO4⟩
        case round =>
          obtain ⟨m, g5, c5, q, hm5, rfl, HQ, HB5, HO5⟩ := hrel
          have hql : q.length = q0.length + m := by rw [HQ.out]; simp
          have hp3 := (pad4_lt q0.length).1
          have hql2 : q.length ≤ 1900 := by omega
          have hge5 := HO5.out.ge
          have hs5 := HB5.out.size
          have hgl5 := HO5.out.lt
          by_cases hq : q.length % 4 = 0
          · have hmE : m = pad4 q0.length := pad4_at hm5 (by omega)
            have HR : Hid (q = aggS l x) := Lib.hid (by rw [HQ.out, HSO.out, hmE])
            have hq2 : (q.length : Int) % 4 = 0 := by omega
            have HQL := Lib.hid hql
            clear hql hq hmE
            go_wp2
            go_roundw
            case rel => exact ⟨k + 1, g5, c5, q, by omega, by go_num, rfl, HB5, HO5, Lib.hid (by rw [HR.out, HST.out]), HF2⟩
            case measure => simp [intOf]; omega
          · have hmE : m + 1 ≤ pad4 q0.length := pad4_more hm5 (by omega)
            have hq2 : ¬ (q.length : Int) % 4 = 0 := by omega
            have hq3 : ((q.length : Int) % 4 != 0) = true := by simp [hq2]
            have HQL := Lib.hid hql
            clear hql hq
            go_wp2_with (at_builtin; refine wpList_appR rfl (.tmp 33) (.tmp 34) 22 rfl 5 i0 (.int .u8 0) 1 Try.underlying22 hi hz0 hz1 hz2 rfl w.heap.size _ _ _ rfl (HO5.out.below ((Below.refl _ _).alloc (Nat.le_refl _) _)) _ [0] _ (fun _ _ => rfl) rfl (rw_lit (u := true) (K := .u8) [0] (World.heap_new _ _ _ rfl)).rwF (by first | omega | (simp; omega)) (by decide) (by first | omega | (simp; omega)) ?_; skip)
            intro g6 c6 w6 q6 HQ6 HO6 HG6 HC6
            have HB6 := Lib.hid (below_chg1 (HB5.out.alloc (by omega) _) HC6.out (by simp; omega) hge5)
            have hq6 : q6.length = q.length + 1 := by rw [HQ6.out]; simp
            have HQ6L := Lib.hid hq6
            clear HG6 HC6 hq6
            go_wp2
            go_roundw
            case rel => exact ⟨m + 1, g6, c6, q6, hmE, rfl, Lib.hid (by rw [HQ6.out, HQ.out, List.append_assoc, List.replicate_succ']), HB6, HO6⟩
            case measure => simp [lenOf]; have := HQL.out; have := HQ6L.out; omega
    · obtain rfl : k = fs.length := by omega
      have hE : Hid (agg fs = l) := Lib.hid (by rw [agg, if_pos (fit_true (by omega) (fun j hj => HF.out j hj hj)), HL.out, List.take_length])
      go_wp2
      go_ret
      rw [hE.out]
      exact HO.out.newB HB.out

theorem below_drewN {B : Nat} {a w : World} (h : Below B a w) (n : Nat) : Below B a (w.drewN n) := Below.drewN_ h n
set_option maxHeartbeats 4000000 in
theorem specAgg_any {T : Nat → Prop} (A : Option Addr) (c : Nat) (fs : List (List Int)) (w : World) (hx : Sl false 1 (EB false) w T A fs) (hm : fs.length ≤ 1000000000000) (hmx : ∀ x ∈ fs, x.length ≤ 1000000000000) :
    Calls Try.prog 19 #[.slice A fs.length c] w fun e w' => NewB w e w' (agg fs) := by
  obtain ⟨i0, hi, hz0, hz1, hz2⟩ := info_parts infoU8
  have HX := Lib.hid hx
  have HMX := Lib.hid hmx
  clear hx hmx
  go_enter Try.func19, Try.ntmps19
  go_wp2
  go_loopw [3, 4] (fun v p wr => ∃ (k g c : Nat) (l : List Int), k ≤ fs.length ∧ p = .int .i64 (k : Int) ∧ v = .slice (some ⟨g, 0, none⟩) l.length c ∧ Hid (Below w.heap.size w wr) ∧ Hid (OwR (Value.int .u8) 5 wr w.heap.size g c l) ∧ Hid (l = aggL (fs.take k)) ∧ Hid (∀ j (hj : j < fs.length), j < k → fs[j].length ≤ 200 ∧ fs.length ≤ 8)) (fun _ p _ => fs.length - (intOf p).toNat)
  case atStart => exact ⟨0, w.heap.size, 0, [], Nat.zero_le _, rfl, rfl, Lib.hid ((Below.refl _ _).alloc (Nat.le_refl _) _), Lib.hid (OwR.new (Nat.le_refl _) (World.heap_new _ _ _ rfl)), Lib.hid rfl, Lib.hid (fun j _ h => absurd h (by omega))⟩
  case round =>
    obtain ⟨k, g, c, l, hk, rfl, rfl, HB, HO, HL, HF⟩ := hrel
    have hws := HB.out.size
    by_cases hlt : k < fs.length
    · obtain ⟨g1, o1, F1, rfl, hg1, ⟨B1, d1, hc1, _, hr1⟩, _, _⟩ := HX.out.at_ k hlt
      rw [Nat.mul_one] at hc1
      have hc2 : wr.cell? ⟨g1, o1 + k, none⟩ = some (.slice B1 fs[k].length d1) := (HB.out.cell (p := ⟨g1, o1 + k, none⟩) hg1).trans hc1
      have R1 := Lib.hid ((hr1.inW.wider (T' := fun b => b < w.heap.size) (fun _ hb => hb.2)).below HB.out)
      have hlt2 : (k : Int) < (fs.length : Int) := by omega
      have hxl := HMX.out _ (List.getElem_mem hlt)
      by_cases h200 : 200 < fs[k].length
      · have hE : Hid (agg fs = []) := Lib.hid (by rw [agg, if_neg (by rw [fit_false_mem hlt h200]; decide)])
        have h201 : (200 : Int) < (fs[k].length : Int) := by omega
        clear hr1 hc1
        generalize fs[k] = x at *
        go_wp2
        go_ret
        rw [hE.out]
        refine newB_nil ((HB.out).alloc hws _) hws (World.heap_new _ _ _ rfl)
      · by_cases h8 : 8 < fs.length
        · have hE : Hid (agg fs = []) := Lib.hid (by rw [agg, if_neg (by rw [fit_false_len h8]; decide)])
          have h81 : (8 : Int) < (fs.length : Int) := by omega
          have h201 : ¬ (200 : Int) < (fs[k].length : Int) := by omega
          clear hr1 hc1
          generalize fs[k] = x at *
          go_wp2
          go_ret
          rw [hE.out]
          refine newB_nil ((HB.out).alloc hws _) hws (World.heap_new _ _ _ rfl)
        have h201 : ¬ (200 : Int) < (fs[k].length : Int) := by omega
        have h81 : ¬ (8 : Int) < (fs.length : Int) := by omega
        have hst := aggL_take fs k hlt
        have hll : l.length ≤ 1656 := by
          have h1 := aggL_len (fs.take k) (fun f hf => by
            obtain ⟨j, hj, rfl⟩ := List.mem_iff_getElem.1 hf
            rw [List.length_take] at hj
            rw [List.getElem_take]
            exact (HF.out j (by omega) (by omega)).1)
          rw [← HL.out, List.length_take] at h1
          omega
        rw [← HL.out] at hst
        have HST := Lib.hid hst
        have HF2 : Hid (∀ j (hj : j < fs.length), j < k + 1 → fs[j].length ≤ 200 ∧ fs.length ≤ 8) := Lib.hid (fun j hj h => by
          rcases Nat.lt_or_ge j k with h1 | h1
          · exact HF.out j hj h1
          · obtain rfl : j = k := by omega
            omega)
        clear hr1 hc1 hst HF
        generalize hfx : fs[k] = x at *
        have HFX := Lib.hid hfx
        clear hfx
        have hdl := dlm_len (x.length : Int)
        go_wp2
        refine wp_region_held_drew (S := (fun w' => w'.cell? ⟨g1, o1 + k, none⟩ = some (.slice B1 x.length d1))) (by kernel_rfl) ?_ (fun hHeld => ?_)
        · first | assumption | (simp [go_sem, *]; done) | assumption
        refine wpAnyH_takeW (i := 0) (d := some 24) (v := ?_) (by simp only [List.getElem?_toArray, List.getElem?_cons_succ, List.getElem?_cons_zero]; rfl) (by rfl) (by kernel_rfl) (by kernel_rfl) (by kernel_rfl) (by intro _ _ _ h; exact h) (by rfl) ?_ (by assumption) ?_
        rotate_left 1
        · (intro w hSw; (try dsimp only at hSw); go_simp; try (with_reducible rfl))
        (try simp only [Act.put, List.setIfInBounds_toArray, List.set_cons_zero, List.set_cons_succ])
        refine wpAnyH_takeW (i := 1) (d := some 25) (v := ?_) (by simp only [List.getElem?_toArray, List.getElem?_cons_succ, List.getElem?_cons_zero]; rfl) (by rfl) (by kernel_rfl) (by kernel_rfl) (by kernel_rfl) (by intro _ _ _ h; exact h) (by rfl) ?_ (by assumption) ?_
        rotate_left 1
        · (intro w hSw; (try dsimp only at hSw); go_simp; try (with_reducible rfl))
        (try simp only [Act.put, List.setIfInBounds_toArray, List.set_cons_zero, List.set_cons_succ])
        refine wpAnyH_takeW (i := 2) (d := some 26) (v := ?_) (by simp only [List.getElem?_toArray, List.getElem?_cons_succ, List.getElem?_cons_zero]; rfl) (by rfl) (by kernel_rfl) (by kernel_rfl) (by kernel_rfl) (by intro _ _ _ h; exact h) (by rfl) ?_ (by assumption) ?_
        rotate_left 1
        · (intro w hSw; (try dsimp only at hSw); go_simp; try (with_reducible rfl))
        (try simp only [Act.put, List.setIfInBounds_toArray, List.set_cons_zero, List.set_cons_succ])
        refine wpAnyH_takeW (i := 3) (d := some 27) (v := ?_) (by simp only [List.getElem?_toArray, List.getElem?_cons_succ, List.getElem?_cons_zero]; rfl) (by rfl) (by kernel_rfl) (by kernel_rfl) (by kernel_rfl) (by intro _ _ _ h; exact h) (by rfl) ?_ (by assumption) ?_
        rotate_left 1
        · (intro w hSw; (try dsimp only at hSw); go_simp; try (with_reducible rfl))
        (try simp only [Act.put, List.setIfInBounds_toArray, List.set_cons_zero, List.set_cons_succ])
        refine wpAnyH_takeW (i := 4) (d := some 28) (v := ?_) (by simp only [List.getElem?_toArray, List.getElem?_cons_succ, List.getElem?_cons_zero]; rfl) (by rfl) (by kernel_rfl) (by kernel_rfl) (by kernel_rfl) (by intro _ _ _ h; exact h) (by rfl) ?_ (by assumption) ?_
        rotate_left 1
        · (intro w hSw; (try dsimp only at hSw); go_simp; try (with_reducible rfl))
        (try simp only [Act.put, List.setIfInBounds_toArray, List.set_cons_zero, List.set_cons_succ])
        refine wpAnyH_takeW (i := 5) (d := some 29) (v := ?_) (by simp only [List.getElem?_toArray, List.getElem?_cons_succ, List.getElem?_cons_zero]; rfl) (by rfl) (by kernel_rfl) (by kernel_rfl) (by kernel_rfl) (by intro _ _ _ h; exact h) (by rfl) ?_ (by assumption) ?_
        rotate_left 1
        · (intro w hSw; (try dsimp only at hSw); go_simp; try (with_reducible rfl))
        (try simp only [Act.put, List.setIfInBounds_toArray, List.set_cons_zero, List.set_cons_succ])
        refine wpAnyH_takeW (i := 8) (d := some 32) (v := ?_) (by simp only [List.getElem?_toArray, List.getElem?_cons_succ, List.getElem?_cons_zero]; rfl) (by rfl) (by kernel_rfl) (by kernel_rfl) (by kernel_rfl) (by intro _ _ _ h; exact h) (by rfl) ?_ (by assumption) ?_
        rotate_left 1
        · (intro w hSw; (try dsimp only at hSw); go_simp; try (with_reducible rfl))
        (try simp only [Act.put, List.setIfInBounds_toArray, List.set_cons_zero, List.set_cons_succ])
        refine wpAnyH_takeW (i := 9) (d := some 33) (v := ?_) (by simp only [List.getElem?_toArray, List.getElem?_cons_succ, List.getElem?_cons_zero]; rfl) (by rfl) (by kernel_rfl) (by kernel_rfl) (by kernel_rfl) (by intro _ _ _ h; exact h) (by rfl) ?_ (by assumption) ?_
        rotate_left 1
        · (intro w hSw; (try dsimp only at hSw); go_simp; try (with_reducible rfl))
        (try simp only [Act.put, List.setIfInBounds_toArray, List.set_cons_zero, List.set_cons_succ])
        refine wpAnyH_takeW (i := 10) (d := some 34) (v := ?_) (by simp only [List.getElem?_toArray, List.getElem?_cons_succ, List.getElem?_cons_zero]; rfl) (by rfl) (by kernel_rfl) (by kernel_rfl) (by kernel_rfl) (by intro _ _ _ h; exact h) (by rfl) ?_ (by assumption) ?_
        rotate_left 1
        · (intro w hSw; (try dsimp only at hSw); go_simp; try (with_reducible rfl))
        (try simp only [Act.put, List.setIfInBounds_toArray, List.set_cons_zero, List.set_cons_succ])
        refine wpAnyH_takeW (i := 11) (d := some 35) (v := ?_) (by simp only [List.getElem?_toArray, List.getElem?_cons_succ, List.getElem?_cons_zero]; rfl) (by rfl) (by kernel_rfl) (by kernel_rfl) (by kernel_rfl) (by intro _ _ _ h; exact h) (by rfl) ?_ (by assumption) ?_
        rotate_left 1
        · (intro w hSw; (try dsimp only at hSw); go_simp; try (with_reducible rfl))
        (try simp only [Act.put, List.setIfInBounds_toArray, List.set_cons_zero, List.set_cons_succ])
        refine wpAnyH_ready (rs := [6]) (by kernel_rfl) (by simp) ?_
        refine AllReadyH.cons (i := 6) (by simp only [List.getElem?_toArray, List.getElem?_cons_succ, List.getElem?_cons_zero]; rfl) (fun K hK => ?_) AllReadyH.nil
        go_simp
        (go_at_call 33; refine (specDlm_any _ _).mono ?_)
        intro e w2 hnew
        obtain ⟨g2, c2, rfl, hb2_, ho2⟩ := hnew.owr
        have hb2 : Below wr.heap.size wr w2 := Below.trans (Below.drew (Below.refl _ _)) hb2_
        have hs2 := hb2.size
        have HO2 := Lib.hid ho2
        have HO1 := Lib.hid (HO.out.below hb2)
        have HB2 := Lib.hid (HB.out.trans (hb2.mono hws))
        have R2 := Lib.hid (R1.out.below hb2)
        have hc3 : w2.cell? ⟨g1, o1 + k, none⟩ = some (.slice B1 x.length d1) := (HB2.out.cell (p := ⟨g1, o1 + k, none⟩) hg1).trans ((HB.out.cell (p := ⟨g1, o1 + k, none⟩) hg1).symm.trans hc2)
        have hge := HO1.out.ge
        have hgl := HO1.out.lt
        have hg2l := HO2.out.lt
        have hg2e : wr.heap.size ≤ g2 := HO2.out.ge
        have hgr := HO.out.lt
        have hhne : ¬ g2 = g := by omega
        clear hb2 hb2_ ho2 hnew
        go_wp2_with fail
        refine hK.out _ _ ?_ (fun hHeld => ?_)
        · ((try dsimp only); first | assumption | (simp [go_sem, *]; done) | assumption)
        clear hK K
        (try simp only [Act.put, List.setIfInBounds_toArray, List.set_cons_zero, List.set_cons_succ])
        refine wpAnyH_ready (rs := [7]) (by kernel_rfl) (by simp) ?_
        refine AllReadyH.cons (i := 7) (by simp only [List.getElem?_toArray, List.getElem?_cons_succ, List.getElem?_cons_zero]; rfl) (fun K hK => ?_) AllReadyH.nil
        (refine step_appR rfl (.tmp 24) (.tmp 30) 22 rfl 5 i0 (.int .u8 0) 1 Try.underlying22 hi hz0 hz1 hz2 rfl w.heap.size _ _ _ rfl HO1.out _ _ _ (fun _ _ => rfl) rfl HO2.out.rwF (by first | omega | (simp; omega)) (by decide) (by first | omega | (simp; omega)) ?_)
        intro g3 c3 w3 q1 HQ1 HO3 HG3 HC3
        have hln3 : q1.length ≤ 1660 := by rw [HQ1.out]; simp; omega
        have HB3 := Lib.hid (below_chg1 HB2.out HC3.out (by omega) hge)
        have R3 := Lib.hid (R2.out.frame HC3.out (fun b hb e => by omega))
        have hs3 := HC3.out.size
        have hc4 : w3.cell? ⟨g1, o1 + k, none⟩ = some (.slice B1 x.length d1) := (HC3.out.cell (p := ⟨g1, o1 + k, none⟩) (by simp; omega) (by simp; omega)).trans hc3
        have hge3 := HO3.out.ge
        clear HG3 HC3 HO2 HO1 R2 hc3 hc2
        go_wp2_with fail
        refine hK.out _ _ ?_ (fun hHeld => ?_)
        · ((try dsimp only); first | assumption | (simp [go_sem, *]; done) | assumption)
        clear hK K
        (try simp only [Act.put, List.setIfInBounds_toArray, List.set_cons_zero, List.set_cons_succ])
        refine wpAnyH_ready (rs := [12]) (by kernel_rfl) (by simp) ?_
        refine AllReadyH.cons (i := 12) (by simp only [List.getElem?_toArray, List.getElem?_cons_succ, List.getElem?_cons_zero]; rfl) (fun K hK => ?_) AllReadyH.nil
        (refine step_appR rfl (.tmp 31) (.tmp 35) 22 rfl 5 i0 (.int .u8 0) 1 Try.underlying22 hi hz0 hz1 hz2 rfl w.heap.size _ _ _ rfl HO3.out _ _ _ (fun _ _ => rfl) rfl R3.out.rwF (by first | omega | (simp; omega)) (by decide) (by first | omega | (simp; omega)) ?_)
        intro g4 c4 w4 q0 HQ0 HO4 HG4 HC4
        have HB4 := Lib.hid (below_chg1 HB3.out HC4.out (by omega) hge3)
        have hlo : q0.length ≤ 1860 := by rw [HQ0.out]; simp; omega
        have hO : aggO l x = q0 := by rw [HQ0.out, HQ1.out]; rfl
        have HSO : Hid (aggS l x = q0 ++ List.replicate (pad4 q0.length) 0) := Lib.hid (by rw [← hO]; rfl)
        have hs4 := HC4.out.size
        have hc5 : w4.cell? ⟨g1, o1 + k, none⟩ = some (.slice B1 x.length d1) := (HC4.out.cell (p := ⟨g1, o1 + k, none⟩) (by simp; omega) (by simp; omega)).trans hc4
        clear HG4 HC4 HO3 R3 hdl HO HB HB2 HB3 R1 HQ0 hO HQ1 hc4
        go_wp2_with fail
        refine hK.out _ _ ?_ (fun hHeld => ?_)
        · ((try dsimp only); first | assumption | (simp [go_sem, *]; done) | assumption)
        clear hK K
        (try simp only [Act.put, List.setIfInBounds_toArray, List.set_cons_zero, List.set_cons_succ])
        refine wpAnyH_takeW (i := 13) (d := some 3) (v := ?_) (by simp only [List.getElem?_toArray, List.getElem?_cons_succ, List.getElem?_cons_zero]; rfl) (by rfl) (by kernel_rfl) (by kernel_rfl) (by kernel_rfl) (by intro _ _ _ h; exact h) (by rfl) ?_ (by assumption) ?_
        rotate_left 1
        · (intro w hSw; (try dsimp only at hSw); go_simp; try (with_reducible rfl))
        (try simp only [Act.put, List.setIfInBounds_toArray, List.set_cons_zero, List.set_cons_succ])
        refine wpAnyH_done (by kernel_rfl) ?_ _
        go_wp2
        go_loopw [3] (fun v wi => ∃ (m g c : Nat) (q : List Int), m ≤ pad4 q0.length ∧ v = .slice (some ⟨g, 0, none⟩) q.length c ∧ Hid (q = q0 ++ List.replicate m 0) ∧ Hid (Below w.heap.size w wi) ∧ Hid (OwR (Value.int .u8) 5 wi w.heap.size g c q)) (fun v _ => q0.length + 4 - lenOf v)
        case atStart => exact ⟨0, g4, c4, q0, Nat.zero_le _, rfl, Lib.hid (by simp), HB4, HO4⟩
        case round =>
          obtain ⟨m, g5, c5, q, hm5, rfl, HQ, HB5, HO5⟩ := hrel
          have hql : q.length = q0.length + m := by rw [HQ.out]; simp
          have hp3 := (pad4_lt q0.length).1
          have hql2 : q.length ≤ 1900 := by omega
          have hge5 := HO5.out.ge
          have hs5 := HB5.out.size
          have hgl5 := HO5.out.lt
          by_cases hq : q.length % 4 = 0
          · have hmE : m = pad4 q0.length := pad4_at hm5 (by omega)
            have HR : Hid (q = aggS l x) := Lib.hid (by rw [HQ.out, HSO.out, hmE])
            have hq2 : (q.length : Int) % 4 = 0 := by omega
            have HQL := Lib.hid hql
            clear hql hq hmE
            go_wp2
            go_roundw
            case rel => exact ⟨k + 1, g5, c5, q, by omega, by go_num, rfl, HB5, HO5, Lib.hid (by rw [HR.out, HST.out]), HF2⟩
            case measure => simp [intOf]; omega
          · have hmE : m + 1 ≤ pad4 q0.length := pad4_more hm5 (by omega)
            have hq2 : ¬ (q.length : Int) % 4 = 0 := by omega
            have hq3 : ((q.length : Int) % 4 != 0) = true := by simp [hq2]
            have HQL := Lib.hid hql
            clear hql hq
            go_wp2_with (at_builtin; refine wpList_appR rfl (.tmp 41) (.tmp 42) 22 rfl 5 i0 (.int .u8 0) 1 Try.underlying22 hi hz0 hz1 hz2 rfl w.heap.size _ _ _ rfl (HO5.out.below ((Below.refl _ _).alloc (Nat.le_refl _) _)) _ [0] _ (fun _ _ => rfl) rfl (rw_lit (u := true) (K := .u8) [0] (World.heap_new _ _ _ rfl)).rwF (by first | omega | (simp; omega)) (by decide) (by first | omega | (simp; omega)) ?_; skip)
            intro g6 c6 w6 q6 HQ6 HO6 HG6 HC6
            have HB6 := Lib.hid (below_chg1 (HB5.out.alloc (by omega) _) HC6.out (by simp; omega) hge5)
            have hq6 : q6.length = q.length + 1 := by rw [HQ6.out]; simp
            have HQ6L := Lib.hid hq6
            clear HG6 HC6 hq6
            go_wp2
            go_roundw
            case rel => exact ⟨m + 1, g6, c6, q6, hmE, rfl, Lib.hid (by rw [HQ6.out, HQ.out, List.append_assoc, List.replicate_succ']), HB6, HO6⟩
            case measure => simp [lenOf]; have := HQL.out; have := HQ6L.out; omega
    · obtain rfl : k = fs.length := by omega
      have hE : Hid (agg fs = l) := Lib.hid (by
        by_cases h0 : fs = []
        · subst h0; rw [HL.out]; rfl
        · have hpos : 0 < fs.length := List.length_pos_iff.2 h0
          rw [agg, if_pos (fit_true (HF.out 0 hpos hpos).2 (fun j hj => (HF.out j hj hj).1)), HL.out, List.take_length])
      go_wp2
      go_ret
      rw [hE.out]
      exact HO.out.newB HB.out

end Go.Proofs.Ytgplllomchbkdaa
