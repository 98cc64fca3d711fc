/- The laws' own functions on kept traffic and power buffers: to, sz. -/
import Derived.Test.YtbfbjkcmehalhaaKT
import Derived.Test.YtbfbjkcmehalhaaSSt
namespace Go.Proofs.Ytbfbjkcmehalhaa
open Go.RowKit
set_option linter.unusedVariables false
set_option linter.unusedSimpArgs false

def NewKT1 (w : World) (s : Int) (a : Bool) (x : List (List Int)) (l : Int) (e : Ending) (w' : World) : Prop := ∃ b, e = .returned (.agg #[.int .i64 s, .bool a, .slice (some ⟨b, 0, none⟩) x.length x.length, .int .i64 l]) ∧ Below w.heap.size w w' ∧ w.heap.size ≤ b ∧ b < w'.heap.size ∧ Sl true 1 (EB true) w' (fun g => w.heap.size ≤ g ∧ g < w'.heap.size) (some ⟨b, 0, none⟩) x
set_option maxHeartbeats 1000000 in
theorem toKT_any {T : Nat → Prop} (s : Int) (a : Bool) (l : Int) (A : Option Addr) (c : Nat) (x : List (List Int)) (w : World) (hx : Sl false 1 (EB false) w T A x) (hm : x.length ≤ 1000000000000) (hlx : ∀ f ∈ x, f.length ≤ 1000000000000) :
    Calls Try.prog 50 #[.agg #[.int .i64 s, .bool a, .slice A x.length c, .int .i64 l]] w fun e w' => NewKT1 w s a x l e w' := by
  have HX := Lib.hid hx
  have HLX := Lib.hid hlx
  clear hx hlx
  go_enter Try.func50, Try.ntmps50
  go_wp2_with fail
  refine (toByteSS_any A c x _ (Sl.below (R := EB false) EB.framed HX.out (by repeat (first | (with_reducible exact Below.refl _ _) | (with_reducible refine Below.ext ?_ (by go_size) _ _) | (with_reducible refine Below.alloc ?_ (by go_size) _) | (with_reducible refine Below.setCell ?_ (by go_size) _) | (with_reducible refine Below.drew ?_) | (with_reducible refine Below.drewN_ ?_ _)))) hm HLX.out).mono ?_
  rintro e w1 ⟨rfl, hb, hlt, r1⟩
  have HR := Lib.hid r1
  obtain ⟨X, d, rfl⟩ := Below.ext_ hb
  simp only [World.size_ext, World.size_alloc] at hlt
  clear hb r1
  go_wp2
  refine bodyPost_ret (v := .agg #[.int .i64 s, .bool a, .slice (some ⟨w.heap.size + 1 + 1 + 1, 0, none⟩) x.length x.length, .int .i64 l]) (by simp [results, Try.results50, go_sem]) rfl ⟨_, rfl, (by repeat (first | (with_reducible exact Below.refl _ _) | (with_reducible refine Below.ext ?_ (by go_size) _ _) | (with_reducible refine Below.alloc ?_ (by go_size) _) | (with_reducible refine Below.setCell ?_ (by go_size) _) | (with_reducible refine Below.drew ?_) | (with_reducible refine Below.drewN_ ?_ _))), by omega, by simp; omega, ?_⟩
  have hr := HR.out
  simp only [World.size_alloc, World.size_ext] at hr ⊢
  refine Sl.wider (Sl.frame (R := EB true) EB.framed hr (S := fun b => b < w.heap.size + 1 + 1 + 1) ?_ (fun b h1 h2 => by omega)) (fun k hk => by omega)
  exact chg_swap (by simp) (by simp) rfl rfl rfl

theorem infoKT : (Try.prog.info? 51).map (fun i => (i.zero, i.size, i.bytes)) = some (some (.agg #[.int .i64 0, .bool false, .slice none 0 0, .int .i64 0]), 4, 48) := by kernel_rfl
def NewKTS (w : World) (xs : List KT) (e : Ending) (w' : World) : Prop := e = .returned (.slice (some ⟨w.heap.size, 0, none⟩) xs.length xs.length) ∧ Below w.heap.size w w' ∧ w.heap.size < w'.heap.size ∧ Sl true 4 (EK true) w' (fun b => w.heap.size ≤ b ∧ b < w'.heap.size) (some ⟨w.heap.size, 0, none⟩) xs
set_option maxHeartbeats 2000000 in
theorem toKTS_any {T : Nat → Prop} (A : Option Addr) (c : Nat) (xs : List KT) (w : World) (hx : Sl false 4 (EK false) w T A xs) (hm : xs.length ≤ 1000000000) (hlx : ∀ x ∈ xs, x.fr.length ≤ 1000000000000 ∧ ∀ f ∈ x.fr, f.length ≤ 1000000000000) :
    Calls Try.prog 35 #[.slice A xs.length c] w fun e w' => NewKTS w xs e w' := by
  obtain ⟨i0, hi, hz0, hz1, hz2⟩ := info_parts infoKT
  have HX := Lib.hid hx
  have HLX := Lib.hid hlx
  clear hx hlx
  have hmk : ∀ W : World, (Instr.makeSlice 27 (.int .i64 (xs.length : Int)) (.int .i64 (xs.length : Int))).run Try.prog W = .ok (.slice (some ⟨W.heap.size, 0, none⟩) xs.length xs.length) (W.alloc (.cells (madeCells #[.int .i64 0, .bool false, .slice none 0 0, .int .i64 0] (xs.length * 4)) 51)) := by
    intro W
    have h1 := run_make (P := Try.prog) W 27 51 i0 (.agg #[.int .i64 0, .bool false, .slice none 0 0, .int .i64 0]) Try.underlying27 hi hz0 .i64 .i64 (xs.length : Int) (xs.length : Int) (by omega) (by omega) (by rw [hz2]; omega) (by omega)
    rw [hz1] at h1
    simpa [Value.cells] using h1
  have HMS : Hid ((madeCells #[.int .i64 0, .bool false, .slice none 0 0, .int .i64 0] (xs.length * 4)).size = xs.length * 4) := Lib.hid (by rw [size_madeCells])
  generalize madeCells #[.int .i64 0, .bool false, .slice none 0 0, .int .i64 0] (xs.length * 4) = cur0 at *
  go_enter Try.func35, Try.ntmps35
  go_wp2
  go_loopw [4] (fun p wr => ∃ (i : Nat) (cur : Array Value), i ≤ xs.length ∧ p = .int .i64 (i : Int) ∧ Hid (Below w.heap.size w wr) ∧ Hid (wr.heap[w.heap.size]? = some (.cells cur 51 (0, 0)) ∧ cur.size = xs.length * 4) ∧ Hid (Sl true 4 (EK true) wr (fun b => w.heap.size ≤ b ∧ b < wr.heap.size) (some ⟨w.heap.size, 0, none⟩) (xs.take i)))
    (fun p _ => xs.length - (intOf p).toNat)
  case atStart => exact ⟨0, cur0, Nat.zero_le _, rfl, Lib.hid ((Below.refl _ _).alloc (Nat.le_refl _) _), Lib.hid ⟨World.heap_new _ _ _ rfl, HMS.out⟩, Lib.hid (by rw [List.take_zero]; exact Sl.nil)⟩
  case round =>
    obtain ⟨i, cur, hi, rfl, HB, HC, HS⟩ := hrel
    have hgs : w.heap.size < wr.heap.size := by
      rcases Nat.lt_or_ge w.heap.size wr.heap.size with h | h
      · exact h
      · have := HC.out.1; rw [Array.getElem?_eq_none h] at this; cases this
    by_cases hlt : i < xs.length
    · obtain ⟨g, o, F, rfl, hg, ⟨hc0, hc1, hc3, _, ⟨B1, d1, hc2, _, hr1⟩⟩, _, _⟩ := HX.out.at_ i hlt
      replace hc0 := (HB.out.cell (p := ⟨g, o + i * 4, none⟩) hg).trans hc0
      replace hc1 := (HB.out.cell (p := ⟨g, o + i * 4 + 1, none⟩) hg).trans hc1
      replace hc2 := (HB.out.cell (p := ⟨g, o + i * 4 + 2, none⟩) hg).trans hc2
      replace hc3 := (HB.out.cell (p := ⟨g, o + i * 4 + 3, none⟩) hg).trans hc3
      have R1 := Lib.hid (Sl.below (R := EB false) EB.framed hr1 HB.out)
      have HXL := Lib.hid (HLX.out _ (List.getElem_mem hlt))
      have htk : xs.take (i + 1) = xs.take i ++ [xs[i]] := by rw [List.take_add_one, List.getElem?_eq_getElem hlt]; rfl
      have HTK := Lib.hid htk
      have hlt2 : (i : Int) < (xs.length : Int) := by omega
      obtain ⟨u0, hu0⟩ : ∃ u, cur[i * 4]? = some u := ⟨_, Array.getElem?_eq_getElem (by rw [HC.out.2]; omega)⟩
      have hcell0 : wr.cell? ⟨w.heap.size, i * 4, none⟩ = some u0 := by simp [World.cell?, HC.out.1, hu0]
      have hfr0 : wr.frozen? ⟨w.heap.size, i * 4, none⟩ = false := by simp [World.frozen?, HC.out.1]
      clear hu0
      obtain ⟨u1, hu1⟩ : ∃ u, cur[i * 4 + 1]? = some u := ⟨_, Array.getElem?_eq_getElem (by rw [HC.out.2]; omega)⟩
      have hcell1 : wr.cell? ⟨w.heap.size, i * 4 + 1, none⟩ = some u1 := by simp [World.cell?, HC.out.1, hu1]
      have hfr1 : wr.frozen? ⟨w.heap.size, i * 4 + 1, none⟩ = false := by simp [World.frozen?, HC.out.1]
      clear hu1
      obtain ⟨u2, hu2⟩ : ∃ u, cur[i * 4 + 2]? = some u := ⟨_, Array.getElem?_eq_getElem (by rw [HC.out.2]; omega)⟩
      have hcell2 : wr.cell? ⟨w.heap.size, i * 4 + 2, none⟩ = some u2 := by simp [World.cell?, HC.out.1, hu2]
      have hfr2 : wr.frozen? ⟨w.heap.size, i * 4 + 2, none⟩ = false := by simp [World.frozen?, HC.out.1]
      clear hu2
      obtain ⟨u3, hu3⟩ : ∃ u, cur[i * 4 + 3]? = some u := ⟨_, Array.getElem?_eq_getElem (by rw [HC.out.2]; omega)⟩
      have hcell3 : wr.cell? ⟨w.heap.size, i * 4 + 3, none⟩ = some u3 := by simp [World.cell?, HC.out.1, hu3]
      have hfr3 : wr.frozen? ⟨w.heap.size, i * 4 + 3, none⟩ = false := by simp [World.frozen?, HC.out.1]
      clear hu3
      clear hr1 htk
      generalize hxe : xs[i] = x at *
      obtain ⟨s, a, f, l⟩ := x
      simp only at hc0 hc1 hc2 hc3 HXL R1
      have HXE := Lib.hid hxe
      clear hxe
      have hfl := HXL.out.1
      go_wp2_with fail
      refine (toKT_any s a l B1 d1 f _ R1.out hfl HXL.out.2).mono ?_
      rintro e w2 ⟨b, rfl, hb2, hbb, hbs, hr2⟩
      have HR2 := Lib.hid hr2
      obtain ⟨X, d, rfl⟩ := Below.ext_ hb2
      clear hr2 hb2
      simp only [World.size_ext] at hbs
      go_wp2
      go_roundw
      case rel =>
        have hg1 : w.heap.size < (wr.setCell ⟨w.heap.size, i * 4, none⟩ (.int .i64 s)).heap.size := by simpa [World.setCell] using hgs
        have hg2 : w.heap.size < ((wr.setCell ⟨w.heap.size, i * 4, none⟩ (.int .i64 s)).setCell ⟨w.heap.size, i * 4 + 1, none⟩ (.bool a)).heap.size := by simpa [World.setCell] using hgs
        have hg3 : w.heap.size < (((wr.setCell ⟨w.heap.size, i * 4, none⟩ (.int .i64 s)).setCell ⟨w.heap.size, i * 4 + 1, none⟩ (.bool a)).setCell ⟨w.heap.size, i * 4 + 2, none⟩ (.slice (some ⟨b, 0, none⟩) f.length f.length)).heap.size := by simpa [World.setCell] using hgs
        rw [← World.setCell_ext _ _ _ _ _ _ hg3, ← World.setCell_ext _ _ _ _ _ _ hg2, ← World.setCell_ext _ _ _ _ _ _ hg1, ← World.setCell_ext _ _ _ _ _ _ hgs]
        have hblk0 : (World.ext wr X d).heap[w.heap.size]? = some (.cells cur 51 (0, 0)) := by rw [World.heap_ext _ _ _ _ hgs]; exact HC.out.1
        have hblk := (set_block (a := i * 4 + 3) (v := .int .i64 l) (set_block (a := i * 4 + 2) (v := .slice (some ⟨b, 0, none⟩) f.length f.length) (set_block (a := i * 4 + 1) (v := .bool a) (set_block (a := i * 4) (v := .int .i64 s) hblk0))))
        have hchg : Chg (fun k => k = w.heap.size) (World.ext wr X d) (((((World.ext wr X d).setCell ⟨w.heap.size, i * 4, none⟩ (.int .i64 s)).setCell ⟨w.heap.size, i * 4 + 1, none⟩ (.bool a)).setCell ⟨w.heap.size, i * 4 + 2, none⟩ (.slice (some ⟨b, 0, none⟩) f.length f.length)).setCell ⟨w.heap.size, i * 4 + 3, none⟩ (.int .i64 l)) := (Chg.setCell_ (S := fun k => k = w.heap.size) (Chg.setCell_ (S := fun k => k = w.heap.size) (Chg.setCell_ (S := fun k => k = w.heap.size) (Chg.setCell_ (S := fun k => k = w.heap.size) (Chg.refl _ _) (p := ⟨w.heap.size, i * 4, none⟩) rfl _) (p := ⟨w.heap.size, i * 4 + 1, none⟩) rfl _) (p := ⟨w.heap.size, i * 4 + 2, none⟩) rfl _) (p := ⟨w.heap.size, i * 4 + 3, none⟩) rfl _)
        have hsz : (((((World.ext wr X d).setCell ⟨w.heap.size, i * 4, none⟩ (.int .i64 s)).setCell ⟨w.heap.size, i * 4 + 1, none⟩ (.bool a)).setCell ⟨w.heap.size, i * 4 + 2, none⟩ (.slice (some ⟨b, 0, none⟩) f.length f.length)).setCell ⟨w.heap.size, i * 4 + 3, none⟩ (.int .i64 l)).heap.size = wr.heap.size + X.length := by simp [World.setCell]
        have hb0 : Below wr.heap.size wr (World.ext wr X d) := Below.ext (Below.refl _ _) (Nat.le_refl _) X d
        have hcs := HC.out.2
        refine ⟨i + 1, _, by omega, by go_num, Lib.hid ((HB.out.trans (hb0.mono (by omega))).trans (hchg.below (by simp; omega) (fun k hk => by omega))), Lib.hid ⟨hblk, by simpa using HC.out.2⟩, Lib.hid ?_⟩
        have hlen : (xs.take i).length = i := by rw [List.length_take]; omega
        rw [HTK.out]
        refine (Sl.snoc (Fn := fun k => wr.heap.size ≤ k ∧ k < wr.heap.size + X.length) (R := EK true) EK.local_ HS.out hgs ⟨Nat.le_refl _, hgs⟩ (fun k hk => hk.2) (fun k hk => by omega) ((Chg.of_below hb0).trans hchg) (fun j hj => ?_) ?_).wider ?_
        · rw [hlen, Nat.zero_add] at hj
          have e1 := block_cell hblk j
          have e2 := block_cell HC.out.1 j
          rw [e1.1, e1.2, e2.1, e2.2]
          refine ⟨?_, rfl⟩
          rw [Array.getElem?_setIfInBounds_ne (by omega), Array.getElem?_setIfInBounds_ne (by omega), Array.getElem?_setIfInBounds_ne (by omega), Array.getElem?_setIfInBounds_ne (by omega)]
        · rw [hlen, Nat.zero_add]
          have e0 := block_cell hblk (i * 4)
          have e1 := block_cell hblk (i * 4 + 1)
          have e2 := block_cell hblk (i * 4 + 2)
          have e3 := block_cell hblk (i * 4 + 3)
          have hr3 : Sl true 1 (EB true) (World.ext wr X d) (fun k => wr.heap.size ≤ k ∧ k < wr.heap.size + X.length) (some ⟨b, 0, none⟩) f := HR2.out.wider (fun k hk => ⟨hk.1, by simpa using hk.2⟩)
          refine ⟨?_, ?_, ?_, fun _ => ⟨e0.2, e1.2, e3.2⟩, some ⟨b, 0, none⟩, f.length, ?_, fun _ => ⟨e2.2, Nat.le_refl _⟩, Sl.frame (R := EB true) EB.framed hr3 hchg (fun k h1 h2 => by omega)⟩
          · rw [e0.1, Array.getElem?_setIfInBounds_ne (by omega), Array.getElem?_setIfInBounds_ne (by omega), Array.getElem?_setIfInBounds_ne (by omega), Array.getElem?_setIfInBounds_self_of_lt (by omega)]
          · rw [e1.1, Array.getElem?_setIfInBounds_ne (by omega), Array.getElem?_setIfInBounds_ne (by omega), Array.getElem?_setIfInBounds_self_of_lt (by simp; omega)]
          · rw [e3.1, Array.getElem?_setIfInBounds_self_of_lt (by simp; omega)]
          · rw [e2.1, Array.getElem?_setIfInBounds_ne (by omega), Array.getElem?_setIfInBounds_self_of_lt (by simp; omega)]
        · intro k hk
          rw [hsz]
          rcases hk with hk | hk <;> omega
      case measure => simp [intOf]; omega
    · obtain rfl : i = xs.length := by omega
      have HS2 : Hid (Sl true 4 (EK true) wr (fun b => w.heap.size ≤ b ∧ b < wr.heap.size) (some ⟨w.heap.size, 0, none⟩) xs) := Lib.hid (by have := HS.out; rwa [List.take_length] at this)
      go_wp2
      go_ret
      exact ⟨rfl, HB.out, hgs, HS2.out⟩

def NewPB (w : World) (xs : List KT) (e : Ending) (w' : World) : Prop := ∃ b, e = .returned (.agg #[.slice (some ⟨b, 0, none⟩) xs.length xs.length]) ∧ Below w.heap.size w w' ∧ w.heap.size ≤ b ∧ b < w'.heap.size ∧ Sl true 4 (EK true) w' (fun k => w.heap.size ≤ k ∧ k < w'.heap.size) (some ⟨b, 0, none⟩) xs
set_option maxHeartbeats 1000000 in
theorem toPB_any {T : Nat → Prop} (A : Option Addr) (c : Nat) (xs : List KT) (w : World) (hx : Sl false 4 (EK false) w T A xs) (hm : xs.length ≤ 1000000000) (hlx : ∀ x ∈ xs, x.fr.length ≤ 1000000000000 ∧ ∀ f ∈ x.fr, f.length ≤ 1000000000000) :
    Calls Try.prog 12 #[.agg #[.slice A xs.length c]] w fun e w' => NewPB w xs e w' := by
  have HX := Lib.hid hx
  have HLX := Lib.hid hlx
  clear hx hlx
  go_enter Try.func12, Try.ntmps12
  go_wp2_with fail
  refine (toKTS_any A c xs _ (Sl.below (R := EK false) EK.framed HX.out (by repeat (first | (with_reducible exact Below.refl _ _) | (with_reducible refine Below.ext ?_ (by go_size) _ _) | (with_reducible refine Below.alloc ?_ (by go_size) _) | (with_reducible refine Below.setCell ?_ (by go_size) _) | (with_reducible refine Below.drew ?_) | (with_reducible refine Below.drewN_ ?_ _)))) hm HLX.out).mono ?_
  rintro e w1 ⟨rfl, hb, hlt, r1⟩
  have HR := Lib.hid r1
  obtain ⟨X, d, rfl⟩ := Below.ext_ hb
  simp only [World.size_ext, World.size_alloc] at hlt
  clear hb r1
  go_wp2
  refine bodyPost_ret (v := .agg #[.slice (some ⟨w.heap.size + 1 + 1 + 1, 0, none⟩) xs.length xs.length]) (by simp [results, Try.results12, go_sem]) rfl ⟨_, rfl, (by repeat (first | (with_reducible exact Below.refl _ _) | (with_reducible refine Below.ext ?_ (by go_size) _ _) | (with_reducible refine Below.alloc ?_ (by go_size) _) | (with_reducible refine Below.setCell ?_ (by go_size) _) | (with_reducible refine Below.drew ?_) | (with_reducible refine Below.drewN_ ?_ _))), by omega, by simp; omega, ?_⟩
  have hr := HR.out
  simp only [World.size_alloc, World.size_ext] at hr ⊢
  refine Sl.wider (Sl.frame (R := EK true) EK.framed hr (S := fun b => b < w.heap.size + 1 + 1 + 1) ?_ (fun b h1 h2 => by omega)) (fun k hk => by omega)
  exact chg_swap (by simp) (by simp) rfl rfl rfl


set_option maxHeartbeats 1000000 in
theorem szKT_any {T : Nat → Prop} (s : Int) (a : Bool) (l : Int) (A : Option Addr) (c : Nat) (x : List (List Int)) (left : Int) (w : World) (hx : Sl false 1 (EB false) w T A x) (hl : x.length ≤ 9223372036854775807) (hlx : ∀ f ∈ x, f.length ≤ 9223372036854775807) (h0 : 0 ≤ left) (h1 : left ≤ 1000000000000) :
    Calls Try.prog 49 #[.agg #[.int .i64 s, .bool a, .slice A x.length c, .int .i64 l], .int .i64 left] w fun e w' => e = .returned (.int .i64 (szO (szSS x) left)) ∧ Below w.heap.size w w' := by
  have HX := Lib.hid hx
  have HLX := Lib.hid hlx
  clear hx hlx
  by_cases h : (szSS x : Int) ≤ left
  · have hE : Hid (szO (szSS x) left = left - (szSS x : Int)) := Lib.hid (if_pos h)
    have h2 : ¬ left - (szSS x : Int) < 0 := by omega
    go_enter Try.func49, Try.ntmps49
    go_wp2_with fail
    refine (szByteSS_any A c x left _ (Sl.below (R := EB false) EB.framed HX.out (by repeat (first | (with_reducible exact Below.refl _ _) | (with_reducible refine Below.ext ?_ (by go_size) _ _) | (with_reducible refine Below.alloc ?_ (by go_size) _) | (with_reducible refine Below.setCell ?_ (by go_size) _) | (with_reducible refine Below.drew ?_) | (with_reducible refine Below.drewN_ ?_ _)))) hl HLX.out h0 h1).mono ?_
    rw [hE.out]
    rintro e w1 ⟨rfl, rfl⟩
    go_wp2
    go_ret
    exact ⟨by rw [hE.out]; rfl, (by repeat (first | (with_reducible exact Below.refl _ _) | (with_reducible refine Below.ext ?_ (by go_size) _ _) | (with_reducible refine Below.alloc ?_ (by go_size) _) | (with_reducible refine Below.setCell ?_ (by go_size) _) | (with_reducible refine Below.drew ?_) | (with_reducible refine Below.drewN_ ?_ _)))⟩
  · have hE : Hid (szO (szSS x) left = -1) := Lib.hid (if_neg h)
    go_enter Try.func49, Try.ntmps49
    go_wp2_with fail
    refine (szByteSS_any A c x left _ (Sl.below (R := EB false) EB.framed HX.out (by repeat (first | (with_reducible exact Below.refl _ _) | (with_reducible refine Below.ext ?_ (by go_size) _ _) | (with_reducible refine Below.alloc ?_ (by go_size) _) | (with_reducible refine Below.setCell ?_ (by go_size) _) | (with_reducible refine Below.drew ?_) | (with_reducible refine Below.drewN_ ?_ _)))) hl HLX.out h0 h1).mono ?_
    rw [hE.out]
    rintro e w1 ⟨rfl, rfl⟩
    go_wp2
    go_ret
    exact ⟨by rw [hE.out]; rfl, (by repeat (first | (with_reducible exact Below.refl _ _) | (with_reducible refine Below.ext ?_ (by go_size) _ _) | (with_reducible refine Below.alloc ?_ (by go_size) _) | (with_reducible refine Below.setCell ?_ (by go_size) _) | (with_reducible refine Below.drew ?_) | (with_reducible refine Below.drewN_ ?_ _)))⟩
set_option maxHeartbeats 1000000 in
theorem szKTS_any {T : Nat → Prop} (A : Option Addr) (c : Nat) (xs : List KT) (left : Int) (w : World) (hx : Sl false 4 (EK false) w T A xs) (hl : xs.length ≤ 9223372036854775807) (hlx : ∀ x ∈ xs, KTok x) (h0 : 0 ≤ left) (h1 : left ≤ 1000000000000) :
    Calls Try.prog 33 #[.slice A xs.length c, .int .i64 left] w fun e w' => e = .returned (.int .i64 (szO (szK xs) left)) ∧ Below w.heap.size w w' := by
  have HX := Lib.hid hx
  have HLX := Lib.hid hlx
  clear hx hlx
  by_cases h : (xs.length : Int) ≤ left
  · have h2 : ¬ left - (xs.length : Int) < 0 := by omega
    go_enter Try.func33, Try.ntmps33
    go_wp2
    go_loopw [1, 5] (fun q p wr => ∃ i : Nat, i ≤ xs.length ∧ p = .int .i64 (i : Int) ∧ q = .int .i64 (left - (xs.length : Int) - (sumK (xs.take i) : Int)) ∧ (sumK (xs.take i) : Int) ≤ left - (xs.length : Int) ∧ Hid (Below w.heap.size w wr)) (fun _ p _ => xs.length - (intOf p).toNat)
    case atStart => exact ⟨0, Nat.zero_le _, rfl, by simp [sumK], by simp [sumK]; omega, Lib.hid (Below.refl _ _)⟩
    case round =>
      obtain ⟨i, hi, rfl, rfl, hle, HB⟩ := hrel
      have hws := HB.out.size
      by_cases hlt : i < xs.length
      · obtain ⟨g, o, F, rfl, hg, ⟨hc0, hc1, hc3, _, ⟨B1, d1, hc2, _, hr1⟩⟩, _, _⟩ := HX.out.at_ i hlt
        replace hc0 := (HB.out.cell (p := ⟨g, o + i * 4, none⟩) hg).trans hc0
        replace hc1 := (HB.out.cell (p := ⟨g, o + i * 4 + 1, none⟩) hg).trans hc1
        replace hc2 := (HB.out.cell (p := ⟨g, o + i * 4 + 2, none⟩) hg).trans hc2
        replace hc3 := (HB.out.cell (p := ⟨g, o + i * 4 + 3, none⟩) hg).trans hc3
        have R1 := Lib.hid (Sl.below (R := EB false) EB.framed hr1 HB.out)
        have hsum := sumK_take xs i hlt
        have hsle := sumK_le xs (i + 1)
        have HXL := Lib.hid (HLX.out _ (List.getElem_mem hlt))
        have hlt2 : (i : Int) < (xs.length : Int) := by omega
        have HSUM := Lib.hid hsum
        clear hr1 hsum
        generalize xs[i] = x at *
        obtain ⟨s, a, f, l⟩ := x
        simp only [KTok] at hc0 hc1 hc2 hc3 HXL HSUM R1
        have hfl := HXL.out.2.2.1
        by_cases hx2 : (szSS f : Int) ≤ left - (xs.length : Int) - (sumK (xs.take i) : Int)
        · have hE : Hid (szO (szSS f) (left - (xs.length : Int) - (sumK (xs.take i) : Int)) = left - (xs.length : Int) - (sumK (xs.take i) : Int) - (szSS f : Int)) := Lib.hid (if_pos hx2)
          go_wp2_with fail
          refine (szKT_any s a l B1 d1 f _ _ R1.out hfl (fun y hy => (HXL.out.2.2.2 y hy).1) (by omega) (by omega)).mono ?_
          rw [hE.out]
          rintro e w2 ⟨rfl, hb2⟩
          have HB2 := Lib.hid (HB.out.trans (hb2.mono hws))
          clear hb2
          go_wp2
          go_roundw
          case rel => exact ⟨i + 1, by omega, by go_num, by rw [HSUM.out]; go_num, by rw [HSUM.out]; omega, HB2⟩
          case measure => simp [intOf]; omega
        · have hE : Hid (szO (szSS f) (left - (xs.length : Int) - (sumK (xs.take i) : Int)) = -1) := Lib.hid (if_neg hx2)
          have hT : Hid (szO (szK xs) left = -1) := Lib.hid (if_neg (by have := HSUM.out; unfold szK; omega))
          go_wp2_with fail
          refine (szKT_any s a l B1 d1 f _ _ R1.out hfl (fun y hy => (HXL.out.2.2.2 y hy).1) (by omega) (by omega)).mono ?_
          rw [hE.out]
          rintro e w2 ⟨rfl, hb2⟩
          have HB2 := Lib.hid (HB.out.trans (hb2.mono hws))
          clear hb2
          go_wp2
          go_ret
          exact ⟨by rw [hT.out]; rfl, HB2.out⟩
      · obtain rfl : i = xs.length := by omega
        rw [List.take_length] at hle ⊢
        have hT : Hid (szO (szK xs) left = left - (xs.length : Int) - (sumK xs : Int)) := Lib.hid (by rw [szO, if_pos (by unfold szK; omega)]; unfold szK; omega)
        go_wp2
        go_ret
        exact ⟨by rw [hT.out]; rfl, HB.out⟩
  · have hT : Hid (szO (szK xs) left = -1) := Lib.hid (if_neg (by unfold szK; omega))
    have h2 : left < (xs.length : Int) := by omega
    clear h
    go_enter Try.func33, Try.ntmps33
    go_wp2
    go_ret
    exact ⟨by rw [hT.out]; rfl, Below.refl _ _⟩
theorem szPB_any {T : Nat → Prop} (A : Option Addr) (c : Nat) (xs : List KT) (left : Int) (w : World) (hx : Sl false 4 (EK false) w T A xs) (hl : xs.length ≤ 9223372036854775807) (hlx : ∀ x ∈ xs, KTok x) (h0 : 0 ≤ left) (h1 : left ≤ 1000000000000) :
    Calls Try.prog 10 #[.agg #[.slice A xs.length c], .int .i64 left] w fun e w' => e = .returned (.int .i64 (szO (szK xs) left)) ∧ Below w.heap.size w w' := by
  have HX := Lib.hid hx
  have HLX := Lib.hid hlx
  clear hx hlx
  by_cases h : (szK xs : Int) ≤ left
  · have hE : Hid (szO (szK xs) left = left - (szK xs : Int)) := Lib.hid (if_pos h)
    have h2 : ¬ left - (szK xs : Int) < 0 := by omega
    go_enter Try.func10, Try.ntmps10
    go_wp2_with fail
    refine (szKTS_any A c xs left _ (Sl.below (R := EK false) EK.framed HX.out (by repeat (first | (with_reducible exact Below.refl _ _) | (with_reducible refine Below.ext ?_ (by go_size) _ _) | (with_reducible refine Below.alloc ?_ (by go_size) _) | (with_reducible refine Below.setCell ?_ (by go_size) _) | (with_reducible refine Below.drew ?_) | (with_reducible refine Below.drewN_ ?_ _)))) hl HLX.out h0 h1).mono ?_
    rw [hE.out]
    rintro e w1 ⟨rfl, hb⟩
    obtain ⟨X, d, rfl⟩ := Below.ext_ hb
    clear hb
    go_wp2
    go_ret
    exact ⟨by rw [hE.out]; rfl, (by repeat (first | (with_reducible exact Below.refl _ _) | (with_reducible refine Below.ext ?_ (by go_size) _ _) | (with_reducible refine Below.alloc ?_ (by go_size) _) | (with_reducible refine Below.setCell ?_ (by go_size) _) | (with_reducible refine Below.drew ?_) | (with_reducible refine Below.drewN_ ?_ _)))⟩
  · have hE : Hid (szO (szK xs) left = -1) := Lib.hid (if_neg h)
    go_enter Try.func10, Try.ntmps10
    go_wp2_with fail
    refine (szKTS_any A c xs left _ (Sl.below (R := EK false) EK.framed HX.out (by repeat (first | (with_reducible exact Below.refl _ _) | (with_reducible refine Below.ext ?_ (by go_size) _ _) | (with_reducible refine Below.alloc ?_ (by go_size) _) | (with_reducible refine Below.setCell ?_ (by go_size) _) | (with_reducible refine Below.drew ?_) | (with_reducible refine Below.drewN_ ?_ _)))) hl HLX.out h0 h1).mono ?_
    rw [hE.out]
    rintro e w1 ⟨rfl, hb⟩
    obtain ⟨X, d, rfl⟩ := Below.ext_ hb
    clear hb
    go_wp2
    go_ret
    exact ⟨by rw [hE.out]; rfl, (by repeat (first | (with_reducible exact Below.refl _ _) | (with_reducible refine Below.ext ?_ (by go_size) _ _) | (with_reducible refine Below.alloc ?_ (by go_size) _) | (with_reducible refine Below.setCell ?_ (by go_size) _) | (with_reducible refine Below.drew ?_) | (with_reducible refine Below.drewN_ ?_ _)))⟩

end Go.Proofs.Ytbfbjkcmehalhaa
