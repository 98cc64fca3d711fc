/- The laws' own functions on numbered frames and reorder buffers: to, sz, eq, mark, held. -/
import Derived.Test.YtnfgdgmmbddmgaaNF
import Derived.Test.YtnfgdgmmbddmgaaSSe
import Derived.Test.YtnfgdgmmbddmgaaSSm
import Derived.Test.YtnfgdgmmbddmgaaToByteS
import Derived.Test.YtnfgdgmmbddmgaaHeld
namespace Go.Proofs.Ytnfgdgmmbddmgaa
open Go.RowKit
set_option linter.unusedVariables false
set_option linter.unusedSimpArgs false

theorem toByteS_o {u : Bool} {T : Nat → Prop} (A : Option Addr) (c : Nat) (xs : List Int) (w : World) (hx : Rw u .u8 w T A xs) (hm : xs.length ≤ 1000000000000) :
    Calls Try.prog 23 #[.slice A xs.length c] w fun e w' => e = .returned (.slice (some ⟨w.heap.size, 0, none⟩) xs.length xs.length) ∧ Below w.heap.size w w' ∧ Rw true .u8 w' (fun g => g = w.heap.size ∧ g < w'.heap.size) (some ⟨w.heap.size, 0, none⟩) xs :=
  (toByteS_any A c xs w hx.rwF hm).mono fun _ _ ⟨X, d, h1, h2, h3⟩ => ⟨h1, by rw [h2]; exact Below.ext (Below.refl _ _) (Nat.le_refl _) X d, h3.rw.inW⟩
def NewNF1 (w : World) (s : Int) (x : List Int) (e : Ending) (w' : World) : Prop := ∃ b, e = .returned (.agg #[.int .i64 s, .slice (some ⟨b, 0, none⟩) x.length x.length]) ∧ Below w.heap.size w w' ∧ w.heap.size ≤ b ∧ Rw true .u8 w' (fun g => g = b ∧ g < w'.heap.size) (some ⟨b, 0, none⟩) x
set_option maxHeartbeats 1000000 in
theorem toNF_any {u : Bool} {T : Nat → Prop} (s : Int) (A : Option Addr) (c : Nat) (x : List Int) (w : World) (hx : Rw u .u8 w T A x) (hm : x.length ≤ 1000000000000) :
    Calls Try.prog 84 #[.agg #[.int .i64 s, .slice A x.length c]] w fun e w' => NewNF1 w s x e w' := by
  have HX := Lib.hid hx
  clear hx
  go_enter Try.func84, Try.ntmps84
  go_wp2_with fail
  refine (toByteS_o A c x _ (HX.out.below (by repeat (first | (with_reducible exact Below.refl _ _) | (with_reducible refine Below.ext ?_ (by go_size) _ _) | (with_reducible refine Below.alloc ?_ (by go_size) _) | (with_reducible refine Below.setCell ?_ (by go_size) _) | (with_reducible refine Below.drew ?_) | (with_reducible refine Below.drewN_ ?_ _)))) hm).mono ?_
  rintro e w1 ⟨rfl, hb, r1⟩
  have HR := Lib.hid r1
  have HS := hb.size
  obtain ⟨X, d, rfl⟩ := Below.ext_ hb
  clear hb r1
  go_wp2
  refine bodyPost_ret (v := .agg #[.int .i64 s, .slice (some ⟨w.heap.size + 1 + 1 + 1, 0, none⟩) x.length x.length]) (by simp [results, Try.results84, go_sem]) rfl ⟨_, rfl, (by repeat (first | (with_reducible exact Below.refl _ _) | (with_reducible refine Below.ext ?_ (by go_size) _ _) | (with_reducible refine Below.alloc ?_ (by go_size) _) | (with_reducible refine Below.setCell ?_ (by go_size) _) | (with_reducible refine Below.drew ?_) | (with_reducible refine Below.drewN_ ?_ _))), by omega, ?_⟩
  have hr := HR.out
  simp only [World.size_alloc, World.size_ext] at hr ⊢
  refine Rw.frame hr (S := fun b => b < w.heap.size + 1 + 1 + 1) ?_ (fun b h1 h2 => by omega)
  exact chg_swap (by simp) (by simp) rfl rfl rfl

theorem infoNF : (Try.prog.info? 75).map (fun i => (i.zero, i.size, i.bytes)) = some (some (.agg #[.int .i64 0, .slice none 0 0]), 2, 32) := by kernel_rfl
def NewNFS (w : World) (xs : List NF) (e : Ending) (w' : World) : Prop := e = .returned (.slice (some ⟨w.heap.size, 0, none⟩) xs.length xs.length) ∧ Below w.heap.size w w' ∧ w.heap.size < w'.heap.size ∧ Sl true 2 (EN true) w' (fun b => w.heap.size ≤ b ∧ b < w'.heap.size) (some ⟨w.heap.size, 0, none⟩) xs
set_option maxHeartbeats 1000000 in
theorem toNFS_any {T : Nat → Prop} (A : Option Addr) (c : Nat) (xs : List NF) (w : World) (hx : Sl false 2 (EN false) w T A xs) (hm : xs.length ≤ 1000000000) (hlx : ∀ x ∈ xs, x.2.length ≤ 1000000000000) :
    Calls Try.prog 57 #[.slice A xs.length c] w fun e w' => NewNFS w xs e w' := by
  obtain ⟨i0, hi, hz0, hz1, hz2⟩ := info_parts infoNF
  have HX := Lib.hid hx
  have HLX := Lib.hid hlx
  clear hx hlx
  have hmk : ∀ W : World, (Instr.makeSlice 26 (.int .i64 (xs.length : Int)) (.int .i64 (xs.length : Int))).run Try.prog W = .ok (.slice (some ⟨W.heap.size, 0, none⟩) xs.length xs.length) (W.alloc (.cells (madeCells #[.int .i64 0, .slice none 0 0] (xs.length * 2)) 75)) := by
    intro W
    have h1 := run_make (P := Try.prog) W 26 75 i0 (.agg #[.int .i64 0, .slice none 0 0]) Try.underlying26 hi hz0 .i64 .i64 (xs.length : Int) (xs.length : Int) (by omega) (by omega) (by rw [hz2]; omega) (by omega)
    rw [hz1] at h1
    simpa [Value.cells] using h1
  have HMS : Hid ((madeCells #[.int .i64 0, .slice none 0 0] (xs.length * 2)).size = xs.length * 2) := Lib.hid (by rw [size_madeCells])
  generalize madeCells #[.int .i64 0, .slice none 0 0] (xs.length * 2) = cur0 at *
  go_enter Try.func57, Try.ntmps57
  go_wp2
  go_loopw [4] (fun p wr => ∃ (i : Nat) (cur : Array Value), i ≤ xs.length ∧ p = .int .i64 (i : Int) ∧ Hid (Below w.heap.size w wr) ∧ Hid (wr.heap[w.heap.size]? = some (.cells cur 75 (0, 0)) ∧ cur.size = xs.length * 2) ∧ Hid (Sl true 2 (EN true) wr (fun b => w.heap.size ≤ b ∧ b < wr.heap.size) (some ⟨w.heap.size, 0, none⟩) (xs.take i)))
    (fun p _ => xs.length - (intOf p).toNat)
  case atStart => exact ⟨0, cur0, Nat.zero_le _, rfl, Lib.hid ((Below.refl _ _).alloc (Nat.le_refl _) _), Lib.hid ⟨World.heap_new _ _ _ rfl, HMS.out⟩, Lib.hid (by rw [List.take_zero]; exact Sl.nil)⟩
  case round =>
    obtain ⟨i, cur, hi, rfl, HB, HC, HS⟩ := hrel
    have hgs : w.heap.size < wr.heap.size := by
      rcases Nat.lt_or_ge w.heap.size wr.heap.size with h | h
      · exact h
      · have := HC.out.1; rw [Array.getElem?_eq_none h] at this; cases this
    by_cases hlt : i < xs.length
    · obtain ⟨g, o, F, rfl, hg, ⟨hc0, _, ⟨B1, d1, hc1, _, hr1⟩⟩, _, _⟩ := HX.out.at_ i hlt
      have hc2 : wr.cell? ⟨g, o + i * 2, none⟩ = some (.int .i64 xs[i].1) := (HB.out.cell (p := ⟨g, o + i * 2, none⟩) hg).trans hc0
      have hc3 : wr.cell? ⟨g, o + i * 2 + 1, none⟩ = some (.slice B1 xs[i].2.length d1) := (HB.out.cell (p := ⟨g, o + i * 2 + 1, none⟩) hg).trans hc1
      have R1 := Lib.hid (hr1.below HB.out)
      have hxl := HLX.out _ (List.getElem_mem hlt)
      have htk : xs.take (i + 1) = xs.take i ++ [xs[i]] := by rw [List.take_add_one, List.getElem?_eq_getElem hlt]; rfl
      have HTK := Lib.hid htk
      have hlt2 : (i : Int) < (xs.length : Int) := by omega
      obtain ⟨u0, hu0⟩ : ∃ u, cur[i * 2]? = some u := ⟨_, Array.getElem?_eq_getElem (by rw [HC.out.2]; omega)⟩
      obtain ⟨u1, hu1⟩ : ∃ u, cur[i * 2 + 1]? = some u := ⟨_, Array.getElem?_eq_getElem (by rw [HC.out.2]; omega)⟩
      have hcell0 : wr.cell? ⟨w.heap.size, i * 2, none⟩ = some u0 := by simp [World.cell?, HC.out.1, hu0]
      have hcell1 : wr.cell? ⟨w.heap.size, i * 2 + 1, none⟩ = some u1 := by simp [World.cell?, HC.out.1, hu1]
      have hfr0 : wr.frozen? ⟨w.heap.size, i * 2, none⟩ = false := by simp [World.frozen?, HC.out.1]
      have hfr1 : wr.frozen? ⟨w.heap.size, i * 2 + 1, none⟩ = false := by simp [World.frozen?, HC.out.1]
      clear hr1 hc0 hc1 htk hu0 hu1
      generalize hxe : xs[i] = x at *
      obtain ⟨s, x⟩ := x
      simp only at hc2 hc3 hxl R1
      have HXE := Lib.hid hxe
      clear hxe
      go_wp2_with fail
      refine (toNF_any s B1 d1 x _ R1.out hxl).mono ?_
      rintro e w2 ⟨b, rfl, hb2, hbb, hr2⟩
      have HR2 := Lib.hid hr2
      obtain ⟨X, d, rfl⟩ := Below.ext_ hb2
      clear hr2 hb2
      go_wp2
      go_roundw
      case rel =>
        have hgs2 : w.heap.size < (wr.setCell ⟨w.heap.size, i * 2, none⟩ (.int .i64 s)).heap.size := by simpa [World.setCell] using hgs
        rw [← World.setCell_ext _ _ _ _ _ _ hgs2, ← World.setCell_ext _ _ _ _ _ _ hgs]
        have hblk0 : (World.ext wr X d).heap[w.heap.size]? = some (.cells cur 75 (0, 0)) := by rw [World.heap_ext _ _ _ _ hgs]; exact HC.out.1
        have hblk := set_block (a := i * 2 + 1) (v := .slice (some ⟨b, 0, none⟩) x.length x.length) (set_block (a := i * 2) (v := .int .i64 s) hblk0)
        have hchg : Chg (fun k => k = w.heap.size) (World.ext wr X d) (((World.ext wr X d).setCell ⟨w.heap.size, i * 2, none⟩ (.int .i64 s)).setCell ⟨w.heap.size, i * 2 + 1, none⟩ (.slice (some ⟨b, 0, none⟩) x.length x.length)) :=
          Chg.setCell_ (S := fun k => k = w.heap.size) (Chg.setCell_ (S := fun k => k = w.heap.size) (Chg.refl _ _) (p := ⟨w.heap.size, i * 2, none⟩) rfl _) (p := ⟨w.heap.size, i * 2 + 1, none⟩) rfl _
        have hsz : (((World.ext wr X d).setCell ⟨w.heap.size, i * 2, none⟩ (.int .i64 s)).setCell ⟨w.heap.size, i * 2 + 1, none⟩ (.slice (some ⟨b, 0, none⟩) x.length x.length)).heap.size = wr.heap.size + X.length := by simp [World.setCell]
        have hb0 : Below wr.heap.size wr (World.ext wr X d) := Below.ext (Below.refl _ _) (Nat.le_refl _) X d
        have hcs := HC.out.2
        refine ⟨i + 1, _, by omega, by go_num, Lib.hid ((HB.out.trans (hb0.mono (by omega))).trans (hchg.below (by simp; omega) (fun k hk => by omega))), Lib.hid ⟨hblk, by simpa using HC.out.2⟩, Lib.hid ?_⟩
        have hlen : (xs.take i).length = i := by rw [List.length_take]; omega
        rw [HTK.out]
        refine (Sl.snoc (Fn := fun k => k = b ∧ k < wr.heap.size + X.length) (R := EN true) EN.local_ HS.out hgs ⟨Nat.le_refl _, hgs⟩ (fun k hk => hk.2) (fun k hk => by omega) ((Chg.of_below hb0).trans hchg) (fun j hj => ?_) ?_).wider ?_
        · rw [hlen, Nat.zero_add] at hj
          have e1 := block_cell hblk j
          have e2 := block_cell HC.out.1 j
          rw [e1.1, e1.2, e2.1, e2.2]
          refine ⟨?_, rfl⟩
          rw [Array.getElem?_setIfInBounds_ne (by omega), Array.getElem?_setIfInBounds_ne (by omega)]
        · rw [hlen, Nat.zero_add]
          have e0 := block_cell hblk (i * 2)
          have e1 := block_cell hblk (i * 2 + 1)
          have hr3 : Rw true .u8 (World.ext wr X d) (fun k => k = b ∧ k < wr.heap.size + X.length) (some ⟨b, 0, none⟩) x := HR2.out.wider (fun k hk => ⟨hk.1, by simpa using hk.2⟩)
          refine ⟨?_, fun _ => e0.2, some ⟨b, 0, none⟩, x.length, ?_, fun _ => e1.2, hr3.frame hchg (fun k h1 h2 => by omega)⟩
          · rw [e0.1, Array.getElem?_setIfInBounds_ne (by omega), Array.getElem?_setIfInBounds_self_of_lt (by omega)]
          · rw [e1.1, Array.getElem?_setIfInBounds_self_of_lt (by simp; omega)]
        · intro k hk
          rw [hsz]
          rcases hk with hk | hk <;> omega
      case measure => simp [intOf]; omega
    · obtain rfl : i = xs.length := by omega
      have HS2 : Hid (Sl true 2 (EN true) wr (fun b => w.heap.size ≤ b ∧ b < wr.heap.size) (some ⟨w.heap.size, 0, none⟩) xs) := Lib.hid (by have := HS.out; rwa [List.take_length] at this)
      go_wp2
      go_ret
      exact ⟨rfl, HB.out, hgs, HS2.out⟩

def NewROB (w : World) (st : Int) (xs : List NF) (e : Ending) (w' : World) : Prop := ∃ b, e = .returned (.agg #[.int .i64 st, .slice (some ⟨b, 0, none⟩) xs.length xs.length]) ∧ Below w.heap.size w w' ∧ w.heap.size ≤ b ∧ b < w'.heap.size ∧ Sl true 2 (EN true) w' (fun k => w.heap.size ≤ k ∧ k < w'.heap.size) (some ⟨b, 0, none⟩) xs
set_option maxHeartbeats 1000000 in
theorem toROB_any {T : Nat → Prop} (st : Int) (A : Option Addr) (c : Nat) (xs : List NF) (w : World) (hx : Sl false 2 (EN false) w T A xs) (hm : xs.length ≤ 1000000000) (hlx : ∀ x ∈ xs, x.2.length ≤ 1000000000000) :
    Calls Try.prog 14 #[.agg #[.int .i64 st, .slice A xs.length c]] w fun e w' => NewROB w st xs e w' := by
  have HX := Lib.hid hx
  have HLX := Lib.hid hlx
  clear hx hlx
  go_enter Try.func14, Try.ntmps14
  go_wp2_with fail
  refine (toNFS_any A c xs _ (Sl.below (R := EN false) EN.framed HX.out (by repeat (first | (with_reducible exact Below.refl _ _) | (with_reducible refine Below.ext ?_ (by go_size) _ _) | (with_reducible refine Below.alloc ?_ (by go_size) _) | (with_reducible refine Below.setCell ?_ (by go_size) _) | (with_reducible refine Below.drew ?_) | (with_reducible refine Below.drewN_ ?_ _)))) hm HLX.out).mono ?_
  rintro e w1 ⟨rfl, hb, hlt, r1⟩
  have HR := Lib.hid r1
  obtain ⟨X, d, rfl⟩ := Below.ext_ hb
  simp only [World.size_ext, World.size_alloc] at hlt
  clear hb r1
  go_wp2
  refine bodyPost_ret (v := .agg #[.int .i64 st, .slice (some ⟨w.heap.size + 1 + 1 + 1, 0, none⟩) xs.length xs.length]) (by simp [results, Try.results14, go_sem]) rfl ⟨_, rfl, (by repeat (first | (with_reducible exact Below.refl _ _) | (with_reducible refine Below.ext ?_ (by go_size) _ _) | (with_reducible refine Below.alloc ?_ (by go_size) _) | (with_reducible refine Below.setCell ?_ (by go_size) _) | (with_reducible refine Below.drew ?_) | (with_reducible refine Below.drewN_ ?_ _))), by omega, by simp; omega, ?_⟩
  have hr := HR.out
  simp only [World.size_alloc, World.size_ext] at hr ⊢
  refine Sl.wider (Sl.frame (R := EN true) EN.framed hr (S := fun b => b < w.heap.size + 1 + 1 + 1) ?_ (fun b h1 h2 => by omega)) (fun k hk => by omega)
  exact chg_swap (by simp) (by simp) rfl rfl rfl

def szO (n : Nat) (left : Int) : Int := if (n : Int) ≤ left then left - (n : Int) else -1
theorem szByteS_any (A : Option Addr) (n c : Nat) (left : Int) (w : World) (hn : n ≤ 9223372036854775807) (h0 : 0 ≤ left) (h1 : left ≤ 1000000000000) :
    Calls Try.prog 90 #[.slice A n c, .int .i64 left] w fun e w' => e = .returned (.int .i64 (szO n left)) ∧ w = w' := by
  by_cases h : (n : Int) ≤ left
  · have hE : Hid (szO n left = left - (n : Int)) := Lib.hid (if_pos h)
    go_enter Try.func90, Try.ntmps90
    go_wp2
    go_ret
    exact ⟨by rw [hE.out]; rfl, rfl⟩
  · have hE : Hid (szO n left = -1) := Lib.hid (if_neg h)
    have h2 : left < (n : Int) := by omega
    go_enter Try.func90, Try.ntmps90
    go_wp2
    go_ret
    exact ⟨by rw [hE.out]; rfl, rfl⟩
theorem szNF_any (s : Int) (A : Option Addr) (n c : Nat) (left : Int) (w : World) (hn : n ≤ 9223372036854775807) (h0 : 0 ≤ left) (h1 : left ≤ 1000000000000) :
    Calls Try.prog 83 #[.agg #[.int .i64 s, .slice A n c], .int .i64 left] w fun e w' => e = .returned (.int .i64 (szO n left)) ∧ Below w.heap.size w w' := by
  by_cases h : (n : Int) ≤ left
  · have hE : Hid (szO n left = left - (n : Int)) := Lib.hid (if_pos h)
    have h2 : ¬ left - (n : Int) < 0 := by omega
    go_enter Try.func83, Try.ntmps83
    go_wp2_with (go_at_call 90; refine (szByteS_any _ _ _ _ _ hn h0 h1).mono ?_; rw [hE.out]; rintro e w' ⟨rfl, rfl⟩)
    go_ret
    exact ⟨by rw [hE.out]; rfl, (by repeat (first | (with_reducible exact Below.refl _ _) | (with_reducible refine Below.ext ?_ (by go_size) _ _) | (with_reducible refine Below.alloc ?_ (by go_size) _) | (with_reducible refine Below.setCell ?_ (by go_size) _) | (with_reducible refine Below.drew ?_) | (with_reducible refine Below.drewN_ ?_ _)))⟩
  · have hE : Hid (szO n left = -1) := Lib.hid (if_neg h)
    go_enter Try.func83, Try.ntmps83
    go_wp2_with (go_at_call 90; refine (szByteS_any _ _ _ _ _ hn h0 h1).mono ?_; rw [hE.out]; rintro e w' ⟨rfl, rfl⟩)
    go_ret
    exact ⟨by rw [hE.out]; rfl, (by repeat (first | (with_reducible exact Below.refl _ _) | (with_reducible refine Below.ext ?_ (by go_size) _ _) | (with_reducible refine Below.alloc ?_ (by go_size) _) | (with_reducible refine Below.setCell ?_ (by go_size) _) | (with_reducible refine Below.drew ?_) | (with_reducible refine Below.drewN_ ?_ _)))⟩
set_option maxHeartbeats 1000000 in
theorem szNFS_any {T : Nat → Prop} (A : Option Addr) (c : Nat) (xs : List NF) (left : Int) (w : World) (hx : Sl false 2 (EN false) w T A xs) (hl : xs.length ≤ 9223372036854775807) (hlx : ∀ x ∈ xs, x.2.length ≤ 9223372036854775807) (h0 : 0 ≤ left) (h1 : left ≤ 1000000000000) :
    Calls Try.prog 52 #[.slice A xs.length c, .int .i64 left] w fun e w' => e = .returned (.int .i64 (szO (szN xs) left)) ∧ Below w.heap.size w w' := by
  have HX := Lib.hid hx
  have HLX := Lib.hid hlx
  clear hx hlx
  by_cases h : (xs.length : Int) ≤ left
  · have h2 : ¬ left - (xs.length : Int) < 0 := by omega
    go_enter Try.func52, Try.ntmps52
    go_wp2
    go_loopw [1, 5] (fun q p wr => ∃ i : Nat, i ≤ xs.length ∧ p = .int .i64 (i : Int) ∧ q = .int .i64 (left - (xs.length : Int) - (sumN (xs.take i) : Int)) ∧ (sumN (xs.take i) : Int) ≤ left - (xs.length : Int) ∧ Hid (Below w.heap.size w wr)) (fun _ p _ => xs.length - (intOf p).toNat)
    case atStart => exact ⟨0, Nat.zero_le _, rfl, by simp [sumN], by simp [sumN]; omega, Lib.hid (Below.refl _ _)⟩
    case round =>
      obtain ⟨i, hi, rfl, rfl, hle, HB⟩ := hrel
      have hws := HB.out.size
      by_cases hlt : i < xs.length
      · obtain ⟨g, o, F, rfl, hg, ⟨hc0, _, ⟨B1, d1, hc1, _, hr1⟩⟩, _, _⟩ := HX.out.at_ i hlt
        have hc2 : wr.cell? ⟨g, o + i * 2, none⟩ = some (.int .i64 xs[i].1) := (HB.out.cell (p := ⟨g, o + i * 2, none⟩) hg).trans hc0
        have hc3 : wr.cell? ⟨g, o + i * 2 + 1, none⟩ = some (.slice B1 xs[i].2.length d1) := (HB.out.cell (p := ⟨g, o + i * 2 + 1, none⟩) hg).trans hc1
        have hsum := sumN_take xs i hlt
        have hsle := sumN_le xs (i + 1)
        have hxl := HLX.out _ (List.getElem_mem hlt)
        have hlt2 : (i : Int) < (xs.length : Int) := by omega
        have HSUM := Lib.hid hsum
        clear hr1 hsum hc0 hc1
        generalize xs[i] = x at *
        obtain ⟨s, x⟩ := x
        simp only at hc2 hc3 hxl HSUM
        by_cases hx2 : (x.length : Int) ≤ left - (xs.length : Int) - (sumN (xs.take i) : Int)
        · have hE : Hid (szO x.length (left - (xs.length : Int) - (sumN (xs.take i) : Int)) = left - (xs.length : Int) - (sumN (xs.take i) : Int) - (x.length : Int)) := Lib.hid (if_pos hx2)
          go_wp2_with fail
          refine (szNF_any _ _ _ _ _ _ hxl (by omega) (by omega)).mono ?_
          rw [hE.out]
          rintro e w2 ⟨rfl, hb2⟩
          have HB2 := Lib.hid (HB.out.trans (hb2.mono hws))
          clear hb2
          go_wp2
          go_roundw
          case rel => exact ⟨i + 1, by omega, by go_num, by rw [HSUM.out]; go_num, by rw [HSUM.out]; omega, HB2⟩
          case measure => simp [intOf]; omega
        · have hE : Hid (szO x.length (left - (xs.length : Int) - (sumN (xs.take i) : Int)) = -1) := Lib.hid (if_neg hx2)
          have hT : Hid (szO (szN xs) left = -1) := Lib.hid (if_neg (by have := HSUM.out; unfold szN; omega))
          go_wp2_with fail
          refine (szNF_any _ _ _ _ _ _ hxl (by omega) (by omega)).mono ?_
          rw [hE.out]
          rintro e w2 ⟨rfl, hb2⟩
          have HB2 := Lib.hid (HB.out.trans (hb2.mono hws))
          clear hb2
          go_wp2
          go_ret
          exact ⟨by rw [hT.out]; rfl, HB2.out⟩
      · obtain rfl : i = xs.length := by omega
        rw [List.take_length] at hle ⊢
        have hT : Hid (szO (szN xs) left = left - (xs.length : Int) - (sumN xs : Int)) := Lib.hid (by rw [szO, if_pos (by unfold szN; omega)]; unfold szN; omega)
        go_wp2
        go_ret
        exact ⟨by rw [hT.out]; rfl, HB.out⟩
  · have hT : Hid (szO (szN xs) left = -1) := Lib.hid (if_neg (by unfold szN; omega))
    have h2 : left < (xs.length : Int) := by omega
    clear h
    go_enter Try.func52, Try.ntmps52
    go_wp2
    go_ret
    exact ⟨by rw [hT.out]; rfl, Below.refl _ _⟩
theorem szROB_any {T : Nat → Prop} (st : Int) (A : Option Addr) (c : Nat) (xs : List NF) (left : Int) (w : World) (hx : Sl false 2 (EN false) w T A xs) (hl : xs.length ≤ 9223372036854775807) (hlx : ∀ x ∈ xs, x.2.length ≤ 9223372036854775807) (h0 : 0 ≤ left) (h1 : left ≤ 1000000000000) :
    Calls Try.prog 12 #[.agg #[.int .i64 st, .slice A xs.length c], .int .i64 left] w fun e w' => e = .returned (.int .i64 (szO (szN xs) left)) ∧ Below w.heap.size w w' := by
  have HX := Lib.hid (Sl.below (R := EN false) EN.framed hx ((Below.refl _ _).alloc (Nat.le_refl _) (.cells #[.int .i64 st, .slice A xs.length c] 24)))
  have HLX := Lib.hid hlx
  clear hx hlx
  by_cases h : (szN xs : Int) ≤ left
  · have hE : Hid (szO (szN xs) left = left - (szN xs : Int)) := Lib.hid (if_pos h)
    have h2 : ¬ left - (szN xs : Int) < 0 := by omega
    go_enter Try.func12, Try.ntmps12
    go_wp2_with fail
    refine (szNFS_any A c xs left _ HX.out hl HLX.out h0 h1).mono ?_
    rw [hE.out]
    rintro e w1 ⟨rfl, hb⟩
    obtain ⟨X, d, rfl⟩ := Below.ext_ hb
    clear hb
    go_wp2
    go_ret
    exact ⟨by rw [hE.out]; rfl, (by repeat (first | (with_reducible exact Below.refl _ _) | (with_reducible refine Below.ext ?_ (by go_size) _ _) | (with_reducible refine Below.alloc ?_ (by go_size) _) | (with_reducible refine Below.setCell ?_ (by go_size) _) | (with_reducible refine Below.drew ?_) | (with_reducible refine Below.drewN_ ?_ _)))⟩
  · have hE : Hid (szO (szN xs) left = -1) := Lib.hid (if_neg h)
    go_enter Try.func12, Try.ntmps12
    go_wp2_with fail
    refine (szNFS_any A c xs left _ HX.out hl HLX.out h0 h1).mono ?_
    rw [hE.out]
    rintro e w1 ⟨rfl, hb⟩
    obtain ⟨X, d, rfl⟩ := Below.ext_ hb
    clear hb
    go_wp2
    go_ret
    exact ⟨by rw [hE.out]; rfl, (by repeat (first | (with_reducible exact Below.refl _ _) | (with_reducible refine Below.ext ?_ (by go_size) _ _) | (with_reducible refine Below.alloc ?_ (by go_size) _) | (with_reducible refine Below.setCell ?_ (by go_size) _) | (with_reducible refine Below.drew ?_) | (with_reducible refine Below.drewN_ ?_ _)))⟩

end Go.Proofs.Ytnfgdgmmbddmgaa
