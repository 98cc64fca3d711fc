/- BlockAckOf of the program and of the reference. -/
import Derived.Test.YtnfgdgmmbddmgaaRval
import Derived.Deep.RegionWith
namespace Go.Proofs.Ytnfgdgmmbddmgaa
open Go.RowKit
set_option linter.unusedVariables false
set_option linter.unusedSimpArgs false

instance nzr_alloc {w : World} {g : Nat} {o : Obj} [h : NeZero (w.heap.size - g)] : NeZero ((World.alloc w o).heap.size - g) := ⟨by have := h.out; simp; omega⟩
instance nzr_ext {w : World} {g d : Nat} {X : List Obj} [h : NeZero (w.heap.size - g)] : NeZero ((World.ext w X d).heap.size - g) := ⟨by have := h.out; simp; omega⟩
instance nzr_self {w : World} {o : Obj} : NeZero ((World.alloc w o).heap.size - w.heap.size) := ⟨by simp⟩
@[go_sem] theorem cellr_ext {w : World} {X : List Obj} {d b i : Nat} [h : NeZero (w.heap.size - b)] : (World.ext w X d).cell? ⟨b, i, none⟩ = w.cell? ⟨b, i, none⟩ :=
  World.cell?_ext _ _ _ _ _ (by have := h.out; omega)
@[go_sem] theorem cellr_alloc {w : World} {o : Obj} {b i : Nat} [h : NeZero (w.heap.size - b)] : (World.alloc w o).cell? ⟨b, i, none⟩ = w.cell? ⟨b, i, none⟩ :=
  World.cell?_alloc_lt w o ⟨b, i, none⟩ (show b < w.heap.size by have := h.out; omega)
theorem nzr_of {w : World} {g : Nat} (h : g < w.heap.size) : NeZero (w.heap.size - g) := ⟨by omega⟩
theorem wrap64_eqr (x : Int) : wrap64 x = IntKind.i64.wrap x := by rw [IntKind.wrap_i64]; unfold wrap64; omega
theorem wext_app (w : World) (Y : List Obj) (d : Nat) (o : Obj) : (World.ext w Y d).alloc o = World.ext w (Y ++ [o]) d := by
  simp only [World.ext, World.alloc, World.mk.injEq, and_true]
  apply Array.ext'
  simp
theorem wext_appd (w : World) (Y : List Obj) (d : Nat) (o : Obj) : ((World.ext w Y d).alloc o).drew = World.ext w (Y ++ [o]) (d + 1) := by
  rw [wext_app]; rfl
theorem wext_appn (w : World) (Y : List Obj) (d : Nat) (o : Obj) (n : Nat) : ((World.ext w Y d).alloc o).drewN n = World.ext w (Y ++ [o]) (d + n) := by
  rw [wext_app]; rfl
theorem wext_one (w : World) (o : Obj) : World.ext w [o] w.drawn = w.alloc o := by
  simp only [World.ext, World.alloc, World.mk.injEq, and_true]
  apply Array.ext'
  simp

theorem vChain_mem {st : Int} : ∀ {xs : List NF} {b : Int}, 0 ≤ b → vChain st b xs = true → ∀ x ∈ xs, 1 ≤ seqD st x.1 ∧ seqD st x.1 ≤ 15 ∧ x.2.length ≤ 100
  | [], _, _, _, x, hx => by cases hx
  | y :: ys, b, hb, h, x, hx => by
    simp only [vChain, Bool.and_eq_true, decide_eq_true_eq] at h
    have hr := inR_true h.1.2
    rcases List.mem_cons.1 hx with rfl | hx
    · omega
    · exact vChain_mem (by omega) h.2 x hx
theorem vROB_mem {st : Int} {xs : List NF} (h : vROB st xs = true) : (0 ≤ st ∧ st ≤ 4095) ∧ ∀ x ∈ xs, 1 ≤ seqD st x.1 ∧ seqD st x.1 ≤ 15 ∧ x.2.length ≤ 100 := by
  simp only [vROB, Bool.and_eq_true] at h
  exact ⟨inR_true h.1, vChain_mem (Int.le_refl 0) h.2⟩
def bitsN (st : Int) (xs : List NF) : Nat := xs.foldl (fun m x => m ||| 2 ^ (seqD st x.1).toNat) 0
theorem bitsN_snoc (st : Int) (xs : List NF) (x : NF) : bitsN st (xs ++ [x]) = bitsN st xs ||| 2 ^ (seqD st x.1).toNat := by simp [bitsN, List.foldl_append]
theorem bitsN_take (st : Int) (xs : List NF) (k : Nat) (h : k < xs.length) : bitsN st (xs.take (k + 1)) = bitsN st (xs.take k) ||| 2 ^ (seqD st xs[k].1).toNat := by
  rw [List.take_add_one, List.getElem?_eq_getElem h]; exact bitsN_snoc _ _ _
theorem bitsN_lt (st : Int) (xs : List NF) (h : ∀ x ∈ xs, 1 ≤ seqD st x.1 ∧ seqD st x.1 ≤ 15 ∧ x.2.length ≤ 100) : bitsN st xs < 2 ^ 16 := by
  have : ∀ (xs : List NF) (m : Nat), (∀ x ∈ xs, 1 ≤ seqD st x.1 ∧ seqD st x.1 ≤ 15 ∧ x.2.length ≤ 100) → m < 2 ^ 16 → xs.foldl (fun m x => m ||| 2 ^ (seqD st x.1).toNat) m < 2 ^ 16 := by
    intro xs
    induction xs with
    | nil => intro m _ hm; exact hm
    | cons x xs ih =>
      intro m h hm
      have hx := h x (by simp)
      refine ih _ (fun y hy => h y (by simp [hy])) (Nat.or_lt_two_pow hm ?_)
      exact Nat.pow_lt_pow_right (by omega) (by omega)
  exact this xs 0 h (by decide)
def bakS (st : Int) (xs : List NF) : Int := if vROB st xs then st else 0
def bakB (st : Int) (xs : List NF) : Int := if vROB st xs then (bitsN st xs : Int) else 0

set_option maxHeartbeats 4000000 in
theorem specBak_any {T : Nat → Prop} (st : Int) (A : Option Addr) (c : Nat) (xs : List NF) (w : World) (hx : Sl false 2 (EN false) w T A xs) (hm : xs.length ≤ 1000000000) (hmx : ∀ x ∈ xs, x.2.length ≤ 1000000000) :
    Calls Try.prog 33 #[.agg #[.int .i64 st, .slice A xs.length c]] w fun e w' => e = .returned (.agg #[.int .i64 (bakS st xs), .int .i64 (bakB st xs)]) ∧ Below w.heap.size w w' := by
  have HX := Lib.hid hx
  have HMX := Lib.hid hmx
  clear hx hmx
  cases hv : vROB st xs
  · have hE : Hid (bakS st xs = 0 ∧ bakB st xs = 0) := Lib.hid (by unfold bakS bakB; rw [hv]; exact ⟨rfl, rfl⟩)
    have HV := Lib.hid hv
    clear hv
    go_enter Try.func33, Try.ntmps33
    go_wp2_with fail
    refine (specVR_any st A c xs _ (Sl.below (R := EN false) EN.framed HX.out (by repeat (first | (with_reducible exact Below.refl _ _) | (with_reducible refine Below.ext ?_ (by go_size) _ _) | (with_reducible refine Below.alloc ?_ (by go_size) _) | (with_reducible refine Below.setCell ?_ (by go_size) _) | (with_reducible refine Below.drew ?_) | (with_reducible refine Below.drewN_ ?_ _)))) hm HMX.out).mono ?_
    rw [HV.out]
    rintro e w1 ⟨rfl, hb⟩
    obtain ⟨X1, d1, rfl⟩ := Below.ext_ hb
    clear hb
    go_wp2
    go_returns
    exact ⟨by rw [hE.out.1, hE.out.2], (by repeat (first | (with_reducible exact Below.refl _ _) | (with_reducible refine Below.ext ?_ (by go_size) _ _) | (with_reducible refine Below.alloc ?_ (by go_size) _) | (with_reducible refine Below.setCell ?_ (by go_size) _) | (with_reducible refine Below.drew ?_) | (with_reducible refine Below.drewN_ ?_ _)))⟩
  · obtain ⟨⟨hst0, hst1⟩, hmem⟩ := vROB_mem hv
    have hE : Hid (bakS st xs = st ∧ bakB st xs = (bitsN st xs : Int)) := Lib.hid (by unfold bakS bakB; rw [hv]; exact ⟨rfl, rfl⟩)
    have HV := Lib.hid hv
    have HMEM := Lib.hid hmem
    clear hv hmem
    go_enter Try.func33, Try.ntmps33
    go_wp2_with fail
    refine (specVR_any st A c xs _ (Sl.below (R := EN false) EN.framed HX.out (by repeat (first | (with_reducible exact Below.refl _ _) | (with_reducible refine Below.ext ?_ (by go_size) _ _) | (with_reducible refine Below.alloc ?_ (by go_size) _) | (with_reducible refine Below.setCell ?_ (by go_size) _) | (with_reducible refine Below.drew ?_) | (with_reducible refine Below.drewN_ ?_ _)))) hm HMX.out).mono ?_
    rw [HV.out]
    rintro e w1 ⟨rfl, hb⟩
    obtain ⟨X1, d1, rfl⟩ := Below.ext_ hb
    clear hb
    go_wp2
    go_loopw [4] (fun p wr => ∃ (i dn : Nat) (Y : List Obj), i ≤ xs.length ∧ p = .int .i64 (i : Int) ∧ wr = World.ext ((World.ext ((w.alloc (.cells #[.int .i64 st, .slice A xs.length c] 28)).alloc (.cells #[.int .i64 0, .int .i64 0] 50)) X1 d1).alloc (.cells #[.int .i64 st, .int .i64 (bitsN st (xs.take i) : Nat)] 50)) Y dn) (fun p _ => xs.length - (intOf p).toNat)
    case atStart => exact ⟨0, _, [], Nat.zero_le _, rfl, (wext_nil _).symm⟩
    case round =>
      obtain ⟨i, dn, Y, hi, rfl, rfl⟩ := hrel
      by_cases hlt : i < xs.length
      · obtain ⟨g, o, F, rfl, hg, ⟨hc0, _, ⟨B1, e1, hc1, _, _⟩⟩, _, _⟩ := HX.out.at_ i hlt
        haveI := nzr_of hg
        have hxm := HMEM.out _ (List.getElem_mem hlt)
        have hlt2 : (i : Int) < (xs.length : Int) := by omega
        have hbt := bitsN_take st xs i hlt
        have hbl := bitsN_lt st (xs.take i) (fun x hx => HMEM.out x (List.mem_of_mem_take hx))
        generalize xs[i] = x at *
        obtain ⟨s, x⟩ := x
        simp only at hc0 hc1 hxm hbt
        obtain ⟨hx1, hx2, _⟩ := hxm
        have hor := or_bit (bitsN st (xs.take i)) (seqD st s).toNat (Nat.lt_trans hbl (by decide)) (by omega)
        have hor2 : bits .or .i64 ((bitsN st (xs.take i) : Nat) : Int) (wrap64 (2 ^ (seqD st s).toNat)) = ((bitsN st (xs.take i) ||| 2 ^ (seqD st s).toNat : Nat) : Int) := by rw [wrap64_eqr]; exact hor
        rw [← hbt] at hor hor2
        have hd0 : 0 ≤ seqD st s := by omega
        clear hbt hbl
        generalize hm' : bitsN st (xs.take (i + 1)) = m' at *
        have HM' := Lib.hid hm'
        clear hm'
        generalize bitsN st (xs.take i) = m at *
        go_wp2
        go_region_with ((go_at_call 51; refine (specDist_any _ _ _).mono ?_; rintro e w' ⟨rfl, rfl⟩))
        all_goals go_wp2
        all_goals go_roundw
        all_goals first
          | exact ⟨i + 1, _, _, by omega, by go_num, by rw [HM'.out]; try (first | (with_reducible rfl) | exact wext_app _ _ _ _ | exact wext_appd _ _ _ _ | exact wext_appn _ _ _ _ _)⟩
          | (simp [intOf]; omega)
          | trace_state
      · obtain rfl : i = xs.length := by omega
        rw [List.take_length]
        go_wp2
        go_returns
        exact ⟨by rw [hE.out.1, hE.out.2], (by repeat (first | (with_reducible exact Below.refl _ _) | (with_reducible refine Below.ext ?_ (by go_size) _ _) | (with_reducible refine Below.alloc ?_ (by go_size) _) | (with_reducible refine Below.setCell ?_ (by go_size) _) | (with_reducible refine Below.drew ?_) | (with_reducible refine Below.drewN_ ?_ _)))⟩

set_option maxHeartbeats 4000000 in
theorem implBak_any {T : Nat → Prop} (st : Int) (A : Option Addr) (c : Nat) (xs : List NF) (w : World) (hx : Sl false 2 (EN false) w T A xs) (hm : xs.length ≤ 1000000000) (hmx : ∀ x ∈ xs, x.2.length ≤ 1000000000) :
    Calls Try.prog 34 #[.agg #[.int .i64 st, .slice A xs.length c]] w fun e w' => e = .returned (.agg #[.int .i64 (bakS st xs), .int .i64 (bakB st xs)]) ∧ Below w.heap.size w w' := by
  have HX := Lib.hid hx
  have HMX := Lib.hid hmx
  clear hx hmx
  cases hv : vROB st xs
  · have hE : Hid (bakS st xs = 0 ∧ bakB st xs = 0) := Lib.hid (by unfold bakS bakB; rw [hv]; exact ⟨rfl, rfl⟩)
    have HV := Lib.hid hv
    clear hv
    go_enter Try.func34, Try.ntmps34
    go_wp2_with fail
    refine (implVR_any st A c xs _ (Sl.below (R := EN false) EN.framed HX.out (by repeat (first | (with_reducible exact Below.refl _ _) | (with_reducible refine Below.ext ?_ (by go_size) _ _) | (with_reducible refine Below.alloc ?_ (by go_size) _) | (with_reducible refine Below.setCell ?_ (by go_size) _) | (with_reducible refine Below.drew ?_) | (with_reducible refine Below.drewN_ ?_ _)))) hm HMX.out).mono ?_
    rw [HV.out]
    rintro e w1 ⟨rfl, hb⟩
    obtain ⟨X1, d1, rfl⟩ := Below.ext_ hb
    clear hb
    go_wp2
    go_returns
    exact ⟨by rw [hE.out.1, hE.out.2], (by repeat (first | (with_reducible exact Below.refl _ _) | (with_reducible refine Below.ext ?_ (by go_size) _ _) | (with_reducible refine Below.alloc ?_ (by go_size) _) | (with_reducible refine Below.setCell ?_ (by go_size) _) | (with_reducible refine Below.drew ?_) | (with_reducible refine Below.drewN_ ?_ _)))⟩
  · obtain ⟨⟨hst0, hst1⟩, hmem⟩ := vROB_mem hv
    have hE : Hid (bakS st xs = st ∧ bakB st xs = (bitsN st xs : Int)) := Lib.hid (by unfold bakS bakB; rw [hv]; exact ⟨rfl, rfl⟩)
    have HV := Lib.hid hv
    have HMEM := Lib.hid hmem
    clear hv hmem
    go_enter Try.func34, Try.ntmps34
    go_wp2_with fail
    refine (implVR_any st A c xs _ (Sl.below (R := EN false) EN.framed HX.out (by repeat (first | (with_reducible exact Below.refl _ _) | (with_reducible refine Below.ext ?_ (by go_size) _ _) | (with_reducible refine Below.alloc ?_ (by go_size) _) | (with_reducible refine Below.setCell ?_ (by go_size) _) | (with_reducible refine Below.drew ?_) | (with_reducible refine Below.drewN_ ?_ _)))) hm HMX.out).mono ?_
    rw [HV.out]
    rintro e w1 ⟨rfl, hb⟩
    obtain ⟨X1, d1, rfl⟩ := Below.ext_ hb
    clear hb
    go_wp2
    go_loopw [16] (fun p wr => ∃ (i dn : Nat) (Y : List Obj), i ≤ xs.length ∧ p = .int .i64 (i : Int) ∧ wr = World.ext ((World.ext ((w.alloc (.cells #[.int .i64 st, .slice A xs.length c] 28)).alloc (.cells #[.int .i64 0, .int .i64 0] 50)) X1 d1).alloc (.cells #[.int .i64 st, .int .i64 (bitsN st (xs.take i) : Nat)] 50)) Y dn) (fun p _ => xs.length - (intOf p).toNat)
    case atStart => exact ⟨0, _, [], Nat.zero_le _, rfl, (wext_nil _).symm⟩
    case round =>
      obtain ⟨i, dn, Y, hi, rfl, rfl⟩ := hrel
      by_cases hlt : i < xs.length
      · obtain ⟨g, o, F, rfl, hg, ⟨hc0, _, ⟨B1, e1, hc1, _, _⟩⟩, _, _⟩ := HX.out.at_ i hlt
        haveI := nzr_of hg
        have hxm := HMEM.out _ (List.getElem_mem hlt)
        have hlt2 : (i : Int) < (xs.length : Int) := by omega
        have hbt := bitsN_take st xs i hlt
        have hbl := bitsN_lt st (xs.take i) (fun x hx => HMEM.out x (List.mem_of_mem_take hx))
        generalize xs[i] = x at *
        obtain ⟨s, x⟩ := x
        simp only at hc0 hc1 hxm hbt
        obtain ⟨hx1, hx2, _⟩ := hxm
        have hor := or_bit (bitsN st (xs.take i)) (seqD st s).toNat (Nat.lt_trans hbl (by decide)) (by omega)
        have hor2 : bits .or .i64 ((bitsN st (xs.take i) : Nat) : Int) (wrap64 (2 ^ (seqD st s).toNat)) = ((bitsN st (xs.take i) ||| 2 ^ (seqD st s).toNat : Nat) : Int) := by rw [wrap64_eqr]; exact hor
        rw [← hbt] at hor hor2
        have hd0 : 0 ≤ seqD st s := by omega
        clear hbt hbl
        generalize hm' : bitsN st (xs.take (i + 1)) = m' at *
        have HM' := Lib.hid hm'
        clear hm'
        generalize bitsN st (xs.take i) = m at *
        go_wp2
        go_region_with ((go_at_call 59; refine (implDist_any _ _ _).mono ?_; rintro e w' ⟨rfl, rfl⟩))
        all_goals go_wp2
        all_goals go_roundw
        all_goals first
          | exact ⟨i + 1, _, _, by omega, by go_num, by rw [HM'.out]; try (first | (with_reducible rfl) | exact wext_app _ _ _ _ | exact wext_appd _ _ _ _ | exact wext_appn _ _ _ _ _)⟩
          | (simp [intOf]; omega)
          | trace_state
      · obtain rfl : i = xs.length := by omega
        rw [List.take_length]
        go_wp2
        go_returns
        exact ⟨by rw [hE.out.1, hE.out.2], (by repeat (first | (with_reducible exact Below.refl _ _) | (with_reducible refine Below.ext ?_ (by go_size) _ _) | (with_reducible refine Below.alloc ?_ (by go_size) _) | (with_reducible refine Below.setCell ?_ (by go_size) _) | (with_reducible refine Below.drew ?_) | (with_reducible refine Below.drewN_ ?_ _)))⟩

end Go.Proofs.Ytnfgdgmmbddmgaa
