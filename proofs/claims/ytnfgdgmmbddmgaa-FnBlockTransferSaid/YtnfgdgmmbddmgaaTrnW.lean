/- FnBlockTransfer: although frames and acknowledgments are lost, all is delivered in order and once. -/
import Derived.Test.YtnfgdgmmbddmgaaTrnM
import Derived.Test.YtnfgdgmmbddmgaaRrcI
import Derived.Test.YtnfgdgmmbddmgaaRobN
import Derived.Test.YtnfgdgmmbddmgaaLawM
namespace Go.Proofs.Ytnfgdgmmbddmgaa
open Go.RowKit
set_option linter.unusedVariables false
set_option linter.unusedSimpArgs false

theorem at_i {u : Bool} {T : Nat → Prop} (A : Option Addr) (c : Nat) (xs : List Int) (i : Nat) (n : Int) (w : World) (hn : n = (i : Int)) (hx : Rw u .u8 w T A xs) (hm : xs.length ≤ 1000000000) (hb : ∀ x ∈ xs, 0 ≤ x ∧ x ≤ 255) (hi : i ≤ 1000000000) :
    Calls Try.prog 37 #[.slice A xs.length c, .int .i64 n] w fun e w' => e = .returned (.int .i64 (atV xs i)) ∧ w = w' := by
  subst hn
  exact at_any A c xs i w hx hm hb hi
theorem Src.imp_ {α : Type} {u : Bool} {sz : Nat} {R : Rel α} {w : World} {T Fn Fn' : Nat → Prop} {g : Nat} {B : Option Addr} {ys : List α} (h : Src u sz R w T Fn g B ys) (hf : ∀ b, Fn b → Fn' b) : Src u sz R w T Fn' g B ys := by
  intro hn
  obtain ⟨gb, ob, Fy, h1, h2, h3, h4, h5⟩ := h hn
  exact ⟨gb, ob, Fy, h1, h2, h3, fun k b hb => ⟨hf b (h4 k b hb).1, (h4 k b hb).2⟩, h5⟩

set_option maxRecDepth 10000 in
set_option maxHeartbeats 16000000 in
theorem blockTransfer_walk (AC : Option Addr) (cc : Nat) (code : List Int) (w : World) (hx : Rw false .u8 w (fun g => g < w.heap.size) AC code) (hlen : code.length ≤ 9223372036854775807) (hb : ∀ x ∈ code, 0 ≤ x ∧ x ≤ 255) :
    Calls Try.prog 9 #[.slice AC code.length cc] w fun e w' => e = .returned (.bool true) ∧ Below w.heap.size w w' := by
  obtain ⟨i0, hI0, hz0, hz1, hz2⟩ := info_parts infoBSS
  by_cases hbig : 1048576 < code.length
  · have HBG : Hid (bigB code.length = true) := Lib.hid (by simp [bigB, hbig])
    clear hx hb
    go_enter Try.func9, Try.ntmps9
    go_wp2_with (first | (go_at_call 36; refine (big_any _ _ _ _).mono ?_; rw [HBG.out]; rintro e w' ⟨rfl, rfl⟩))
    go_ret
    exact ⟨rfl, Below.refl _ _⟩
  have HBG : Hid (bigB code.length = false) := Lib.hid (by simp [bigB, hbig])
  have hcl : code.length ≤ 1000000000 := by omega
  have HX := Lib.hid hx
  have HB := Lib.hid hb
  have ha0 := atV_le hb 0
  have ha1 := atV_le hb 1
  generalize hA0 : atV code 0 = a0 at ha0
  generalize hA1 : atV code 1 = a1 at ha1
  have HA0 := Lib.hid hA0
  have HA1 := Lib.hid hA1
  obtain ⟨ha00, ha01⟩ := ha0
  obtain ⟨ha10, ha11⟩ := ha1
  obtain ⟨k, hk⟩ := Int.eq_ofNat_of_zero_le (show 0 ≤ a0 % 3 by omega)
  obtain ⟨t1, ht1⟩ := Int.eq_ofNat_of_zero_le (show 0 ≤ a1 % 20 by omega)
  have hk3 : k < 3 := by omega
  have hkI : (k : Int) < 3 := by omega
  have ht20 : t1 < 20 := by omega
  obtain ⟨f, hf, hf0, hf1⟩ : ∃ f : Int, (#[.int .i64 0, .int .i64 7, .int .i64 4090] : Array Value)[k]? = some (.int .i64 f) ∧ 0 ≤ f ∧ f ≤ 4095 := by
    match k, hk3 with
    | 0, _ => exact ⟨0, rfl, by omega, by omega⟩
    | 1, _ => exact ⟨7, rfl, by omega, by omega⟩
    | 2, _ => exact ⟨4090, rfl, by omega, by omega⟩
  have HZS : Hid (zeroSeq f = f) := Lib.hid (by unfold zeroSeq; rw [if_pos (inR_of ⟨hf0, hf1⟩)])
  have HSZ : Hid (soz f = f) := Lib.hid (by unfold soz; rw [if_pos (inR_of ⟨hf0, hf1⟩)])
  have HSQ : Hid (sq f 0 = f) := Lib.hid (by unfold sq; omega)
  clear hx hlen hb hA0 hA1
  have hcell : (w.alloc (.cells #[.int .i64 0, .int .i64 7, .int .i64 4090] 3)).cell? ⟨w.heap.size, k, none⟩ = some (.int .i64 f) := by
    have hblk := World.heap_new w (.cells #[.int .i64 0, .int .i64 7, .int .i64 4090] 3) _ rfl
    simp only [World.cell?, hblk]
    exact hf
  go_enter Try.func9, Try.ntmps9
  go_wp2_with (first | (go_at_call 36; refine (big_any _ _ _ _).mono ?_; rw [HBG.out]; rintro e w' ⟨rfl, rfl⟩) | (go_at_call 37; refine (at_any AC cc code 0 _ (HX.out.below (by repeat (first | (with_reducible exact Below.refl _ _) | (with_reducible refine Below.ext ?_ (by go_size) _ _) | (with_reducible refine Below.alloc ?_ (by go_size) _) | (with_reducible refine Below.setCell ?_ (by go_size) _) | (with_reducible refine Below.drew ?_) | (with_reducible refine Below.drewN_ ?_ _)))) hcl HB.out (by omega)).mono ?_; rw [HA0.out]; rintro e w' ⟨rfl, rfl⟩))
  refine (implNewS_any f _).mono ?_
  rw [HZS.out]
  rintro e w1 ⟨rfl, hb1⟩
  have hb1' : Below w.heap.size w w1 := Below.trans (by repeat (first | (with_reducible exact Below.refl _ _) | (with_reducible refine Below.ext ?_ (by go_size) _ _) | (with_reducible refine Below.alloc ?_ (by go_size) _) | (with_reducible refine Below.setCell ?_ (by go_size) _) | (with_reducible refine Below.drew ?_) | (with_reducible refine Below.drewN_ ?_ _))) (hb1.mono (by simp))
  have hs1 := hb1'.size
  have HB1 := Lib.hid hb1'
  clear hb1 hb1' hcell hf
  go_wp2_with fail
  refine (implNewR_any f _).mono ?_
  rw [HSZ.out]
  rintro e w2 ⟨b0, rfl, hb2⟩
  have hs2 := hb2.size
  simp only [World.size_alloc] at hs2
  have hs2' : w1.heap.size < w2.heap.size := by omega
  have p0 : w2.cell? ⟨w1.heap.size, 0, none⟩ = some (.int .i64 f) := (hb2.cell (p := ⟨w1.heap.size, 0, none⟩) (by simp)).trans (by simp [go_sem])
  have p1 : w2.cell? ⟨w1.heap.size, 1, none⟩ = some (.int .i64 f) := (hb2.cell (p := ⟨w1.heap.size, 1, none⟩) (by simp)).trans (by simp [go_sem])
  have p2 : w2.cell? ⟨w1.heap.size, 2, none⟩ = some (.int .i64 0) := (hb2.cell (p := ⟨w1.heap.size, 2, none⟩) (by simp)).trans (by simp [go_sem])
  have q0 : w2.frozen? ⟨w1.heap.size, 0, none⟩ = false := (hb2.frozen (p := ⟨w1.heap.size, 0, none⟩) (by simp)).trans (by simp [go_sem])
  have q1 : w2.frozen? ⟨w1.heap.size, 1, none⟩ = false := (hb2.frozen (p := ⟨w1.heap.size, 1, none⟩) (by simp)).trans (by simp [go_sem])
  have q2 : w2.frozen? ⟨w1.heap.size, 2, none⟩ = false := (hb2.frozen (p := ⟨w1.heap.size, 2, none⟩) (by simp)).trans (by simp [go_sem])
  have HB2 := Lib.hid (HB1.out.trans ((Below.trans (by repeat (first | (with_reducible exact Below.refl _ _) | (with_reducible refine Below.ext ?_ (by go_size) _ _) | (with_reducible refine Below.alloc ?_ (by go_size) _) | (with_reducible refine Below.setCell ?_ (by go_size) _) | (with_reducible refine Below.drew ?_) | (with_reducible refine Below.drewN_ ?_ _))) (hb2.mono (by simp))).mono hs1))
  clear hb2 hs2
  have HM0 : Hid (TrM w w1.heap.size w2.heap.size (sq f 0) (sq f 0) 0 (sq f 0) (some ⟨b0, 0, none⟩) 0 (can f []) (fun _ => False) (w2.heap.size + 1) 0 (gotL 0) ((w2.alloc (.cells #[.int .i64 f, .slice (some ⟨b0, 0, none⟩) 0 0] 28)).alloc (.cells #[] 38))) := Lib.hid (by
    have hal : Below w2.heap.size w2 ((w2.alloc (.cells #[.int .i64 f, .slice (some ⟨b0, 0, none⟩) 0 0] 28)).alloc (.cells #[] 38)) := (by repeat (first | (with_reducible exact Below.refl _ _) | (with_reducible refine Below.ext ?_ (by go_size) _ _) | (with_reducible refine Below.alloc ?_ (by go_size) _) | (with_reducible refine Below.setCell ?_ (by go_size) _) | (with_reducible refine Below.drew ?_) | (with_reducible refine Below.drewN_ ?_ _)))
    rw [HSQ.out]
    refine { below := HB2.out.trans (hal.mono HB2.out.size), h1 := hs1, h2 := hs2', h3 := by simp; omega, s0 := (hal.cell (p := ⟨w1.heap.size, 0, none⟩) hs2').trans p0, s1 := (hal.cell (p := ⟨w1.heap.size, 1, none⟩) hs2').trans p1, s2 := (hal.cell (p := ⟨w1.heap.size, 2, none⟩) hs2').trans p2, sf0 := (hal.frozen (p := ⟨w1.heap.size, 0, none⟩) hs2').trans q0, sf1 := (hal.frozen (p := ⟨w1.heap.size, 1, none⟩) hs2').trans q1, sf2 := (hal.frozen (p := ⟨w1.heap.size, 2, none⟩) hs2').trans q2, r0 := ?_, r1 := ?_, rf0 := ?_, rf1 := ?_, row := Sl.nil, hT := fun b hb => hb.elim, own := OwS.new (Nat.le_refl _) (World.heap_new _ _ _ (by simp)) }
    all_goals (simp [go_sem]; try rfl))
  clear p0 p1 p2 q0 q1 q2 HB1
  go_wp2_with (first | (go_at_call 37; refine (at_any AC cc code 1 _ (HX.out.below (HB2.out.trans ((Below.alloc (Below.refl _ _) (Nat.le_refl _) _).mono HB2.out.size))) hcl HB.out (by omega)).mono ?_; rw [HA1.out]; rintro e w' ⟨rfl, rfl⟩))
  have HI0 : Hid (TrI (t1 + 1) 0 0 0 0 0 []) := Lib.hid { tot20 := by omega, ar := Nat.le_refl _, rn := Nat.le_refl _, nt := Nat.zero_le _, na := by omega, srt := trivial, lt := by decide, ev := rfl, rec_ := fun i h => by simp at h, p31 := fun h => by omega, p32 := fun h => by omega }
  have HGT00 : Hid (gotL 0 = gotL 0) := Lib.hid rfl
  try rw [ht1]
  try rw [hk]
  clear ht1 hk
  go_loopw [7, 8, 9] (fun vn vg vr wr => ∃ (r a n rr A : Nat) (ps : List Nat) (g cl : Nat) (A0' : Option Addr) (c0' : Nat) (T0' : Nat → Prop) (got : List (List Int)), vr = .int .i64 (r : Int) ∧ vn = .int .i64 (n : Int) ∧ vg = .slice (some ⟨g, 0, none⟩) got.length cl ∧ r ≤ 60 ∧ Hid (got = gotL rr) ∧ Hid (TrI (t1 + 1) r a n rr A ps) ∧ Hid (TrM w w1.heap.size w2.heap.size (sq f a) (sq f n) (A : Int) (sq f rr) A0' c0' (can f ps) T0' g cl got wr)) (fun _ _ vr _ => 60 - (intOf vr).toNat)
  case atStart => exact ⟨0, 0, 0, 0, 0, [], _, 0, _, 0, _, gotL 0, rfl, rfl, rfl, by omega, HGT00, HI0, HM0⟩
  case round =>
    obtain ⟨r, a, n, rr, A, ps, g, cl, A0', c0', T0', got, rfl, rfl, rfl, hr60, HGT0, HI1, HM1⟩ := hrel
    obtain ⟨wa, rfl⟩ : ∃ wa : World, wa = wr := ⟨_, rfl⟩
    by_cases hr : r < 60
    · have hrI60 : (r : Int) < 60 := by omega
      go_wp2
      go_loopw [7] (fun vn wr => ∃ (m : Nat), vn = .int .i64 (m : Int) ∧ Hid (TrI (t1 + 1) r a m rr A ps) ∧ Hid (TrM w w1.heap.size w2.heap.size (sq f a) (sq f m) (A : Int) (sq f rr) A0' c0' (can f ps) T0' g cl got wr)) (fun vn _ => 20 - (intOf vn).toNat)
      case atStart => exact ⟨n, rfl, HI1, HM1⟩
      case round =>
        obtain ⟨m, rfl, HI2, HM2⟩ := hrel
        have hmt := HI2.out.nt
        have hma := HI2.out.na
        have h32 := HM2.out.h3
        by_cases hm : m < t1 + 1
        · have hmI : (m : Int) < 1 + (t1 : Int) := by omega
          have s0 := HM2.out.s0
          have s1 := HM2.out.s1
          have s2 := HM2.out.s2
          have sf0 := HM2.out.sf0
          have sf1 := HM2.out.sf1
          have sf2 := HM2.out.sf2
          have hls_HM2 := Nat.lt_trans HM2.out.h2 HM2.out.h3
          go_wp2_with fail
          refine (implSendNext_any (sq f a) (sq f m) (A : Int) _).mono ?_
          by_cases h16 : m < a + 16
          · have HCS : Hid (canSend (sq f a) (sq f m) (A : Int) = true) := Lib.hid (by unfold canSend; rw [HI2.out.vs f, sq_le f (by have h1 := HI2.out.ar; have h2 := HI2.out.rn; omega) (by have := HI2.out.n60; omega)]; simp; omega)
            have HSN : Hid (sendN (sq f a) (sq f m) (A : Int) = sq f (m + 1)) := Lib.hid (by unfold sendN; rw [if_pos HCS.out, sq_next])
            rw [HCS.out, HSN.out]
            rintro e w5 ⟨rfl, hb5⟩
            have hs5 := hb5.size
            have HM5 := Lib.hid (HM2.out.below_ hb5)
            clear hb5 s0 s1 s2 sf0 sf1 sf2
            have s0 := HM5.out.s0
            have s1 := HM5.out.s1
            have s2 := HM5.out.s2
            have sf0 := HM5.out.sf0
            have sf1 := HM5.out.sf1
            have sf2 := HM5.out.sf2
            have hls_HM5 := Nat.lt_trans HM5.out.h2 HM5.out.h3
            have h35 := HM5.out.h3
            go_wp2
            go_roundw
            case rel => exact ⟨m + 1, by go_num, Lib.hid (HI2.out.send hm h16), Lib.hid (HM5.out.setS.below_ (Below.alloc (Below.refl _ _) (Nat.le_refl _) _))⟩
            case measure => simp [intOf]; omega
          · have HCS : Hid (canSend (sq f a) (sq f m) (A : Int) = false) := Lib.hid (by unfold canSend; rw [HI2.out.vs f, sq_le f (by have h1 := HI2.out.ar; have h2 := HI2.out.rn; omega) (by have := HI2.out.n60; omega)]; simp; omega)
            rw [HCS.out]
            rintro e w5 ⟨rfl, hb5⟩
            have HM5 := Lib.hid (HM2.out.below_ hb5)
            have HSENT : Hid (m = t1 + 1 ∨ m = a + 16) := Lib.hid (.inr (by omega))
            clear hb5 s0 s1 s2 sf0 sf1 sf2
            have s0 := HM5.out.s0
            have s1 := HM5.out.s1
            have s2 := HM5.out.s2
            have sf0 := HM5.out.sf0
            have sf1 := HM5.out.sf1
            have sf2 := HM5.out.sf2
            have hls_HM5 := Nat.lt_trans HM5.out.h2 HM5.out.h3
            have h35 := HM5.out.h3
            generalize sendN (sq f a) (sq f m) (A : Int) = nN
            generalize sendX (sq f a) (sq f m) (A : Int) = nX
            go_wp2_with fail
            obtain ⟨wq, hwq⟩ : ∃ wq, wq = w5.alloc (.cells #[.int .i64 (sq f a), .int .i64 nN, .int .i64 (A : Int)] 56) := ⟨_, rfl⟩
            have HMq := Lib.hid (HM5.out.below_ (Below.alloc (Below.refl _ _) (Nat.le_refl _) (.cells #[.int .i64 (sq f a), .int .i64 nN, .int .i64 (A : Int)] 56)))
            rw [← hwq] at HMq
            try rw [← hwq]
            have HIq := HI2
            clear hwq s0 s1 s2 sf0 sf1 sf2
            have s0 := HMq.out.s0
            have s1 := HMq.out.s1
            have s2 := HMq.out.s2
            have sf0 := HMq.out.sf0
            have sf1 := HMq.out.sf1
            have sf2 := HMq.out.sf2
            have hls_HMq := Nat.lt_trans HMq.out.h2 HMq.out.h3
            go_wp2_with fail
            refine (implOutS_any (sq f a) (sq f m) (A : Int) _).mono ?_
            rintro e w6 ⟨gl, cpl, X6, d6, rfl, hw6, hgl, hol⟩
            have hb6 : Below wq.heap.size wq w6 := by rw [hw6]; exact Below.ext (Below.refl _ _) (Nat.le_refl _) _ _
            have hgl6 : gl < w6.heap.size := own_lt hol
            obtain ⟨ls, hls⟩ : ∃ l, l = outS (sq f a) (sq f m) (A : Int) := ⟨_, rfl⟩
            rw [← hls] at hol ⊢
            have HLS := Lib.hid hls
            have hln : ls.length ≤ 16 := by rw [hls]; exact outS_le _ _ _
            have HL6 : Hid (Rw false .i64 w6 (fun b => b = gl) (some ⟨gl, 0, none⟩) ls) := Lib.hid ((Rw.of_own hol).read.wider (fun b hb => by have := hb.2; injection this with this; injection this with this; exact this.symm))
            have HM6 := Lib.hid (HMq.out.below_ hb6)
            have hq3 := HMq.out.h3
            have hgq := HMq.out.own.lt
            have hgq2 := HMq.out.own.ge
            have hne0 : g ≠ gl := by omega
            have hgl2 : w2.heap.size < gl := by omega
            clear hb6 hw6 hol hls s0 s1 s2 sf0 sf1 sf2
            go_wp2
            go_loopw [8, 14] (fun vg vi wr => ∃ (i rr3 : Nat) (ps3 : List Nat) (g3 cl3 : Nat) (A3 : Option Addr) (c3 : Nat) (T3 : Nat → Prop) (got3 : List (List Int)), vi = .int .i64 (i : Int) ∧ i ≤ ls.length ∧ vg = .slice (some ⟨g3, 0, none⟩) got3.length cl3 ∧ Hid (got3 = gotL rr3) ∧ Hid (TrI (t1 + 1) r a m rr3 A ps3) ∧ Hid (TrM w w1.heap.size w2.heap.size (sq f a) (sq f m) (A : Int) (sq f rr3) A3 c3 (can f ps3) T3 g3 cl3 got3 wr) ∧ Hid (Rw false .i64 wr (fun b => b = gl) (some ⟨gl, 0, none⟩) ls) ∧ g3 ≠ gl ∧ gl < wr.heap.size ∧ Hid (30 ≤ r → ∀ j x, j < i → ls[j]? = some x → ∃ p, x = sq f p ∧ (p < rr3 ∨ p ∈ ps3))) (fun _ vi _ => ls.length - (intOf vi).toNat)
            case atStart => exact ⟨0, rr, ps, g, cl, A0', c0', T0', got, rfl, Nat.zero_le _, rfl, HGT0, HIq, HM6, HL6, hne0, hgl6, Lib.hid (fun _ j x hj => absurd hj (by omega))⟩
            case round =>
              obtain ⟨i, rr3, ps3, g3, cl3, A3, c3, T3, got3, rfl, hil, rfl, HGT, HI3, HM3, HL3, hne3, hglw, HRV⟩ := hrel
              obtain ⟨wb, rfl⟩ : ∃ wb : World, wb = wr := ⟨_, rfl⟩
              have hg3 := HM3.out.own.lt
              have hg3b := HM3.out.own.ge
              have h3b := HM3.out.h3
              by_cases hi : i < ls.length
              · have hiI : (i : Int) < (ls.length : Int) := by omega
                have hxi : ls[i]? = some ls[i] := List.getElem?_eq_getElem hi
                obtain ⟨y, hy1, hy2, hy3⟩ := (outS_can_mem f (show a ≤ m by have h1 := HI3.out.ar; have h2 := HI3.out.rn; omega) HI3.out.na HI3.out.n60 HI3.out.lt HI3.out.ev).1 (show ls[i] ∈ outS (sq f a) (sq f m) (A : Int) by rw [← HLS.out]; exact List.getElem_mem hi)
                obtain ⟨j, hj⟩ : ∃ j, j = a + y := ⟨_, rfl⟩
                obtain ⟨ge, oe, hAe, hge, _, e0, _⟩ := HL3.out i hi
                injection hAe with hAe
                injection hAe with hge1 hoe1
                subst hge1 hoe1
                rw [hy3, ← hj] at e0 hxi
                rw [Nat.zero_add] at e0
                have HXI := Lib.hid hxi
                have hjm : j < m := by omega
                have hjs : j ≤ 60 := by have := HI3.out.n60; omega
                clear hxi hy1 hy2 hy3 hj hge
                have k0 := HM3.out.r0
                have k1 := HM3.out.r1
                have rf0 := HM3.out.rf0
                have rf1 := HM3.out.rf1
                have hlr_HM3 := HM3.out.h3
                by_cases hr30 : r < 30
                · have hrI : (r : Int) < 30 := by omega
                  obtain ⟨av, hav⟩ : ∃ v, v = atV code (r * 7 + i) := ⟨_, rfl⟩
                  have hav0 : 0 ≤ av ∧ av ≤ 255 := by rw [hav]; exact atV_le HB.out _
                  obtain ⟨hav1, hav2⟩ := hav0
                  have HAV := Lib.hid hav
                  have HIX : Hid ((r : Int) * 7 + (i : Int) = ((r * 7 + i : Nat) : Int)) := Lib.hid (by omega)
                  clear hav
                  by_cases h3 : av % 3 = 0
                  ·
                    have h3b_ : (av % 3 == 0) = true := by simp [h3]
                    go_wp2_with (go_at_call 37; refine Calls.mono (at_i AC cc code (r * 7 + i) _ _ (by omega) (HX.out.below HM3.out.below) hcl HB.out (by omega)) ?_; rw [← HAV.out]; rintro e w' ⟨rfl, rfl⟩)
                    go_wp2
                    go_roundw
                    case rel => exact ⟨i + 1, rr3, ps3, g3, cl3, A3, c3, T3, got3, by go_num, by omega, rfl, HGT, HI3, HM3, HL3, hne3, hglw, Lib.hid (fun h30 => by omega)⟩
                    case measure => simp [intOf]; omega
                  ·
                    have h3b_ : (av % 3 == 0) = false := by simp [h3]
                    go_wp2_with (first | (go_at_call 37; refine Calls.mono (at_i AC cc code (r * 7 + i) _ _ (by omega) (HX.out.below HM3.out.below) hcl HB.out (by omega)) ?_; rw [← HAV.out]; rintro e w' ⟨rfl, rfl⟩) | fail)
                    obtain ⟨r4, qs, hrc, hr4⟩ := rcv_can f HI3.out.srt HI3.out.rn (by have := HI3.out.na; have := HI3.out.ar; omega) HI3.out.n60 (show j < m by omega)
                    have HR4 := Lib.hid hr4
                    obtain ⟨out, hout⟩ : ∃ o, o = (List.range' rr3 (r4 - rr3)).map (fun (i : Nat) => [(i : Int)]) := ⟨_, rfl⟩
                    rw [← hout] at hrc
                    have HRC := Lib.hid hrc
                    have HOUT := Lib.hid hout
                    have HOL : Hid (out.length ≤ 60) := Lib.hid (by rw [hout]; have h1 := hr4.2.1; have h2 := HI3.out.n60; simp; omega)
                    have HPL : Hid (ps3.length ≤ 100) := Lib.hid (by have h1 := HI3.out.srt.len; have h2 := HI3.out.n60; rcases h1 with h1 | h1; omega; rw [h1]; simp)
                    have HGL : Hid (got3.length ≤ 60) := Lib.hid (by rw [HGT.out, gotL_len]; have h1 := HI3.out.rn; have h2 := HI3.out.n60; omega)
                    clear hrc hr4 hout
                    have hwu : IntKind.u8.wrap (j : Int) = (j : Int) := by rw [IntKind.wrap_u8]; omega
                    have HWR : Hid (IntKind.i64.wrap (sq f j - f) = sq f j - f) := Lib.hid (by rw [IntKind.wrap_i64]; have := sq_bd f j; omega)
                    have HMOD : Hid ((sq f j - f) % 4096 = (j : Int)) := Lib.hid (by unfold sq; omega)
                    go_wp2_with (go_at_call 41; (first | rw [HWR.out] | rw [wrap64_eq, HWR.out]); refine (specMod_any (sq f j - f) 4096 (by unfold I64; have := sq_bd f j; omega) rfl _).mono ?_; rw [HMOD.out]; rintro e w' ⟨rfl, rfl⟩)
                    refine wp_region_G [10, 11, 13, 14] (S := (fun w' => w'.cell? ⟨w2.heap.size, 0, none⟩ = some (.int .i64 (sq f rr3)) ∧ w'.cell? ⟨w2.heap.size, 1, none⟩ = some (.slice A3 (can f ps3).length c3) ∧ w'.cell? ⟨gl, i, none⟩ = some (.int .i64 (sq f j)))) (by kernel_rfl) ?_ (fun hHeld => ?_)
                    · first | exact ⟨k0, k1, e0⟩ | exact ⟨(World.cell?_alloc_lt _ _ _ (by simp only; omega)).trans k0, (World.cell?_alloc_lt _ _ _ (by simp only; omega)).trans k1, (World.cell?_alloc_lt _ _ _ (by simp only; omega)).trans e0⟩
                    refine wpAnyG_takeW [8, 9, 10, 11, 13, 14] (i := 0) (d := some 82) (v := ?_) (by simp only [List.getElem?_toArray, List.getElem?_cons_succ, List.getElem?_cons_zero]; rfl) (by rfl) (by kernel_rfl) (by kernel_rfl) (by kernel_rfl) (by kernel_rfl) (by kernel_rfl) (by intro _ _ _ h; exact h) (by rfl) ?_ (by assumption) ?_
                    rotate_left 1
                    · (intro w hSw; (try dsimp only at hSw); go_simp; try (with_reducible rfl))
                    (try simp only [Act.put, List.setIfInBounds_toArray, List.set_cons_zero, List.set_cons_succ])
                    refine wpAnyG_takeW [3, 4, 8, 9, 10, 11, 13, 14] (i := 1) (d := some 83) (v := ?_) (by simp only [List.getElem?_toArray, List.getElem?_cons_succ, List.getElem?_cons_zero]; rfl) (by rfl) (by kernel_rfl) (by kernel_rfl) (by kernel_rfl) (by kernel_rfl) (by kernel_rfl) (by intro _ _ _ h; exact h) (by rfl) ?_ (by assumption) ?_
                    rotate_left 1
                    · (intro w hSw; (try dsimp only at hSw); go_simp; try (with_reducible rfl))
                    (try simp only [Act.put, List.setIfInBounds_toArray, List.set_cons_zero, List.set_cons_succ])
                    refine wpAnyG_takeW [3, 4, 8, 9, 10, 11, 13, 14] (i := 2) (d := some 84) (v := ?_) (by simp only [List.getElem?_toArray, List.getElem?_cons_succ, List.getElem?_cons_zero]; rfl) (by rfl) (by kernel_rfl) (by kernel_rfl) (by kernel_rfl) (by kernel_rfl) (by kernel_rfl) (by intro _ _ _ h; exact h) (by rfl) ?_ (by assumption) ?_
                    rotate_left 1
                    · (intro w hSw; (try dsimp only at hSw); go_simp; try (with_reducible rfl))
                    (try simp only [Act.put, List.setIfInBounds_toArray, List.set_cons_zero, List.set_cons_succ])
                    refine wpAnyG_takeW [4, 8, 9, 10, 11, 13, 14] (i := 3) (d := some 85) (v := ?_) (by simp only [List.getElem?_toArray, List.getElem?_cons_succ, List.getElem?_cons_zero]; rfl) (by rfl) (by kernel_rfl) (by kernel_rfl) (by kernel_rfl) (by kernel_rfl) (by kernel_rfl) (by intro _ _ _ h; exact h) (by rfl) ?_ (by assumption) ?_
                    rotate_left 1
                    · (intro w hSw; (try dsimp only at hSw); go_simp; try (with_reducible rfl))
                    (try simp only [Act.put, List.setIfInBounds_toArray, List.set_cons_zero, List.set_cons_succ])
                    refine wpAnyG_takeW [8, 9, 10, 11, 13, 14] (i := 4) (d := some 86) (v := ?_) (by simp only [List.getElem?_toArray, List.getElem?_cons_succ, List.getElem?_cons_zero]; rfl) (by rfl) (by kernel_rfl) (by kernel_rfl) (by kernel_rfl) (by kernel_rfl) (by kernel_rfl) (by intro _ _ _ h; exact h) (by rfl) ?_ (by assumption) ?_
                    rotate_left 1
                    · (intro w hSw; (try dsimp only at hSw); go_simp; try (with_reducible rfl))
                    (try simp only [Act.put, List.setIfInBounds_toArray, List.set_cons_zero, List.set_cons_succ])
                    refine wpAnyG_takeW [6, 7, 8, 9, 10, 11, 13, 14] (i := 5) (d := some 87) (v := ?_) (by simp only [List.getElem?_toArray, List.getElem?_cons_succ, List.getElem?_cons_zero]; rfl) (by rfl) (by kernel_rfl) (by kernel_rfl) (by kernel_rfl) (by kernel_rfl) (by kernel_rfl) (by intro _ _ _ h; exact h) (by rfl) ?_ (by assumption) ?_
                    rotate_left 1
                    · (intro w hSw; (try dsimp only at hSw); go_simp; try (with_reducible rfl))
                    (try simp only [Act.put, List.setIfInBounds_toArray, List.set_cons_zero, List.set_cons_succ])
                    refine wpAnyG_takeW [7, 8, 9, 10, 11, 13, 14] (i := 6) (d := some 88) (v := ?_) (by simp only [List.getElem?_toArray, List.getElem?_cons_succ, List.getElem?_cons_zero]; rfl) (by rfl) (by kernel_rfl) (by kernel_rfl) (by kernel_rfl) (by kernel_rfl) (by kernel_rfl) (by intro _ _ _ h; exact h) (by rfl) ?_ (by assumption) ?_
                    rotate_left 1
                    · (intro w hSw; (try dsimp only at hSw); go_simp; try (with_reducible rfl))
                    (try simp only [Act.put, List.setIfInBounds_toArray, List.set_cons_zero, List.set_cons_succ])
                    refine wpAnyG_ready (rs := [7, 12]) (by kernel_rfl) (by simp) ?_
                    refine (AllReadyG.cons (i := 7) (by simp only [List.getElem?_toArray, List.getElem?_cons_succ, List.getElem?_cons_zero]; rfl) (fun K hK => ?_) (AllReadyG.cons (i := 12) (by simp only [List.getElem?_toArray, List.getElem?_cons_succ, List.getElem?_cons_zero]; rfl) (fun K hK => ?_) AllReadyG.nil))
                    · go_simp
                      go_wp2_with fail
                      refine hK.out _ _ (fun _ => ?_) (fun hHeld => ?_)
                      · ((try dsimp only); first | exact ⟨k0, k1, e0⟩ | exact ⟨(World.cell?_alloc_lt _ _ _ (by simp only; omega)).trans k0, (World.cell?_alloc_lt _ _ _ (by simp only; omega)).trans k1, (World.cell?_alloc_lt _ _ _ (by simp only; omega)).trans e0⟩)
                      replace hHeld := hHeld (by rfl)
                      clear hK K
                      (try simp only [Act.put, List.setIfInBounds_toArray, List.set_cons_zero, List.set_cons_succ])
                      obtain ⟨v1, hv⟩ : ∃ v, v = (wb.alloc (.cells #[.int .u8 (j : Int)] 5)).drew := ⟨_, rfl⟩
                      rw [← hv] at hHeld ⊢
                      have hbv : Below wb.heap.size wb v1 := by rw [hv]; exact Below.drew (Below.alloc (Below.refl _ _) (Nat.le_refl _) _)
                      have hzv1 : wb.heap.size < v1.heap.size := by rw [hv]; simp
                      obtain ⟨g7, hg7⟩ : ∃ g, g = wb.heap.size := ⟨_, rfl⟩
                      have hbk : v1.heap[g7]? = some (.cells #[.int .u8 (j : Int)] 5) := by rw [hv, hg7]; exact World.heap_new _ _ _ rfl
                      replace k0 := (hbv.cell (p := ⟨w2.heap.size, 0, none⟩) (by simp only; omega)).trans k0
                      replace k1 := (hbv.cell (p := ⟨w2.heap.size, 1, none⟩) (by simp only; omega)).trans k1
                      replace e0 := (hbv.cell (p := ⟨gl, i, none⟩) (by simp only; omega)).trans e0
                      have hsv1 := hbv.size
                      have HBVv1 := Lib.hid (hbv)
                      have c7 := (block_cell hbk 0).1
                      clear hv hbv hbk
                      rw [← hg7]
                      have hg71 : wb.heap.size ≤ g7 := Nat.le_of_eq hg7.symm
                      have hg72 : g7 < v1.heap.size := by omega
                      clear hg7
                      refine wpAnyG_ready (rs := [8, 12]) (by kernel_rfl) (by simp) ?_
                      refine (AllReadyG.cons (i := 8) (by simp only [List.getElem?_toArray, List.getElem?_cons_succ, List.getElem?_cons_zero]; rfl) (fun K hK => ?_) (AllReadyG.cons (i := 12) (by simp only [List.getElem?_toArray, List.getElem?_cons_succ, List.getElem?_cons_zero]; rfl) (fun K hK => ?_) AllReadyG.nil))
                      · go_simp
                        refine (implRN_any (T := T3) (Tb := fun b => b = g7) (sq f rr3) A3 c3 (can f ps3) (sq f j) (some ⟨g7, 0, none⟩) 1 [(j : Int)] _ (HM3.out.row.below EN.framed HBVv1.out) (by rw [can_len]; have := HPL.out; omega) (fun x hx => by obtain ⟨p, hp, rfl⟩ := can_mem hx; simp) (fun k' hk' => by obtain rfl : k' = 0 := (by simpa using hk'); exact ⟨g7, 0, rfl, rfl, by omega, c7, fun h => by cases h⟩) (by simp)).mono ?_
                        rw [HRC.out]
                        rintro e v2 ⟨A2, c2, gb, cb, T1, T2, rfl, hbv, hcap2, hd1, hd2, hp2, ho2, hT2⟩
                        have hgb := hd2 gb hT2
                        have HD1 := Lib.hid (fun b h => (⟨(hd1 b h).1, (hd1 b h).2.1⟩ : _ ∧ _))
                        have HD2 := Lib.hid hd2
                        replace k0 := (hbv.cell (p := ⟨w2.heap.size, 0, none⟩) (by simp only; omega)).trans k0
                        replace k1 := (hbv.cell (p := ⟨w2.heap.size, 1, none⟩) (by simp only; omega)).trans k1
                        replace e0 := (hbv.cell (p := ⟨gl, i, none⟩) (by simp only; omega)).trans e0
                        have hsv2 := hbv.size
                        replace c7 := (hbv.cell (p := ⟨g7, 0, none⟩) (by simp only; omega)).trans c7
                        have HBVv2 := Lib.hid (HBVv1.out.trans (hbv.mono HBVv1.out.size))
                        have HP2 := Lib.hid (SlN.read hp2)
                        have HO2 := Lib.hid (SlB.read (u := true) (ho2.slT (fun a ha => by injection ha with ha; subst ha; exact hT2)))
                        clear hbv hcap2 hd1 hd2 hp2 ho2 hT2
                        go_wp2_with fail
                        refine hK.out _ _ (fun _ => ?_) (fun hHeld => ?_)
                        · ((try dsimp only); first | exact ⟨k0, k1, e0⟩ | exact ⟨(World.cell?_alloc_lt _ _ _ (by simp only; omega)).trans k0, (World.cell?_alloc_lt _ _ _ (by simp only; omega)).trans k1, (World.cell?_alloc_lt _ _ _ (by simp only; omega)).trans e0⟩)
                        replace hHeld := hHeld (by rfl)
                        clear hK K
                        (try simp only [Act.put, List.setIfInBounds_toArray, List.set_cons_zero, List.set_cons_succ])
                        refine wpAnyG_takeW [10, 11, 13, 14] (i := 9) (d := some 81) (v := ?_) (by simp only [List.getElem?_toArray, List.getElem?_cons_succ, List.getElem?_cons_zero]; rfl) (by rfl) (by kernel_rfl) (by kernel_rfl) (by kernel_rfl) (by kernel_rfl) (by kernel_rfl) (by intro _ _ _ h; exact h) (by rfl) ?_ (by assumption) ?_
                        rotate_left 1
                        · (intro w hSw; (try dsimp only at hSw); go_simp; try (with_reducible rfl))
                        (try simp only [Act.put, List.setIfInBounds_toArray, List.set_cons_zero, List.set_cons_succ])
                        refine wpAnyG_takeP (i := 10) (d := some 91) (v := ?_) (by simp only [List.getElem?_toArray, List.getElem?_cons_succ, List.getElem?_cons_zero]; rfl) (by rfl) (by kernel_rfl) (by kernel_rfl) (by kernel_rfl) (by kernel_rfl) (by intro _ _ _ h; exact h) (by rfl) ?_ ?_
                        rotate_left 1
                        · (intro w hSw; (try dsimp only at hSw); go_simp; try (with_reducible rfl))
                        (try simp only [Act.put, List.setIfInBounds_toArray, List.set_cons_zero, List.set_cons_succ])
                        refine wpAnyG_takeP (i := 11) (d := some 92) (v := ?_) (by simp only [List.getElem?_toArray, List.getElem?_cons_succ, List.getElem?_cons_zero]; rfl) (by rfl) (by kernel_rfl) (by kernel_rfl) (by kernel_rfl) (by kernel_rfl) (by intro _ _ _ h; exact h) (by rfl) ?_ ?_
                        rotate_left 1
                        · (intro w hSw; (try dsimp only at hSw); go_simp; try (with_reducible rfl))
                        (try simp only [Act.put, List.setIfInBounds_toArray, List.set_cons_zero, List.set_cons_succ])
                        refine wpAnyG_ready (rs := [12]) (by kernel_rfl) (by simp) ?_
                        refine (AllReadyG.cons (i := 12) (by simp only [List.getElem?_toArray, List.getElem?_cons_succ, List.getElem?_cons_zero]; rfl) (fun K hK => ?_) AllReadyG.nil)
                        go_simp
                        go_wp2_with fail
                        refine hK.out _ _ (fun _ => ?_) (fun hHeld => ?_)
                        · ((try dsimp only); first | exact ⟨k0, k1, e0⟩ | exact ⟨(World.cell?_alloc_lt _ _ _ (by simp only; omega)).trans k0, (World.cell?_alloc_lt _ _ _ (by simp only; omega)).trans k1, (World.cell?_alloc_lt _ _ _ (by simp only; omega)).trans e0⟩)
                        replace hHeld := hHeld (by rfl)
                        clear hK K
                        (try simp only [Act.put, List.setIfInBounds_toArray, List.set_cons_zero, List.set_cons_succ])
                        obtain ⟨v3, hv⟩ : ∃ v, v = v2.alloc (.cells #[.int .i64 0, .slice none 0 0] 28) := ⟨_, rfl⟩
                        rw [← hv] at hHeld ⊢
                        have hbv : Below v2.heap.size v2 v3 := by rw [hv]; exact Below.alloc (Below.refl _ _) (Nat.le_refl _) _
                        have hzv3 : v2.heap.size < v3.heap.size := by rw [hv]; simp
                        obtain ⟨gx, hgx⟩ : ∃ g, g = v2.heap.size := ⟨_, rfl⟩
                        have hbk : v3.heap[gx]? = some (.cells #[.int .i64 0, .slice none 0 0] 28) := by rw [hv, hgx]; exact World.heap_new _ _ _ rfl
                        replace k0 := (hbv.cell (p := ⟨w2.heap.size, 0, none⟩) (by simp only; omega)).trans k0
                        replace k1 := (hbv.cell (p := ⟨w2.heap.size, 1, none⟩) (by simp only; omega)).trans k1
                        replace e0 := (hbv.cell (p := ⟨gl, i, none⟩) (by simp only; omega)).trans e0
                        have hsv3 := hbv.size
                        replace c7 := (hbv.cell (p := ⟨g7, 0, none⟩) (by simp only; omega)).trans c7
                        replace HP2 := Lib.hid (Sl.below (R := EN false) EN.framed HP2.out hbv)
                        replace HO2 := Lib.hid (Sl.below (R := EB false) EB.framed HO2.out hbv)
                        have HBVv3 := Lib.hid (HBVv2.out.trans (hbv.mono HBVv2.out.size))
                        have x0 := (block_cell hbk 0).1
                        have x1 := (block_cell hbk 1).1
                        have xf0 := (block_cell hbk 0).2
                        have xf1 := (block_cell hbk 1).2
                        clear hv hbv hbk
                        rw [← hgx]
                        have hgx1 : v2.heap.size ≤ gx := Nat.le_of_eq hgx.symm
                        have hgx2 : gx < v3.heap.size := by omega
                        clear hgx
                        refine wpAnyG_ready (rs := [13]) (by kernel_rfl) (by simp) ?_
                        refine (AllReadyG.cons (i := 13) (by simp only [List.getElem?_toArray, List.getElem?_cons_succ, List.getElem?_cons_zero]; rfl) (fun K hK => ?_) AllReadyG.nil)
                        go_simp
                        go_wp2_with fail
                        refine hK.out _ _ (fun h => by cases h) (fun _ => ?_)
                        clear hK K
                        (try simp only [Act.put, List.setIfInBounds_toArray, List.set_cons_zero, List.set_cons_succ])
                        refine wpAnyG_takeP (i := 14) (d := some 17) (v := ?_) (by simp only [List.getElem?_toArray, List.getElem?_cons_succ, List.getElem?_cons_zero]; rfl) (by rfl) (by kernel_rfl) (by kernel_rfl) (by kernel_rfl) (by kernel_rfl) (by intro _ _ _ h; exact h) (by rfl) ?_ ?_
                        rotate_left 1
                        · (intro w hSw; (try dsimp only at hSw); go_simp; try (with_reducible rfl))
                        (try simp only [Act.put, List.setIfInBounds_toArray, List.set_cons_zero, List.set_cons_succ])
                        refine wpAnyG_done (by kernel_rfl) ?_ _
                        obtain ⟨v4, hv4⟩ : ∃ v, v = ((v3.setCell ⟨gx, 0, none⟩ (.int .i64 (sq f r4))).setCell ⟨gx, 1, none⟩ (.slice A2 (can f qs).length c2)) := ⟨_, rfl⟩
                        have hcx : Chg (fun b => b = gx) v3 v4 := by rw [hv4]; exact Chg.setCell_ (S := fun b => b = gx) (Chg.setCell_ (S := fun b => b = gx) (Chg.refl _ _) (p := ⟨gx, 0, none⟩) rfl _) (p := ⟨gx, 1, none⟩) rfl _
                        have hs4 := hcx.size
                        have x0' : v4.cell? ⟨gx, 0, none⟩ = some (.int .i64 (sq f r4)) := by rw [hv4, World.cell?_setCell_other _ _ _ _ (fun e => by injection e with _ e2; omega)]; exact World.cell?_setCell_same _ _ _ x0
                        have x1' : v4.cell? ⟨gx, 1, none⟩ = some (.slice A2 (can f qs).length c2) := by rw [hv4]; exact World.cell?_setCell_same (u := .slice none 0 0) _ _ _ (by rw [World.cell?_setCell_other _ _ _ _ (fun e => by injection e with _ e2; omega)]; exact x1)
                        have HM4 := Lib.hid (HM3.out.chg (S := fun b => wb.heap.size ≤ b) ((Chg.of_below HBVv3.out).trans (hcx.mono (fun b _ hb => by omega))) (fun b hb => hb))
                        have HP4 := Lib.hid (Sl.frame (R := EN false) EN.framed HP2.out hcx (fun b h1 h2 => by have := HD1.out b h1; omega))
                        have HO4 := Lib.hid (Sl.frame (R := EB false) EB.framed HO2.out hcx (fun b h1 h2 => by have := HD2.out b h1; omega))
                        have HL4 := Lib.hid (HL3.out.frame ((Chg.of_below (S := fun b => wb.heap.size ≤ b) HBVv3.out).trans (hcx.mono (fun b _ hb => by omega))) (fun b h1 h2 => by omega))
                        rw [← hv4]
                        clear hv4 hcx x0 x1 xf0 xf1 k0 k1 e0 c7 HM3 HL3
                        have k0 := HM4.out.r0
                        have k1 := HM4.out.r1
                        have rf0 := HM4.out.rf0
                        have rf1 := HM4.out.rf1
                        have hlr_HM4 := HM4.out.h3
                        have HM5 := Lib.hid (HM4.out.setR (rs' := sq f r4) (A' := A2) (c' := c2) (ys' := can f qs) (T' := T1) HP4.out (fun b hb => by have := HD1.out b hb; exact ⟨by omega, by omega, by omega⟩))
                        have hcr : Chg (fun b => b = w2.heap.size) v4 ((v4.setCell ⟨w2.heap.size, 0, none⟩ (.int .i64 (sq f r4))).setCell ⟨w2.heap.size, 1, none⟩ (.slice A2 (can f qs).length c2)) := Chg.setCell_ (S := fun b => b = w2.heap.size) (Chg.setCell_ (S := fun b => b = w2.heap.size) (Chg.refl _ _) (p := ⟨w2.heap.size, 0, none⟩) rfl _) (p := ⟨w2.heap.size, 1, none⟩) rfl _
                        have hsr := hcr.size
                        have HO5 := Lib.hid (Sl.frame (R := EB false) EB.framed HO4.out hcr (fun b h1 h2 => by have := HD2.out b h1; omega))
                        have HL5 := Lib.hid (HL4.out.frame hcr (fun b h1 h2 => by omega))
                        have HSRC : Hid (Src false 1 (EB false) ((v4.setCell ⟨w2.heap.size, 0, none⟩ (.int .i64 (sq f r4))).setCell ⟨w2.heap.size, 1, none⟩ (.slice A2 (can f qs).length c2)) (fun b => w2.heap.size < b) (fun b => w2.heap.size < b) g3 (some ⟨gb, 0, none⟩) out) := Lib.hid (Sl.src (Sl.wider HO5.out (T' := fun b => w2.heap.size < b ∧ b < ((v4.setCell ⟨w2.heap.size, 0, none⟩ (.int .i64 (sq f r4))).setCell ⟨w2.heap.size, 1, none⟩ (.slice A2 (can f qs).length c2)).heap.size ∧ b ≠ g3) (fun b hb => by have := HD2.out b hb; exact ⟨by omega, by omega, by omega⟩)) (fun b hb => ⟨hb.2.1, hb.2.2, fun h => by cases h⟩) |>.imp_ (fun b hb => hb.1))
                        go_wp2_with (at_builtin; refine wpList_appW (R := EB false) (u := false) (w0 := ((v4.setCell ⟨w2.heap.size, 0, none⟩ (.int .i64 (sq f r4))).setCell ⟨w2.heap.size, 1, none⟩ (.slice A2 (can f qs).length c2))) (xs := got3) (ys := out) (T := fun b => w2.heap.size < b) (Fn := fun b => w2.heap.size < b) rfl EB.mov EB.cls (.tmp 94) (.tmp 95) 29 rfl 38 i0 (.slice none 0 0) 24 Try.underlying29 hI0 hz0 hz1 hz2 rfl (by decide) rfl HM5.out.own (Below.refl _ _) rfl HSRC.out (by have h1 := HGL.out; have h2 := HOL.out; omega) (by decide) (by omega) ?_)
                        intro g9 c9 w9 l9 HQ9 HO9 HG9 HC9 HB9
                        have hs9 := HC9.out.size
                        have hl9 := HO9.out.lt
                        have HM9 := Lib.hid (HM5.out.app HC9.out HG9.out (HO9.out.widerT (fun b h _ => h.elim id id)))
                        have HG9n : Hid (g9 ≠ gl) := Lib.hid (by rcases HG9.out with h | h <;> omega)
                        have HL9 := Lib.hid (HL5.out.frame HC9.out (fun b h1 h2 => by omega))
                        have hgt9 : l9 = gotL r4 := by rw [HQ9.out, HGT.out, HOUT.out]; exact gotL_app (by have := HR4.out; omega)
                        have HGT9 := Lib.hid hgt9
                        clear hgt9 HC9 HB9 HG9 HSRC HM5 HM4 HO5 HO4 HP4 HL4 HL5 hcr
                        go_wp2
                        go_roundw
                        case rel => exact ⟨i + 1, r4, qs, g9, c9, A2, c2, T1, l9, by go_num, by omega, rfl, HGT9, Lib.hid (HI3.out.recv HR4.out.1 HR4.out.2.1 HR4.out.2.2.1 HR4.out.2.2.2), HM9, HL9, HG9n.out, by omega, Lib.hid (fun h30 j' x' hj' hx' => by
                            rcases Nat.lt_or_ge j' i with h | h
                            · obtain ⟨p, h1, h2⟩ := HRV.out h30 j' x' h hx'
                              exact ⟨p, h1, (HR4.out.2.2.2 p).2 (h2.imp id .inl)⟩
                            · obtain rfl : j' = i := by omega
                              rw [HXI.out] at hx'
                              injection hx' with hx'
                              exact ⟨j, hx'.symm, (HR4.out.2.2.2 j).2 (.inr (.inr rfl))⟩)⟩
                        case measure => simp [intOf]; omega
                      · go_simp
                        go_wp2_with fail
                        refine hK.out _ _ (fun _ => ?_) (fun hHeld => ?_)
                        · ((try dsimp only); first | exact ⟨k0, k1, e0⟩ | exact ⟨(World.cell?_alloc_lt _ _ _ (by simp only; omega)).trans k0, (World.cell?_alloc_lt _ _ _ (by simp only; omega)).trans k1, (World.cell?_alloc_lt _ _ _ (by simp only; omega)).trans e0⟩)
                        replace hHeld := hHeld (by rfl)
                        clear hK K
                        (try simp only [Act.put, List.setIfInBounds_toArray, List.set_cons_zero, List.set_cons_succ])
                        obtain ⟨v2, hv⟩ : ∃ v, v = v1.alloc (.cells #[.int .i64 0, .slice none 0 0] 28) := ⟨_, rfl⟩
                        rw [← hv] at hHeld ⊢
                        have hbv : Below v1.heap.size v1 v2 := by rw [hv]; exact Below.alloc (Below.refl _ _) (Nat.le_refl _) _
                        have hzv2 : v1.heap.size < v2.heap.size := by rw [hv]; simp
                        obtain ⟨gx, hgx⟩ : ∃ g, g = v1.heap.size := ⟨_, rfl⟩
                        have hbk : v2.heap[gx]? = some (.cells #[.int .i64 0, .slice none 0 0] 28) := by rw [hv, hgx]; exact World.heap_new _ _ _ rfl
                        replace k0 := (hbv.cell (p := ⟨w2.heap.size, 0, none⟩) (by simp only; omega)).trans k0
                        replace k1 := (hbv.cell (p := ⟨w2.heap.size, 1, none⟩) (by simp only; omega)).trans k1
                        replace e0 := (hbv.cell (p := ⟨gl, i, none⟩) (by simp only; omega)).trans e0
                        have hsv2 := hbv.size
                        replace c7 := (hbv.cell (p := ⟨g7, 0, none⟩) (by simp only; omega)).trans c7
                        have HBVv2 := Lib.hid (HBVv1.out.trans (hbv.mono HBVv1.out.size))
                        have x0 := (block_cell hbk 0).1
                        have x1 := (block_cell hbk 1).1
                        have xf0 := (block_cell hbk 0).2
                        have xf1 := (block_cell hbk 1).2
                        clear hv hbv hbk
                        rw [← hgx]
                        have hgx1 : v1.heap.size ≤ gx := Nat.le_of_eq hgx.symm
                        have hgx2 : gx < v2.heap.size := by omega
                        clear hgx
                        refine wpAnyG_ready (rs := [8]) (by kernel_rfl) (by simp) ?_
                        refine (AllReadyG.cons (i := 8) (by simp only [List.getElem?_toArray, List.getElem?_cons_succ, List.getElem?_cons_zero]; rfl) (fun K hK => ?_) AllReadyG.nil)
                        go_simp
                        refine (implRN_any (T := T3) (Tb := fun b => b = g7) (sq f rr3) A3 c3 (can f ps3) (sq f j) (some ⟨g7, 0, none⟩) 1 [(j : Int)] _ (HM3.out.row.below EN.framed HBVv2.out) (by rw [can_len]; have := HPL.out; omega) (fun x hx => by obtain ⟨p, hp, rfl⟩ := can_mem hx; simp) (fun k' hk' => by obtain rfl : k' = 0 := (by simpa using hk'); exact ⟨g7, 0, rfl, rfl, by omega, c7, fun h => by cases h⟩) (by simp)).mono ?_
                        rw [HRC.out]
                        rintro e v3 ⟨A2, c2, gb, cb, T1, T2, rfl, hbv, hcap2, hd1, hd2, hp2, ho2, hT2⟩
                        have hgb := hd2 gb hT2
                        have HD1 := Lib.hid (fun b h => (⟨(hd1 b h).1, (hd1 b h).2.1⟩ : _ ∧ _))
                        have HD2 := Lib.hid hd2
                        replace k0 := (hbv.cell (p := ⟨w2.heap.size, 0, none⟩) (by simp only; omega)).trans k0
                        replace k1 := (hbv.cell (p := ⟨w2.heap.size, 1, none⟩) (by simp only; omega)).trans k1
                        replace e0 := (hbv.cell (p := ⟨gl, i, none⟩) (by simp only; omega)).trans e0
                        have hsv3 := hbv.size
                        replace c7 := (hbv.cell (p := ⟨g7, 0, none⟩) (by simp only; omega)).trans c7
                        replace x0 := (hbv.cell (p := ⟨gx, 0, none⟩) (by simp only; omega)).trans x0
                        replace x1 := (hbv.cell (p := ⟨gx, 1, none⟩) (by simp only; omega)).trans x1
                        replace xf0 := (hbv.frozen (p := ⟨gx, 0, none⟩) (by simp only; omega)).trans xf0
                        replace xf1 := (hbv.frozen (p := ⟨gx, 1, none⟩) (by simp only; omega)).trans xf1
                        have HBVv3 := Lib.hid (HBVv2.out.trans (hbv.mono HBVv2.out.size))
                        have HP2 := Lib.hid (SlN.read hp2)
                        have HO2 := Lib.hid (SlB.read (u := true) (ho2.slT (fun a ha => by injection ha with ha; subst ha; exact hT2)))
                        clear hbv hcap2 hd1 hd2 hp2 ho2 hT2
                        go_wp2_with fail
                        refine hK.out _ _ (fun _ => ?_) (fun hHeld => ?_)
                        · ((try dsimp only); first | exact ⟨k0, k1, e0⟩ | exact ⟨(World.cell?_alloc_lt _ _ _ (by simp only; omega)).trans k0, (World.cell?_alloc_lt _ _ _ (by simp only; omega)).trans k1, (World.cell?_alloc_lt _ _ _ (by simp only; omega)).trans e0⟩)
                        replace hHeld := hHeld (by rfl)
                        clear hK K
                        (try simp only [Act.put, List.setIfInBounds_toArray, List.set_cons_zero, List.set_cons_succ])
                        refine wpAnyG_takeW [10, 11, 13, 14] (i := 9) (d := some 81) (v := ?_) (by simp only [List.getElem?_toArray, List.getElem?_cons_succ, List.getElem?_cons_zero]; rfl) (by rfl) (by kernel_rfl) (by kernel_rfl) (by kernel_rfl) (by kernel_rfl) (by kernel_rfl) (by intro _ _ _ h; exact h) (by rfl) ?_ (by assumption) ?_
                        rotate_left 1
                        · (intro w hSw; (try dsimp only at hSw); go_simp; try (with_reducible rfl))
                        (try simp only [Act.put, List.setIfInBounds_toArray, List.set_cons_zero, List.set_cons_succ])
                        refine wpAnyG_takeP (i := 10) (d := some 91) (v := ?_) (by simp only [List.getElem?_toArray, List.getElem?_cons_succ, List.getElem?_cons_zero]; rfl) (by rfl) (by kernel_rfl) (by kernel_rfl) (by kernel_rfl) (by kernel_rfl) (by intro _ _ _ h; exact h) (by rfl) ?_ ?_
                        rotate_left 1
                        · (intro w hSw; (try dsimp only at hSw); go_simp; try (with_reducible rfl))
                        (try simp only [Act.put, List.setIfInBounds_toArray, List.set_cons_zero, List.set_cons_succ])
                        refine wpAnyG_takeP (i := 11) (d := some 92) (v := ?_) (by simp only [List.getElem?_toArray, List.getElem?_cons_succ, List.getElem?_cons_zero]; rfl) (by rfl) (by kernel_rfl) (by kernel_rfl) (by kernel_rfl) (by kernel_rfl) (by intro _ _ _ h; exact h) (by rfl) ?_ ?_
                        rotate_left 1
                        · (intro w hSw; (try dsimp only at hSw); go_simp; try (with_reducible rfl))
                        (try simp only [Act.put, List.setIfInBounds_toArray, List.set_cons_zero, List.set_cons_succ])
                        refine wpAnyG_ready (rs := [13]) (by kernel_rfl) (by simp) ?_
                        refine (AllReadyG.cons (i := 13) (by simp only [List.getElem?_toArray, List.getElem?_cons_succ, List.getElem?_cons_zero]; rfl) (fun K hK => ?_) AllReadyG.nil)
                        go_simp
                        go_wp2_with fail
                        refine hK.out _ _ (fun h => by cases h) (fun _ => ?_)
                        clear hK K
                        (try simp only [Act.put, List.setIfInBounds_toArray, List.set_cons_zero, List.set_cons_succ])
                        refine wpAnyG_takeP (i := 14) (d := some 17) (v := ?_) (by simp only [List.getElem?_toArray, List.getElem?_cons_succ, List.getElem?_cons_zero]; rfl) (by rfl) (by kernel_rfl) (by kernel_rfl) (by kernel_rfl) (by kernel_rfl) (by intro _ _ _ h; exact h) (by rfl) ?_ ?_
                        rotate_left 1
                        · (intro w hSw; (try dsimp only at hSw); go_simp; try (with_reducible rfl))
                        (try simp only [Act.put, List.setIfInBounds_toArray, List.set_cons_zero, List.set_cons_succ])
                        refine wpAnyG_done (by kernel_rfl) ?_ _
                        obtain ⟨v4, hv4⟩ : ∃ v, v = ((v3.setCell ⟨gx, 0, none⟩ (.int .i64 (sq f r4))).setCell ⟨gx, 1, none⟩ (.slice A2 (can f qs).length c2)) := ⟨_, rfl⟩
                        have hcx : Chg (fun b => b = gx) v3 v4 := by rw [hv4]; exact Chg.setCell_ (S := fun b => b = gx) (Chg.setCell_ (S := fun b => b = gx) (Chg.refl _ _) (p := ⟨gx, 0, none⟩) rfl _) (p := ⟨gx, 1, none⟩) rfl _
                        have hs4 := hcx.size
                        have x0' : v4.cell? ⟨gx, 0, none⟩ = some (.int .i64 (sq f r4)) := by rw [hv4, World.cell?_setCell_other _ _ _ _ (fun e => by injection e with _ e2; omega)]; exact World.cell?_setCell_same _ _ _ x0
                        have x1' : v4.cell? ⟨gx, 1, none⟩ = some (.slice A2 (can f qs).length c2) := by rw [hv4]; exact World.cell?_setCell_same (u := .slice none 0 0) _ _ _ (by rw [World.cell?_setCell_other _ _ _ _ (fun e => by injection e with _ e2; omega)]; exact x1)
                        have HM4 := Lib.hid (HM3.out.chg (S := fun b => wb.heap.size ≤ b) ((Chg.of_below HBVv3.out).trans (hcx.mono (fun b _ hb => by omega))) (fun b hb => hb))
                        have HP4 := Lib.hid (Sl.frame (R := EN false) EN.framed HP2.out hcx (fun b h1 h2 => by have := HD1.out b h1; omega))
                        have HO4 := Lib.hid (Sl.frame (R := EB false) EB.framed HO2.out hcx (fun b h1 h2 => by have := HD2.out b h1; omega))
                        have HL4 := Lib.hid (HL3.out.frame ((Chg.of_below (S := fun b => wb.heap.size ≤ b) HBVv3.out).trans (hcx.mono (fun b _ hb => by omega))) (fun b h1 h2 => by omega))
                        rw [← hv4]
                        clear hv4 hcx x0 x1 xf0 xf1 k0 k1 e0 c7 HM3 HL3
                        have k0 := HM4.out.r0
                        have k1 := HM4.out.r1
                        have rf0 := HM4.out.rf0
                        have rf1 := HM4.out.rf1
                        have hlr_HM4 := HM4.out.h3
                        have HM5 := Lib.hid (HM4.out.setR (rs' := sq f r4) (A' := A2) (c' := c2) (ys' := can f qs) (T' := T1) HP4.out (fun b hb => by have := HD1.out b hb; exact ⟨by omega, by omega, by omega⟩))
                        have hcr : Chg (fun b => b = w2.heap.size) v4 ((v4.setCell ⟨w2.heap.size, 0, none⟩ (.int .i64 (sq f r4))).setCell ⟨w2.heap.size, 1, none⟩ (.slice A2 (can f qs).length c2)) := Chg.setCell_ (S := fun b => b = w2.heap.size) (Chg.setCell_ (S := fun b => b = w2.heap.size) (Chg.refl _ _) (p := ⟨w2.heap.size, 0, none⟩) rfl _) (p := ⟨w2.heap.size, 1, none⟩) rfl _
                        have hsr := hcr.size
                        have HO5 := Lib.hid (Sl.frame (R := EB false) EB.framed HO4.out hcr (fun b h1 h2 => by have := HD2.out b h1; omega))
                        have HL5 := Lib.hid (HL4.out.frame hcr (fun b h1 h2 => by omega))
                        have HSRC : Hid (Src false 1 (EB false) ((v4.setCell ⟨w2.heap.size, 0, none⟩ (.int .i64 (sq f r4))).setCell ⟨w2.heap.size, 1, none⟩ (.slice A2 (can f qs).length c2)) (fun b => w2.heap.size < b) (fun b => w2.heap.size < b) g3 (some ⟨gb, 0, none⟩) out) := Lib.hid (Sl.src (Sl.wider HO5.out (T' := fun b => w2.heap.size < b ∧ b < ((v4.setCell ⟨w2.heap.size, 0, none⟩ (.int .i64 (sq f r4))).setCell ⟨w2.heap.size, 1, none⟩ (.slice A2 (can f qs).length c2)).heap.size ∧ b ≠ g3) (fun b hb => by have := HD2.out b hb; exact ⟨by omega, by omega, by omega⟩)) (fun b hb => ⟨hb.2.1, hb.2.2, fun h => by cases h⟩) |>.imp_ (fun b hb => hb.1))
                        go_wp2_with (at_builtin; refine wpList_appW (R := EB false) (u := false) (w0 := ((v4.setCell ⟨w2.heap.size, 0, none⟩ (.int .i64 (sq f r4))).setCell ⟨w2.heap.size, 1, none⟩ (.slice A2 (can f qs).length c2))) (xs := got3) (ys := out) (T := fun b => w2.heap.size < b) (Fn := fun b => w2.heap.size < b) rfl EB.mov EB.cls (.tmp 94) (.tmp 95) 29 rfl 38 i0 (.slice none 0 0) 24 Try.underlying29 hI0 hz0 hz1 hz2 rfl (by decide) rfl HM5.out.own (Below.refl _ _) rfl HSRC.out (by have h1 := HGL.out; have h2 := HOL.out; omega) (by decide) (by omega) ?_)
                        intro g9 c9 w9 l9 HQ9 HO9 HG9 HC9 HB9
                        have hs9 := HC9.out.size
                        have hl9 := HO9.out.lt
                        have HM9 := Lib.hid (HM5.out.app HC9.out HG9.out (HO9.out.widerT (fun b h _ => h.elim id id)))
                        have HG9n : Hid (g9 ≠ gl) := Lib.hid (by rcases HG9.out with h | h <;> omega)
                        have HL9 := Lib.hid (HL5.out.frame HC9.out (fun b h1 h2 => by omega))
                        have hgt9 : l9 = gotL r4 := by rw [HQ9.out, HGT.out, HOUT.out]; exact gotL_app (by have := HR4.out; omega)
                        have HGT9 := Lib.hid hgt9
                        clear hgt9 HC9 HB9 HG9 HSRC HM5 HM4 HO5 HO4 HP4 HL4 HL5 hcr
                        go_wp2
                        go_roundw
                        case rel => exact ⟨i + 1, r4, qs, g9, c9, A2, c2, T1, l9, by go_num, by omega, rfl, HGT9, Lib.hid (HI3.out.recv HR4.out.1 HR4.out.2.1 HR4.out.2.2.1 HR4.out.2.2.2), HM9, HL9, HG9n.out, by omega, Lib.hid (fun h30 j' x' hj' hx' => by
                            rcases Nat.lt_or_ge j' i with h | h
                            · obtain ⟨p, h1, h2⟩ := HRV.out h30 j' x' h hx'
                              exact ⟨p, h1, (HR4.out.2.2.2 p).2 (h2.imp id .inl)⟩
                            · obtain rfl : j' = i := by omega
                              rw [HXI.out] at hx'
                              injection hx' with hx'
                              exact ⟨j, hx'.symm, (HR4.out.2.2.2 j).2 (.inr (.inr rfl))⟩)⟩
                        case measure => simp [intOf]; omega
                    · go_simp
                      go_wp2_with fail
                      refine hK.out _ _ (fun _ => ?_) (fun hHeld => ?_)
                      · ((try dsimp only); first | exact ⟨k0, k1, e0⟩ | exact ⟨(World.cell?_alloc_lt _ _ _ (by simp only; omega)).trans k0, (World.cell?_alloc_lt _ _ _ (by simp only; omega)).trans k1, (World.cell?_alloc_lt _ _ _ (by simp only; omega)).trans e0⟩)
                      replace hHeld := hHeld (by rfl)
                      clear hK K
                      (try simp only [Act.put, List.setIfInBounds_toArray, List.set_cons_zero, List.set_cons_succ])
                      obtain ⟨v1, hv⟩ : ∃ v, v = (wb.alloc (.cells #[.int .i64 0, .slice none 0 0] 28)).drew := ⟨_, rfl⟩
                      rw [← hv] at hHeld ⊢
                      have hbv : Below wb.heap.size wb v1 := by rw [hv]; exact Below.drew (Below.alloc (Below.refl _ _) (Nat.le_refl _) _)
                      have hzv1 : wb.heap.size < v1.heap.size := by rw [hv]; simp
                      obtain ⟨gx, hgx⟩ : ∃ g, g = wb.heap.size := ⟨_, rfl⟩
                      have hbk : v1.heap[gx]? = some (.cells #[.int .i64 0, .slice none 0 0] 28) := by rw [hv, hgx]; exact World.heap_new _ _ _ rfl
                      replace k0 := (hbv.cell (p := ⟨w2.heap.size, 0, none⟩) (by simp only; omega)).trans k0
                      replace k1 := (hbv.cell (p := ⟨w2.heap.size, 1, none⟩) (by simp only; omega)).trans k1
                      replace e0 := (hbv.cell (p := ⟨gl, i, none⟩) (by simp only; omega)).trans e0
                      have hsv1 := hbv.size
                      have HBVv1 := Lib.hid (hbv)
                      have x0 := (block_cell hbk 0).1
                      have x1 := (block_cell hbk 1).1
                      have xf0 := (block_cell hbk 0).2
                      have xf1 := (block_cell hbk 1).2
                      clear hv hbv hbk
                      rw [← hgx]
                      have hgx1 : wb.heap.size ≤ gx := Nat.le_of_eq hgx.symm
                      have hgx2 : gx < v1.heap.size := by omega
                      clear hgx
                      refine wpAnyG_ready (rs := [7]) (by kernel_rfl) (by simp) ?_
                      refine (AllReadyG.cons (i := 7) (by simp only [List.getElem?_toArray, List.getElem?_cons_succ, List.getElem?_cons_zero]; rfl) (fun K hK => ?_) AllReadyG.nil)
                      go_simp
                      go_wp2_with fail
                      refine hK.out _ _ (fun _ => ?_) (fun hHeld => ?_)
                      · ((try dsimp only); first | exact ⟨k0, k1, e0⟩ | exact ⟨(World.cell?_alloc_lt _ _ _ (by simp only; omega)).trans k0, (World.cell?_alloc_lt _ _ _ (by simp only; omega)).trans k1, (World.cell?_alloc_lt _ _ _ (by simp only; omega)).trans e0⟩)
                      replace hHeld := hHeld (by rfl)
                      clear hK K
                      (try simp only [Act.put, List.setIfInBounds_toArray, List.set_cons_zero, List.set_cons_succ])
                      obtain ⟨v2, hv⟩ : ∃ v, v = v1.alloc (.cells #[.int .u8 (j : Int)] 5) := ⟨_, rfl⟩
                      rw [← hv] at hHeld ⊢
                      have hbv : Below v1.heap.size v1 v2 := by rw [hv]; exact Below.alloc (Below.refl _ _) (Nat.le_refl _) _
                      have hzv2 : v1.heap.size < v2.heap.size := by rw [hv]; simp
                      obtain ⟨g7, hg7⟩ : ∃ g, g = v1.heap.size := ⟨_, rfl⟩
                      have hbk : v2.heap[g7]? = some (.cells #[.int .u8 (j : Int)] 5) := by rw [hv, hg7]; exact World.heap_new _ _ _ rfl
                      replace k0 := (hbv.cell (p := ⟨w2.heap.size, 0, none⟩) (by simp only; omega)).trans k0
                      replace k1 := (hbv.cell (p := ⟨w2.heap.size, 1, none⟩) (by simp only; omega)).trans k1
                      replace e0 := (hbv.cell (p := ⟨gl, i, none⟩) (by simp only; omega)).trans e0
                      have hsv2 := hbv.size
                      replace x0 := (hbv.cell (p := ⟨gx, 0, none⟩) (by simp only; omega)).trans x0
                      replace x1 := (hbv.cell (p := ⟨gx, 1, none⟩) (by simp only; omega)).trans x1
                      replace xf0 := (hbv.frozen (p := ⟨gx, 0, none⟩) (by simp only; omega)).trans xf0
                      replace xf1 := (hbv.frozen (p := ⟨gx, 1, none⟩) (by simp only; omega)).trans xf1
                      have HBVv2 := Lib.hid (HBVv1.out.trans (hbv.mono HBVv1.out.size))
                      have c7 := (block_cell hbk 0).1
                      clear hv hbv hbk
                      rw [← hg7]
                      have hg71 : v1.heap.size ≤ g7 := Nat.le_of_eq hg7.symm
                      have hg72 : g7 < v2.heap.size := by omega
                      clear hg7
                      refine wpAnyG_ready (rs := [8]) (by kernel_rfl) (by simp) ?_
                      refine (AllReadyG.cons (i := 8) (by simp only [List.getElem?_toArray, List.getElem?_cons_succ, List.getElem?_cons_zero]; rfl) (fun K hK => ?_) AllReadyG.nil)
                      go_simp
                      refine (implRN_any (T := T3) (Tb := fun b => b = g7) (sq f rr3) A3 c3 (can f ps3) (sq f j) (some ⟨g7, 0, none⟩) 1 [(j : Int)] _ (HM3.out.row.below EN.framed HBVv2.out) (by rw [can_len]; have := HPL.out; omega) (fun x hx => by obtain ⟨p, hp, rfl⟩ := can_mem hx; simp) (fun k' hk' => by obtain rfl : k' = 0 := (by simpa using hk'); exact ⟨g7, 0, rfl, rfl, by omega, c7, fun h => by cases h⟩) (by simp)).mono ?_
                      rw [HRC.out]
                      rintro e v3 ⟨A2, c2, gb, cb, T1, T2, rfl, hbv, hcap2, hd1, hd2, hp2, ho2, hT2⟩
                      have hgb := hd2 gb hT2
                      have HD1 := Lib.hid (fun b h => (⟨(hd1 b h).1, (hd1 b h).2.1⟩ : _ ∧ _))
                      have HD2 := Lib.hid hd2
                      replace k0 := (hbv.cell (p := ⟨w2.heap.size, 0, none⟩) (by simp only; omega)).trans k0
                      replace k1 := (hbv.cell (p := ⟨w2.heap.size, 1, none⟩) (by simp only; omega)).trans k1
                      replace e0 := (hbv.cell (p := ⟨gl, i, none⟩) (by simp only; omega)).trans e0
                      have hsv3 := hbv.size
                      replace c7 := (hbv.cell (p := ⟨g7, 0, none⟩) (by simp only; omega)).trans c7
                      replace x0 := (hbv.cell (p := ⟨gx, 0, none⟩) (by simp only; omega)).trans x0
                      replace x1 := (hbv.cell (p := ⟨gx, 1, none⟩) (by simp only; omega)).trans x1
                      replace xf0 := (hbv.frozen (p := ⟨gx, 0, none⟩) (by simp only; omega)).trans xf0
                      replace xf1 := (hbv.frozen (p := ⟨gx, 1, none⟩) (by simp only; omega)).trans xf1
                      have HBVv3 := Lib.hid (HBVv2.out.trans (hbv.mono HBVv2.out.size))
                      have HP2 := Lib.hid (SlN.read hp2)
                      have HO2 := Lib.hid (SlB.read (u := true) (ho2.slT (fun a ha => by injection ha with ha; subst ha; exact hT2)))
                      clear hbv hcap2 hd1 hd2 hp2 ho2 hT2
                      go_wp2_with fail
                      refine hK.out _ _ (fun _ => ?_) (fun hHeld => ?_)
                      · ((try dsimp only); first | exact ⟨k0, k1, e0⟩ | exact ⟨(World.cell?_alloc_lt _ _ _ (by simp only; omega)).trans k0, (World.cell?_alloc_lt _ _ _ (by simp only; omega)).trans k1, (World.cell?_alloc_lt _ _ _ (by simp only; omega)).trans e0⟩)
                      replace hHeld := hHeld (by rfl)
                      clear hK K
                      (try simp only [Act.put, List.setIfInBounds_toArray, List.set_cons_zero, List.set_cons_succ])
                      refine wpAnyG_takeW [10, 11, 13, 14] (i := 9) (d := some 81) (v := ?_) (by simp only [List.getElem?_toArray, List.getElem?_cons_succ, List.getElem?_cons_zero]; rfl) (by rfl) (by kernel_rfl) (by kernel_rfl) (by kernel_rfl) (by kernel_rfl) (by kernel_rfl) (by intro _ _ _ h; exact h) (by rfl) ?_ (by assumption) ?_
                      rotate_left 1
                      · (intro w hSw; (try dsimp only at hSw); go_simp; try (with_reducible rfl))
                      (try simp only [Act.put, List.setIfInBounds_toArray, List.set_cons_zero, List.set_cons_succ])
                      refine wpAnyG_takeP (i := 10) (d := some 91) (v := ?_) (by simp only [List.getElem?_toArray, List.getElem?_cons_succ, List.getElem?_cons_zero]; rfl) (by rfl) (by kernel_rfl) (by kernel_rfl) (by kernel_rfl) (by kernel_rfl) (by intro _ _ _ h; exact h) (by rfl) ?_ ?_
                      rotate_left 1
                      · (intro w hSw; (try dsimp only at hSw); go_simp; try (with_reducible rfl))
                      (try simp only [Act.put, List.setIfInBounds_toArray, List.set_cons_zero, List.set_cons_succ])
                      refine wpAnyG_takeP (i := 11) (d := some 92) (v := ?_) (by simp only [List.getElem?_toArray, List.getElem?_cons_succ, List.getElem?_cons_zero]; rfl) (by rfl) (by kernel_rfl) (by kernel_rfl) (by kernel_rfl) (by kernel_rfl) (by intro _ _ _ h; exact h) (by rfl) ?_ ?_
                      rotate_left 1
                      · (intro w hSw; (try dsimp only at hSw); go_simp; try (with_reducible rfl))
                      (try simp only [Act.put, List.setIfInBounds_toArray, List.set_cons_zero, List.set_cons_succ])
                      refine wpAnyG_ready (rs := [13]) (by kernel_rfl) (by simp) ?_
                      refine (AllReadyG.cons (i := 13) (by simp only [List.getElem?_toArray, List.getElem?_cons_succ, List.getElem?_cons_zero]; rfl) (fun K hK => ?_) AllReadyG.nil)
                      go_simp
                      go_wp2_with fail
                      refine hK.out _ _ (fun h => by cases h) (fun _ => ?_)
                      clear hK K
                      (try simp only [Act.put, List.setIfInBounds_toArray, List.set_cons_zero, List.set_cons_succ])
                      refine wpAnyG_takeP (i := 14) (d := some 17) (v := ?_) (by simp only [List.getElem?_toArray, List.getElem?_cons_succ, List.getElem?_cons_zero]; rfl) (by rfl) (by kernel_rfl) (by kernel_rfl) (by kernel_rfl) (by kernel_rfl) (by intro _ _ _ h; exact h) (by rfl) ?_ ?_
                      rotate_left 1
                      · (intro w hSw; (try dsimp only at hSw); go_simp; try (with_reducible rfl))
                      (try simp only [Act.put, List.setIfInBounds_toArray, List.set_cons_zero, List.set_cons_succ])
                      refine wpAnyG_done (by kernel_rfl) ?_ _
                      obtain ⟨v4, hv4⟩ : ∃ v, v = ((v3.setCell ⟨gx, 0, none⟩ (.int .i64 (sq f r4))).setCell ⟨gx, 1, none⟩ (.slice A2 (can f qs).length c2)) := ⟨_, rfl⟩
                      have hcx : Chg (fun b => b = gx) v3 v4 := by rw [hv4]; exact Chg.setCell_ (S := fun b => b = gx) (Chg.setCell_ (S := fun b => b = gx) (Chg.refl _ _) (p := ⟨gx, 0, none⟩) rfl _) (p := ⟨gx, 1, none⟩) rfl _
                      have hs4 := hcx.size
                      have x0' : v4.cell? ⟨gx, 0, none⟩ = some (.int .i64 (sq f r4)) := by rw [hv4, World.cell?_setCell_other _ _ _ _ (fun e => by injection e with _ e2; omega)]; exact World.cell?_setCell_same _ _ _ x0
                      have x1' : v4.cell? ⟨gx, 1, none⟩ = some (.slice A2 (can f qs).length c2) := by rw [hv4]; exact World.cell?_setCell_same (u := .slice none 0 0) _ _ _ (by rw [World.cell?_setCell_other _ _ _ _ (fun e => by injection e with _ e2; omega)]; exact x1)
                      have HM4 := Lib.hid (HM3.out.chg (S := fun b => wb.heap.size ≤ b) ((Chg.of_below HBVv3.out).trans (hcx.mono (fun b _ hb => by omega))) (fun b hb => hb))
                      have HP4 := Lib.hid (Sl.frame (R := EN false) EN.framed HP2.out hcx (fun b h1 h2 => by have := HD1.out b h1; omega))
                      have HO4 := Lib.hid (Sl.frame (R := EB false) EB.framed HO2.out hcx (fun b h1 h2 => by have := HD2.out b h1; omega))
                      have HL4 := Lib.hid (HL3.out.frame ((Chg.of_below (S := fun b => wb.heap.size ≤ b) HBVv3.out).trans (hcx.mono (fun b _ hb => by omega))) (fun b h1 h2 => by omega))
                      rw [← hv4]
                      clear hv4 hcx x0 x1 xf0 xf1 k0 k1 e0 c7 HM3 HL3
                      have k0 := HM4.out.r0
                      have k1 := HM4.out.r1
                      have rf0 := HM4.out.rf0
                      have rf1 := HM4.out.rf1
                      have hlr_HM4 := HM4.out.h3
                      have HM5 := Lib.hid (HM4.out.setR (rs' := sq f r4) (A' := A2) (c' := c2) (ys' := can f qs) (T' := T1) HP4.out (fun b hb => by have := HD1.out b hb; exact ⟨by omega, by omega, by omega⟩))
                      have hcr : Chg (fun b => b = w2.heap.size) v4 ((v4.setCell ⟨w2.heap.size, 0, none⟩ (.int .i64 (sq f r4))).setCell ⟨w2.heap.size, 1, none⟩ (.slice A2 (can f qs).length c2)) := Chg.setCell_ (S := fun b => b = w2.heap.size) (Chg.setCell_ (S := fun b => b = w2.heap.size) (Chg.refl _ _) (p := ⟨w2.heap.size, 0, none⟩) rfl _) (p := ⟨w2.heap.size, 1, none⟩) rfl _
                      have hsr := hcr.size
                      have HO5 := Lib.hid (Sl.frame (R := EB false) EB.framed HO4.out hcr (fun b h1 h2 => by have := HD2.out b h1; omega))
                      have HL5 := Lib.hid (HL4.out.frame hcr (fun b h1 h2 => by omega))
                      have HSRC : Hid (Src false 1 (EB false) ((v4.setCell ⟨w2.heap.size, 0, none⟩ (.int .i64 (sq f r4))).setCell ⟨w2.heap.size, 1, none⟩ (.slice A2 (can f qs).length c2)) (fun b => w2.heap.size < b) (fun b => w2.heap.size < b) g3 (some ⟨gb, 0, none⟩) out) := Lib.hid (Sl.src (Sl.wider HO5.out (T' := fun b => w2.heap.size < b ∧ b < ((v4.setCell ⟨w2.heap.size, 0, none⟩ (.int .i64 (sq f r4))).setCell ⟨w2.heap.size, 1, none⟩ (.slice A2 (can f qs).length c2)).heap.size ∧ b ≠ g3) (fun b hb => by have := HD2.out b hb; exact ⟨by omega, by omega, by omega⟩)) (fun b hb => ⟨hb.2.1, hb.2.2, fun h => by cases h⟩) |>.imp_ (fun b hb => hb.1))
                      go_wp2_with (at_builtin; refine wpList_appW (R := EB false) (u := false) (w0 := ((v4.setCell ⟨w2.heap.size, 0, none⟩ (.int .i64 (sq f r4))).setCell ⟨w2.heap.size, 1, none⟩ (.slice A2 (can f qs).length c2))) (xs := got3) (ys := out) (T := fun b => w2.heap.size < b) (Fn := fun b => w2.heap.size < b) rfl EB.mov EB.cls (.tmp 94) (.tmp 95) 29 rfl 38 i0 (.slice none 0 0) 24 Try.underlying29 hI0 hz0 hz1 hz2 rfl (by decide) rfl HM5.out.own (Below.refl _ _) rfl HSRC.out (by have h1 := HGL.out; have h2 := HOL.out; omega) (by decide) (by omega) ?_)
                      intro g9 c9 w9 l9 HQ9 HO9 HG9 HC9 HB9
                      have hs9 := HC9.out.size
                      have hl9 := HO9.out.lt
                      have HM9 := Lib.hid (HM5.out.app HC9.out HG9.out (HO9.out.widerT (fun b h _ => h.elim id id)))
                      have HG9n : Hid (g9 ≠ gl) := Lib.hid (by rcases HG9.out with h | h <;> omega)
                      have HL9 := Lib.hid (HL5.out.frame HC9.out (fun b h1 h2 => by omega))
                      have hgt9 : l9 = gotL r4 := by rw [HQ9.out, HGT.out, HOUT.out]; exact gotL_app (by have := HR4.out; omega)
                      have HGT9 := Lib.hid hgt9
                      clear hgt9 HC9 HB9 HG9 HSRC HM5 HM4 HO5 HO4 HP4 HL4 HL5 hcr
                      go_wp2
                      go_roundw
                      case rel => exact ⟨i + 1, r4, qs, g9, c9, A2, c2, T1, l9, by go_num, by omega, rfl, HGT9, Lib.hid (HI3.out.recv HR4.out.1 HR4.out.2.1 HR4.out.2.2.1 HR4.out.2.2.2), HM9, HL9, HG9n.out, by omega, Lib.hid (fun h30 j' x' hj' hx' => by
                          rcases Nat.lt_or_ge j' i with h | h
                          · obtain ⟨p, h1, h2⟩ := HRV.out h30 j' x' h hx'
                            exact ⟨p, h1, (HR4.out.2.2.2 p).2 (h2.imp id .inl)⟩
                          · obtain rfl : j' = i := by omega
                            rw [HXI.out] at hx'
                            injection hx' with hx'
                            exact ⟨j, hx'.symm, (HR4.out.2.2.2 j).2 (.inr (.inr rfl))⟩)⟩
                      case measure => simp [intOf]; omega
                · have hrI : ¬ (r : Int) < 30 := by omega
                  obtain ⟨r4, qs, hrc, hr4⟩ := rcv_can f HI3.out.srt HI3.out.rn (by have := HI3.out.na; have := HI3.out.ar; omega) HI3.out.n60 (show j < m by omega)
                  have HR4 := Lib.hid hr4
                  obtain ⟨out, hout⟩ : ∃ o, o = (List.range' rr3 (r4 - rr3)).map (fun (i : Nat) => [(i : Int)]) := ⟨_, rfl⟩
                  rw [← hout] at hrc
                  have HRC := Lib.hid hrc
                  have HOUT := Lib.hid hout
                  have HOL : Hid (out.length ≤ 60) := Lib.hid (by rw [hout]; have h1 := hr4.2.1; have h2 := HI3.out.n60; simp; omega)
                  have HPL : Hid (ps3.length ≤ 100) := Lib.hid (by have h1 := HI3.out.srt.len; have h2 := HI3.out.n60; rcases h1 with h1 | h1; omega; rw [h1]; simp)
                  have HGL : Hid (got3.length ≤ 60) := Lib.hid (by rw [HGT.out, gotL_len]; have h1 := HI3.out.rn; have h2 := HI3.out.n60; omega)
                  clear hrc hr4 hout
                  have hwu : IntKind.u8.wrap (j : Int) = (j : Int) := by rw [IntKind.wrap_u8]; omega
                  have HWR : Hid (IntKind.i64.wrap (sq f j - f) = sq f j - f) := Lib.hid (by rw [IntKind.wrap_i64]; have := sq_bd f j; omega)
                  have HMOD : Hid ((sq f j - f) % 4096 = (j : Int)) := Lib.hid (by unfold sq; omega)
                  go_wp2_with (go_at_call 41; (first | rw [HWR.out] | rw [wrap64_eq, HWR.out]); refine (specMod_any (sq f j - f) 4096 (by unfold I64; have := sq_bd f j; omega) rfl _).mono ?_; rw [HMOD.out]; rintro e w' ⟨rfl, rfl⟩)
                  refine wp_region_G [10, 11, 13, 14] (S := (fun w' => w'.cell? ⟨w2.heap.size, 0, none⟩ = some (.int .i64 (sq f rr3)) ∧ w'.cell? ⟨w2.heap.size, 1, none⟩ = some (.slice A3 (can f ps3).length c3) ∧ w'.cell? ⟨gl, i, none⟩ = some (.int .i64 (sq f j)))) (by kernel_rfl) ?_ (fun hHeld => ?_)
                  · first | exact ⟨k0, k1, e0⟩ | exact ⟨(World.cell?_alloc_lt _ _ _ (by simp only; omega)).trans k0, (World.cell?_alloc_lt _ _ _ (by simp only; omega)).trans k1, (World.cell?_alloc_lt _ _ _ (by simp only; omega)).trans e0⟩
                  refine wpAnyG_takeW [8, 9, 10, 11, 13, 14] (i := 0) (d := some 82) (v := ?_) (by simp only [List.getElem?_toArray, List.getElem?_cons_succ, List.getElem?_cons_zero]; rfl) (by rfl) (by kernel_rfl) (by kernel_rfl) (by kernel_rfl) (by kernel_rfl) (by kernel_rfl) (by intro _ _ _ h; exact h) (by rfl) ?_ (by assumption) ?_
                  rotate_left 1
                  · (intro w hSw; (try dsimp only at hSw); go_simp; try (with_reducible rfl))
                  (try simp only [Act.put, List.setIfInBounds_toArray, List.set_cons_zero, List.set_cons_succ])
                  refine wpAnyG_takeW [3, 4, 8, 9, 10, 11, 13, 14] (i := 1) (d := some 83) (v := ?_) (by simp only [List.getElem?_toArray, List.getElem?_cons_succ, List.getElem?_cons_zero]; rfl) (by rfl) (by kernel_rfl) (by kernel_rfl) (by kernel_rfl) (by kernel_rfl) (by kernel_rfl) (by intro _ _ _ h; exact h) (by rfl) ?_ (by assumption) ?_
                  rotate_left 1
                  · (intro w hSw; (try dsimp only at hSw); go_simp; try (with_reducible rfl))
                  (try simp only [Act.put, List.setIfInBounds_toArray, List.set_cons_zero, List.set_cons_succ])
                  refine wpAnyG_takeW [3, 4, 8, 9, 10, 11, 13, 14] (i := 2) (d := some 84) (v := ?_) (by simp only [List.getElem?_toArray, List.getElem?_cons_succ, List.getElem?_cons_zero]; rfl) (by rfl) (by kernel_rfl) (by kernel_rfl) (by kernel_rfl) (by kernel_rfl) (by kernel_rfl) (by intro _ _ _ h; exact h) (by rfl) ?_ (by assumption) ?_
                  rotate_left 1
                  · (intro w hSw; (try dsimp only at hSw); go_simp; try (with_reducible rfl))
                  (try simp only [Act.put, List.setIfInBounds_toArray, List.set_cons_zero, List.set_cons_succ])
                  refine wpAnyG_takeW [4, 8, 9, 10, 11, 13, 14] (i := 3) (d := some 85) (v := ?_) (by simp only [List.getElem?_toArray, List.getElem?_cons_succ, List.getElem?_cons_zero]; rfl) (by rfl) (by kernel_rfl) (by kernel_rfl) (by kernel_rfl) (by kernel_rfl) (by kernel_rfl) (by intro _ _ _ h; exact h) (by rfl) ?_ (by assumption) ?_
                  rotate_left 1
                  · (intro w hSw; (try dsimp only at hSw); go_simp; try (with_reducible rfl))
                  (try simp only [Act.put, List.setIfInBounds_toArray, List.set_cons_zero, List.set_cons_succ])
                  refine wpAnyG_takeW [8, 9, 10, 11, 13, 14] (i := 4) (d := some 86) (v := ?_) (by simp only [List.getElem?_toArray, List.getElem?_cons_succ, List.getElem?_cons_zero]; rfl) (by rfl) (by kernel_rfl) (by kernel_rfl) (by kernel_rfl) (by kernel_rfl) (by kernel_rfl) (by intro _ _ _ h; exact h) (by rfl) ?_ (by assumption) ?_
                  rotate_left 1
                  · (intro w hSw; (try dsimp only at hSw); go_simp; try (with_reducible rfl))
                  (try simp only [Act.put, List.setIfInBounds_toArray, List.set_cons_zero, List.set_cons_succ])
                  refine wpAnyG_takeW [6, 7, 8, 9, 10, 11, 13, 14] (i := 5) (d := some 87) (v := ?_) (by simp only [List.getElem?_toArray, List.getElem?_cons_succ, List.getElem?_cons_zero]; rfl) (by rfl) (by kernel_rfl) (by kernel_rfl) (by kernel_rfl) (by kernel_rfl) (by kernel_rfl) (by intro _ _ _ h; exact h) (by rfl) ?_ (by assumption) ?_
                  rotate_left 1
                  · (intro w hSw; (try dsimp only at hSw); go_simp; try (with_reducible rfl))
                  (try simp only [Act.put, List.setIfInBounds_toArray, List.set_cons_zero, List.set_cons_succ])
                  refine wpAnyG_takeW [7, 8, 9, 10, 11, 13, 14] (i := 6) (d := some 88) (v := ?_) (by simp only [List.getElem?_toArray, List.getElem?_cons_succ, List.getElem?_cons_zero]; rfl) (by rfl) (by kernel_rfl) (by kernel_rfl) (by kernel_rfl) (by kernel_rfl) (by kernel_rfl) (by intro _ _ _ h; exact h) (by rfl) ?_ (by assumption) ?_
                  rotate_left 1
                  · (intro w hSw; (try dsimp only at hSw); go_simp; try (with_reducible rfl))
                  (try simp only [Act.put, List.setIfInBounds_toArray, List.set_cons_zero, List.set_cons_succ])
                  refine wpAnyG_ready (rs := [7, 12]) (by kernel_rfl) (by simp) ?_
                  refine (AllReadyG.cons (i := 7) (by simp only [List.getElem?_toArray, List.getElem?_cons_succ, List.getElem?_cons_zero]; rfl) (fun K hK => ?_) (AllReadyG.cons (i := 12) (by simp only [List.getElem?_toArray, List.getElem?_cons_succ, List.getElem?_cons_zero]; rfl) (fun K hK => ?_) AllReadyG.nil))
                  · go_simp
                    go_wp2_with fail
                    refine hK.out _ _ (fun _ => ?_) (fun hHeld => ?_)
                    · ((try dsimp only); first | exact ⟨k0, k1, e0⟩ | exact ⟨(World.cell?_alloc_lt _ _ _ (by simp only; omega)).trans k0, (World.cell?_alloc_lt _ _ _ (by simp only; omega)).trans k1, (World.cell?_alloc_lt _ _ _ (by simp only; omega)).trans e0⟩)
                    replace hHeld := hHeld (by rfl)
                    clear hK K
                    (try simp only [Act.put, List.setIfInBounds_toArray, List.set_cons_zero, List.set_cons_succ])
                    obtain ⟨v1, hv⟩ : ∃ v, v = (wb.alloc (.cells #[.int .u8 (j : Int)] 5)).drew := ⟨_, rfl⟩
                    rw [← hv] at hHeld ⊢
                    have hbv : Below wb.heap.size wb v1 := by rw [hv]; exact Below.drew (Below.alloc (Below.refl _ _) (Nat.le_refl _) _)
                    have hzv1 : wb.heap.size < v1.heap.size := by rw [hv]; simp
                    obtain ⟨g7, hg7⟩ : ∃ g, g = wb.heap.size := ⟨_, rfl⟩
                    have hbk : v1.heap[g7]? = some (.cells #[.int .u8 (j : Int)] 5) := by rw [hv, hg7]; exact World.heap_new _ _ _ rfl
                    replace k0 := (hbv.cell (p := ⟨w2.heap.size, 0, none⟩) (by simp only; omega)).trans k0
                    replace k1 := (hbv.cell (p := ⟨w2.heap.size, 1, none⟩) (by simp only; omega)).trans k1
                    replace e0 := (hbv.cell (p := ⟨gl, i, none⟩) (by simp only; omega)).trans e0
                    have hsv1 := hbv.size
                    have HBVv1 := Lib.hid (hbv)
                    have c7 := (block_cell hbk 0).1
                    clear hv hbv hbk
                    rw [← hg7]
                    have hg71 : wb.heap.size ≤ g7 := Nat.le_of_eq hg7.symm
                    have hg72 : g7 < v1.heap.size := by omega
                    clear hg7
                    refine wpAnyG_ready (rs := [8, 12]) (by kernel_rfl) (by simp) ?_
                    refine (AllReadyG.cons (i := 8) (by simp only [List.getElem?_toArray, List.getElem?_cons_succ, List.getElem?_cons_zero]; rfl) (fun K hK => ?_) (AllReadyG.cons (i := 12) (by simp only [List.getElem?_toArray, List.getElem?_cons_succ, List.getElem?_cons_zero]; rfl) (fun K hK => ?_) AllReadyG.nil))
                    · go_simp
                      refine (implRN_any (T := T3) (Tb := fun b => b = g7) (sq f rr3) A3 c3 (can f ps3) (sq f j) (some ⟨g7, 0, none⟩) 1 [(j : Int)] _ (HM3.out.row.below EN.framed HBVv1.out) (by rw [can_len]; have := HPL.out; omega) (fun x hx => by obtain ⟨p, hp, rfl⟩ := can_mem hx; simp) (fun k' hk' => by obtain rfl : k' = 0 := (by simpa using hk'); exact ⟨g7, 0, rfl, rfl, by omega, c7, fun h => by cases h⟩) (by simp)).mono ?_
                      rw [HRC.out]
                      rintro e v2 ⟨A2, c2, gb, cb, T1, T2, rfl, hbv, hcap2, hd1, hd2, hp2, ho2, hT2⟩
                      have hgb := hd2 gb hT2
                      have HD1 := Lib.hid (fun b h => (⟨(hd1 b h).1, (hd1 b h).2.1⟩ : _ ∧ _))
                      have HD2 := Lib.hid hd2
                      replace k0 := (hbv.cell (p := ⟨w2.heap.size, 0, none⟩) (by simp only; omega)).trans k0
                      replace k1 := (hbv.cell (p := ⟨w2.heap.size, 1, none⟩) (by simp only; omega)).trans k1
                      replace e0 := (hbv.cell (p := ⟨gl, i, none⟩) (by simp only; omega)).trans e0
                      have hsv2 := hbv.size
                      replace c7 := (hbv.cell (p := ⟨g7, 0, none⟩) (by simp only; omega)).trans c7
                      have HBVv2 := Lib.hid (HBVv1.out.trans (hbv.mono HBVv1.out.size))
                      have HP2 := Lib.hid (SlN.read hp2)
                      have HO2 := Lib.hid (SlB.read (u := true) (ho2.slT (fun a ha => by injection ha with ha; subst ha; exact hT2)))
                      clear hbv hcap2 hd1 hd2 hp2 ho2 hT2
                      go_wp2_with fail
                      refine hK.out _ _ (fun _ => ?_) (fun hHeld => ?_)
                      · ((try dsimp only); first | exact ⟨k0, k1, e0⟩ | exact ⟨(World.cell?_alloc_lt _ _ _ (by simp only; omega)).trans k0, (World.cell?_alloc_lt _ _ _ (by simp only; omega)).trans k1, (World.cell?_alloc_lt _ _ _ (by simp only; omega)).trans e0⟩)
                      replace hHeld := hHeld (by rfl)
                      clear hK K
                      (try simp only [Act.put, List.setIfInBounds_toArray, List.set_cons_zero, List.set_cons_succ])
                      refine wpAnyG_takeW [10, 11, 13, 14] (i := 9) (d := some 81) (v := ?_) (by simp only [List.getElem?_toArray, List.getElem?_cons_succ, List.getElem?_cons_zero]; rfl) (by rfl) (by kernel_rfl) (by kernel_rfl) (by kernel_rfl) (by kernel_rfl) (by kernel_rfl) (by intro _ _ _ h; exact h) (by rfl) ?_ (by assumption) ?_
                      rotate_left 1
                      · (intro w hSw; (try dsimp only at hSw); go_simp; try (with_reducible rfl))
                      (try simp only [Act.put, List.setIfInBounds_toArray, List.set_cons_zero, List.set_cons_succ])
                      refine wpAnyG_takeP (i := 10) (d := some 91) (v := ?_) (by simp only [List.getElem?_toArray, List.getElem?_cons_succ, List.getElem?_cons_zero]; rfl) (by rfl) (by kernel_rfl) (by kernel_rfl) (by kernel_rfl) (by kernel_rfl) (by intro _ _ _ h; exact h) (by rfl) ?_ ?_
                      rotate_left 1
                      · (intro w hSw; (try dsimp only at hSw); go_simp; try (with_reducible rfl))
                      (try simp only [Act.put, List.setIfInBounds_toArray, List.set_cons_zero, List.set_cons_succ])
                      refine wpAnyG_takeP (i := 11) (d := some 92) (v := ?_) (by simp only [List.getElem?_toArray, List.getElem?_cons_succ, List.getElem?_cons_zero]; rfl) (by rfl) (by kernel_rfl) (by kernel_rfl) (by kernel_rfl) (by kernel_rfl) (by intro _ _ _ h; exact h) (by rfl) ?_ ?_
                      rotate_left 1
                      · (intro w hSw; (try dsimp only at hSw); go_simp; try (with_reducible rfl))
                      (try simp only [Act.put, List.setIfInBounds_toArray, List.set_cons_zero, List.set_cons_succ])
                      refine wpAnyG_ready (rs := [12]) (by kernel_rfl) (by simp) ?_
                      refine (AllReadyG.cons (i := 12) (by simp only [List.getElem?_toArray, List.getElem?_cons_succ, List.getElem?_cons_zero]; rfl) (fun K hK => ?_) AllReadyG.nil)
                      go_simp
                      go_wp2_with fail
                      refine hK.out _ _ (fun _ => ?_) (fun hHeld => ?_)
                      · ((try dsimp only); first | exact ⟨k0, k1, e0⟩ | exact ⟨(World.cell?_alloc_lt _ _ _ (by simp only; omega)).trans k0, (World.cell?_alloc_lt _ _ _ (by simp only; omega)).trans k1, (World.cell?_alloc_lt _ _ _ (by simp only; omega)).trans e0⟩)
                      replace hHeld := hHeld (by rfl)
                      clear hK K
                      (try simp only [Act.put, List.setIfInBounds_toArray, List.set_cons_zero, List.set_cons_succ])
                      obtain ⟨v3, hv⟩ : ∃ v, v = v2.alloc (.cells #[.int .i64 0, .slice none 0 0] 28) := ⟨_, rfl⟩
                      rw [← hv] at hHeld ⊢
                      have hbv : Below v2.heap.size v2 v3 := by rw [hv]; exact Below.alloc (Below.refl _ _) (Nat.le_refl _) _
                      have hzv3 : v2.heap.size < v3.heap.size := by rw [hv]; simp
                      obtain ⟨gx, hgx⟩ : ∃ g, g = v2.heap.size := ⟨_, rfl⟩
                      have hbk : v3.heap[gx]? = some (.cells #[.int .i64 0, .slice none 0 0] 28) := by rw [hv, hgx]; exact World.heap_new _ _ _ rfl
                      replace k0 := (hbv.cell (p := ⟨w2.heap.size, 0, none⟩) (by simp only; omega)).trans k0
                      replace k1 := (hbv.cell (p := ⟨w2.heap.size, 1, none⟩) (by simp only; omega)).trans k1
                      replace e0 := (hbv.cell (p := ⟨gl, i, none⟩) (by simp only; omega)).trans e0
                      have hsv3 := hbv.size
                      replace c7 := (hbv.cell (p := ⟨g7, 0, none⟩) (by simp only; omega)).trans c7
                      replace HP2 := Lib.hid (Sl.below (R := EN false) EN.framed HP2.out hbv)
                      replace HO2 := Lib.hid (Sl.below (R := EB false) EB.framed HO2.out hbv)
                      have HBVv3 := Lib.hid (HBVv2.out.trans (hbv.mono HBVv2.out.size))
                      have x0 := (block_cell hbk 0).1
                      have x1 := (block_cell hbk 1).1
                      have xf0 := (block_cell hbk 0).2
                      have xf1 := (block_cell hbk 1).2
                      clear hv hbv hbk
                      rw [← hgx]
                      have hgx1 : v2.heap.size ≤ gx := Nat.le_of_eq hgx.symm
                      have hgx2 : gx < v3.heap.size := by omega
                      clear hgx
                      refine wpAnyG_ready (rs := [13]) (by kernel_rfl) (by simp) ?_
                      refine (AllReadyG.cons (i := 13) (by simp only [List.getElem?_toArray, List.getElem?_cons_succ, List.getElem?_cons_zero]; rfl) (fun K hK => ?_) AllReadyG.nil)
                      go_simp
                      go_wp2_with fail
                      refine hK.out _ _ (fun h => by cases h) (fun _ => ?_)
                      clear hK K
                      (try simp only [Act.put, List.setIfInBounds_toArray, List.set_cons_zero, List.set_cons_succ])
                      refine wpAnyG_takeP (i := 14) (d := some 17) (v := ?_) (by simp only [List.getElem?_toArray, List.getElem?_cons_succ, List.getElem?_cons_zero]; rfl) (by rfl) (by kernel_rfl) (by kernel_rfl) (by kernel_rfl) (by kernel_rfl) (by intro _ _ _ h; exact h) (by rfl) ?_ ?_
                      rotate_left 1
                      · (intro w hSw; (try dsimp only at hSw); go_simp; try (with_reducible rfl))
                      (try simp only [Act.put, List.setIfInBounds_toArray, List.set_cons_zero, List.set_cons_succ])
                      refine wpAnyG_done (by kernel_rfl) ?_ _
                      obtain ⟨v4, hv4⟩ : ∃ v, v = ((v3.setCell ⟨gx, 0, none⟩ (.int .i64 (sq f r4))).setCell ⟨gx, 1, none⟩ (.slice A2 (can f qs).length c2)) := ⟨_, rfl⟩
                      have hcx : Chg (fun b => b = gx) v3 v4 := by rw [hv4]; exact Chg.setCell_ (S := fun b => b = gx) (Chg.setCell_ (S := fun b => b = gx) (Chg.refl _ _) (p := ⟨gx, 0, none⟩) rfl _) (p := ⟨gx, 1, none⟩) rfl _
                      have hs4 := hcx.size
                      have x0' : v4.cell? ⟨gx, 0, none⟩ = some (.int .i64 (sq f r4)) := by rw [hv4, World.cell?_setCell_other _ _ _ _ (fun e => by injection e with _ e2; omega)]; exact World.cell?_setCell_same _ _ _ x0
                      have x1' : v4.cell? ⟨gx, 1, none⟩ = some (.slice A2 (can f qs).length c2) := by rw [hv4]; exact World.cell?_setCell_same (u := .slice none 0 0) _ _ _ (by rw [World.cell?_setCell_other _ _ _ _ (fun e => by injection e with _ e2; omega)]; exact x1)
                      have HM4 := Lib.hid (HM3.out.chg (S := fun b => wb.heap.size ≤ b) ((Chg.of_below HBVv3.out).trans (hcx.mono (fun b _ hb => by omega))) (fun b hb => hb))
                      have HP4 := Lib.hid (Sl.frame (R := EN false) EN.framed HP2.out hcx (fun b h1 h2 => by have := HD1.out b h1; omega))
                      have HO4 := Lib.hid (Sl.frame (R := EB false) EB.framed HO2.out hcx (fun b h1 h2 => by have := HD2.out b h1; omega))
                      have HL4 := Lib.hid (HL3.out.frame ((Chg.of_below (S := fun b => wb.heap.size ≤ b) HBVv3.out).trans (hcx.mono (fun b _ hb => by omega))) (fun b h1 h2 => by omega))
                      rw [← hv4]
                      clear hv4 hcx x0 x1 xf0 xf1 k0 k1 e0 c7 HM3 HL3
                      have k0 := HM4.out.r0
                      have k1 := HM4.out.r1
                      have rf0 := HM4.out.rf0
                      have rf1 := HM4.out.rf1
                      have hlr_HM4 := HM4.out.h3
                      have HM5 := Lib.hid (HM4.out.setR (rs' := sq f r4) (A' := A2) (c' := c2) (ys' := can f qs) (T' := T1) HP4.out (fun b hb => by have := HD1.out b hb; exact ⟨by omega, by omega, by omega⟩))
                      have hcr : Chg (fun b => b = w2.heap.size) v4 ((v4.setCell ⟨w2.heap.size, 0, none⟩ (.int .i64 (sq f r4))).setCell ⟨w2.heap.size, 1, none⟩ (.slice A2 (can f qs).length c2)) := Chg.setCell_ (S := fun b => b = w2.heap.size) (Chg.setCell_ (S := fun b => b = w2.heap.size) (Chg.refl _ _) (p := ⟨w2.heap.size, 0, none⟩) rfl _) (p := ⟨w2.heap.size, 1, none⟩) rfl _
                      have hsr := hcr.size
                      have HO5 := Lib.hid (Sl.frame (R := EB false) EB.framed HO4.out hcr (fun b h1 h2 => by have := HD2.out b h1; omega))
                      have HL5 := Lib.hid (HL4.out.frame hcr (fun b h1 h2 => by omega))
                      have HSRC : Hid (Src false 1 (EB false) ((v4.setCell ⟨w2.heap.size, 0, none⟩ (.int .i64 (sq f r4))).setCell ⟨w2.heap.size, 1, none⟩ (.slice A2 (can f qs).length c2)) (fun b => w2.heap.size < b) (fun b => w2.heap.size < b) g3 (some ⟨gb, 0, none⟩) out) := Lib.hid (Sl.src (Sl.wider HO5.out (T' := fun b => w2.heap.size < b ∧ b < ((v4.setCell ⟨w2.heap.size, 0, none⟩ (.int .i64 (sq f r4))).setCell ⟨w2.heap.size, 1, none⟩ (.slice A2 (can f qs).length c2)).heap.size ∧ b ≠ g3) (fun b hb => by have := HD2.out b hb; exact ⟨by omega, by omega, by omega⟩)) (fun b hb => ⟨hb.2.1, hb.2.2, fun h => by cases h⟩) |>.imp_ (fun b hb => hb.1))
                      go_wp2_with (at_builtin; refine wpList_appW (R := EB false) (u := false) (w0 := ((v4.setCell ⟨w2.heap.size, 0, none⟩ (.int .i64 (sq f r4))).setCell ⟨w2.heap.size, 1, none⟩ (.slice A2 (can f qs).length c2))) (xs := got3) (ys := out) (T := fun b => w2.heap.size < b) (Fn := fun b => w2.heap.size < b) rfl EB.mov EB.cls (.tmp 94) (.tmp 95) 29 rfl 38 i0 (.slice none 0 0) 24 Try.underlying29 hI0 hz0 hz1 hz2 rfl (by decide) rfl HM5.out.own (Below.refl _ _) rfl HSRC.out (by have h1 := HGL.out; have h2 := HOL.out; omega) (by decide) (by omega) ?_)
                      intro g9 c9 w9 l9 HQ9 HO9 HG9 HC9 HB9
                      have hs9 := HC9.out.size
                      have hl9 := HO9.out.lt
                      have HM9 := Lib.hid (HM5.out.app HC9.out HG9.out (HO9.out.widerT (fun b h _ => h.elim id id)))
                      have HG9n : Hid (g9 ≠ gl) := Lib.hid (by rcases HG9.out with h | h <;> omega)
                      have HL9 := Lib.hid (HL5.out.frame HC9.out (fun b h1 h2 => by omega))
                      have hgt9 : l9 = gotL r4 := by rw [HQ9.out, HGT.out, HOUT.out]; exact gotL_app (by have := HR4.out; omega)
                      have HGT9 := Lib.hid hgt9
                      clear hgt9 HC9 HB9 HG9 HSRC HM5 HM4 HO5 HO4 HP4 HL4 HL5 hcr
                      go_wp2
                      go_roundw
                      case rel => exact ⟨i + 1, r4, qs, g9, c9, A2, c2, T1, l9, by go_num, by omega, rfl, HGT9, Lib.hid (HI3.out.recv HR4.out.1 HR4.out.2.1 HR4.out.2.2.1 HR4.out.2.2.2), HM9, HL9, HG9n.out, by omega, Lib.hid (fun h30 j' x' hj' hx' => by
                          rcases Nat.lt_or_ge j' i with h | h
                          · obtain ⟨p, h1, h2⟩ := HRV.out h30 j' x' h hx'
                            exact ⟨p, h1, (HR4.out.2.2.2 p).2 (h2.imp id .inl)⟩
                          · obtain rfl : j' = i := by omega
                            rw [HXI.out] at hx'
                            injection hx' with hx'
                            exact ⟨j, hx'.symm, (HR4.out.2.2.2 j).2 (.inr (.inr rfl))⟩)⟩
                      case measure => simp [intOf]; omega
                    · go_simp
                      go_wp2_with fail
                      refine hK.out _ _ (fun _ => ?_) (fun hHeld => ?_)
                      · ((try dsimp only); first | exact ⟨k0, k1, e0⟩ | exact ⟨(World.cell?_alloc_lt _ _ _ (by simp only; omega)).trans k0, (World.cell?_alloc_lt _ _ _ (by simp only; omega)).trans k1, (World.cell?_alloc_lt _ _ _ (by simp only; omega)).trans e0⟩)
                      replace hHeld := hHeld (by rfl)
                      clear hK K
                      (try simp only [Act.put, List.setIfInBounds_toArray, List.set_cons_zero, List.set_cons_succ])
                      obtain ⟨v2, hv⟩ : ∃ v, v = v1.alloc (.cells #[.int .i64 0, .slice none 0 0] 28) := ⟨_, rfl⟩
                      rw [← hv] at hHeld ⊢
                      have hbv : Below v1.heap.size v1 v2 := by rw [hv]; exact Below.alloc (Below.refl _ _) (Nat.le_refl _) _
                      have hzv2 : v1.heap.size < v2.heap.size := by rw [hv]; simp
                      obtain ⟨gx, hgx⟩ : ∃ g, g = v1.heap.size := ⟨_, rfl⟩
                      have hbk : v2.heap[gx]? = some (.cells #[.int .i64 0, .slice none 0 0] 28) := by rw [hv, hgx]; exact World.heap_new _ _ _ rfl
                      replace k0 := (hbv.cell (p := ⟨w2.heap.size, 0, none⟩) (by simp only; omega)).trans k0
                      replace k1 := (hbv.cell (p := ⟨w2.heap.size, 1, none⟩) (by simp only; omega)).trans k1
                      replace e0 := (hbv.cell (p := ⟨gl, i, none⟩) (by simp only; omega)).trans e0
                      have hsv2 := hbv.size
                      replace c7 := (hbv.cell (p := ⟨g7, 0, none⟩) (by simp only; omega)).trans c7
                      have HBVv2 := Lib.hid (HBVv1.out.trans (hbv.mono HBVv1.out.size))
                      have x0 := (block_cell hbk 0).1
                      have x1 := (block_cell hbk 1).1
                      have xf0 := (block_cell hbk 0).2
                      have xf1 := (block_cell hbk 1).2
                      clear hv hbv hbk
                      rw [← hgx]
                      have hgx1 : v1.heap.size ≤ gx := Nat.le_of_eq hgx.symm
                      have hgx2 : gx < v2.heap.size := by omega
                      clear hgx
                      refine wpAnyG_ready (rs := [8]) (by kernel_rfl) (by simp) ?_
                      refine (AllReadyG.cons (i := 8) (by simp only [List.getElem?_toArray, List.getElem?_cons_succ, List.getElem?_cons_zero]; rfl) (fun K hK => ?_) AllReadyG.nil)
                      go_simp
                      refine (implRN_any (T := T3) (Tb := fun b => b = g7) (sq f rr3) A3 c3 (can f ps3) (sq f j) (some ⟨g7, 0, none⟩) 1 [(j : Int)] _ (HM3.out.row.below EN.framed HBVv2.out) (by rw [can_len]; have := HPL.out; omega) (fun x hx => by obtain ⟨p, hp, rfl⟩ := can_mem hx; simp) (fun k' hk' => by obtain rfl : k' = 0 := (by simpa using hk'); exact ⟨g7, 0, rfl, rfl, by omega, c7, fun h => by cases h⟩) (by simp)).mono ?_
                      rw [HRC.out]
                      rintro e v3 ⟨A2, c2, gb, cb, T1, T2, rfl, hbv, hcap2, hd1, hd2, hp2, ho2, hT2⟩
                      have hgb := hd2 gb hT2
                      have HD1 := Lib.hid (fun b h => (⟨(hd1 b h).1, (hd1 b h).2.1⟩ : _ ∧ _))
                      have HD2 := Lib.hid hd2
                      replace k0 := (hbv.cell (p := ⟨w2.heap.size, 0, none⟩) (by simp only; omega)).trans k0
                      replace k1 := (hbv.cell (p := ⟨w2.heap.size, 1, none⟩) (by simp only; omega)).trans k1
                      replace e0 := (hbv.cell (p := ⟨gl, i, none⟩) (by simp only; omega)).trans e0
                      have hsv3 := hbv.size
                      replace c7 := (hbv.cell (p := ⟨g7, 0, none⟩) (by simp only; omega)).trans c7
                      replace x0 := (hbv.cell (p := ⟨gx, 0, none⟩) (by simp only; omega)).trans x0
                      replace x1 := (hbv.cell (p := ⟨gx, 1, none⟩) (by simp only; omega)).trans x1
                      replace xf0 := (hbv.frozen (p := ⟨gx, 0, none⟩) (by simp only; omega)).trans xf0
                      replace xf1 := (hbv.frozen (p := ⟨gx, 1, none⟩) (by simp only; omega)).trans xf1
                      have HBVv3 := Lib.hid (HBVv2.out.trans (hbv.mono HBVv2.out.size))
                      have HP2 := Lib.hid (SlN.read hp2)
                      have HO2 := Lib.hid (SlB.read (u := true) (ho2.slT (fun a ha => by injection ha with ha; subst ha; exact hT2)))
                      clear hbv hcap2 hd1 hd2 hp2 ho2 hT2
                      go_wp2_with fail
                      refine hK.out _ _ (fun _ => ?_) (fun hHeld => ?_)
                      · ((try dsimp only); first | exact ⟨k0, k1, e0⟩ | exact ⟨(World.cell?_alloc_lt _ _ _ (by simp only; omega)).trans k0, (World.cell?_alloc_lt _ _ _ (by simp only; omega)).trans k1, (World.cell?_alloc_lt _ _ _ (by simp only; omega)).trans e0⟩)
                      replace hHeld := hHeld (by rfl)
                      clear hK K
                      (try simp only [Act.put, List.setIfInBounds_toArray, List.set_cons_zero, List.set_cons_succ])
                      refine wpAnyG_takeW [10, 11, 13, 14] (i := 9) (d := some 81) (v := ?_) (by simp only [List.getElem?_toArray, List.getElem?_cons_succ, List.getElem?_cons_zero]; rfl) (by rfl) (by kernel_rfl) (by kernel_rfl) (by kernel_rfl) (by kernel_rfl) (by kernel_rfl) (by intro _ _ _ h; exact h) (by rfl) ?_ (by assumption) ?_
                      rotate_left 1
                      · (intro w hSw; (try dsimp only at hSw); go_simp; try (with_reducible rfl))
                      (try simp only [Act.put, List.setIfInBounds_toArray, List.set_cons_zero, List.set_cons_succ])
                      refine wpAnyG_takeP (i := 10) (d := some 91) (v := ?_) (by simp only [List.getElem?_toArray, List.getElem?_cons_succ, List.getElem?_cons_zero]; rfl) (by rfl) (by kernel_rfl) (by kernel_rfl) (by kernel_rfl) (by kernel_rfl) (by intro _ _ _ h; exact h) (by rfl) ?_ ?_
                      rotate_left 1
                      · (intro w hSw; (try dsimp only at hSw); go_simp; try (with_reducible rfl))
                      (try simp only [Act.put, List.setIfInBounds_toArray, List.set_cons_zero, List.set_cons_succ])
                      refine wpAnyG_takeP (i := 11) (d := some 92) (v := ?_) (by simp only [List.getElem?_toArray, List.getElem?_cons_succ, List.getElem?_cons_zero]; rfl) (by rfl) (by kernel_rfl) (by kernel_rfl) (by kernel_rfl) (by kernel_rfl) (by intro _ _ _ h; exact h) (by rfl) ?_ ?_
                      rotate_left 1
                      · (intro w hSw; (try dsimp only at hSw); go_simp; try (with_reducible rfl))
                      (try simp only [Act.put, List.setIfInBounds_toArray, List.set_cons_zero, List.set_cons_succ])
                      refine wpAnyG_ready (rs := [13]) (by kernel_rfl) (by simp) ?_
                      refine (AllReadyG.cons (i := 13) (by simp only [List.getElem?_toArray, List.getElem?_cons_succ, List.getElem?_cons_zero]; rfl) (fun K hK => ?_) AllReadyG.nil)
                      go_simp
                      go_wp2_with fail
                      refine hK.out _ _ (fun h => by cases h) (fun _ => ?_)
                      clear hK K
                      (try simp only [Act.put, List.setIfInBounds_toArray, List.set_cons_zero, List.set_cons_succ])
                      refine wpAnyG_takeP (i := 14) (d := some 17) (v := ?_) (by simp only [List.getElem?_toArray, List.getElem?_cons_succ, List.getElem?_cons_zero]; rfl) (by rfl) (by kernel_rfl) (by kernel_rfl) (by kernel_rfl) (by kernel_rfl) (by intro _ _ _ h; exact h) (by rfl) ?_ ?_
                      rotate_left 1
                      · (intro w hSw; (try dsimp only at hSw); go_simp; try (with_reducible rfl))
                      (try simp only [Act.put, List.setIfInBounds_toArray, List.set_cons_zero, List.set_cons_succ])
                      refine wpAnyG_done (by kernel_rfl) ?_ _
                      obtain ⟨v4, hv4⟩ : ∃ v, v = ((v3.setCell ⟨gx, 0, none⟩ (.int .i64 (sq f r4))).setCell ⟨gx, 1, none⟩ (.slice A2 (can f qs).length c2)) := ⟨_, rfl⟩
                      have hcx : Chg (fun b => b = gx) v3 v4 := by rw [hv4]; exact Chg.setCell_ (S := fun b => b = gx) (Chg.setCell_ (S := fun b => b = gx) (Chg.refl _ _) (p := ⟨gx, 0, none⟩) rfl _) (p := ⟨gx, 1, none⟩) rfl _
                      have hs4 := hcx.size
                      have x0' : v4.cell? ⟨gx, 0, none⟩ = some (.int .i64 (sq f r4)) := by rw [hv4, World.cell?_setCell_other _ _ _ _ (fun e => by injection e with _ e2; omega)]; exact World.cell?_setCell_same _ _ _ x0
                      have x1' : v4.cell? ⟨gx, 1, none⟩ = some (.slice A2 (can f qs).length c2) := by rw [hv4]; exact World.cell?_setCell_same (u := .slice none 0 0) _ _ _ (by rw [World.cell?_setCell_other _ _ _ _ (fun e => by injection e with _ e2; omega)]; exact x1)
                      have HM4 := Lib.hid (HM3.out.chg (S := fun b => wb.heap.size ≤ b) ((Chg.of_below HBVv3.out).trans (hcx.mono (fun b _ hb => by omega))) (fun b hb => hb))
                      have HP4 := Lib.hid (Sl.frame (R := EN false) EN.framed HP2.out hcx (fun b h1 h2 => by have := HD1.out b h1; omega))
                      have HO4 := Lib.hid (Sl.frame (R := EB false) EB.framed HO2.out hcx (fun b h1 h2 => by have := HD2.out b h1; omega))
                      have HL4 := Lib.hid (HL3.out.frame ((Chg.of_below (S := fun b => wb.heap.size ≤ b) HBVv3.out).trans (hcx.mono (fun b _ hb => by omega))) (fun b h1 h2 => by omega))
                      rw [← hv4]
                      clear hv4 hcx x0 x1 xf0 xf1 k0 k1 e0 c7 HM3 HL3
                      have k0 := HM4.out.r0
                      have k1 := HM4.out.r1
                      have rf0 := HM4.out.rf0
                      have rf1 := HM4.out.rf1
                      have hlr_HM4 := HM4.out.h3
                      have HM5 := Lib.hid (HM4.out.setR (rs' := sq f r4) (A' := A2) (c' := c2) (ys' := can f qs) (T' := T1) HP4.out (fun b hb => by have := HD1.out b hb; exact ⟨by omega, by omega, by omega⟩))
                      have hcr : Chg (fun b => b = w2.heap.size) v4 ((v4.setCell ⟨w2.heap.size, 0, none⟩ (.int .i64 (sq f r4))).setCell ⟨w2.heap.size, 1, none⟩ (.slice A2 (can f qs).length c2)) := Chg.setCell_ (S := fun b => b = w2.heap.size) (Chg.setCell_ (S := fun b => b = w2.heap.size) (Chg.refl _ _) (p := ⟨w2.heap.size, 0, none⟩) rfl _) (p := ⟨w2.heap.size, 1, none⟩) rfl _
                      have hsr := hcr.size
                      have HO5 := Lib.hid (Sl.frame (R := EB false) EB.framed HO4.out hcr (fun b h1 h2 => by have := HD2.out b h1; omega))
                      have HL5 := Lib.hid (HL4.out.frame hcr (fun b h1 h2 => by omega))
                      have HSRC : Hid (Src false 1 (EB false) ((v4.setCell ⟨w2.heap.size, 0, none⟩ (.int .i64 (sq f r4))).setCell ⟨w2.heap.size, 1, none⟩ (.slice A2 (can f qs).length c2)) (fun b => w2.heap.size < b) (fun b => w2.heap.size < b) g3 (some ⟨gb, 0, none⟩) out) := Lib.hid (Sl.src (Sl.wider HO5.out (T' := fun b => w2.heap.size < b ∧ b < ((v4.setCell ⟨w2.heap.size, 0, none⟩ (.int .i64 (sq f r4))).setCell ⟨w2.heap.size, 1, none⟩ (.slice A2 (can f qs).length c2)).heap.size ∧ b ≠ g3) (fun b hb => by have := HD2.out b hb; exact ⟨by omega, by omega, by omega⟩)) (fun b hb => ⟨hb.2.1, hb.2.2, fun h => by cases h⟩) |>.imp_ (fun b hb => hb.1))
                      go_wp2_with (at_builtin; refine wpList_appW (R := EB false) (u := false) (w0 := ((v4.setCell ⟨w2.heap.size, 0, none⟩ (.int .i64 (sq f r4))).setCell ⟨w2.heap.size, 1, none⟩ (.slice A2 (can f qs).length c2))) (xs := got3) (ys := out) (T := fun b => w2.heap.size < b) (Fn := fun b => w2.heap.size < b) rfl EB.mov EB.cls (.tmp 94) (.tmp 95) 29 rfl 38 i0 (.slice none 0 0) 24 Try.underlying29 hI0 hz0 hz1 hz2 rfl (by decide) rfl HM5.out.own (Below.refl _ _) rfl HSRC.out (by have h1 := HGL.out; have h2 := HOL.out; omega) (by decide) (by omega) ?_)
                      intro g9 c9 w9 l9 HQ9 HO9 HG9 HC9 HB9
                      have hs9 := HC9.out.size
                      have hl9 := HO9.out.lt
                      have HM9 := Lib.hid (HM5.out.app HC9.out HG9.out (HO9.out.widerT (fun b h _ => h.elim id id)))
                      have HG9n : Hid (g9 ≠ gl) := Lib.hid (by rcases HG9.out with h | h <;> omega)
                      have HL9 := Lib.hid (HL5.out.frame HC9.out (fun b h1 h2 => by omega))
                      have hgt9 : l9 = gotL r4 := by rw [HQ9.out, HGT.out, HOUT.out]; exact gotL_app (by have := HR4.out; omega)
                      have HGT9 := Lib.hid hgt9
                      clear hgt9 HC9 HB9 HG9 HSRC HM5 HM4 HO5 HO4 HP4 HL4 HL5 hcr
                      go_wp2
                      go_roundw
                      case rel => exact ⟨i + 1, r4, qs, g9, c9, A2, c2, T1, l9, by go_num, by omega, rfl, HGT9, Lib.hid (HI3.out.recv HR4.out.1 HR4.out.2.1 HR4.out.2.2.1 HR4.out.2.2.2), HM9, HL9, HG9n.out, by omega, Lib.hid (fun h30 j' x' hj' hx' => by
                          rcases Nat.lt_or_ge j' i with h | h
                          · obtain ⟨p, h1, h2⟩ := HRV.out h30 j' x' h hx'
                            exact ⟨p, h1, (HR4.out.2.2.2 p).2 (h2.imp id .inl)⟩
                          · obtain rfl : j' = i := by omega
                            rw [HXI.out] at hx'
                            injection hx' with hx'
                            exact ⟨j, hx'.symm, (HR4.out.2.2.2 j).2 (.inr (.inr rfl))⟩)⟩
                      case measure => simp [intOf]; omega
                  · go_simp
                    go_wp2_with fail
                    refine hK.out _ _ (fun _ => ?_) (fun hHeld => ?_)
                    · ((try dsimp only); first | exact ⟨k0, k1, e0⟩ | exact ⟨(World.cell?_alloc_lt _ _ _ (by simp only; omega)).trans k0, (World.cell?_alloc_lt _ _ _ (by simp only; omega)).trans k1, (World.cell?_alloc_lt _ _ _ (by simp only; omega)).trans e0⟩)
                    replace hHeld := hHeld (by rfl)
                    clear hK K
                    (try simp only [Act.put, List.setIfInBounds_toArray, List.set_cons_zero, List.set_cons_succ])
                    obtain ⟨v1, hv⟩ : ∃ v, v = (wb.alloc (.cells #[.int .i64 0, .slice none 0 0] 28)).drew := ⟨_, rfl⟩
                    rw [← hv] at hHeld ⊢
                    have hbv : Below wb.heap.size wb v1 := by rw [hv]; exact Below.drew (Below.alloc (Below.refl _ _) (Nat.le_refl _) _)
                    have hzv1 : wb.heap.size < v1.heap.size := by rw [hv]; simp
                    obtain ⟨gx, hgx⟩ : ∃ g, g = wb.heap.size := ⟨_, rfl⟩
                    have hbk : v1.heap[gx]? = some (.cells #[.int .i64 0, .slice none 0 0] 28) := by rw [hv, hgx]; exact World.heap_new _ _ _ rfl
                    replace k0 := (hbv.cell (p := ⟨w2.heap.size, 0, none⟩) (by simp only; omega)).trans k0
                    replace k1 := (hbv.cell (p := ⟨w2.heap.size, 1, none⟩) (by simp only; omega)).trans k1
                    replace e0 := (hbv.cell (p := ⟨gl, i, none⟩) (by simp only; omega)).trans e0
                    have hsv1 := hbv.size
                    have HBVv1 := Lib.hid (hbv)
                    have x0 := (block_cell hbk 0).1
                    have x1 := (block_cell hbk 1).1
                    have xf0 := (block_cell hbk 0).2
                    have xf1 := (block_cell hbk 1).2
                    clear hv hbv hbk
                    rw [← hgx]
                    have hgx1 : wb.heap.size ≤ gx := Nat.le_of_eq hgx.symm
                    have hgx2 : gx < v1.heap.size := by omega
                    clear hgx
                    refine wpAnyG_ready (rs := [7]) (by kernel_rfl) (by simp) ?_
                    refine (AllReadyG.cons (i := 7) (by simp only [List.getElem?_toArray, List.getElem?_cons_succ, List.getElem?_cons_zero]; rfl) (fun K hK => ?_) AllReadyG.nil)
                    go_simp
                    go_wp2_with fail
                    refine hK.out _ _ (fun _ => ?_) (fun hHeld => ?_)
                    · ((try dsimp only); first | exact ⟨k0, k1, e0⟩ | exact ⟨(World.cell?_alloc_lt _ _ _ (by simp only; omega)).trans k0, (World.cell?_alloc_lt _ _ _ (by simp only; omega)).trans k1, (World.cell?_alloc_lt _ _ _ (by simp only; omega)).trans e0⟩)
                    replace hHeld := hHeld (by rfl)
                    clear hK K
                    (try simp only [Act.put, List.setIfInBounds_toArray, List.set_cons_zero, List.set_cons_succ])
                    obtain ⟨v2, hv⟩ : ∃ v, v = v1.alloc (.cells #[.int .u8 (j : Int)] 5) := ⟨_, rfl⟩
                    rw [← hv] at hHeld ⊢
                    have hbv : Below v1.heap.size v1 v2 := by rw [hv]; exact Below.alloc (Below.refl _ _) (Nat.le_refl _) _
                    have hzv2 : v1.heap.size < v2.heap.size := by rw [hv]; simp
                    obtain ⟨g7, hg7⟩ : ∃ g, g = v1.heap.size := ⟨_, rfl⟩
                    have hbk : v2.heap[g7]? = some (.cells #[.int .u8 (j : Int)] 5) := by rw [hv, hg7]; exact World.heap_new _ _ _ rfl
                    replace k0 := (hbv.cell (p := ⟨w2.heap.size, 0, none⟩) (by simp only; omega)).trans k0
                    replace k1 := (hbv.cell (p := ⟨w2.heap.size, 1, none⟩) (by simp only; omega)).trans k1
                    replace e0 := (hbv.cell (p := ⟨gl, i, none⟩) (by simp only; omega)).trans e0
                    have hsv2 := hbv.size
                    replace x0 := (hbv.cell (p := ⟨gx, 0, none⟩) (by simp only; omega)).trans x0
                    replace x1 := (hbv.cell (p := ⟨gx, 1, none⟩) (by simp only; omega)).trans x1
                    replace xf0 := (hbv.frozen (p := ⟨gx, 0, none⟩) (by simp only; omega)).trans xf0
                    replace xf1 := (hbv.frozen (p := ⟨gx, 1, none⟩) (by simp only; omega)).trans xf1
                    have HBVv2 := Lib.hid (HBVv1.out.trans (hbv.mono HBVv1.out.size))
                    have c7 := (block_cell hbk 0).1
                    clear hv hbv hbk
                    rw [← hg7]
                    have hg71 : v1.heap.size ≤ g7 := Nat.le_of_eq hg7.symm
                    have hg72 : g7 < v2.heap.size := by omega
                    clear hg7
                    refine wpAnyG_ready (rs := [8]) (by kernel_rfl) (by simp) ?_
                    refine (AllReadyG.cons (i := 8) (by simp only [List.getElem?_toArray, List.getElem?_cons_succ, List.getElem?_cons_zero]; rfl) (fun K hK => ?_) AllReadyG.nil)
                    go_simp
                    refine (implRN_any (T := T3) (Tb := fun b => b = g7) (sq f rr3) A3 c3 (can f ps3) (sq f j) (some ⟨g7, 0, none⟩) 1 [(j : Int)] _ (HM3.out.row.below EN.framed HBVv2.out) (by rw [can_len]; have := HPL.out; omega) (fun x hx => by obtain ⟨p, hp, rfl⟩ := can_mem hx; simp) (fun k' hk' => by obtain rfl : k' = 0 := (by simpa using hk'); exact ⟨g7, 0, rfl, rfl, by omega, c7, fun h => by cases h⟩) (by simp)).mono ?_
                    rw [HRC.out]
                    rintro e v3 ⟨A2, c2, gb, cb, T1, T2, rfl, hbv, hcap2, hd1, hd2, hp2, ho2, hT2⟩
                    have hgb := hd2 gb hT2
                    have HD1 := Lib.hid (fun b h => (⟨(hd1 b h).1, (hd1 b h).2.1⟩ : _ ∧ _))
                    have HD2 := Lib.hid hd2
                    replace k0 := (hbv.cell (p := ⟨w2.heap.size, 0, none⟩) (by simp only; omega)).trans k0
                    replace k1 := (hbv.cell (p := ⟨w2.heap.size, 1, none⟩) (by simp only; omega)).trans k1
                    replace e0 := (hbv.cell (p := ⟨gl, i, none⟩) (by simp only; omega)).trans e0
                    have hsv3 := hbv.size
                    replace c7 := (hbv.cell (p := ⟨g7, 0, none⟩) (by simp only; omega)).trans c7
                    replace x0 := (hbv.cell (p := ⟨gx, 0, none⟩) (by simp only; omega)).trans x0
                    replace x1 := (hbv.cell (p := ⟨gx, 1, none⟩) (by simp only; omega)).trans x1
                    replace xf0 := (hbv.frozen (p := ⟨gx, 0, none⟩) (by simp only; omega)).trans xf0
                    replace xf1 := (hbv.frozen (p := ⟨gx, 1, none⟩) (by simp only; omega)).trans xf1
                    have HBVv3 := Lib.hid (HBVv2.out.trans (hbv.mono HBVv2.out.size))
                    have HP2 := Lib.hid (SlN.read hp2)
                    have HO2 := Lib.hid (SlB.read (u := true) (ho2.slT (fun a ha => by injection ha with ha; subst ha; exact hT2)))
                    clear hbv hcap2 hd1 hd2 hp2 ho2 hT2
                    go_wp2_with fail
                    refine hK.out _ _ (fun _ => ?_) (fun hHeld => ?_)
                    · ((try dsimp only); first | exact ⟨k0, k1, e0⟩ | exact ⟨(World.cell?_alloc_lt _ _ _ (by simp only; omega)).trans k0, (World.cell?_alloc_lt _ _ _ (by simp only; omega)).trans k1, (World.cell?_alloc_lt _ _ _ (by simp only; omega)).trans e0⟩)
                    replace hHeld := hHeld (by rfl)
                    clear hK K
                    (try simp only [Act.put, List.setIfInBounds_toArray, List.set_cons_zero, List.set_cons_succ])
                    refine wpAnyG_takeW [10, 11, 13, 14] (i := 9) (d := some 81) (v := ?_) (by simp only [List.getElem?_toArray, List.getElem?_cons_succ, List.getElem?_cons_zero]; rfl) (by rfl) (by kernel_rfl) (by kernel_rfl) (by kernel_rfl) (by kernel_rfl) (by kernel_rfl) (by intro _ _ _ h; exact h) (by rfl) ?_ (by assumption) ?_
                    rotate_left 1
                    · (intro w hSw; (try dsimp only at hSw); go_simp; try (with_reducible rfl))
                    (try simp only [Act.put, List.setIfInBounds_toArray, List.set_cons_zero, List.set_cons_succ])
                    refine wpAnyG_takeP (i := 10) (d := some 91) (v := ?_) (by simp only [List.getElem?_toArray, List.getElem?_cons_succ, List.getElem?_cons_zero]; rfl) (by rfl) (by kernel_rfl) (by kernel_rfl) (by kernel_rfl) (by kernel_rfl) (by intro _ _ _ h; exact h) (by rfl) ?_ ?_
                    rotate_left 1
                    · (intro w hSw; (try dsimp only at hSw); go_simp; try (with_reducible rfl))
                    (try simp only [Act.put, List.setIfInBounds_toArray, List.set_cons_zero, List.set_cons_succ])
                    refine wpAnyG_takeP (i := 11) (d := some 92) (v := ?_) (by simp only [List.getElem?_toArray, List.getElem?_cons_succ, List.getElem?_cons_zero]; rfl) (by rfl) (by kernel_rfl) (by kernel_rfl) (by kernel_rfl) (by kernel_rfl) (by intro _ _ _ h; exact h) (by rfl) ?_ ?_
                    rotate_left 1
                    · (intro w hSw; (try dsimp only at hSw); go_simp; try (with_reducible rfl))
                    (try simp only [Act.put, List.setIfInBounds_toArray, List.set_cons_zero, List.set_cons_succ])
                    refine wpAnyG_ready (rs := [13]) (by kernel_rfl) (by simp) ?_
                    refine (AllReadyG.cons (i := 13) (by simp only [List.getElem?_toArray, List.getElem?_cons_succ, List.getElem?_cons_zero]; rfl) (fun K hK => ?_) AllReadyG.nil)
                    go_simp
                    go_wp2_with fail
                    refine hK.out _ _ (fun h => by cases h) (fun _ => ?_)
                    clear hK K
                    (try simp only [Act.put, List.setIfInBounds_toArray, List.set_cons_zero, List.set_cons_succ])
                    refine wpAnyG_takeP (i := 14) (d := some 17) (v := ?_) (by simp only [List.getElem?_toArray, List.getElem?_cons_succ, List.getElem?_cons_zero]; rfl) (by rfl) (by kernel_rfl) (by kernel_rfl) (by kernel_rfl) (by kernel_rfl) (by intro _ _ _ h; exact h) (by rfl) ?_ ?_
                    rotate_left 1
                    · (intro w hSw; (try dsimp only at hSw); go_simp; try (with_reducible rfl))
                    (try simp only [Act.put, List.setIfInBounds_toArray, List.set_cons_zero, List.set_cons_succ])
                    refine wpAnyG_done (by kernel_rfl) ?_ _
                    obtain ⟨v4, hv4⟩ : ∃ v, v = ((v3.setCell ⟨gx, 0, none⟩ (.int .i64 (sq f r4))).setCell ⟨gx, 1, none⟩ (.slice A2 (can f qs).length c2)) := ⟨_, rfl⟩
                    have hcx : Chg (fun b => b = gx) v3 v4 := by rw [hv4]; exact Chg.setCell_ (S := fun b => b = gx) (Chg.setCell_ (S := fun b => b = gx) (Chg.refl _ _) (p := ⟨gx, 0, none⟩) rfl _) (p := ⟨gx, 1, none⟩) rfl _
                    have hs4 := hcx.size
                    have x0' : v4.cell? ⟨gx, 0, none⟩ = some (.int .i64 (sq f r4)) := by rw [hv4, World.cell?_setCell_other _ _ _ _ (fun e => by injection e with _ e2; omega)]; exact World.cell?_setCell_same _ _ _ x0
                    have x1' : v4.cell? ⟨gx, 1, none⟩ = some (.slice A2 (can f qs).length c2) := by rw [hv4]; exact World.cell?_setCell_same (u := .slice none 0 0) _ _ _ (by rw [World.cell?_setCell_other _ _ _ _ (fun e => by injection e with _ e2; omega)]; exact x1)
                    have HM4 := Lib.hid (HM3.out.chg (S := fun b => wb.heap.size ≤ b) ((Chg.of_below HBVv3.out).trans (hcx.mono (fun b _ hb => by omega))) (fun b hb => hb))
                    have HP4 := Lib.hid (Sl.frame (R := EN false) EN.framed HP2.out hcx (fun b h1 h2 => by have := HD1.out b h1; omega))
                    have HO4 := Lib.hid (Sl.frame (R := EB false) EB.framed HO2.out hcx (fun b h1 h2 => by have := HD2.out b h1; omega))
                    have HL4 := Lib.hid (HL3.out.frame ((Chg.of_below (S := fun b => wb.heap.size ≤ b) HBVv3.out).trans (hcx.mono (fun b _ hb => by omega))) (fun b h1 h2 => by omega))
                    rw [← hv4]
                    clear hv4 hcx x0 x1 xf0 xf1 k0 k1 e0 c7 HM3 HL3
                    have k0 := HM4.out.r0
                    have k1 := HM4.out.r1
                    have rf0 := HM4.out.rf0
                    have rf1 := HM4.out.rf1
                    have hlr_HM4 := HM4.out.h3
                    have HM5 := Lib.hid (HM4.out.setR (rs' := sq f r4) (A' := A2) (c' := c2) (ys' := can f qs) (T' := T1) HP4.out (fun b hb => by have := HD1.out b hb; exact ⟨by omega, by omega, by omega⟩))
                    have hcr : Chg (fun b => b = w2.heap.size) v4 ((v4.setCell ⟨w2.heap.size, 0, none⟩ (.int .i64 (sq f r4))).setCell ⟨w2.heap.size, 1, none⟩ (.slice A2 (can f qs).length c2)) := Chg.setCell_ (S := fun b => b = w2.heap.size) (Chg.setCell_ (S := fun b => b = w2.heap.size) (Chg.refl _ _) (p := ⟨w2.heap.size, 0, none⟩) rfl _) (p := ⟨w2.heap.size, 1, none⟩) rfl _
                    have hsr := hcr.size
                    have HO5 := Lib.hid (Sl.frame (R := EB false) EB.framed HO4.out hcr (fun b h1 h2 => by have := HD2.out b h1; omega))
                    have HL5 := Lib.hid (HL4.out.frame hcr (fun b h1 h2 => by omega))
                    have HSRC : Hid (Src false 1 (EB false) ((v4.setCell ⟨w2.heap.size, 0, none⟩ (.int .i64 (sq f r4))).setCell ⟨w2.heap.size, 1, none⟩ (.slice A2 (can f qs).length c2)) (fun b => w2.heap.size < b) (fun b => w2.heap.size < b) g3 (some ⟨gb, 0, none⟩) out) := Lib.hid (Sl.src (Sl.wider HO5.out (T' := fun b => w2.heap.size < b ∧ b < ((v4.setCell ⟨w2.heap.size, 0, none⟩ (.int .i64 (sq f r4))).setCell ⟨w2.heap.size, 1, none⟩ (.slice A2 (can f qs).length c2)).heap.size ∧ b ≠ g3) (fun b hb => by have := HD2.out b hb; exact ⟨by omega, by omega, by omega⟩)) (fun b hb => ⟨hb.2.1, hb.2.2, fun h => by cases h⟩) |>.imp_ (fun b hb => hb.1))
                    go_wp2_with (at_builtin; refine wpList_appW (R := EB false) (u := false) (w0 := ((v4.setCell ⟨w2.heap.size, 0, none⟩ (.int .i64 (sq f r4))).setCell ⟨w2.heap.size, 1, none⟩ (.slice A2 (can f qs).length c2))) (xs := got3) (ys := out) (T := fun b => w2.heap.size < b) (Fn := fun b => w2.heap.size < b) rfl EB.mov EB.cls (.tmp 94) (.tmp 95) 29 rfl 38 i0 (.slice none 0 0) 24 Try.underlying29 hI0 hz0 hz1 hz2 rfl (by decide) rfl HM5.out.own (Below.refl _ _) rfl HSRC.out (by have h1 := HGL.out; have h2 := HOL.out; omega) (by decide) (by omega) ?_)
                    intro g9 c9 w9 l9 HQ9 HO9 HG9 HC9 HB9
                    have hs9 := HC9.out.size
                    have hl9 := HO9.out.lt
                    have HM9 := Lib.hid (HM5.out.app HC9.out HG9.out (HO9.out.widerT (fun b h _ => h.elim id id)))
                    have HG9n : Hid (g9 ≠ gl) := Lib.hid (by rcases HG9.out with h | h <;> omega)
                    have HL9 := Lib.hid (HL5.out.frame HC9.out (fun b h1 h2 => by omega))
                    have hgt9 : l9 = gotL r4 := by rw [HQ9.out, HGT.out, HOUT.out]; exact gotL_app (by have := HR4.out; omega)
                    have HGT9 := Lib.hid hgt9
                    clear hgt9 HC9 HB9 HG9 HSRC HM5 HM4 HO5 HO4 HP4 HL4 HL5 hcr
                    go_wp2
                    go_roundw
                    case rel => exact ⟨i + 1, r4, qs, g9, c9, A2, c2, T1, l9, by go_num, by omega, rfl, HGT9, Lib.hid (HI3.out.recv HR4.out.1 HR4.out.2.1 HR4.out.2.2.1 HR4.out.2.2.2), HM9, HL9, HG9n.out, by omega, Lib.hid (fun h30 j' x' hj' hx' => by
                        rcases Nat.lt_or_ge j' i with h | h
                        · obtain ⟨p, h1, h2⟩ := HRV.out h30 j' x' h hx'
                          exact ⟨p, h1, (HR4.out.2.2.2 p).2 (h2.imp id .inl)⟩
                        · obtain rfl : j' = i := by omega
                          rw [HXI.out] at hx'
                          injection hx' with hx'
                          exact ⟨j, hx'.symm, (HR4.out.2.2.2 j).2 (.inr (.inr rfl))⟩)⟩
                    case measure => simp [intOf]; omega
              · have hiI : ¬ (i : Int) < (ls.length : Int) := by omega
                have HFULL : Hid (30 ≤ r → rr3 = m) := Lib.hid (fun h30 => HI3.out.full (fun y hy hb => by
                  have hmem := (outS_can_mem f (show a ≤ m by have h1 := HI3.out.ar; have h2 := HI3.out.rn; omega) HI3.out.na HI3.out.n60 HI3.out.lt HI3.out.ev).2 ⟨y, hy, hb, rfl⟩
                  rw [← HLS.out] at hmem
                  obtain ⟨q, hq, he⟩ := List.getElem_of_mem hmem
                  obtain ⟨p, h1, h2⟩ := HRV.out h30 q _ (by omega) (List.getElem?_eq_getElem hq)
                  rw [he] at h1
                  have hp : p ≤ 100 := by
                    rcases h2 with h2 | h2
                    · have h3 := HI3.out.rn; have h4 := HI3.out.n60; omega
                    · have h3 := HI3.out.srt.mem _ h2; have h4 := HI3.out.n60; omega
                  have := (sq_inj f (by have h4 := HI3.out.n60; omega) hp).1 h1
                  rw [this]
                  exact h2))
                have s0 := HM3.out.s0
                have s1 := HM3.out.s1
                have s2 := HM3.out.s2
                have sf0 := HM3.out.sf0
                have sf1 := HM3.out.sf1
                have sf2 := HM3.out.sf2
                have hls_HM3 := Nat.lt_trans HM3.out.h2 HM3.out.h3
                have k0 := HM3.out.r0
                have k1 := HM3.out.r1
                have rf0 := HM3.out.rf0
                have rf1 := HM3.out.rf1
                have hlr_HM3 := HM3.out.h3
                by_cases hr30 : r < 30
                · have hrI : (r : Int) < 30 := by omega
                  obtain ⟨av, hav⟩ : ∃ v, v = atV code (r + 2) := ⟨_, rfl⟩
                  have hav0 : 0 ≤ av ∧ av ≤ 255 := by rw [hav]; exact atV_le HB.out _
                  obtain ⟨hav1, hav2⟩ := hav0
                  have HAV := Lib.hid hav
                  clear hav
                  by_cases h4 : av % 4 = 0
                  · have h4b : (av % 4 == 0) = true := by simp [h4]
                    go_wp2_with (go_at_call 37; refine Calls.mono (at_i AC cc code (r + 2) _ _ (by omega) (HX.out.below HM3.out.below) hcl HB.out (by omega)) ?_; rw [← HAV.out]; rintro e w' ⟨rfl, rfl⟩)
                    obtain ⟨wz, rfl⟩ : ∃ wz : World, wz = wb := ⟨_, rfl⟩
                    have HMZ := HM3
                    have HIZ : Hid (TrI (t1 + 1) (r + 1) a m rr3 A ps3) := Lib.hid (HI3.out.noack hr30)
                    clear s0 s1 s2 sf0 sf1 sf2 k0 k1 rf0 rf1
                    have s0 := HMZ.out.s0
                    have s1 := HMZ.out.s1
                    have s2 := HMZ.out.s2
                    have sf0 := HMZ.out.sf0
                    have sf1 := HMZ.out.sf1
                    have sf2 := HMZ.out.sf2
                    have hls_HMZ := Nat.lt_trans HMZ.out.h2 HMZ.out.h3
                    have k0 := HMZ.out.r0
                    have k1 := HMZ.out.r1
                    have rf0 := HMZ.out.rf0
                    have rf1 := HMZ.out.rf1
                    have hlr_HMZ := HMZ.out.h3
                    have HVR : Hid (vROB (sq f rr3) (can f ps3) = true) := Lib.hid (HIZ.out.vr f)
                    have HVS : Hid (vSend (sq f a) (sq f m) (A : Int) = true) := Lib.hid (HIZ.out.vs f)
                    have hz1 := HMZ.out.h3
                    go_wp2_with fail
                    refine (implVR_any (sq f rr3) A3 c3 (can f ps3) _ HMZ.out.row (by rw [can_len]; have h1 := HIZ.out.srt.len; have h2 := HIZ.out.n60; rcases h1 with h1 | h1; omega; rw [h1]; simp) (fun x hx => by obtain ⟨p, hp, rfl⟩ := can_mem hx; simp)).mono ?_
                    rw [HVR.out]
                    rintro e wy ⟨rfl, hb⟩
                    have HMY := Lib.hid (HMZ.out.below_ hb)
                    clear hb s0 s1 s2 sf0 sf1 sf2 k0 k1 rf0 rf1 hz1
                    have s0 := HMY.out.s0
                    have s1 := HMY.out.s1
                    have s2 := HMY.out.s2
                    have sf0 := HMY.out.sf0
                    have sf1 := HMY.out.sf1
                    have sf2 := HMY.out.sf2
                    have hls_HMY := Nat.lt_trans HMY.out.h2 HMY.out.h3
                    go_wp2_with fail
                    refine (implVS_any (sq f a) (sq f m) (A : Int) _).mono ?_
                    rw [HVS.out]
                    rintro e wx ⟨rfl, hb⟩
                    have HMX := Lib.hid (HMY.out.below_ hb)
                    clear hb s0 s1 s2 sf0 sf1 sf2
                    go_wp2

                    go_roundw
                    case rel => exact ⟨r + 1, a, m, rr3, A, ps3, g3, cl3, A3, c3, T3, got3, by go_num, rfl, rfl, by omega, HGT, HIZ, HMX⟩
                    case measure => simp [intOf]; omega
                  · have h4b : (av % 4 == 0) = false := by simp [h4]
                    have h4c : (av % 4 != 0) = true := by simp [h4]
                    have h4d : decide (av % 4 = 0) = false := by simp [h4]
                    go_wp2_with (go_at_call 37; refine Calls.mono (at_i AC cc code (r + 2) _ _ (by omega) (HX.out.below HM3.out.below) hcl HB.out (by omega)) ?_; rw [← HAV.out]; rintro e w' ⟨rfl, rfl⟩)
                    obtain ⟨A5, hak, hA1, hA2, hA3⟩ := ack_can f HI3.out.ar HI3.out.rn HI3.out.na HI3.out.n60 HI3.out.srt HI3.out.lt HI3.out.ev HI3.out.rec_
                    have HAK := Lib.hid hak
                    have HA5 := Lib.hid (⟨hA1, hA2, hA3⟩ : _ ∧ _ ∧ _)
                    clear hak hA1 hA2 hA3
                    go_wp2
                    refine wp_region_G [4] (S := (fun w' => w'.cell? ⟨w1.heap.size, 0, none⟩ = some (.int .i64 (sq f a)) ∧ w'.cell? ⟨w1.heap.size, 1, none⟩ = some (.int .i64 (sq f m)) ∧ w'.cell? ⟨w1.heap.size, 2, none⟩ = some (.int .i64 (A : Int)) ∧ w'.cell? ⟨w2.heap.size, 0, none⟩ = some (.int .i64 (sq f rr3)) ∧ w'.cell? ⟨w2.heap.size, 1, none⟩ = some (.slice A3 (can f ps3).length c3))) (by kernel_rfl) ?_ (fun hHeld => ?_)
                    · exact ⟨s0, s1, s2, k0, k1⟩
                    refine wpAnyG_takeW [3, 4] (i := 0) (d := some 107) (v := ?_) (by simp only [List.getElem?_toArray, List.getElem?_cons_succ, List.getElem?_cons_zero]; rfl) (by rfl) (by kernel_rfl) (by kernel_rfl) (by kernel_rfl) (by kernel_rfl) (by kernel_rfl) (by intro _ _ _ h; exact h) (by rfl) ?_ (by assumption) ?_
                    rotate_left 1
                    · (intro w hSw; (try dsimp only at hSw); go_simp; try (with_reducible rfl))
                    (try simp only [Act.put, List.setIfInBounds_toArray, List.set_cons_zero, List.set_cons_succ])
                    refine wpAnyG_takeW [2, 3, 4] (i := 1) (d := some 108) (v := ?_) (by simp only [List.getElem?_toArray, List.getElem?_cons_succ, List.getElem?_cons_zero]; rfl) (by rfl) (by kernel_rfl) (by kernel_rfl) (by kernel_rfl) (by kernel_rfl) (by kernel_rfl) (by intro _ _ _ h; exact h) (by rfl) ?_ (by assumption) ?_
                    rotate_left 1
                    · (intro w hSw; (try dsimp only at hSw); go_simp; try (with_reducible rfl))
                    (try simp only [Act.put, List.setIfInBounds_toArray, List.set_cons_zero, List.set_cons_succ])
                    refine wpAnyG_ready (rs := [2]) (by kernel_rfl) (by simp) ?_
                    refine (AllReadyG.cons (i := 2) (by simp only [List.getElem?_toArray, List.getElem?_cons_succ, List.getElem?_cons_zero]; rfl) (fun K hK => ?_) AllReadyG.nil)
                    go_simp
                    refine (implBak_any (sq f rr3) A3 c3 (can f ps3) _ (HM3.out.row.below EN.framed (Below.drew (Below.refl _ _))) (by rw [can_len]; have h1 := HI3.out.srt.len; have h2 := HI3.out.n60; rcases h1 with h1 | h1; omega; rw [h1]; simp) (fun x hx => by obtain ⟨p, hp, rfl⟩ := can_mem hx; simp)).mono ?_
                    rintro e u1 ⟨rfl, hb⟩
                    replace hb : Below wb.heap.size wb u1 := Below.trans (Below.drew (Below.refl _ _)) hb
                    have hsu1 := hb.size
                    have HMu1 := Lib.hid (HM3.out.below_ hb)
                    replace s0 := (hb.cell (p := ⟨w1.heap.size, 0, none⟩) (by simp only; omega)).trans s0
                    replace s1 := (hb.cell (p := ⟨w1.heap.size, 1, none⟩) (by simp only; omega)).trans s1
                    replace s2 := (hb.cell (p := ⟨w1.heap.size, 2, none⟩) (by simp only; omega)).trans s2
                    replace sf0 := (hb.frozen (p := ⟨w1.heap.size, 0, none⟩) (by simp only; omega)).trans sf0
                    replace sf1 := (hb.frozen (p := ⟨w1.heap.size, 1, none⟩) (by simp only; omega)).trans sf1
                    replace sf2 := (hb.frozen (p := ⟨w1.heap.size, 2, none⟩) (by simp only; omega)).trans sf2
                    replace k0 := (hb.cell (p := ⟨w2.heap.size, 0, none⟩) (by simp only; omega)).trans k0
                    replace k1 := (hb.cell (p := ⟨w2.heap.size, 1, none⟩) (by simp only; omega)).trans k1
                    clear hb
                    go_wp2_with fail
                    refine hK.out _ _ (fun _ => ?_) (fun hHeld => ?_)
                    · ((try dsimp only); exact ⟨s0, s1, s2, k0, k1⟩)
                    replace hHeld := hHeld (by rfl)
                    clear hK K
                    (try simp only [Act.put, List.setIfInBounds_toArray, List.set_cons_zero, List.set_cons_succ])
                    refine wpAnyG_ready (rs := [3]) (by kernel_rfl) (by simp) ?_
                    refine (AllReadyG.cons (i := 3) (by simp only [List.getElem?_toArray, List.getElem?_cons_succ, List.getElem?_cons_zero]; rfl) (fun K hK => ?_) AllReadyG.nil)
                    go_simp
                    refine (implRecv_any (sq f a) (sq f m) (A : Int) _ _ _).mono ?_
                    rw [HAK.out]
                    rintro e u2 ⟨rfl, hb⟩
                    have hsu2 := hb.size
                    have HMu2 := Lib.hid (HMu1.out.below_ hb)
                    replace s0 := (hb.cell (p := ⟨w1.heap.size, 0, none⟩) (by simp only; omega)).trans s0
                    replace s1 := (hb.cell (p := ⟨w1.heap.size, 1, none⟩) (by simp only; omega)).trans s1
                    replace s2 := (hb.cell (p := ⟨w1.heap.size, 2, none⟩) (by simp only; omega)).trans s2
                    replace sf0 := (hb.frozen (p := ⟨w1.heap.size, 0, none⟩) (by simp only; omega)).trans sf0
                    replace sf1 := (hb.frozen (p := ⟨w1.heap.size, 1, none⟩) (by simp only; omega)).trans sf1
                    replace sf2 := (hb.frozen (p := ⟨w1.heap.size, 2, none⟩) (by simp only; omega)).trans sf2
                    replace k0 := (hb.cell (p := ⟨w2.heap.size, 0, none⟩) (by simp only; omega)).trans k0
                    replace k1 := (hb.cell (p := ⟨w2.heap.size, 1, none⟩) (by simp only; omega)).trans k1
                    clear hb
                    go_wp2_with fail
                    refine hK.out _ _ (fun _ => ?_) (fun hHeld => ?_)
                    · ((try dsimp only); exact ⟨s0, s1, s2, k0, k1⟩)
                    replace hHeld := hHeld (by rfl)
                    clear hK K
                    (try simp only [Act.put, List.setIfInBounds_toArray, List.set_cons_zero, List.set_cons_succ])
                    refine wpAnyG_ready (rs := [4]) (by kernel_rfl) (by simp) ?_
                    refine (AllReadyG.cons (i := 4) (by simp only [List.getElem?_toArray, List.getElem?_cons_succ, List.getElem?_cons_zero]; rfl) (fun K hK => ?_) AllReadyG.nil)
                    go_simp
                    go_wp2_with fail
                    refine hK.out _ _ (fun h => by cases h) (fun _ => ?_)
                    clear hK K
                    (try simp only [Act.put, List.setIfInBounds_toArray, List.set_cons_zero, List.set_cons_succ])
                    refine wpAnyG_done (by kernel_rfl) ?_ _
                    obtain ⟨wz, hwz⟩ : ∃ v, v = (((u2.setCell ⟨w1.heap.size, 0, none⟩ (.int .i64 (sq f rr3))).setCell ⟨w1.heap.size, 1, none⟩ (.int .i64 (sq f m))).setCell ⟨w1.heap.size, 2, none⟩ (.int .i64 (A5 : Int))) := ⟨_, rfl⟩
                    have HMZ := Lib.hid (HMu2.out.setS (st' := sq f rr3) (nx' := sq f m) (ak' := (A5 : Int)))
                    rw [← hwz] at HMZ ⊢
                    have HIZ : Hid (TrI (t1 + 1) (r + 1) rr3 m rr3 A5 ps3) := Lib.hid (HI3.out.ack HA5.out.1 HA5.out.2.1 HA5.out.2.2 HSENT.out (fun h30 => absurd h30 (by omega)))
                    clear hwz s0 s1 s2 sf0 sf1 sf2 k0 k1 rf0 rf1 HMu1 HMu2
                    have s0 := HMZ.out.s0
                    have s1 := HMZ.out.s1
                    have s2 := HMZ.out.s2
                    have sf0 := HMZ.out.sf0
                    have sf1 := HMZ.out.sf1
                    have sf2 := HMZ.out.sf2
                    have hls_HMZ := Nat.lt_trans HMZ.out.h2 HMZ.out.h3
                    have k0 := HMZ.out.r0
                    have k1 := HMZ.out.r1
                    have rf0 := HMZ.out.rf0
                    have rf1 := HMZ.out.rf1
                    have hlr_HMZ := HMZ.out.h3
                    have HVR : Hid (vROB (sq f rr3) (can f ps3) = true) := Lib.hid (HIZ.out.vr f)
                    have HVS : Hid (vSend (sq f rr3) (sq f m) (A5 : Int) = true) := Lib.hid (HIZ.out.vs f)
                    have hz1 := HMZ.out.h3
                    go_wp2_with fail
                    refine (implVR_any (sq f rr3) A3 c3 (can f ps3) _ HMZ.out.row (by rw [can_len]; have h1 := HIZ.out.srt.len; have h2 := HIZ.out.n60; rcases h1 with h1 | h1; omega; rw [h1]; simp) (fun x hx => by obtain ⟨p, hp, rfl⟩ := can_mem hx; simp)).mono ?_
                    rw [HVR.out]
                    rintro e wy ⟨rfl, hb⟩
                    have HMY := Lib.hid (HMZ.out.below_ hb)
                    clear hb s0 s1 s2 sf0 sf1 sf2 k0 k1 rf0 rf1 hz1
                    have s0 := HMY.out.s0
                    have s1 := HMY.out.s1
                    have s2 := HMY.out.s2
                    have sf0 := HMY.out.sf0
                    have sf1 := HMY.out.sf1
                    have sf2 := HMY.out.sf2
                    have hls_HMY := Nat.lt_trans HMY.out.h2 HMY.out.h3
                    go_wp2_with fail
                    refine (implVS_any (sq f rr3) (sq f m) (A5 : Int) _).mono ?_
                    rw [HVS.out]
                    rintro e wx ⟨rfl, hb⟩
                    have HMX := Lib.hid (HMY.out.below_ hb)
                    clear hb s0 s1 s2 sf0 sf1 sf2
                    go_wp2

                    go_roundw
                    case rel => exact ⟨r + 1, rr3, m, rr3, A5, ps3, g3, cl3, A3, c3, T3, got3, by go_num, rfl, rfl, by omega, HGT, HIZ, HMX⟩
                    case measure => simp [intOf]; omega
                · have hrI : ¬ (r : Int) < 30 := by omega
                  obtain ⟨A5, hak, hA1, hA2, hA3⟩ := ack_can f HI3.out.ar HI3.out.rn HI3.out.na HI3.out.n60 HI3.out.srt HI3.out.lt HI3.out.ev HI3.out.rec_
                  have HAK := Lib.hid hak
                  have HA5 := Lib.hid (⟨hA1, hA2, hA3⟩ : _ ∧ _ ∧ _)
                  clear hak hA1 hA2 hA3
                  go_wp2
                  refine wp_region_G [4] (S := (fun w' => w'.cell? ⟨w1.heap.size, 0, none⟩ = some (.int .i64 (sq f a)) ∧ w'.cell? ⟨w1.heap.size, 1, none⟩ = some (.int .i64 (sq f m)) ∧ w'.cell? ⟨w1.heap.size, 2, none⟩ = some (.int .i64 (A : Int)) ∧ w'.cell? ⟨w2.heap.size, 0, none⟩ = some (.int .i64 (sq f rr3)) ∧ w'.cell? ⟨w2.heap.size, 1, none⟩ = some (.slice A3 (can f ps3).length c3))) (by kernel_rfl) ?_ (fun hHeld => ?_)
                  · exact ⟨s0, s1, s2, k0, k1⟩
                  refine wpAnyG_takeW [3, 4] (i := 0) (d := some 107) (v := ?_) (by simp only [List.getElem?_toArray, List.getElem?_cons_succ, List.getElem?_cons_zero]; rfl) (by rfl) (by kernel_rfl) (by kernel_rfl) (by kernel_rfl) (by kernel_rfl) (by kernel_rfl) (by intro _ _ _ h; exact h) (by rfl) ?_ (by assumption) ?_
                  rotate_left 1
                  · (intro w hSw; (try dsimp only at hSw); go_simp; try (with_reducible rfl))
                  (try simp only [Act.put, List.setIfInBounds_toArray, List.set_cons_zero, List.set_cons_succ])
                  refine wpAnyG_takeW [2, 3, 4] (i := 1) (d := some 108) (v := ?_) (by simp only [List.getElem?_toArray, List.getElem?_cons_succ, List.getElem?_cons_zero]; rfl) (by rfl) (by kernel_rfl) (by kernel_rfl) (by kernel_rfl) (by kernel_rfl) (by kernel_rfl) (by intro _ _ _ h; exact h) (by rfl) ?_ (by assumption) ?_
                  rotate_left 1
                  · (intro w hSw; (try dsimp only at hSw); go_simp; try (with_reducible rfl))
                  (try simp only [Act.put, List.setIfInBounds_toArray, List.set_cons_zero, List.set_cons_succ])
                  refine wpAnyG_ready (rs := [2]) (by kernel_rfl) (by simp) ?_
                  refine (AllReadyG.cons (i := 2) (by simp only [List.getElem?_toArray, List.getElem?_cons_succ, List.getElem?_cons_zero]; rfl) (fun K hK => ?_) AllReadyG.nil)
                  go_simp
                  refine (implBak_any (sq f rr3) A3 c3 (can f ps3) _ (HM3.out.row.below EN.framed (Below.drew (Below.refl _ _))) (by rw [can_len]; have h1 := HI3.out.srt.len; have h2 := HI3.out.n60; rcases h1 with h1 | h1; omega; rw [h1]; simp) (fun x hx => by obtain ⟨p, hp, rfl⟩ := can_mem hx; simp)).mono ?_
                  rintro e u1 ⟨rfl, hb⟩
                  replace hb : Below wb.heap.size wb u1 := Below.trans (Below.drew (Below.refl _ _)) hb
                  have hsu1 := hb.size
                  have HMu1 := Lib.hid (HM3.out.below_ hb)
                  replace s0 := (hb.cell (p := ⟨w1.heap.size, 0, none⟩) (by simp only; omega)).trans s0
                  replace s1 := (hb.cell (p := ⟨w1.heap.size, 1, none⟩) (by simp only; omega)).trans s1
                  replace s2 := (hb.cell (p := ⟨w1.heap.size, 2, none⟩) (by simp only; omega)).trans s2
                  replace sf0 := (hb.frozen (p := ⟨w1.heap.size, 0, none⟩) (by simp only; omega)).trans sf0
                  replace sf1 := (hb.frozen (p := ⟨w1.heap.size, 1, none⟩) (by simp only; omega)).trans sf1
                  replace sf2 := (hb.frozen (p := ⟨w1.heap.size, 2, none⟩) (by simp only; omega)).trans sf2
                  replace k0 := (hb.cell (p := ⟨w2.heap.size, 0, none⟩) (by simp only; omega)).trans k0
                  replace k1 := (hb.cell (p := ⟨w2.heap.size, 1, none⟩) (by simp only; omega)).trans k1
                  clear hb
                  go_wp2_with fail
                  refine hK.out _ _ (fun _ => ?_) (fun hHeld => ?_)
                  · ((try dsimp only); exact ⟨s0, s1, s2, k0, k1⟩)
                  replace hHeld := hHeld (by rfl)
                  clear hK K
                  (try simp only [Act.put, List.setIfInBounds_toArray, List.set_cons_zero, List.set_cons_succ])
                  refine wpAnyG_ready (rs := [3]) (by kernel_rfl) (by simp) ?_
                  refine (AllReadyG.cons (i := 3) (by simp only [List.getElem?_toArray, List.getElem?_cons_succ, List.getElem?_cons_zero]; rfl) (fun K hK => ?_) AllReadyG.nil)
                  go_simp
                  refine (implRecv_any (sq f a) (sq f m) (A : Int) _ _ _).mono ?_
                  rw [HAK.out]
                  rintro e u2 ⟨rfl, hb⟩
                  have hsu2 := hb.size
                  have HMu2 := Lib.hid (HMu1.out.below_ hb)
                  replace s0 := (hb.cell (p := ⟨w1.heap.size, 0, none⟩) (by simp only; omega)).trans s0
                  replace s1 := (hb.cell (p := ⟨w1.heap.size, 1, none⟩) (by simp only; omega)).trans s1
                  replace s2 := (hb.cell (p := ⟨w1.heap.size, 2, none⟩) (by simp only; omega)).trans s2
                  replace sf0 := (hb.frozen (p := ⟨w1.heap.size, 0, none⟩) (by simp only; omega)).trans sf0
                  replace sf1 := (hb.frozen (p := ⟨w1.heap.size, 1, none⟩) (by simp only; omega)).trans sf1
                  replace sf2 := (hb.frozen (p := ⟨w1.heap.size, 2, none⟩) (by simp only; omega)).trans sf2
                  replace k0 := (hb.cell (p := ⟨w2.heap.size, 0, none⟩) (by simp only; omega)).trans k0
                  replace k1 := (hb.cell (p := ⟨w2.heap.size, 1, none⟩) (by simp only; omega)).trans k1
                  clear hb
                  go_wp2_with fail
                  refine hK.out _ _ (fun _ => ?_) (fun hHeld => ?_)
                  · ((try dsimp only); exact ⟨s0, s1, s2, k0, k1⟩)
                  replace hHeld := hHeld (by rfl)
                  clear hK K
                  (try simp only [Act.put, List.setIfInBounds_toArray, List.set_cons_zero, List.set_cons_succ])
                  refine wpAnyG_ready (rs := [4]) (by kernel_rfl) (by simp) ?_
                  refine (AllReadyG.cons (i := 4) (by simp only [List.getElem?_toArray, List.getElem?_cons_succ, List.getElem?_cons_zero]; rfl) (fun K hK => ?_) AllReadyG.nil)
                  go_simp
                  go_wp2_with fail
                  refine hK.out _ _ (fun h => by cases h) (fun _ => ?_)
                  clear hK K
                  (try simp only [Act.put, List.setIfInBounds_toArray, List.set_cons_zero, List.set_cons_succ])
                  refine wpAnyG_done (by kernel_rfl) ?_ _
                  obtain ⟨wz, hwz⟩ : ∃ v, v = (((u2.setCell ⟨w1.heap.size, 0, none⟩ (.int .i64 (sq f rr3))).setCell ⟨w1.heap.size, 1, none⟩ (.int .i64 (sq f m))).setCell ⟨w1.heap.size, 2, none⟩ (.int .i64 (A5 : Int))) := ⟨_, rfl⟩
                  have HMZ := Lib.hid (HMu2.out.setS (st' := sq f rr3) (nx' := sq f m) (ak' := (A5 : Int)))
                  rw [← hwz] at HMZ ⊢
                  have HIZ : Hid (TrI (t1 + 1) (r + 1) rr3 m rr3 A5 ps3) := Lib.hid (HI3.out.ack HA5.out.1 HA5.out.2.1 HA5.out.2.2 HSENT.out (fun h30 => HFULL.out h30))
                  clear hwz s0 s1 s2 sf0 sf1 sf2 k0 k1 rf0 rf1 HMu1 HMu2
                  have s0 := HMZ.out.s0
                  have s1 := HMZ.out.s1
                  have s2 := HMZ.out.s2
                  have sf0 := HMZ.out.sf0
                  have sf1 := HMZ.out.sf1
                  have sf2 := HMZ.out.sf2
                  have hls_HMZ := Nat.lt_trans HMZ.out.h2 HMZ.out.h3
                  have k0 := HMZ.out.r0
                  have k1 := HMZ.out.r1
                  have rf0 := HMZ.out.rf0
                  have rf1 := HMZ.out.rf1
                  have hlr_HMZ := HMZ.out.h3
                  have HVR : Hid (vROB (sq f rr3) (can f ps3) = true) := Lib.hid (HIZ.out.vr f)
                  have HVS : Hid (vSend (sq f rr3) (sq f m) (A5 : Int) = true) := Lib.hid (HIZ.out.vs f)
                  have hz1 := HMZ.out.h3
                  go_wp2_with fail
                  refine (implVR_any (sq f rr3) A3 c3 (can f ps3) _ HMZ.out.row (by rw [can_len]; have h1 := HIZ.out.srt.len; have h2 := HIZ.out.n60; rcases h1 with h1 | h1; omega; rw [h1]; simp) (fun x hx => by obtain ⟨p, hp, rfl⟩ := can_mem hx; simp)).mono ?_
                  rw [HVR.out]
                  rintro e wy ⟨rfl, hb⟩
                  have HMY := Lib.hid (HMZ.out.below_ hb)
                  clear hb s0 s1 s2 sf0 sf1 sf2 k0 k1 rf0 rf1 hz1
                  have s0 := HMY.out.s0
                  have s1 := HMY.out.s1
                  have s2 := HMY.out.s2
                  have sf0 := HMY.out.sf0
                  have sf1 := HMY.out.sf1
                  have sf2 := HMY.out.sf2
                  have hls_HMY := Nat.lt_trans HMY.out.h2 HMY.out.h3
                  go_wp2_with fail
                  refine (implVS_any (sq f rr3) (sq f m) (A5 : Int) _).mono ?_
                  rw [HVS.out]
                  rintro e wx ⟨rfl, hb⟩
                  have HMX := Lib.hid (HMY.out.below_ hb)
                  clear hb s0 s1 s2 sf0 sf1 sf2
                  go_wp2

                  go_roundw
                  case rel => exact ⟨r + 1, rr3, m, rr3, A5, ps3, g3, cl3, A3, c3, T3, got3, by go_num, rfl, rfl, by omega, HGT, HIZ, HMX⟩
                  case measure => simp [intOf]; omega
        · have hmI : ¬ (m : Int) < 1 + (t1 : Int) := by omega
          have HSENT : Hid (m = t1 + 1 ∨ m = a + 16) := Lib.hid (.inl (by omega))
          obtain ⟨wq, rfl⟩ : ∃ wq : World, wq = wr := ⟨_, rfl⟩
          have HMq := HM2
          have HIq := HI2
          have s0 := HMq.out.s0
          have s1 := HMq.out.s1
          have s2 := HMq.out.s2
          have sf0 := HMq.out.sf0
          have sf1 := HMq.out.sf1
          have sf2 := HMq.out.sf2
          have hls_HMq := Nat.lt_trans HMq.out.h2 HMq.out.h3
          go_wp2_with fail
          refine (implOutS_any (sq f a) (sq f m) (A : Int) _).mono ?_
          rintro e w6 ⟨gl, cpl, X6, d6, rfl, hw6, hgl, hol⟩
          have hb6 : Below wq.heap.size wq w6 := by rw [hw6]; exact Below.ext (Below.refl _ _) (Nat.le_refl _) _ _
          have hgl6 : gl < w6.heap.size := own_lt hol
          obtain ⟨ls, hls⟩ : ∃ l, l = outS (sq f a) (sq f m) (A : Int) := ⟨_, rfl⟩
          rw [← hls] at hol ⊢
          have HLS := Lib.hid hls
          have hln : ls.length ≤ 16 := by rw [hls]; exact outS_le _ _ _
          have HL6 : Hid (Rw false .i64 w6 (fun b => b = gl) (some ⟨gl, 0, none⟩) ls) := Lib.hid ((Rw.of_own hol).read.wider (fun b hb => by have := hb.2; injection this with this; injection this with this; exact this.symm))
          have HM6 := Lib.hid (HMq.out.below_ hb6)
          have hq3 := HMq.out.h3
          have hgq := HMq.out.own.lt
          have hgq2 := HMq.out.own.ge
          have hne0 : g ≠ gl := by omega
          have hgl2 : w2.heap.size < gl := by omega
          clear hb6 hw6 hol hls s0 s1 s2 sf0 sf1 sf2
          go_wp2
          go_loopw [8, 14] (fun vg vi wr => ∃ (i rr3 : Nat) (ps3 : List Nat) (g3 cl3 : Nat) (A3 : Option Addr) (c3 : Nat) (T3 : Nat → Prop) (got3 : List (List Int)), vi = .int .i64 (i : Int) ∧ i ≤ ls.length ∧ vg = .slice (some ⟨g3, 0, none⟩) got3.length cl3 ∧ Hid (got3 = gotL rr3) ∧ Hid (TrI (t1 + 1) r a m rr3 A ps3) ∧ Hid (TrM w w1.heap.size w2.heap.size (sq f a) (sq f m) (A : Int) (sq f rr3) A3 c3 (can f ps3) T3 g3 cl3 got3 wr) ∧ Hid (Rw false .i64 wr (fun b => b = gl) (some ⟨gl, 0, none⟩) ls) ∧ g3 ≠ gl ∧ gl < wr.heap.size ∧ Hid (30 ≤ r → ∀ j x, j < i → ls[j]? = some x → ∃ p, x = sq f p ∧ (p < rr3 ∨ p ∈ ps3))) (fun _ vi _ => ls.length - (intOf vi).toNat)
          case atStart => exact ⟨0, rr, ps, g, cl, A0', c0', T0', got, rfl, Nat.zero_le _, rfl, HGT0, HIq, HM6, HL6, hne0, hgl6, Lib.hid (fun _ j x hj => absurd hj (by omega))⟩
          case round =>
            obtain ⟨i, rr3, ps3, g3, cl3, A3, c3, T3, got3, rfl, hil, rfl, HGT, HI3, HM3, HL3, hne3, hglw, HRV⟩ := hrel
            obtain ⟨wb, rfl⟩ : ∃ wb : World, wb = wr := ⟨_, rfl⟩
            have hg3 := HM3.out.own.lt
            have hg3b := HM3.out.own.ge
            have h3b := HM3.out.h3
            by_cases hi : i < ls.length
            · have hiI : (i : Int) < (ls.length : Int) := by omega
              have hxi : ls[i]? = some ls[i] := List.getElem?_eq_getElem hi
              obtain ⟨y, hy1, hy2, hy3⟩ := (outS_can_mem f (show a ≤ m by have h1 := HI3.out.ar; have h2 := HI3.out.rn; omega) HI3.out.na HI3.out.n60 HI3.out.lt HI3.out.ev).1 (show ls[i] ∈ outS (sq f a) (sq f m) (A : Int) by rw [← HLS.out]; exact List.getElem_mem hi)
              obtain ⟨j, hj⟩ : ∃ j, j = a + y := ⟨_, rfl⟩
              obtain ⟨ge, oe, hAe, hge, _, e0, _⟩ := HL3.out i hi
              injection hAe with hAe
              injection hAe with hge1 hoe1
              subst hge1 hoe1
              rw [hy3, ← hj] at e0 hxi
              rw [Nat.zero_add] at e0
              have HXI := Lib.hid hxi
              have hjm : j < m := by omega
              have hjs : j ≤ 60 := by have := HI3.out.n60; omega
              clear hxi hy1 hy2 hy3 hj hge
              have k0 := HM3.out.r0
              have k1 := HM3.out.r1
              have rf0 := HM3.out.rf0
              have rf1 := HM3.out.rf1
              have hlr_HM3 := HM3.out.h3
              by_cases hr30 : r < 30
              · have hrI : (r : Int) < 30 := by omega
                obtain ⟨av, hav⟩ : ∃ v, v = atV code (r * 7 + i) := ⟨_, rfl⟩
                have hav0 : 0 ≤ av ∧ av ≤ 255 := by rw [hav]; exact atV_le HB.out _
                obtain ⟨hav1, hav2⟩ := hav0
                have HAV := Lib.hid hav
                have HIX : Hid ((r : Int) * 7 + (i : Int) = ((r * 7 + i : Nat) : Int)) := Lib.hid (by omega)
                clear hav
                by_cases h3 : av % 3 = 0
                ·
                  have h3b_ : (av % 3 == 0) = true := by simp [h3]
                  go_wp2_with (go_at_call 37; refine Calls.mono (at_i AC cc code (r * 7 + i) _ _ (by omega) (HX.out.below HM3.out.below) hcl HB.out (by omega)) ?_; rw [← HAV.out]; rintro e w' ⟨rfl, rfl⟩)
                  go_wp2
                  go_roundw
                  case rel => exact ⟨i + 1, rr3, ps3, g3, cl3, A3, c3, T3, got3, by go_num, by omega, rfl, HGT, HI3, HM3, HL3, hne3, hglw, Lib.hid (fun h30 => by omega)⟩
                  case measure => simp [intOf]; omega
                ·
                  have h3b_ : (av % 3 == 0) = false := by simp [h3]
                  go_wp2_with (first | (go_at_call 37; refine Calls.mono (at_i AC cc code (r * 7 + i) _ _ (by omega) (HX.out.below HM3.out.below) hcl HB.out (by omega)) ?_; rw [← HAV.out]; rintro e w' ⟨rfl, rfl⟩) | fail)
                  obtain ⟨r4, qs, hrc, hr4⟩ := rcv_can f HI3.out.srt HI3.out.rn (by have := HI3.out.na; have := HI3.out.ar; omega) HI3.out.n60 (show j < m by omega)
                  have HR4 := Lib.hid hr4
                  obtain ⟨out, hout⟩ : ∃ o, o = (List.range' rr3 (r4 - rr3)).map (fun (i : Nat) => [(i : Int)]) := ⟨_, rfl⟩
                  rw [← hout] at hrc
                  have HRC := Lib.hid hrc
                  have HOUT := Lib.hid hout
                  have HOL : Hid (out.length ≤ 60) := Lib.hid (by rw [hout]; have h1 := hr4.2.1; have h2 := HI3.out.n60; simp; omega)
                  have HPL : Hid (ps3.length ≤ 100) := Lib.hid (by have h1 := HI3.out.srt.len; have h2 := HI3.out.n60; rcases h1 with h1 | h1; omega; rw [h1]; simp)
                  have HGL : Hid (got3.length ≤ 60) := Lib.hid (by rw [HGT.out, gotL_len]; have h1 := HI3.out.rn; have h2 := HI3.out.n60; omega)
                  clear hrc hr4 hout
                  have hwu : IntKind.u8.wrap (j : Int) = (j : Int) := by rw [IntKind.wrap_u8]; omega
                  have HWR : Hid (IntKind.i64.wrap (sq f j - f) = sq f j - f) := Lib.hid (by rw [IntKind.wrap_i64]; have := sq_bd f j; omega)
                  have HMOD : Hid ((sq f j - f) % 4096 = (j : Int)) := Lib.hid (by unfold sq; omega)
                  go_wp2_with (go_at_call 41; (first | rw [HWR.out] | rw [wrap64_eq, HWR.out]); refine (specMod_any (sq f j - f) 4096 (by unfold I64; have := sq_bd f j; omega) rfl _).mono ?_; rw [HMOD.out]; rintro e w' ⟨rfl, rfl⟩)
                  refine wp_region_G [10, 11, 13, 14] (S := (fun w' => w'.cell? ⟨w2.heap.size, 0, none⟩ = some (.int .i64 (sq f rr3)) ∧ w'.cell? ⟨w2.heap.size, 1, none⟩ = some (.slice A3 (can f ps3).length c3) ∧ w'.cell? ⟨gl, i, none⟩ = some (.int .i64 (sq f j)))) (by kernel_rfl) ?_ (fun hHeld => ?_)
                  · first | exact ⟨k0, k1, e0⟩ | exact ⟨(World.cell?_alloc_lt _ _ _ (by simp only; omega)).trans k0, (World.cell?_alloc_lt _ _ _ (by simp only; omega)).trans k1, (World.cell?_alloc_lt _ _ _ (by simp only; omega)).trans e0⟩
                  refine wpAnyG_takeW [8, 9, 10, 11, 13, 14] (i := 0) (d := some 82) (v := ?_) (by simp only [List.getElem?_toArray, List.getElem?_cons_succ, List.getElem?_cons_zero]; rfl) (by rfl) (by kernel_rfl) (by kernel_rfl) (by kernel_rfl) (by kernel_rfl) (by kernel_rfl) (by intro _ _ _ h; exact h) (by rfl) ?_ (by assumption) ?_
                  rotate_left 1
                  · (intro w hSw; (try dsimp only at hSw); go_simp; try (with_reducible rfl))
                  (try simp only [Act.put, List.setIfInBounds_toArray, List.set_cons_zero, List.set_cons_succ])
                  refine wpAnyG_takeW [3, 4, 8, 9, 10, 11, 13, 14] (i := 1) (d := some 83) (v := ?_) (by simp only [List.getElem?_toArray, List.getElem?_cons_succ, List.getElem?_cons_zero]; rfl) (by rfl) (by kernel_rfl) (by kernel_rfl) (by kernel_rfl) (by kernel_rfl) (by kernel_rfl) (by intro _ _ _ h; exact h) (by rfl) ?_ (by assumption) ?_
                  rotate_left 1
                  · (intro w hSw; (try dsimp only at hSw); go_simp; try (with_reducible rfl))
                  (try simp only [Act.put, List.setIfInBounds_toArray, List.set_cons_zero, List.set_cons_succ])
                  refine wpAnyG_takeW [3, 4, 8, 9, 10, 11, 13, 14] (i := 2) (d := some 84) (v := ?_) (by simp only [List.getElem?_toArray, List.getElem?_cons_succ, List.getElem?_cons_zero]; rfl) (by rfl) (by kernel_rfl) (by kernel_rfl) (by kernel_rfl) (by kernel_rfl) (by kernel_rfl) (by intro _ _ _ h; exact h) (by rfl) ?_ (by assumption) ?_
                  rotate_left 1
                  · (intro w hSw; (try dsimp only at hSw); go_simp; try (with_reducible rfl))
                  (try simp only [Act.put, List.setIfInBounds_toArray, List.set_cons_zero, List.set_cons_succ])
                  refine wpAnyG_takeW [4, 8, 9, 10, 11, 13, 14] (i := 3) (d := some 85) (v := ?_) (by simp only [List.getElem?_toArray, List.getElem?_cons_succ, List.getElem?_cons_zero]; rfl) (by rfl) (by kernel_rfl) (by kernel_rfl) (by kernel_rfl) (by kernel_rfl) (by kernel_rfl) (by intro _ _ _ h; exact h) (by rfl) ?_ (by assumption) ?_
                  rotate_left 1
                  · (intro w hSw; (try dsimp only at hSw); go_simp; try (with_reducible rfl))
                  (try simp only [Act.put, List.setIfInBounds_toArray, List.set_cons_zero, List.set_cons_succ])
                  refine wpAnyG_takeW [8, 9, 10, 11, 13, 14] (i := 4) (d := some 86) (v := ?_) (by simp only [List.getElem?_toArray, List.getElem?_cons_succ, List.getElem?_cons_zero]; rfl) (by rfl) (by kernel_rfl) (by kernel_rfl) (by kernel_rfl) (by kernel_rfl) (by kernel_rfl) (by intro _ _ _ h; exact h) (by rfl) ?_ (by assumption) ?_
                  rotate_left 1
                  · (intro w hSw; (try dsimp only at hSw); go_simp; try (with_reducible rfl))
                  (try simp only [Act.put, List.setIfInBounds_toArray, List.set_cons_zero, List.set_cons_succ])
                  refine wpAnyG_takeW [6, 7, 8, 9, 10, 11, 13, 14] (i := 5) (d := some 87) (v := ?_) (by simp only [List.getElem?_toArray, List.getElem?_cons_succ, List.getElem?_cons_zero]; rfl) (by rfl) (by kernel_rfl) (by kernel_rfl) (by kernel_rfl) (by kernel_rfl) (by kernel_rfl) (by intro _ _ _ h; exact h) (by rfl) ?_ (by assumption) ?_
                  rotate_left 1
                  · (intro w hSw; (try dsimp only at hSw); go_simp; try (with_reducible rfl))
                  (try simp only [Act.put, List.setIfInBounds_toArray, List.set_cons_zero, List.set_cons_succ])
                  refine wpAnyG_takeW [7, 8, 9, 10, 11, 13, 14] (i := 6) (d := some 88) (v := ?_) (by simp only [List.getElem?_toArray, List.getElem?_cons_succ, List.getElem?_cons_zero]; rfl) (by rfl) (by kernel_rfl) (by kernel_rfl) (by kernel_rfl) (by kernel_rfl) (by kernel_rfl) (by intro _ _ _ h; exact h) (by rfl) ?_ (by assumption) ?_
                  rotate_left 1
                  · (intro w hSw; (try dsimp only at hSw); go_simp; try (with_reducible rfl))
                  (try simp only [Act.put, List.setIfInBounds_toArray, List.set_cons_zero, List.set_cons_succ])
                  refine wpAnyG_ready (rs := [7, 12]) (by kernel_rfl) (by simp) ?_
                  refine (AllReadyG.cons (i := 7) (by simp only [List.getElem?_toArray, List.getElem?_cons_succ, List.getElem?_cons_zero]; rfl) (fun K hK => ?_) (AllReadyG.cons (i := 12) (by simp only [List.getElem?_toArray, List.getElem?_cons_succ, List.getElem?_cons_zero]; rfl) (fun K hK => ?_) AllReadyG.nil))
                  · go_simp
                    go_wp2_with fail
                    refine hK.out _ _ (fun _ => ?_) (fun hHeld => ?_)
                    · ((try dsimp only); first | exact ⟨k0, k1, e0⟩ | exact ⟨(World.cell?_alloc_lt _ _ _ (by simp only; omega)).trans k0, (World.cell?_alloc_lt _ _ _ (by simp only; omega)).trans k1, (World.cell?_alloc_lt _ _ _ (by simp only; omega)).trans e0⟩)
                    replace hHeld := hHeld (by rfl)
                    clear hK K
                    (try simp only [Act.put, List.setIfInBounds_toArray, List.set_cons_zero, List.set_cons_succ])
                    obtain ⟨v1, hv⟩ : ∃ v, v = (wb.alloc (.cells #[.int .u8 (j : Int)] 5)).drew := ⟨_, rfl⟩
                    rw [← hv] at hHeld ⊢
                    have hbv : Below wb.heap.size wb v1 := by rw [hv]; exact Below.drew (Below.alloc (Below.refl _ _) (Nat.le_refl _) _)
                    have hzv1 : wb.heap.size < v1.heap.size := by rw [hv]; simp
                    obtain ⟨g7, hg7⟩ : ∃ g, g = wb.heap.size := ⟨_, rfl⟩
                    have hbk : v1.heap[g7]? = some (.cells #[.int .u8 (j : Int)] 5) := by rw [hv, hg7]; exact World.heap_new _ _ _ rfl
                    replace k0 := (hbv.cell (p := ⟨w2.heap.size, 0, none⟩) (by simp only; omega)).trans k0
                    replace k1 := (hbv.cell (p := ⟨w2.heap.size, 1, none⟩) (by simp only; omega)).trans k1
                    replace e0 := (hbv.cell (p := ⟨gl, i, none⟩) (by simp only; omega)).trans e0
                    have hsv1 := hbv.size
                    have HBVv1 := Lib.hid (hbv)
                    have c7 := (block_cell hbk 0).1
                    clear hv hbv hbk
                    rw [← hg7]
                    have hg71 : wb.heap.size ≤ g7 := Nat.le_of_eq hg7.symm
                    have hg72 : g7 < v1.heap.size := by omega
                    clear hg7
                    refine wpAnyG_ready (rs := [8, 12]) (by kernel_rfl) (by simp) ?_
                    refine (AllReadyG.cons (i := 8) (by simp only [List.getElem?_toArray, List.getElem?_cons_succ, List.getElem?_cons_zero]; rfl) (fun K hK => ?_) (AllReadyG.cons (i := 12) (by simp only [List.getElem?_toArray, List.getElem?_cons_succ, List.getElem?_cons_zero]; rfl) (fun K hK => ?_) AllReadyG.nil))
                    · go_simp
                      refine (implRN_any (T := T3) (Tb := fun b => b = g7) (sq f rr3) A3 c3 (can f ps3) (sq f j) (some ⟨g7, 0, none⟩) 1 [(j : Int)] _ (HM3.out.row.below EN.framed HBVv1.out) (by rw [can_len]; have := HPL.out; omega) (fun x hx => by obtain ⟨p, hp, rfl⟩ := can_mem hx; simp) (fun k' hk' => by obtain rfl : k' = 0 := (by simpa using hk'); exact ⟨g7, 0, rfl, rfl, by omega, c7, fun h => by cases h⟩) (by simp)).mono ?_
                      rw [HRC.out]
                      rintro e v2 ⟨A2, c2, gb, cb, T1, T2, rfl, hbv, hcap2, hd1, hd2, hp2, ho2, hT2⟩
                      have hgb := hd2 gb hT2
                      have HD1 := Lib.hid (fun b h => (⟨(hd1 b h).1, (hd1 b h).2.1⟩ : _ ∧ _))
                      have HD2 := Lib.hid hd2
                      replace k0 := (hbv.cell (p := ⟨w2.heap.size, 0, none⟩) (by simp only; omega)).trans k0
                      replace k1 := (hbv.cell (p := ⟨w2.heap.size, 1, none⟩) (by simp only; omega)).trans k1
                      replace e0 := (hbv.cell (p := ⟨gl, i, none⟩) (by simp only; omega)).trans e0
                      have hsv2 := hbv.size
                      replace c7 := (hbv.cell (p := ⟨g7, 0, none⟩) (by simp only; omega)).trans c7
                      have HBVv2 := Lib.hid (HBVv1.out.trans (hbv.mono HBVv1.out.size))
                      have HP2 := Lib.hid (SlN.read hp2)
                      have HO2 := Lib.hid (SlB.read (u := true) (ho2.slT (fun a ha => by injection ha with ha; subst ha; exact hT2)))
                      clear hbv hcap2 hd1 hd2 hp2 ho2 hT2
                      go_wp2_with fail
                      refine hK.out _ _ (fun _ => ?_) (fun hHeld => ?_)
                      · ((try dsimp only); first | exact ⟨k0, k1, e0⟩ | exact ⟨(World.cell?_alloc_lt _ _ _ (by simp only; omega)).trans k0, (World.cell?_alloc_lt _ _ _ (by simp only; omega)).trans k1, (World.cell?_alloc_lt _ _ _ (by simp only; omega)).trans e0⟩)
                      replace hHeld := hHeld (by rfl)
                      clear hK K
                      (try simp only [Act.put, List.setIfInBounds_toArray, List.set_cons_zero, List.set_cons_succ])
                      refine wpAnyG_takeW [10, 11, 13, 14] (i := 9) (d := some 81) (v := ?_) (by simp only [List.getElem?_toArray, List.getElem?_cons_succ, List.getElem?_cons_zero]; rfl) (by rfl) (by kernel_rfl) (by kernel_rfl) (by kernel_rfl) (by kernel_rfl) (by kernel_rfl) (by intro _ _ _ h; exact h) (by rfl) ?_ (by assumption) ?_
                      rotate_left 1
                      · (intro w hSw; (try dsimp only at hSw); go_simp; try (with_reducible rfl))
                      (try simp only [Act.put, List.setIfInBounds_toArray, List.set_cons_zero, List.set_cons_succ])
                      refine wpAnyG_takeP (i := 10) (d := some 91) (v := ?_) (by simp only [List.getElem?_toArray, List.getElem?_cons_succ, List.getElem?_cons_zero]; rfl) (by rfl) (by kernel_rfl) (by kernel_rfl) (by kernel_rfl) (by kernel_rfl) (by intro _ _ _ h; exact h) (by rfl) ?_ ?_
                      rotate_left 1
                      · (intro w hSw; (try dsimp only at hSw); go_simp; try (with_reducible rfl))
                      (try simp only [Act.put, List.setIfInBounds_toArray, List.set_cons_zero, List.set_cons_succ])
                      refine wpAnyG_takeP (i := 11) (d := some 92) (v := ?_) (by simp only [List.getElem?_toArray, List.getElem?_cons_succ, List.getElem?_cons_zero]; rfl) (by rfl) (by kernel_rfl) (by kernel_rfl) (by kernel_rfl) (by kernel_rfl) (by intro _ _ _ h; exact h) (by rfl) ?_ ?_
                      rotate_left 1
                      · (intro w hSw; (try dsimp only at hSw); go_simp; try (with_reducible rfl))
                      (try simp only [Act.put, List.setIfInBounds_toArray, List.set_cons_zero, List.set_cons_succ])
                      refine wpAnyG_ready (rs := [12]) (by kernel_rfl) (by simp) ?_
                      refine (AllReadyG.cons (i := 12) (by simp only [List.getElem?_toArray, List.getElem?_cons_succ, List.getElem?_cons_zero]; rfl) (fun K hK => ?_) AllReadyG.nil)
                      go_simp
                      go_wp2_with fail
                      refine hK.out _ _ (fun _ => ?_) (fun hHeld => ?_)
                      · ((try dsimp only); first | exact ⟨k0, k1, e0⟩ | exact ⟨(World.cell?_alloc_lt _ _ _ (by simp only; omega)).trans k0, (World.cell?_alloc_lt _ _ _ (by simp only; omega)).trans k1, (World.cell?_alloc_lt _ _ _ (by simp only; omega)).trans e0⟩)
                      replace hHeld := hHeld (by rfl)
                      clear hK K
                      (try simp only [Act.put, List.setIfInBounds_toArray, List.set_cons_zero, List.set_cons_succ])
                      obtain ⟨v3, hv⟩ : ∃ v, v = v2.alloc (.cells #[.int .i64 0, .slice none 0 0] 28) := ⟨_, rfl⟩
                      rw [← hv] at hHeld ⊢
                      have hbv : Below v2.heap.size v2 v3 := by rw [hv]; exact Below.alloc (Below.refl _ _) (Nat.le_refl _) _
                      have hzv3 : v2.heap.size < v3.heap.size := by rw [hv]; simp
                      obtain ⟨gx, hgx⟩ : ∃ g, g = v2.heap.size := ⟨_, rfl⟩
                      have hbk : v3.heap[gx]? = some (.cells #[.int .i64 0, .slice none 0 0] 28) := by rw [hv, hgx]; exact World.heap_new _ _ _ rfl
                      replace k0 := (hbv.cell (p := ⟨w2.heap.size, 0, none⟩) (by simp only; omega)).trans k0
                      replace k1 := (hbv.cell (p := ⟨w2.heap.size, 1, none⟩) (by simp only; omega)).trans k1
                      replace e0 := (hbv.cell (p := ⟨gl, i, none⟩) (by simp only; omega)).trans e0
                      have hsv3 := hbv.size
                      replace c7 := (hbv.cell (p := ⟨g7, 0, none⟩) (by simp only; omega)).trans c7
                      replace HP2 := Lib.hid (Sl.below (R := EN false) EN.framed HP2.out hbv)
                      replace HO2 := Lib.hid (Sl.below (R := EB false) EB.framed HO2.out hbv)
                      have HBVv3 := Lib.hid (HBVv2.out.trans (hbv.mono HBVv2.out.size))
                      have x0 := (block_cell hbk 0).1
                      have x1 := (block_cell hbk 1).1
                      have xf0 := (block_cell hbk 0).2
                      have xf1 := (block_cell hbk 1).2
                      clear hv hbv hbk
                      rw [← hgx]
                      have hgx1 : v2.heap.size ≤ gx := Nat.le_of_eq hgx.symm
                      have hgx2 : gx < v3.heap.size := by omega
                      clear hgx
                      refine wpAnyG_ready (rs := [13]) (by kernel_rfl) (by simp) ?_
                      refine (AllReadyG.cons (i := 13) (by simp only [List.getElem?_toArray, List.getElem?_cons_succ, List.getElem?_cons_zero]; rfl) (fun K hK => ?_) AllReadyG.nil)
                      go_simp
                      go_wp2_with fail
                      refine hK.out _ _ (fun h => by cases h) (fun _ => ?_)
                      clear hK K
                      (try simp only [Act.put, List.setIfInBounds_toArray, List.set_cons_zero, List.set_cons_succ])
                      refine wpAnyG_takeP (i := 14) (d := some 17) (v := ?_) (by simp only [List.getElem?_toArray, List.getElem?_cons_succ, List.getElem?_cons_zero]; rfl) (by rfl) (by kernel_rfl) (by kernel_rfl) (by kernel_rfl) (by kernel_rfl) (by intro _ _ _ h; exact h) (by rfl) ?_ ?_
                      rotate_left 1
                      · (intro w hSw; (try dsimp only at hSw); go_simp; try (with_reducible rfl))
                      (try simp only [Act.put, List.setIfInBounds_toArray, List.set_cons_zero, List.set_cons_succ])
                      refine wpAnyG_done (by kernel_rfl) ?_ _
                      obtain ⟨v4, hv4⟩ : ∃ v, v = ((v3.setCell ⟨gx, 0, none⟩ (.int .i64 (sq f r4))).setCell ⟨gx, 1, none⟩ (.slice A2 (can f qs).length c2)) := ⟨_, rfl⟩
                      have hcx : Chg (fun b => b = gx) v3 v4 := by rw [hv4]; exact Chg.setCell_ (S := fun b => b = gx) (Chg.setCell_ (S := fun b => b = gx) (Chg.refl _ _) (p := ⟨gx, 0, none⟩) rfl _) (p := ⟨gx, 1, none⟩) rfl _
                      have hs4 := hcx.size
                      have x0' : v4.cell? ⟨gx, 0, none⟩ = some (.int .i64 (sq f r4)) := by rw [hv4, World.cell?_setCell_other _ _ _ _ (fun e => by injection e with _ e2; omega)]; exact World.cell?_setCell_same _ _ _ x0
                      have x1' : v4.cell? ⟨gx, 1, none⟩ = some (.slice A2 (can f qs).length c2) := by rw [hv4]; exact World.cell?_setCell_same (u := .slice none 0 0) _ _ _ (by rw [World.cell?_setCell_other _ _ _ _ (fun e => by injection e with _ e2; omega)]; exact x1)
                      have HM4 := Lib.hid (HM3.out.chg (S := fun b => wb.heap.size ≤ b) ((Chg.of_below HBVv3.out).trans (hcx.mono (fun b _ hb => by omega))) (fun b hb => hb))
                      have HP4 := Lib.hid (Sl.frame (R := EN false) EN.framed HP2.out hcx (fun b h1 h2 => by have := HD1.out b h1; omega))
                      have HO4 := Lib.hid (Sl.frame (R := EB false) EB.framed HO2.out hcx (fun b h1 h2 => by have := HD2.out b h1; omega))
                      have HL4 := Lib.hid (HL3.out.frame ((Chg.of_below (S := fun b => wb.heap.size ≤ b) HBVv3.out).trans (hcx.mono (fun b _ hb => by omega))) (fun b h1 h2 => by omega))
                      rw [← hv4]
                      clear hv4 hcx x0 x1 xf0 xf1 k0 k1 e0 c7 HM3 HL3
                      have k0 := HM4.out.r0
                      have k1 := HM4.out.r1
                      have rf0 := HM4.out.rf0
                      have rf1 := HM4.out.rf1
                      have hlr_HM4 := HM4.out.h3
                      have HM5 := Lib.hid (HM4.out.setR (rs' := sq f r4) (A' := A2) (c' := c2) (ys' := can f qs) (T' := T1) HP4.out (fun b hb => by have := HD1.out b hb; exact ⟨by omega, by omega, by omega⟩))
                      have hcr : Chg (fun b => b = w2.heap.size) v4 ((v4.setCell ⟨w2.heap.size, 0, none⟩ (.int .i64 (sq f r4))).setCell ⟨w2.heap.size, 1, none⟩ (.slice A2 (can f qs).length c2)) := Chg.setCell_ (S := fun b => b = w2.heap.size) (Chg.setCell_ (S := fun b => b = w2.heap.size) (Chg.refl _ _) (p := ⟨w2.heap.size, 0, none⟩) rfl _) (p := ⟨w2.heap.size, 1, none⟩) rfl _
                      have hsr := hcr.size
                      have HO5 := Lib.hid (Sl.frame (R := EB false) EB.framed HO4.out hcr (fun b h1 h2 => by have := HD2.out b h1; omega))
                      have HL5 := Lib.hid (HL4.out.frame hcr (fun b h1 h2 => by omega))
                      have HSRC : Hid (Src false 1 (EB false) ((v4.setCell ⟨w2.heap.size, 0, none⟩ (.int .i64 (sq f r4))).setCell ⟨w2.heap.size, 1, none⟩ (.slice A2 (can f qs).length c2)) (fun b => w2.heap.size < b) (fun b => w2.heap.size < b) g3 (some ⟨gb, 0, none⟩) out) := Lib.hid (Sl.src (Sl.wider HO5.out (T' := fun b => w2.heap.size < b ∧ b < ((v4.setCell ⟨w2.heap.size, 0, none⟩ (.int .i64 (sq f r4))).setCell ⟨w2.heap.size, 1, none⟩ (.slice A2 (can f qs).length c2)).heap.size ∧ b ≠ g3) (fun b hb => by have := HD2.out b hb; exact ⟨by omega, by omega, by omega⟩)) (fun b hb => ⟨hb.2.1, hb.2.2, fun h => by cases h⟩) |>.imp_ (fun b hb => hb.1))
                      go_wp2_with (at_builtin; refine wpList_appW (R := EB false) (u := false) (w0 := ((v4.setCell ⟨w2.heap.size, 0, none⟩ (.int .i64 (sq f r4))).setCell ⟨w2.heap.size, 1, none⟩ (.slice A2 (can f qs).length c2))) (xs := got3) (ys := out) (T := fun b => w2.heap.size < b) (Fn := fun b => w2.heap.size < b) rfl EB.mov EB.cls (.tmp 94) (.tmp 95) 29 rfl 38 i0 (.slice none 0 0) 24 Try.underlying29 hI0 hz0 hz1 hz2 rfl (by decide) rfl HM5.out.own (Below.refl _ _) rfl HSRC.out (by have h1 := HGL.out; have h2 := HOL.out; omega) (by decide) (by omega) ?_)
                      intro g9 c9 w9 l9 HQ9 HO9 HG9 HC9 HB9
                      have hs9 := HC9.out.size
                      have hl9 := HO9.out.lt
                      have HM9 := Lib.hid (HM5.out.app HC9.out HG9.out (HO9.out.widerT (fun b h _ => h.elim id id)))
                      have HG9n : Hid (g9 ≠ gl) := Lib.hid (by rcases HG9.out with h | h <;> omega)
                      have HL9 := Lib.hid (HL5.out.frame HC9.out (fun b h1 h2 => by omega))
                      have hgt9 : l9 = gotL r4 := by rw [HQ9.out, HGT.out, HOUT.out]; exact gotL_app (by have := HR4.out; omega)
                      have HGT9 := Lib.hid hgt9
                      clear hgt9 HC9 HB9 HG9 HSRC HM5 HM4 HO5 HO4 HP4 HL4 HL5 hcr
                      go_wp2
                      go_roundw
                      case rel => exact ⟨i + 1, r4, qs, g9, c9, A2, c2, T1, l9, by go_num, by omega, rfl, HGT9, Lib.hid (HI3.out.recv HR4.out.1 HR4.out.2.1 HR4.out.2.2.1 HR4.out.2.2.2), HM9, HL9, HG9n.out, by omega, Lib.hid (fun h30 j' x' hj' hx' => by
                          rcases Nat.lt_or_ge j' i with h | h
                          · obtain ⟨p, h1, h2⟩ := HRV.out h30 j' x' h hx'
                            exact ⟨p, h1, (HR4.out.2.2.2 p).2 (h2.imp id .inl)⟩
                          · obtain rfl : j' = i := by omega
                            rw [HXI.out] at hx'
                            injection hx' with hx'
                            exact ⟨j, hx'.symm, (HR4.out.2.2.2 j).2 (.inr (.inr rfl))⟩)⟩
                      case measure => simp [intOf]; omega
                    · go_simp
                      go_wp2_with fail
                      refine hK.out _ _ (fun _ => ?_) (fun hHeld => ?_)
                      · ((try dsimp only); first | exact ⟨k0, k1, e0⟩ | exact ⟨(World.cell?_alloc_lt _ _ _ (by simp only; omega)).trans k0, (World.cell?_alloc_lt _ _ _ (by simp only; omega)).trans k1, (World.cell?_alloc_lt _ _ _ (by simp only; omega)).trans e0⟩)
                      replace hHeld := hHeld (by rfl)
                      clear hK K
                      (try simp only [Act.put, List.setIfInBounds_toArray, List.set_cons_zero, List.set_cons_succ])
                      obtain ⟨v2, hv⟩ : ∃ v, v = v1.alloc (.cells #[.int .i64 0, .slice none 0 0] 28) := ⟨_, rfl⟩
                      rw [← hv] at hHeld ⊢
                      have hbv : Below v1.heap.size v1 v2 := by rw [hv]; exact Below.alloc (Below.refl _ _) (Nat.le_refl _) _
                      have hzv2 : v1.heap.size < v2.heap.size := by rw [hv]; simp
                      obtain ⟨gx, hgx⟩ : ∃ g, g = v1.heap.size := ⟨_, rfl⟩
                      have hbk : v2.heap[gx]? = some (.cells #[.int .i64 0, .slice none 0 0] 28) := by rw [hv, hgx]; exact World.heap_new _ _ _ rfl
                      replace k0 := (hbv.cell (p := ⟨w2.heap.size, 0, none⟩) (by simp only; omega)).trans k0
                      replace k1 := (hbv.cell (p := ⟨w2.heap.size, 1, none⟩) (by simp only; omega)).trans k1
                      replace e0 := (hbv.cell (p := ⟨gl, i, none⟩) (by simp only; omega)).trans e0
                      have hsv2 := hbv.size
                      replace c7 := (hbv.cell (p := ⟨g7, 0, none⟩) (by simp only; omega)).trans c7
                      have HBVv2 := Lib.hid (HBVv1.out.trans (hbv.mono HBVv1.out.size))
                      have x0 := (block_cell hbk 0).1
                      have x1 := (block_cell hbk 1).1
                      have xf0 := (block_cell hbk 0).2
                      have xf1 := (block_cell hbk 1).2
                      clear hv hbv hbk
                      rw [← hgx]
                      have hgx1 : v1.heap.size ≤ gx := Nat.le_of_eq hgx.symm
                      have hgx2 : gx < v2.heap.size := by omega
                      clear hgx
                      refine wpAnyG_ready (rs := [8]) (by kernel_rfl) (by simp) ?_
                      refine (AllReadyG.cons (i := 8) (by simp only [List.getElem?_toArray, List.getElem?_cons_succ, List.getElem?_cons_zero]; rfl) (fun K hK => ?_) AllReadyG.nil)
                      go_simp
                      refine (implRN_any (T := T3) (Tb := fun b => b = g7) (sq f rr3) A3 c3 (can f ps3) (sq f j) (some ⟨g7, 0, none⟩) 1 [(j : Int)] _ (HM3.out.row.below EN.framed HBVv2.out) (by rw [can_len]; have := HPL.out; omega) (fun x hx => by obtain ⟨p, hp, rfl⟩ := can_mem hx; simp) (fun k' hk' => by obtain rfl : k' = 0 := (by simpa using hk'); exact ⟨g7, 0, rfl, rfl, by omega, c7, fun h => by cases h⟩) (by simp)).mono ?_
                      rw [HRC.out]
                      rintro e v3 ⟨A2, c2, gb, cb, T1, T2, rfl, hbv, hcap2, hd1, hd2, hp2, ho2, hT2⟩
                      have hgb := hd2 gb hT2
                      have HD1 := Lib.hid (fun b h => (⟨(hd1 b h).1, (hd1 b h).2.1⟩ : _ ∧ _))
                      have HD2 := Lib.hid hd2
                      replace k0 := (hbv.cell (p := ⟨w2.heap.size, 0, none⟩) (by simp only; omega)).trans k0
                      replace k1 := (hbv.cell (p := ⟨w2.heap.size, 1, none⟩) (by simp only; omega)).trans k1
                      replace e0 := (hbv.cell (p := ⟨gl, i, none⟩) (by simp only; omega)).trans e0
                      have hsv3 := hbv.size
                      replace c7 := (hbv.cell (p := ⟨g7, 0, none⟩) (by simp only; omega)).trans c7
                      replace x0 := (hbv.cell (p := ⟨gx, 0, none⟩) (by simp only; omega)).trans x0
                      replace x1 := (hbv.cell (p := ⟨gx, 1, none⟩) (by simp only; omega)).trans x1
                      replace xf0 := (hbv.frozen (p := ⟨gx, 0, none⟩) (by simp only; omega)).trans xf0
                      replace xf1 := (hbv.frozen (p := ⟨gx, 1, none⟩) (by simp only; omega)).trans xf1
                      have HBVv3 := Lib.hid (HBVv2.out.trans (hbv.mono HBVv2.out.size))
                      have HP2 := Lib.hid (SlN.read hp2)
                      have HO2 := Lib.hid (SlB.read (u := true) (ho2.slT (fun a ha => by injection ha with ha; subst ha; exact hT2)))
                      clear hbv hcap2 hd1 hd2 hp2 ho2 hT2
                      go_wp2_with fail
                      refine hK.out _ _ (fun _ => ?_) (fun hHeld => ?_)
                      · ((try dsimp only); first | exact ⟨k0, k1, e0⟩ | exact ⟨(World.cell?_alloc_lt _ _ _ (by simp only; omega)).trans k0, (World.cell?_alloc_lt _ _ _ (by simp only; omega)).trans k1, (World.cell?_alloc_lt _ _ _ (by simp only; omega)).trans e0⟩)
                      replace hHeld := hHeld (by rfl)
                      clear hK K
                      (try simp only [Act.put, List.setIfInBounds_toArray, List.set_cons_zero, List.set_cons_succ])
                      refine wpAnyG_takeW [10, 11, 13, 14] (i := 9) (d := some 81) (v := ?_) (by simp only [List.getElem?_toArray, List.getElem?_cons_succ, List.getElem?_cons_zero]; rfl) (by rfl) (by kernel_rfl) (by kernel_rfl) (by kernel_rfl) (by kernel_rfl) (by kernel_rfl) (by intro _ _ _ h; exact h) (by rfl) ?_ (by assumption) ?_
                      rotate_left 1
                      · (intro w hSw; (try dsimp only at hSw); go_simp; try (with_reducible rfl))
                      (try simp only [Act.put, List.setIfInBounds_toArray, List.set_cons_zero, List.set_cons_succ])
                      refine wpAnyG_takeP (i := 10) (d := some 91) (v := ?_) (by simp only [List.getElem?_toArray, List.getElem?_cons_succ, List.getElem?_cons_zero]; rfl) (by rfl) (by kernel_rfl) (by kernel_rfl) (by kernel_rfl) (by kernel_rfl) (by intro _ _ _ h; exact h) (by rfl) ?_ ?_
                      rotate_left 1
                      · (intro w hSw; (try dsimp only at hSw); go_simp; try (with_reducible rfl))
                      (try simp only [Act.put, List.setIfInBounds_toArray, List.set_cons_zero, List.set_cons_succ])
                      refine wpAnyG_takeP (i := 11) (d := some 92) (v := ?_) (by simp only [List.getElem?_toArray, List.getElem?_cons_succ, List.getElem?_cons_zero]; rfl) (by rfl) (by kernel_rfl) (by kernel_rfl) (by kernel_rfl) (by kernel_rfl) (by intro _ _ _ h; exact h) (by rfl) ?_ ?_
                      rotate_left 1
                      · (intro w hSw; (try dsimp only at hSw); go_simp; try (with_reducible rfl))
                      (try simp only [Act.put, List.setIfInBounds_toArray, List.set_cons_zero, List.set_cons_succ])
                      refine wpAnyG_ready (rs := [13]) (by kernel_rfl) (by simp) ?_
                      refine (AllReadyG.cons (i := 13) (by simp only [List.getElem?_toArray, List.getElem?_cons_succ, List.getElem?_cons_zero]; rfl) (fun K hK => ?_) AllReadyG.nil)
                      go_simp
                      go_wp2_with fail
                      refine hK.out _ _ (fun h => by cases h) (fun _ => ?_)
                      clear hK K
                      (try simp only [Act.put, List.setIfInBounds_toArray, List.set_cons_zero, List.set_cons_succ])
                      refine wpAnyG_takeP (i := 14) (d := some 17) (v := ?_) (by simp only [List.getElem?_toArray, List.getElem?_cons_succ, List.getElem?_cons_zero]; rfl) (by rfl) (by kernel_rfl) (by kernel_rfl) (by kernel_rfl) (by kernel_rfl) (by intro _ _ _ h; exact h) (by rfl) ?_ ?_
                      rotate_left 1
                      · (intro w hSw; (try dsimp only at hSw); go_simp; try (with_reducible rfl))
                      (try simp only [Act.put, List.setIfInBounds_toArray, List.set_cons_zero, List.set_cons_succ])
                      refine wpAnyG_done (by kernel_rfl) ?_ _
                      obtain ⟨v4, hv4⟩ : ∃ v, v = ((v3.setCell ⟨gx, 0, none⟩ (.int .i64 (sq f r4))).setCell ⟨gx, 1, none⟩ (.slice A2 (can f qs).length c2)) := ⟨_, rfl⟩
                      have hcx : Chg (fun b => b = gx) v3 v4 := by rw [hv4]; exact Chg.setCell_ (S := fun b => b = gx) (Chg.setCell_ (S := fun b => b = gx) (Chg.refl _ _) (p := ⟨gx, 0, none⟩) rfl _) (p := ⟨gx, 1, none⟩) rfl _
                      have hs4 := hcx.size
                      have x0' : v4.cell? ⟨gx, 0, none⟩ = some (.int .i64 (sq f r4)) := by rw [hv4, World.cell?_setCell_other _ _ _ _ (fun e => by injection e with _ e2; omega)]; exact World.cell?_setCell_same _ _ _ x0
                      have x1' : v4.cell? ⟨gx, 1, none⟩ = some (.slice A2 (can f qs).length c2) := by rw [hv4]; exact World.cell?_setCell_same (u := .slice none 0 0) _ _ _ (by rw [World.cell?_setCell_other _ _ _ _ (fun e => by injection e with _ e2; omega)]; exact x1)
                      have HM4 := Lib.hid (HM3.out.chg (S := fun b => wb.heap.size ≤ b) ((Chg.of_below HBVv3.out).trans (hcx.mono (fun b _ hb => by omega))) (fun b hb => hb))
                      have HP4 := Lib.hid (Sl.frame (R := EN false) EN.framed HP2.out hcx (fun b h1 h2 => by have := HD1.out b h1; omega))
                      have HO4 := Lib.hid (Sl.frame (R := EB false) EB.framed HO2.out hcx (fun b h1 h2 => by have := HD2.out b h1; omega))
                      have HL4 := Lib.hid (HL3.out.frame ((Chg.of_below (S := fun b => wb.heap.size ≤ b) HBVv3.out).trans (hcx.mono (fun b _ hb => by omega))) (fun b h1 h2 => by omega))
                      rw [← hv4]
                      clear hv4 hcx x0 x1 xf0 xf1 k0 k1 e0 c7 HM3 HL3
                      have k0 := HM4.out.r0
                      have k1 := HM4.out.r1
                      have rf0 := HM4.out.rf0
                      have rf1 := HM4.out.rf1
                      have hlr_HM4 := HM4.out.h3
                      have HM5 := Lib.hid (HM4.out.setR (rs' := sq f r4) (A' := A2) (c' := c2) (ys' := can f qs) (T' := T1) HP4.out (fun b hb => by have := HD1.out b hb; exact ⟨by omega, by omega, by omega⟩))
                      have hcr : Chg (fun b => b = w2.heap.size) v4 ((v4.setCell ⟨w2.heap.size, 0, none⟩ (.int .i64 (sq f r4))).setCell ⟨w2.heap.size, 1, none⟩ (.slice A2 (can f qs).length c2)) := Chg.setCell_ (S := fun b => b = w2.heap.size) (Chg.setCell_ (S := fun b => b = w2.heap.size) (Chg.refl _ _) (p := ⟨w2.heap.size, 0, none⟩) rfl _) (p := ⟨w2.heap.size, 1, none⟩) rfl _
                      have hsr := hcr.size
                      have HO5 := Lib.hid (Sl.frame (R := EB false) EB.framed HO4.out hcr (fun b h1 h2 => by have := HD2.out b h1; omega))
                      have HL5 := Lib.hid (HL4.out.frame hcr (fun b h1 h2 => by omega))
                      have HSRC : Hid (Src false 1 (EB false) ((v4.setCell ⟨w2.heap.size, 0, none⟩ (.int .i64 (sq f r4))).setCell ⟨w2.heap.size, 1, none⟩ (.slice A2 (can f qs).length c2)) (fun b => w2.heap.size < b) (fun b => w2.heap.size < b) g3 (some ⟨gb, 0, none⟩) out) := Lib.hid (Sl.src (Sl.wider HO5.out (T' := fun b => w2.heap.size < b ∧ b < ((v4.setCell ⟨w2.heap.size, 0, none⟩ (.int .i64 (sq f r4))).setCell ⟨w2.heap.size, 1, none⟩ (.slice A2 (can f qs).length c2)).heap.size ∧ b ≠ g3) (fun b hb => by have := HD2.out b hb; exact ⟨by omega, by omega, by omega⟩)) (fun b hb => ⟨hb.2.1, hb.2.2, fun h => by cases h⟩) |>.imp_ (fun b hb => hb.1))
                      go_wp2_with (at_builtin; refine wpList_appW (R := EB false) (u := false) (w0 := ((v4.setCell ⟨w2.heap.size, 0, none⟩ (.int .i64 (sq f r4))).setCell ⟨w2.heap.size, 1, none⟩ (.slice A2 (can f qs).length c2))) (xs := got3) (ys := out) (T := fun b => w2.heap.size < b) (Fn := fun b => w2.heap.size < b) rfl EB.mov EB.cls (.tmp 94) (.tmp 95) 29 rfl 38 i0 (.slice none 0 0) 24 Try.underlying29 hI0 hz0 hz1 hz2 rfl (by decide) rfl HM5.out.own (Below.refl _ _) rfl HSRC.out (by have h1 := HGL.out; have h2 := HOL.out; omega) (by decide) (by omega) ?_)
                      intro g9 c9 w9 l9 HQ9 HO9 HG9 HC9 HB9
                      have hs9 := HC9.out.size
                      have hl9 := HO9.out.lt
                      have HM9 := Lib.hid (HM5.out.app HC9.out HG9.out (HO9.out.widerT (fun b h _ => h.elim id id)))
                      have HG9n : Hid (g9 ≠ gl) := Lib.hid (by rcases HG9.out with h | h <;> omega)
                      have HL9 := Lib.hid (HL5.out.frame HC9.out (fun b h1 h2 => by omega))
                      have hgt9 : l9 = gotL r4 := by rw [HQ9.out, HGT.out, HOUT.out]; exact gotL_app (by have := HR4.out; omega)
                      have HGT9 := Lib.hid hgt9
                      clear hgt9 HC9 HB9 HG9 HSRC HM5 HM4 HO5 HO4 HP4 HL4 HL5 hcr
                      go_wp2
                      go_roundw
                      case rel => exact ⟨i + 1, r4, qs, g9, c9, A2, c2, T1, l9, by go_num, by omega, rfl, HGT9, Lib.hid (HI3.out.recv HR4.out.1 HR4.out.2.1 HR4.out.2.2.1 HR4.out.2.2.2), HM9, HL9, HG9n.out, by omega, Lib.hid (fun h30 j' x' hj' hx' => by
                          rcases Nat.lt_or_ge j' i with h | h
                          · obtain ⟨p, h1, h2⟩ := HRV.out h30 j' x' h hx'
                            exact ⟨p, h1, (HR4.out.2.2.2 p).2 (h2.imp id .inl)⟩
                          · obtain rfl : j' = i := by omega
                            rw [HXI.out] at hx'
                            injection hx' with hx'
                            exact ⟨j, hx'.symm, (HR4.out.2.2.2 j).2 (.inr (.inr rfl))⟩)⟩
                      case measure => simp [intOf]; omega
                  · go_simp
                    go_wp2_with fail
                    refine hK.out _ _ (fun _ => ?_) (fun hHeld => ?_)
                    · ((try dsimp only); first | exact ⟨k0, k1, e0⟩ | exact ⟨(World.cell?_alloc_lt _ _ _ (by simp only; omega)).trans k0, (World.cell?_alloc_lt _ _ _ (by simp only; omega)).trans k1, (World.cell?_alloc_lt _ _ _ (by simp only; omega)).trans e0⟩)
                    replace hHeld := hHeld (by rfl)
                    clear hK K
                    (try simp only [Act.put, List.setIfInBounds_toArray, List.set_cons_zero, List.set_cons_succ])
                    obtain ⟨v1, hv⟩ : ∃ v, v = (wb.alloc (.cells #[.int .i64 0, .slice none 0 0] 28)).drew := ⟨_, rfl⟩
                    rw [← hv] at hHeld ⊢
                    have hbv : Below wb.heap.size wb v1 := by rw [hv]; exact Below.drew (Below.alloc (Below.refl _ _) (Nat.le_refl _) _)
                    have hzv1 : wb.heap.size < v1.heap.size := by rw [hv]; simp
                    obtain ⟨gx, hgx⟩ : ∃ g, g = wb.heap.size := ⟨_, rfl⟩
                    have hbk : v1.heap[gx]? = some (.cells #[.int .i64 0, .slice none 0 0] 28) := by rw [hv, hgx]; exact World.heap_new _ _ _ rfl
                    replace k0 := (hbv.cell (p := ⟨w2.heap.size, 0, none⟩) (by simp only; omega)).trans k0
                    replace k1 := (hbv.cell (p := ⟨w2.heap.size, 1, none⟩) (by simp only; omega)).trans k1
                    replace e0 := (hbv.cell (p := ⟨gl, i, none⟩) (by simp only; omega)).trans e0
                    have hsv1 := hbv.size
                    have HBVv1 := Lib.hid (hbv)
                    have x0 := (block_cell hbk 0).1
                    have x1 := (block_cell hbk 1).1
                    have xf0 := (block_cell hbk 0).2
                    have xf1 := (block_cell hbk 1).2
                    clear hv hbv hbk
                    rw [← hgx]
                    have hgx1 : wb.heap.size ≤ gx := Nat.le_of_eq hgx.symm
                    have hgx2 : gx < v1.heap.size := by omega
                    clear hgx
                    refine wpAnyG_ready (rs := [7]) (by kernel_rfl) (by simp) ?_
                    refine (AllReadyG.cons (i := 7) (by simp only [List.getElem?_toArray, List.getElem?_cons_succ, List.getElem?_cons_zero]; rfl) (fun K hK => ?_) AllReadyG.nil)
                    go_simp
                    go_wp2_with fail
                    refine hK.out _ _ (fun _ => ?_) (fun hHeld => ?_)
                    · ((try dsimp only); first | exact ⟨k0, k1, e0⟩ | exact ⟨(World.cell?_alloc_lt _ _ _ (by simp only; omega)).trans k0, (World.cell?_alloc_lt _ _ _ (by simp only; omega)).trans k1, (World.cell?_alloc_lt _ _ _ (by simp only; omega)).trans e0⟩)
                    replace hHeld := hHeld (by rfl)
                    clear hK K
                    (try simp only [Act.put, List.setIfInBounds_toArray, List.set_cons_zero, List.set_cons_succ])
                    obtain ⟨v2, hv⟩ : ∃ v, v = v1.alloc (.cells #[.int .u8 (j : Int)] 5) := ⟨_, rfl⟩
                    rw [← hv] at hHeld ⊢
                    have hbv : Below v1.heap.size v1 v2 := by rw [hv]; exact Below.alloc (Below.refl _ _) (Nat.le_refl _) _
                    have hzv2 : v1.heap.size < v2.heap.size := by rw [hv]; simp
                    obtain ⟨g7, hg7⟩ : ∃ g, g = v1.heap.size := ⟨_, rfl⟩
                    have hbk : v2.heap[g7]? = some (.cells #[.int .u8 (j : Int)] 5) := by rw [hv, hg7]; exact World.heap_new _ _ _ rfl
                    replace k0 := (hbv.cell (p := ⟨w2.heap.size, 0, none⟩) (by simp only; omega)).trans k0
                    replace k1 := (hbv.cell (p := ⟨w2.heap.size, 1, none⟩) (by simp only; omega)).trans k1
                    replace e0 := (hbv.cell (p := ⟨gl, i, none⟩) (by simp only; omega)).trans e0
                    have hsv2 := hbv.size
                    replace x0 := (hbv.cell (p := ⟨gx, 0, none⟩) (by simp only; omega)).trans x0
                    replace x1 := (hbv.cell (p := ⟨gx, 1, none⟩) (by simp only; omega)).trans x1
                    replace xf0 := (hbv.frozen (p := ⟨gx, 0, none⟩) (by simp only; omega)).trans xf0
                    replace xf1 := (hbv.frozen (p := ⟨gx, 1, none⟩) (by simp only; omega)).trans xf1
                    have HBVv2 := Lib.hid (HBVv1.out.trans (hbv.mono HBVv1.out.size))
                    have c7 := (block_cell hbk 0).1
                    clear hv hbv hbk
                    rw [← hg7]
                    have hg71 : v1.heap.size ≤ g7 := Nat.le_of_eq hg7.symm
                    have hg72 : g7 < v2.heap.size := by omega
                    clear hg7
                    refine wpAnyG_ready (rs := [8]) (by kernel_rfl) (by simp) ?_
                    refine (AllReadyG.cons (i := 8) (by simp only [List.getElem?_toArray, List.getElem?_cons_succ, List.getElem?_cons_zero]; rfl) (fun K hK => ?_) AllReadyG.nil)
                    go_simp
                    refine (implRN_any (T := T3) (Tb := fun b => b = g7) (sq f rr3) A3 c3 (can f ps3) (sq f j) (some ⟨g7, 0, none⟩) 1 [(j : Int)] _ (HM3.out.row.below EN.framed HBVv2.out) (by rw [can_len]; have := HPL.out; omega) (fun x hx => by obtain ⟨p, hp, rfl⟩ := can_mem hx; simp) (fun k' hk' => by obtain rfl : k' = 0 := (by simpa using hk'); exact ⟨g7, 0, rfl, rfl, by omega, c7, fun h => by cases h⟩) (by simp)).mono ?_
                    rw [HRC.out]
                    rintro e v3 ⟨A2, c2, gb, cb, T1, T2, rfl, hbv, hcap2, hd1, hd2, hp2, ho2, hT2⟩
                    have hgb := hd2 gb hT2
                    have HD1 := Lib.hid (fun b h => (⟨(hd1 b h).1, (hd1 b h).2.1⟩ : _ ∧ _))
                    have HD2 := Lib.hid hd2
                    replace k0 := (hbv.cell (p := ⟨w2.heap.size, 0, none⟩) (by simp only; omega)).trans k0
                    replace k1 := (hbv.cell (p := ⟨w2.heap.size, 1, none⟩) (by simp only; omega)).trans k1
                    replace e0 := (hbv.cell (p := ⟨gl, i, none⟩) (by simp only; omega)).trans e0
                    have hsv3 := hbv.size
                    replace c7 := (hbv.cell (p := ⟨g7, 0, none⟩) (by simp only; omega)).trans c7
                    replace x0 := (hbv.cell (p := ⟨gx, 0, none⟩) (by simp only; omega)).trans x0
                    replace x1 := (hbv.cell (p := ⟨gx, 1, none⟩) (by simp only; omega)).trans x1
                    replace xf0 := (hbv.frozen (p := ⟨gx, 0, none⟩) (by simp only; omega)).trans xf0
                    replace xf1 := (hbv.frozen (p := ⟨gx, 1, none⟩) (by simp only; omega)).trans xf1
                    have HBVv3 := Lib.hid (HBVv2.out.trans (hbv.mono HBVv2.out.size))
                    have HP2 := Lib.hid (SlN.read hp2)
                    have HO2 := Lib.hid (SlB.read (u := true) (ho2.slT (fun a ha => by injection ha with ha; subst ha; exact hT2)))
                    clear hbv hcap2 hd1 hd2 hp2 ho2 hT2
                    go_wp2_with fail
                    refine hK.out _ _ (fun _ => ?_) (fun hHeld => ?_)
                    · ((try dsimp only); first | exact ⟨k0, k1, e0⟩ | exact ⟨(World.cell?_alloc_lt _ _ _ (by simp only; omega)).trans k0, (World.cell?_alloc_lt _ _ _ (by simp only; omega)).trans k1, (World.cell?_alloc_lt _ _ _ (by simp only; omega)).trans e0⟩)
                    replace hHeld := hHeld (by rfl)
                    clear hK K
                    (try simp only [Act.put, List.setIfInBounds_toArray, List.set_cons_zero, List.set_cons_succ])
                    refine wpAnyG_takeW [10, 11, 13, 14] (i := 9) (d := some 81) (v := ?_) (by simp only [List.getElem?_toArray, List.getElem?_cons_succ, List.getElem?_cons_zero]; rfl) (by rfl) (by kernel_rfl) (by kernel_rfl) (by kernel_rfl) (by kernel_rfl) (by kernel_rfl) (by intro _ _ _ h; exact h) (by rfl) ?_ (by assumption) ?_
                    rotate_left 1
                    · (intro w hSw; (try dsimp only at hSw); go_simp; try (with_reducible rfl))
                    (try simp only [Act.put, List.setIfInBounds_toArray, List.set_cons_zero, List.set_cons_succ])
                    refine wpAnyG_takeP (i := 10) (d := some 91) (v := ?_) (by simp only [List.getElem?_toArray, List.getElem?_cons_succ, List.getElem?_cons_zero]; rfl) (by rfl) (by kernel_rfl) (by kernel_rfl) (by kernel_rfl) (by kernel_rfl) (by intro _ _ _ h; exact h) (by rfl) ?_ ?_
                    rotate_left 1
                    · (intro w hSw; (try dsimp only at hSw); go_simp; try (with_reducible rfl))
                    (try simp only [Act.put, List.setIfInBounds_toArray, List.set_cons_zero, List.set_cons_succ])
                    refine wpAnyG_takeP (i := 11) (d := some 92) (v := ?_) (by simp only [List.getElem?_toArray, List.getElem?_cons_succ, List.getElem?_cons_zero]; rfl) (by rfl) (by kernel_rfl) (by kernel_rfl) (by kernel_rfl) (by kernel_rfl) (by intro _ _ _ h; exact h) (by rfl) ?_ ?_
                    rotate_left 1
                    · (intro w hSw; (try dsimp only at hSw); go_simp; try (with_reducible rfl))
                    (try simp only [Act.put, List.setIfInBounds_toArray, List.set_cons_zero, List.set_cons_succ])
                    refine wpAnyG_ready (rs := [13]) (by kernel_rfl) (by simp) ?_
                    refine (AllReadyG.cons (i := 13) (by simp only [List.getElem?_toArray, List.getElem?_cons_succ, List.getElem?_cons_zero]; rfl) (fun K hK => ?_) AllReadyG.nil)
                    go_simp
                    go_wp2_with fail
                    refine hK.out _ _ (fun h => by cases h) (fun _ => ?_)
                    clear hK K
                    (try simp only [Act.put, List.setIfInBounds_toArray, List.set_cons_zero, List.set_cons_succ])
                    refine wpAnyG_takeP (i := 14) (d := some 17) (v := ?_) (by simp only [List.getElem?_toArray, List.getElem?_cons_succ, List.getElem?_cons_zero]; rfl) (by rfl) (by kernel_rfl) (by kernel_rfl) (by kernel_rfl) (by kernel_rfl) (by intro _ _ _ h; exact h) (by rfl) ?_ ?_
                    rotate_left 1
                    · (intro w hSw; (try dsimp only at hSw); go_simp; try (with_reducible rfl))
                    (try simp only [Act.put, List.setIfInBounds_toArray, List.set_cons_zero, List.set_cons_succ])
                    refine wpAnyG_done (by kernel_rfl) ?_ _
                    obtain ⟨v4, hv4⟩ : ∃ v, v = ((v3.setCell ⟨gx, 0, none⟩ (.int .i64 (sq f r4))).setCell ⟨gx, 1, none⟩ (.slice A2 (can f qs).length c2)) := ⟨_, rfl⟩
                    have hcx : Chg (fun b => b = gx) v3 v4 := by rw [hv4]; exact Chg.setCell_ (S := fun b => b = gx) (Chg.setCell_ (S := fun b => b = gx) (Chg.refl _ _) (p := ⟨gx, 0, none⟩) rfl _) (p := ⟨gx, 1, none⟩) rfl _
                    have hs4 := hcx.size
                    have x0' : v4.cell? ⟨gx, 0, none⟩ = some (.int .i64 (sq f r4)) := by rw [hv4, World.cell?_setCell_other _ _ _ _ (fun e => by injection e with _ e2; omega)]; exact World.cell?_setCell_same _ _ _ x0
                    have x1' : v4.cell? ⟨gx, 1, none⟩ = some (.slice A2 (can f qs).length c2) := by rw [hv4]; exact World.cell?_setCell_same (u := .slice none 0 0) _ _ _ (by rw [World.cell?_setCell_other _ _ _ _ (fun e => by injection e with _ e2; omega)]; exact x1)
                    have HM4 := Lib.hid (HM3.out.chg (S := fun b => wb.heap.size ≤ b) ((Chg.of_below HBVv3.out).trans (hcx.mono (fun b _ hb => by omega))) (fun b hb => hb))
                    have HP4 := Lib.hid (Sl.frame (R := EN false) EN.framed HP2.out hcx (fun b h1 h2 => by have := HD1.out b h1; omega))
                    have HO4 := Lib.hid (Sl.frame (R := EB false) EB.framed HO2.out hcx (fun b h1 h2 => by have := HD2.out b h1; omega))
                    have HL4 := Lib.hid (HL3.out.frame ((Chg.of_below (S := fun b => wb.heap.size ≤ b) HBVv3.out).trans (hcx.mono (fun b _ hb => by omega))) (fun b h1 h2 => by omega))
                    rw [← hv4]
                    clear hv4 hcx x0 x1 xf0 xf1 k0 k1 e0 c7 HM3 HL3
                    have k0 := HM4.out.r0
                    have k1 := HM4.out.r1
                    have rf0 := HM4.out.rf0
                    have rf1 := HM4.out.rf1
                    have hlr_HM4 := HM4.out.h3
                    have HM5 := Lib.hid (HM4.out.setR (rs' := sq f r4) (A' := A2) (c' := c2) (ys' := can f qs) (T' := T1) HP4.out (fun b hb => by have := HD1.out b hb; exact ⟨by omega, by omega, by omega⟩))
                    have hcr : Chg (fun b => b = w2.heap.size) v4 ((v4.setCell ⟨w2.heap.size, 0, none⟩ (.int .i64 (sq f r4))).setCell ⟨w2.heap.size, 1, none⟩ (.slice A2 (can f qs).length c2)) := Chg.setCell_ (S := fun b => b = w2.heap.size) (Chg.setCell_ (S := fun b => b = w2.heap.size) (Chg.refl _ _) (p := ⟨w2.heap.size, 0, none⟩) rfl _) (p := ⟨w2.heap.size, 1, none⟩) rfl _
                    have hsr := hcr.size
                    have HO5 := Lib.hid (Sl.frame (R := EB false) EB.framed HO4.out hcr (fun b h1 h2 => by have := HD2.out b h1; omega))
                    have HL5 := Lib.hid (HL4.out.frame hcr (fun b h1 h2 => by omega))
                    have HSRC : Hid (Src false 1 (EB false) ((v4.setCell ⟨w2.heap.size, 0, none⟩ (.int .i64 (sq f r4))).setCell ⟨w2.heap.size, 1, none⟩ (.slice A2 (can f qs).length c2)) (fun b => w2.heap.size < b) (fun b => w2.heap.size < b) g3 (some ⟨gb, 0, none⟩) out) := Lib.hid (Sl.src (Sl.wider HO5.out (T' := fun b => w2.heap.size < b ∧ b < ((v4.setCell ⟨w2.heap.size, 0, none⟩ (.int .i64 (sq f r4))).setCell ⟨w2.heap.size, 1, none⟩ (.slice A2 (can f qs).length c2)).heap.size ∧ b ≠ g3) (fun b hb => by have := HD2.out b hb; exact ⟨by omega, by omega, by omega⟩)) (fun b hb => ⟨hb.2.1, hb.2.2, fun h => by cases h⟩) |>.imp_ (fun b hb => hb.1))
                    go_wp2_with (at_builtin; refine wpList_appW (R := EB false) (u := false) (w0 := ((v4.setCell ⟨w2.heap.size, 0, none⟩ (.int .i64 (sq f r4))).setCell ⟨w2.heap.size, 1, none⟩ (.slice A2 (can f qs).length c2))) (xs := got3) (ys := out) (T := fun b => w2.heap.size < b) (Fn := fun b => w2.heap.size < b) rfl EB.mov EB.cls (.tmp 94) (.tmp 95) 29 rfl 38 i0 (.slice none 0 0) 24 Try.underlying29 hI0 hz0 hz1 hz2 rfl (by decide) rfl HM5.out.own (Below.refl _ _) rfl HSRC.out (by have h1 := HGL.out; have h2 := HOL.out; omega) (by decide) (by omega) ?_)
                    intro g9 c9 w9 l9 HQ9 HO9 HG9 HC9 HB9
                    have hs9 := HC9.out.size
                    have hl9 := HO9.out.lt
                    have HM9 := Lib.hid (HM5.out.app HC9.out HG9.out (HO9.out.widerT (fun b h _ => h.elim id id)))
                    have HG9n : Hid (g9 ≠ gl) := Lib.hid (by rcases HG9.out with h | h <;> omega)
                    have HL9 := Lib.hid (HL5.out.frame HC9.out (fun b h1 h2 => by omega))
                    have hgt9 : l9 = gotL r4 := by rw [HQ9.out, HGT.out, HOUT.out]; exact gotL_app (by have := HR4.out; omega)
                    have HGT9 := Lib.hid hgt9
                    clear hgt9 HC9 HB9 HG9 HSRC HM5 HM4 HO5 HO4 HP4 HL4 HL5 hcr
                    go_wp2
                    go_roundw
                    case rel => exact ⟨i + 1, r4, qs, g9, c9, A2, c2, T1, l9, by go_num, by omega, rfl, HGT9, Lib.hid (HI3.out.recv HR4.out.1 HR4.out.2.1 HR4.out.2.2.1 HR4.out.2.2.2), HM9, HL9, HG9n.out, by omega, Lib.hid (fun h30 j' x' hj' hx' => by
                        rcases Nat.lt_or_ge j' i with h | h
                        · obtain ⟨p, h1, h2⟩ := HRV.out h30 j' x' h hx'
                          exact ⟨p, h1, (HR4.out.2.2.2 p).2 (h2.imp id .inl)⟩
                        · obtain rfl : j' = i := by omega
                          rw [HXI.out] at hx'
                          injection hx' with hx'
                          exact ⟨j, hx'.symm, (HR4.out.2.2.2 j).2 (.inr (.inr rfl))⟩)⟩
                    case measure => simp [intOf]; omega
              · have hrI : ¬ (r : Int) < 30 := by omega
                obtain ⟨r4, qs, hrc, hr4⟩ := rcv_can f HI3.out.srt HI3.out.rn (by have := HI3.out.na; have := HI3.out.ar; omega) HI3.out.n60 (show j < m by omega)
                have HR4 := Lib.hid hr4
                obtain ⟨out, hout⟩ : ∃ o, o = (List.range' rr3 (r4 - rr3)).map (fun (i : Nat) => [(i : Int)]) := ⟨_, rfl⟩
                rw [← hout] at hrc
                have HRC := Lib.hid hrc
                have HOUT := Lib.hid hout
                have HOL : Hid (out.length ≤ 60) := Lib.hid (by rw [hout]; have h1 := hr4.2.1; have h2 := HI3.out.n60; simp; omega)
                have HPL : Hid (ps3.length ≤ 100) := Lib.hid (by have h1 := HI3.out.srt.len; have h2 := HI3.out.n60; rcases h1 with h1 | h1; omega; rw [h1]; simp)
                have HGL : Hid (got3.length ≤ 60) := Lib.hid (by rw [HGT.out, gotL_len]; have h1 := HI3.out.rn; have h2 := HI3.out.n60; omega)
                clear hrc hr4 hout
                have hwu : IntKind.u8.wrap (j : Int) = (j : Int) := by rw [IntKind.wrap_u8]; omega
                have HWR : Hid (IntKind.i64.wrap (sq f j - f) = sq f j - f) := Lib.hid (by rw [IntKind.wrap_i64]; have := sq_bd f j; omega)
                have HMOD : Hid ((sq f j - f) % 4096 = (j : Int)) := Lib.hid (by unfold sq; omega)
                go_wp2_with (go_at_call 41; (first | rw [HWR.out] | rw [wrap64_eq, HWR.out]); refine (specMod_any (sq f j - f) 4096 (by unfold I64; have := sq_bd f j; omega) rfl _).mono ?_; rw [HMOD.out]; rintro e w' ⟨rfl, rfl⟩)
                refine wp_region_G [10, 11, 13, 14] (S := (fun w' => w'.cell? ⟨w2.heap.size, 0, none⟩ = some (.int .i64 (sq f rr3)) ∧ w'.cell? ⟨w2.heap.size, 1, none⟩ = some (.slice A3 (can f ps3).length c3) ∧ w'.cell? ⟨gl, i, none⟩ = some (.int .i64 (sq f j)))) (by kernel_rfl) ?_ (fun hHeld => ?_)
                · first | exact ⟨k0, k1, e0⟩ | exact ⟨(World.cell?_alloc_lt _ _ _ (by simp only; omega)).trans k0, (World.cell?_alloc_lt _ _ _ (by simp only; omega)).trans k1, (World.cell?_alloc_lt _ _ _ (by simp only; omega)).trans e0⟩
                refine wpAnyG_takeW [8, 9, 10, 11, 13, 14] (i := 0) (d := some 82) (v := ?_) (by simp only [List.getElem?_toArray, List.getElem?_cons_succ, List.getElem?_cons_zero]; rfl) (by rfl) (by kernel_rfl) (by kernel_rfl) (by kernel_rfl) (by kernel_rfl) (by kernel_rfl) (by intro _ _ _ h; exact h) (by rfl) ?_ (by assumption) ?_
                rotate_left 1
                · (intro w hSw; (try dsimp only at hSw); go_simp; try (with_reducible rfl))
                (try simp only [Act.put, List.setIfInBounds_toArray, List.set_cons_zero, List.set_cons_succ])
                refine wpAnyG_takeW [3, 4, 8, 9, 10, 11, 13, 14] (i := 1) (d := some 83) (v := ?_) (by simp only [List.getElem?_toArray, List.getElem?_cons_succ, List.getElem?_cons_zero]; rfl) (by rfl) (by kernel_rfl) (by kernel_rfl) (by kernel_rfl) (by kernel_rfl) (by kernel_rfl) (by intro _ _ _ h; exact h) (by rfl) ?_ (by assumption) ?_
                rotate_left 1
                · (intro w hSw; (try dsimp only at hSw); go_simp; try (with_reducible rfl))
                (try simp only [Act.put, List.setIfInBounds_toArray, List.set_cons_zero, List.set_cons_succ])
                refine wpAnyG_takeW [3, 4, 8, 9, 10, 11, 13, 14] (i := 2) (d := some 84) (v := ?_) (by simp only [List.getElem?_toArray, List.getElem?_cons_succ, List.getElem?_cons_zero]; rfl) (by rfl) (by kernel_rfl) (by kernel_rfl) (by kernel_rfl) (by kernel_rfl) (by kernel_rfl) (by intro _ _ _ h; exact h) (by rfl) ?_ (by assumption) ?_
                rotate_left 1
                · (intro w hSw; (try dsimp only at hSw); go_simp; try (with_reducible rfl))
                (try simp only [Act.put, List.setIfInBounds_toArray, List.set_cons_zero, List.set_cons_succ])
                refine wpAnyG_takeW [4, 8, 9, 10, 11, 13, 14] (i := 3) (d := some 85) (v := ?_) (by simp only [List.getElem?_toArray, List.getElem?_cons_succ, List.getElem?_cons_zero]; rfl) (by rfl) (by kernel_rfl) (by kernel_rfl) (by kernel_rfl) (by kernel_rfl) (by kernel_rfl) (by intro _ _ _ h; exact h) (by rfl) ?_ (by assumption) ?_
                rotate_left 1
                · (intro w hSw; (try dsimp only at hSw); go_simp; try (with_reducible rfl))
                (try simp only [Act.put, List.setIfInBounds_toArray, List.set_cons_zero, List.set_cons_succ])
                refine wpAnyG_takeW [8, 9, 10, 11, 13, 14] (i := 4) (d := some 86) (v := ?_) (by simp only [List.getElem?_toArray, List.getElem?_cons_succ, List.getElem?_cons_zero]; rfl) (by rfl) (by kernel_rfl) (by kernel_rfl) (by kernel_rfl) (by kernel_rfl) (by kernel_rfl) (by intro _ _ _ h; exact h) (by rfl) ?_ (by assumption) ?_
                rotate_left 1
                · (intro w hSw; (try dsimp only at hSw); go_simp; try (with_reducible rfl))
                (try simp only [Act.put, List.setIfInBounds_toArray, List.set_cons_zero, List.set_cons_succ])
                refine wpAnyG_takeW [6, 7, 8, 9, 10, 11, 13, 14] (i := 5) (d := some 87) (v := ?_) (by simp only [List.getElem?_toArray, List.getElem?_cons_succ, List.getElem?_cons_zero]; rfl) (by rfl) (by kernel_rfl) (by kernel_rfl) (by kernel_rfl) (by kernel_rfl) (by kernel_rfl) (by intro _ _ _ h; exact h) (by rfl) ?_ (by assumption) ?_
                rotate_left 1
                · (intro w hSw; (try dsimp only at hSw); go_simp; try (with_reducible rfl))
                (try simp only [Act.put, List.setIfInBounds_toArray, List.set_cons_zero, List.set_cons_succ])
                refine wpAnyG_takeW [7, 8, 9, 10, 11, 13, 14] (i := 6) (d := some 88) (v := ?_) (by simp only [List.getElem?_toArray, List.getElem?_cons_succ, List.getElem?_cons_zero]; rfl) (by rfl) (by kernel_rfl) (by kernel_rfl) (by kernel_rfl) (by kernel_rfl) (by kernel_rfl) (by intro _ _ _ h; exact h) (by rfl) ?_ (by assumption) ?_
                rotate_left 1
                · (intro w hSw; (try dsimp only at hSw); go_simp; try (with_reducible rfl))
                (try simp only [Act.put, List.setIfInBounds_toArray, List.set_cons_zero, List.set_cons_succ])
                refine wpAnyG_ready (rs := [7, 12]) (by kernel_rfl) (by simp) ?_
                refine (AllReadyG.cons (i := 7) (by simp only [List.getElem?_toArray, List.getElem?_cons_succ, List.getElem?_cons_zero]; rfl) (fun K hK => ?_) (AllReadyG.cons (i := 12) (by simp only [List.getElem?_toArray, List.getElem?_cons_succ, List.getElem?_cons_zero]; rfl) (fun K hK => ?_) AllReadyG.nil))
                · go_simp
                  go_wp2_with fail
                  refine hK.out _ _ (fun _ => ?_) (fun hHeld => ?_)
                  · ((try dsimp only); first | exact ⟨k0, k1, e0⟩ | exact ⟨(World.cell?_alloc_lt _ _ _ (by simp only; omega)).trans k0, (World.cell?_alloc_lt _ _ _ (by simp only; omega)).trans k1, (World.cell?_alloc_lt _ _ _ (by simp only; omega)).trans e0⟩)
                  replace hHeld := hHeld (by rfl)
                  clear hK K
                  (try simp only [Act.put, List.setIfInBounds_toArray, List.set_cons_zero, List.set_cons_succ])
                  obtain ⟨v1, hv⟩ : ∃ v, v = (wb.alloc (.cells #[.int .u8 (j : Int)] 5)).drew := ⟨_, rfl⟩
                  rw [← hv] at hHeld ⊢
                  have hbv : Below wb.heap.size wb v1 := by rw [hv]; exact Below.drew (Below.alloc (Below.refl _ _) (Nat.le_refl _) _)
                  have hzv1 : wb.heap.size < v1.heap.size := by rw [hv]; simp
                  obtain ⟨g7, hg7⟩ : ∃ g, g = wb.heap.size := ⟨_, rfl⟩
                  have hbk : v1.heap[g7]? = some (.cells #[.int .u8 (j : Int)] 5) := by rw [hv, hg7]; exact World.heap_new _ _ _ rfl
                  replace k0 := (hbv.cell (p := ⟨w2.heap.size, 0, none⟩) (by simp only; omega)).trans k0
                  replace k1 := (hbv.cell (p := ⟨w2.heap.size, 1, none⟩) (by simp only; omega)).trans k1
                  replace e0 := (hbv.cell (p := ⟨gl, i, none⟩) (by simp only; omega)).trans e0
                  have hsv1 := hbv.size
                  have HBVv1 := Lib.hid (hbv)
                  have c7 := (block_cell hbk 0).1
                  clear hv hbv hbk
                  rw [← hg7]
                  have hg71 : wb.heap.size ≤ g7 := Nat.le_of_eq hg7.symm
                  have hg72 : g7 < v1.heap.size := by omega
                  clear hg7
                  refine wpAnyG_ready (rs := [8, 12]) (by kernel_rfl) (by simp) ?_
                  refine (AllReadyG.cons (i := 8) (by simp only [List.getElem?_toArray, List.getElem?_cons_succ, List.getElem?_cons_zero]; rfl) (fun K hK => ?_) (AllReadyG.cons (i := 12) (by simp only [List.getElem?_toArray, List.getElem?_cons_succ, List.getElem?_cons_zero]; rfl) (fun K hK => ?_) AllReadyG.nil))
                  · go_simp
                    refine (implRN_any (T := T3) (Tb := fun b => b = g7) (sq f rr3) A3 c3 (can f ps3) (sq f j) (some ⟨g7, 0, none⟩) 1 [(j : Int)] _ (HM3.out.row.below EN.framed HBVv1.out) (by rw [can_len]; have := HPL.out; omega) (fun x hx => by obtain ⟨p, hp, rfl⟩ := can_mem hx; simp) (fun k' hk' => by obtain rfl : k' = 0 := (by simpa using hk'); exact ⟨g7, 0, rfl, rfl, by omega, c7, fun h => by cases h⟩) (by simp)).mono ?_
                    rw [HRC.out]
                    rintro e v2 ⟨A2, c2, gb, cb, T1, T2, rfl, hbv, hcap2, hd1, hd2, hp2, ho2, hT2⟩
                    have hgb := hd2 gb hT2
                    have HD1 := Lib.hid (fun b h => (⟨(hd1 b h).1, (hd1 b h).2.1⟩ : _ ∧ _))
                    have HD2 := Lib.hid hd2
                    replace k0 := (hbv.cell (p := ⟨w2.heap.size, 0, none⟩) (by simp only; omega)).trans k0
                    replace k1 := (hbv.cell (p := ⟨w2.heap.size, 1, none⟩) (by simp only; omega)).trans k1
                    replace e0 := (hbv.cell (p := ⟨gl, i, none⟩) (by simp only; omega)).trans e0
                    have hsv2 := hbv.size
                    replace c7 := (hbv.cell (p := ⟨g7, 0, none⟩) (by simp only; omega)).trans c7
                    have HBVv2 := Lib.hid (HBVv1.out.trans (hbv.mono HBVv1.out.size))
                    have HP2 := Lib.hid (SlN.read hp2)
                    have HO2 := Lib.hid (SlB.read (u := true) (ho2.slT (fun a ha => by injection ha with ha; subst ha; exact hT2)))
                    clear hbv hcap2 hd1 hd2 hp2 ho2 hT2
                    go_wp2_with fail
                    refine hK.out _ _ (fun _ => ?_) (fun hHeld => ?_)
                    · ((try dsimp only); first | exact ⟨k0, k1, e0⟩ | exact ⟨(World.cell?_alloc_lt _ _ _ (by simp only; omega)).trans k0, (World.cell?_alloc_lt _ _ _ (by simp only; omega)).trans k1, (World.cell?_alloc_lt _ _ _ (by simp only; omega)).trans e0⟩)
                    replace hHeld := hHeld (by rfl)
                    clear hK K
                    (try simp only [Act.put, List.setIfInBounds_toArray, List.set_cons_zero, List.set_cons_succ])
                    refine wpAnyG_takeW [10, 11, 13, 14] (i := 9) (d := some 81) (v := ?_) (by simp only [List.getElem?_toArray, List.getElem?_cons_succ, List.getElem?_cons_zero]; rfl) (by rfl) (by kernel_rfl) (by kernel_rfl) (by kernel_rfl) (by kernel_rfl) (by kernel_rfl) (by intro _ _ _ h; exact h) (by rfl) ?_ (by assumption) ?_
                    rotate_left 1
                    · (intro w hSw; (try dsimp only at hSw); go_simp; try (with_reducible rfl))
                    (try simp only [Act.put, List.setIfInBounds_toArray, List.set_cons_zero, List.set_cons_succ])
                    refine wpAnyG_takeP (i := 10) (d := some 91) (v := ?_) (by simp only [List.getElem?_toArray, List.getElem?_cons_succ, List.getElem?_cons_zero]; rfl) (by rfl) (by kernel_rfl) (by kernel_rfl) (by kernel_rfl) (by kernel_rfl) (by intro _ _ _ h; exact h) (by rfl) ?_ ?_
                    rotate_left 1
                    · (intro w hSw; (try dsimp only at hSw); go_simp; try (with_reducible rfl))
                    (try simp only [Act.put, List.setIfInBounds_toArray, List.set_cons_zero, List.set_cons_succ])
                    refine wpAnyG_takeP (i := 11) (d := some 92) (v := ?_) (by simp only [List.getElem?_toArray, List.getElem?_cons_succ, List.getElem?_cons_zero]; rfl) (by rfl) (by kernel_rfl) (by kernel_rfl) (by kernel_rfl) (by kernel_rfl) (by intro _ _ _ h; exact h) (by rfl) ?_ ?_
                    rotate_left 1
                    · (intro w hSw; (try dsimp only at hSw); go_simp; try (with_reducible rfl))
                    (try simp only [Act.put, List.setIfInBounds_toArray, List.set_cons_zero, List.set_cons_succ])
                    refine wpAnyG_ready (rs := [12]) (by kernel_rfl) (by simp) ?_
                    refine (AllReadyG.cons (i := 12) (by simp only [List.getElem?_toArray, List.getElem?_cons_succ, List.getElem?_cons_zero]; rfl) (fun K hK => ?_) AllReadyG.nil)
                    go_simp
                    go_wp2_with fail
                    refine hK.out _ _ (fun _ => ?_) (fun hHeld => ?_)
                    · ((try dsimp only); first | exact ⟨k0, k1, e0⟩ | exact ⟨(World.cell?_alloc_lt _ _ _ (by simp only; omega)).trans k0, (World.cell?_alloc_lt _ _ _ (by simp only; omega)).trans k1, (World.cell?_alloc_lt _ _ _ (by simp only; omega)).trans e0⟩)
                    replace hHeld := hHeld (by rfl)
                    clear hK K
                    (try simp only [Act.put, List.setIfInBounds_toArray, List.set_cons_zero, List.set_cons_succ])
                    obtain ⟨v3, hv⟩ : ∃ v, v = v2.alloc (.cells #[.int .i64 0, .slice none 0 0] 28) := ⟨_, rfl⟩
                    rw [← hv] at hHeld ⊢
                    have hbv : Below v2.heap.size v2 v3 := by rw [hv]; exact Below.alloc (Below.refl _ _) (Nat.le_refl _) _
                    have hzv3 : v2.heap.size < v3.heap.size := by rw [hv]; simp
                    obtain ⟨gx, hgx⟩ : ∃ g, g = v2.heap.size := ⟨_, rfl⟩
                    have hbk : v3.heap[gx]? = some (.cells #[.int .i64 0, .slice none 0 0] 28) := by rw [hv, hgx]; exact World.heap_new _ _ _ rfl
                    replace k0 := (hbv.cell (p := ⟨w2.heap.size, 0, none⟩) (by simp only; omega)).trans k0
                    replace k1 := (hbv.cell (p := ⟨w2.heap.size, 1, none⟩) (by simp only; omega)).trans k1
                    replace e0 := (hbv.cell (p := ⟨gl, i, none⟩) (by simp only; omega)).trans e0
                    have hsv3 := hbv.size
                    replace c7 := (hbv.cell (p := ⟨g7, 0, none⟩) (by simp only; omega)).trans c7
                    replace HP2 := Lib.hid (Sl.below (R := EN false) EN.framed HP2.out hbv)
                    replace HO2 := Lib.hid (Sl.below (R := EB false) EB.framed HO2.out hbv)
                    have HBVv3 := Lib.hid (HBVv2.out.trans (hbv.mono HBVv2.out.size))
                    have x0 := (block_cell hbk 0).1
                    have x1 := (block_cell hbk 1).1
                    have xf0 := (block_cell hbk 0).2
                    have xf1 := (block_cell hbk 1).2
                    clear hv hbv hbk
                    rw [← hgx]
                    have hgx1 : v2.heap.size ≤ gx := Nat.le_of_eq hgx.symm
                    have hgx2 : gx < v3.heap.size := by omega
                    clear hgx
                    refine wpAnyG_ready (rs := [13]) (by kernel_rfl) (by simp) ?_
                    refine (AllReadyG.cons (i := 13) (by simp only [List.getElem?_toArray, List.getElem?_cons_succ, List.getElem?_cons_zero]; rfl) (fun K hK => ?_) AllReadyG.nil)
                    go_simp
                    go_wp2_with fail
                    refine hK.out _ _ (fun h => by cases h) (fun _ => ?_)
                    clear hK K
                    (try simp only [Act.put, List.setIfInBounds_toArray, List.set_cons_zero, List.set_cons_succ])
                    refine wpAnyG_takeP (i := 14) (d := some 17) (v := ?_) (by simp only [List.getElem?_toArray, List.getElem?_cons_succ, List.getElem?_cons_zero]; rfl) (by rfl) (by kernel_rfl) (by kernel_rfl) (by kernel_rfl) (by kernel_rfl) (by intro _ _ _ h; exact h) (by rfl) ?_ ?_
                    rotate_left 1
                    · (intro w hSw; (try dsimp only at hSw); go_simp; try (with_reducible rfl))
                    (try simp only [Act.put, List.setIfInBounds_toArray, List.set_cons_zero, List.set_cons_succ])
                    refine wpAnyG_done (by kernel_rfl) ?_ _
                    obtain ⟨v4, hv4⟩ : ∃ v, v = ((v3.setCell ⟨gx, 0, none⟩ (.int .i64 (sq f r4))).setCell ⟨gx, 1, none⟩ (.slice A2 (can f qs).length c2)) := ⟨_, rfl⟩
                    have hcx : Chg (fun b => b = gx) v3 v4 := by rw [hv4]; exact Chg.setCell_ (S := fun b => b = gx) (Chg.setCell_ (S := fun b => b = gx) (Chg.refl _ _) (p := ⟨gx, 0, none⟩) rfl _) (p := ⟨gx, 1, none⟩) rfl _
                    have hs4 := hcx.size
                    have x0' : v4.cell? ⟨gx, 0, none⟩ = some (.int .i64 (sq f r4)) := by rw [hv4, World.cell?_setCell_other _ _ _ _ (fun e => by injection e with _ e2; omega)]; exact World.cell?_setCell_same _ _ _ x0
                    have x1' : v4.cell? ⟨gx, 1, none⟩ = some (.slice A2 (can f qs).length c2) := by rw [hv4]; exact World.cell?_setCell_same (u := .slice none 0 0) _ _ _ (by rw [World.cell?_setCell_other _ _ _ _ (fun e => by injection e with _ e2; omega)]; exact x1)
                    have HM4 := Lib.hid (HM3.out.chg (S := fun b => wb.heap.size ≤ b) ((Chg.of_below HBVv3.out).trans (hcx.mono (fun b _ hb => by omega))) (fun b hb => hb))
                    have HP4 := Lib.hid (Sl.frame (R := EN false) EN.framed HP2.out hcx (fun b h1 h2 => by have := HD1.out b h1; omega))
                    have HO4 := Lib.hid (Sl.frame (R := EB false) EB.framed HO2.out hcx (fun b h1 h2 => by have := HD2.out b h1; omega))
                    have HL4 := Lib.hid (HL3.out.frame ((Chg.of_below (S := fun b => wb.heap.size ≤ b) HBVv3.out).trans (hcx.mono (fun b _ hb => by omega))) (fun b h1 h2 => by omega))
                    rw [← hv4]
                    clear hv4 hcx x0 x1 xf0 xf1 k0 k1 e0 c7 HM3 HL3
                    have k0 := HM4.out.r0
                    have k1 := HM4.out.r1
                    have rf0 := HM4.out.rf0
                    have rf1 := HM4.out.rf1
                    have hlr_HM4 := HM4.out.h3
                    have HM5 := Lib.hid (HM4.out.setR (rs' := sq f r4) (A' := A2) (c' := c2) (ys' := can f qs) (T' := T1) HP4.out (fun b hb => by have := HD1.out b hb; exact ⟨by omega, by omega, by omega⟩))
                    have hcr : Chg (fun b => b = w2.heap.size) v4 ((v4.setCell ⟨w2.heap.size, 0, none⟩ (.int .i64 (sq f r4))).setCell ⟨w2.heap.size, 1, none⟩ (.slice A2 (can f qs).length c2)) := Chg.setCell_ (S := fun b => b = w2.heap.size) (Chg.setCell_ (S := fun b => b = w2.heap.size) (Chg.refl _ _) (p := ⟨w2.heap.size, 0, none⟩) rfl _) (p := ⟨w2.heap.size, 1, none⟩) rfl _
                    have hsr := hcr.size
                    have HO5 := Lib.hid (Sl.frame (R := EB false) EB.framed HO4.out hcr (fun b h1 h2 => by have := HD2.out b h1; omega))
                    have HL5 := Lib.hid (HL4.out.frame hcr (fun b h1 h2 => by omega))
                    have HSRC : Hid (Src false 1 (EB false) ((v4.setCell ⟨w2.heap.size, 0, none⟩ (.int .i64 (sq f r4))).setCell ⟨w2.heap.size, 1, none⟩ (.slice A2 (can f qs).length c2)) (fun b => w2.heap.size < b) (fun b => w2.heap.size < b) g3 (some ⟨gb, 0, none⟩) out) := Lib.hid (Sl.src (Sl.wider HO5.out (T' := fun b => w2.heap.size < b ∧ b < ((v4.setCell ⟨w2.heap.size, 0, none⟩ (.int .i64 (sq f r4))).setCell ⟨w2.heap.size, 1, none⟩ (.slice A2 (can f qs).length c2)).heap.size ∧ b ≠ g3) (fun b hb => by have := HD2.out b hb; exact ⟨by omega, by omega, by omega⟩)) (fun b hb => ⟨hb.2.1, hb.2.2, fun h => by cases h⟩) |>.imp_ (fun b hb => hb.1))
                    go_wp2_with (at_builtin; refine wpList_appW (R := EB false) (u := false) (w0 := ((v4.setCell ⟨w2.heap.size, 0, none⟩ (.int .i64 (sq f r4))).setCell ⟨w2.heap.size, 1, none⟩ (.slice A2 (can f qs).length c2))) (xs := got3) (ys := out) (T := fun b => w2.heap.size < b) (Fn := fun b => w2.heap.size < b) rfl EB.mov EB.cls (.tmp 94) (.tmp 95) 29 rfl 38 i0 (.slice none 0 0) 24 Try.underlying29 hI0 hz0 hz1 hz2 rfl (by decide) rfl HM5.out.own (Below.refl _ _) rfl HSRC.out (by have h1 := HGL.out; have h2 := HOL.out; omega) (by decide) (by omega) ?_)
                    intro g9 c9 w9 l9 HQ9 HO9 HG9 HC9 HB9
                    have hs9 := HC9.out.size
                    have hl9 := HO9.out.lt
                    have HM9 := Lib.hid (HM5.out.app HC9.out HG9.out (HO9.out.widerT (fun b h _ => h.elim id id)))
                    have HG9n : Hid (g9 ≠ gl) := Lib.hid (by rcases HG9.out with h | h <;> omega)
                    have HL9 := Lib.hid (HL5.out.frame HC9.out (fun b h1 h2 => by omega))
                    have hgt9 : l9 = gotL r4 := by rw [HQ9.out, HGT.out, HOUT.out]; exact gotL_app (by have := HR4.out; omega)
                    have HGT9 := Lib.hid hgt9
                    clear hgt9 HC9 HB9 HG9 HSRC HM5 HM4 HO5 HO4 HP4 HL4 HL5 hcr
                    go_wp2
                    go_roundw
                    case rel => exact ⟨i + 1, r4, qs, g9, c9, A2, c2, T1, l9, by go_num, by omega, rfl, HGT9, Lib.hid (HI3.out.recv HR4.out.1 HR4.out.2.1 HR4.out.2.2.1 HR4.out.2.2.2), HM9, HL9, HG9n.out, by omega, Lib.hid (fun h30 j' x' hj' hx' => by
                        rcases Nat.lt_or_ge j' i with h | h
                        · obtain ⟨p, h1, h2⟩ := HRV.out h30 j' x' h hx'
                          exact ⟨p, h1, (HR4.out.2.2.2 p).2 (h2.imp id .inl)⟩
                        · obtain rfl : j' = i := by omega
                          rw [HXI.out] at hx'
                          injection hx' with hx'
                          exact ⟨j, hx'.symm, (HR4.out.2.2.2 j).2 (.inr (.inr rfl))⟩)⟩
                    case measure => simp [intOf]; omega
                  · go_simp
                    go_wp2_with fail
                    refine hK.out _ _ (fun _ => ?_) (fun hHeld => ?_)
                    · ((try dsimp only); first | exact ⟨k0, k1, e0⟩ | exact ⟨(World.cell?_alloc_lt _ _ _ (by simp only; omega)).trans k0, (World.cell?_alloc_lt _ _ _ (by simp only; omega)).trans k1, (World.cell?_alloc_lt _ _ _ (by simp only; omega)).trans e0⟩)
                    replace hHeld := hHeld (by rfl)
                    clear hK K
                    (try simp only [Act.put, List.setIfInBounds_toArray, List.set_cons_zero, List.set_cons_succ])
                    obtain ⟨v2, hv⟩ : ∃ v, v = v1.alloc (.cells #[.int .i64 0, .slice none 0 0] 28) := ⟨_, rfl⟩
                    rw [← hv] at hHeld ⊢
                    have hbv : Below v1.heap.size v1 v2 := by rw [hv]; exact Below.alloc (Below.refl _ _) (Nat.le_refl _) _
                    have hzv2 : v1.heap.size < v2.heap.size := by rw [hv]; simp
                    obtain ⟨gx, hgx⟩ : ∃ g, g = v1.heap.size := ⟨_, rfl⟩
                    have hbk : v2.heap[gx]? = some (.cells #[.int .i64 0, .slice none 0 0] 28) := by rw [hv, hgx]; exact World.heap_new _ _ _ rfl
                    replace k0 := (hbv.cell (p := ⟨w2.heap.size, 0, none⟩) (by simp only; omega)).trans k0
                    replace k1 := (hbv.cell (p := ⟨w2.heap.size, 1, none⟩) (by simp only; omega)).trans k1
                    replace e0 := (hbv.cell (p := ⟨gl, i, none⟩) (by simp only; omega)).trans e0
                    have hsv2 := hbv.size
                    replace c7 := (hbv.cell (p := ⟨g7, 0, none⟩) (by simp only; omega)).trans c7
                    have HBVv2 := Lib.hid (HBVv1.out.trans (hbv.mono HBVv1.out.size))
                    have x0 := (block_cell hbk 0).1
                    have x1 := (block_cell hbk 1).1
                    have xf0 := (block_cell hbk 0).2
                    have xf1 := (block_cell hbk 1).2
                    clear hv hbv hbk
                    rw [← hgx]
                    have hgx1 : v1.heap.size ≤ gx := Nat.le_of_eq hgx.symm
                    have hgx2 : gx < v2.heap.size := by omega
                    clear hgx
                    refine wpAnyG_ready (rs := [8]) (by kernel_rfl) (by simp) ?_
                    refine (AllReadyG.cons (i := 8) (by simp only [List.getElem?_toArray, List.getElem?_cons_succ, List.getElem?_cons_zero]; rfl) (fun K hK => ?_) AllReadyG.nil)
                    go_simp
                    refine (implRN_any (T := T3) (Tb := fun b => b = g7) (sq f rr3) A3 c3 (can f ps3) (sq f j) (some ⟨g7, 0, none⟩) 1 [(j : Int)] _ (HM3.out.row.below EN.framed HBVv2.out) (by rw [can_len]; have := HPL.out; omega) (fun x hx => by obtain ⟨p, hp, rfl⟩ := can_mem hx; simp) (fun k' hk' => by obtain rfl : k' = 0 := (by simpa using hk'); exact ⟨g7, 0, rfl, rfl, by omega, c7, fun h => by cases h⟩) (by simp)).mono ?_
                    rw [HRC.out]
                    rintro e v3 ⟨A2, c2, gb, cb, T1, T2, rfl, hbv, hcap2, hd1, hd2, hp2, ho2, hT2⟩
                    have hgb := hd2 gb hT2
                    have HD1 := Lib.hid (fun b h => (⟨(hd1 b h).1, (hd1 b h).2.1⟩ : _ ∧ _))
                    have HD2 := Lib.hid hd2
                    replace k0 := (hbv.cell (p := ⟨w2.heap.size, 0, none⟩) (by simp only; omega)).trans k0
                    replace k1 := (hbv.cell (p := ⟨w2.heap.size, 1, none⟩) (by simp only; omega)).trans k1
                    replace e0 := (hbv.cell (p := ⟨gl, i, none⟩) (by simp only; omega)).trans e0
                    have hsv3 := hbv.size
                    replace c7 := (hbv.cell (p := ⟨g7, 0, none⟩) (by simp only; omega)).trans c7
                    replace x0 := (hbv.cell (p := ⟨gx, 0, none⟩) (by simp only; omega)).trans x0
                    replace x1 := (hbv.cell (p := ⟨gx, 1, none⟩) (by simp only; omega)).trans x1
                    replace xf0 := (hbv.frozen (p := ⟨gx, 0, none⟩) (by simp only; omega)).trans xf0
                    replace xf1 := (hbv.frozen (p := ⟨gx, 1, none⟩) (by simp only; omega)).trans xf1
                    have HBVv3 := Lib.hid (HBVv2.out.trans (hbv.mono HBVv2.out.size))
                    have HP2 := Lib.hid (SlN.read hp2)
                    have HO2 := Lib.hid (SlB.read (u := true) (ho2.slT (fun a ha => by injection ha with ha; subst ha; exact hT2)))
                    clear hbv hcap2 hd1 hd2 hp2 ho2 hT2
                    go_wp2_with fail
                    refine hK.out _ _ (fun _ => ?_) (fun hHeld => ?_)
                    · ((try dsimp only); first | exact ⟨k0, k1, e0⟩ | exact ⟨(World.cell?_alloc_lt _ _ _ (by simp only; omega)).trans k0, (World.cell?_alloc_lt _ _ _ (by simp only; omega)).trans k1, (World.cell?_alloc_lt _ _ _ (by simp only; omega)).trans e0⟩)
                    replace hHeld := hHeld (by rfl)
                    clear hK K
                    (try simp only [Act.put, List.setIfInBounds_toArray, List.set_cons_zero, List.set_cons_succ])
                    refine wpAnyG_takeW [10, 11, 13, 14] (i := 9) (d := some 81) (v := ?_) (by simp only [List.getElem?_toArray, List.getElem?_cons_succ, List.getElem?_cons_zero]; rfl) (by rfl) (by kernel_rfl) (by kernel_rfl) (by kernel_rfl) (by kernel_rfl) (by kernel_rfl) (by intro _ _ _ h; exact h) (by rfl) ?_ (by assumption) ?_
                    rotate_left 1
                    · (intro w hSw; (try dsimp only at hSw); go_simp; try (with_reducible rfl))
                    (try simp only [Act.put, List.setIfInBounds_toArray, List.set_cons_zero, List.set_cons_succ])
                    refine wpAnyG_takeP (i := 10) (d := some 91) (v := ?_) (by simp only [List.getElem?_toArray, List.getElem?_cons_succ, List.getElem?_cons_zero]; rfl) (by rfl) (by kernel_rfl) (by kernel_rfl) (by kernel_rfl) (by kernel_rfl) (by intro _ _ _ h; exact h) (by rfl) ?_ ?_
                    rotate_left 1
                    · (intro w hSw; (try dsimp only at hSw); go_simp; try (with_reducible rfl))
                    (try simp only [Act.put, List.setIfInBounds_toArray, List.set_cons_zero, List.set_cons_succ])
                    refine wpAnyG_takeP (i := 11) (d := some 92) (v := ?_) (by simp only [List.getElem?_toArray, List.getElem?_cons_succ, List.getElem?_cons_zero]; rfl) (by rfl) (by kernel_rfl) (by kernel_rfl) (by kernel_rfl) (by kernel_rfl) (by intro _ _ _ h; exact h) (by rfl) ?_ ?_
                    rotate_left 1
                    · (intro w hSw; (try dsimp only at hSw); go_simp; try (with_reducible rfl))
                    (try simp only [Act.put, List.setIfInBounds_toArray, List.set_cons_zero, List.set_cons_succ])
                    refine wpAnyG_ready (rs := [13]) (by kernel_rfl) (by simp) ?_
                    refine (AllReadyG.cons (i := 13) (by simp only [List.getElem?_toArray, List.getElem?_cons_succ, List.getElem?_cons_zero]; rfl) (fun K hK => ?_) AllReadyG.nil)
                    go_simp
                    go_wp2_with fail
                    refine hK.out _ _ (fun h => by cases h) (fun _ => ?_)
                    clear hK K
                    (try simp only [Act.put, List.setIfInBounds_toArray, List.set_cons_zero, List.set_cons_succ])
                    refine wpAnyG_takeP (i := 14) (d := some 17) (v := ?_) (by simp only [List.getElem?_toArray, List.getElem?_cons_succ, List.getElem?_cons_zero]; rfl) (by rfl) (by kernel_rfl) (by kernel_rfl) (by kernel_rfl) (by kernel_rfl) (by intro _ _ _ h; exact h) (by rfl) ?_ ?_
                    rotate_left 1
                    · (intro w hSw; (try dsimp only at hSw); go_simp; try (with_reducible rfl))
                    (try simp only [Act.put, List.setIfInBounds_toArray, List.set_cons_zero, List.set_cons_succ])
                    refine wpAnyG_done (by kernel_rfl) ?_ _
                    obtain ⟨v4, hv4⟩ : ∃ v, v = ((v3.setCell ⟨gx, 0, none⟩ (.int .i64 (sq f r4))).setCell ⟨gx, 1, none⟩ (.slice A2 (can f qs).length c2)) := ⟨_, rfl⟩
                    have hcx : Chg (fun b => b = gx) v3 v4 := by rw [hv4]; exact Chg.setCell_ (S := fun b => b = gx) (Chg.setCell_ (S := fun b => b = gx) (Chg.refl _ _) (p := ⟨gx, 0, none⟩) rfl _) (p := ⟨gx, 1, none⟩) rfl _
                    have hs4 := hcx.size
                    have x0' : v4.cell? ⟨gx, 0, none⟩ = some (.int .i64 (sq f r4)) := by rw [hv4, World.cell?_setCell_other _ _ _ _ (fun e => by injection e with _ e2; omega)]; exact World.cell?_setCell_same _ _ _ x0
                    have x1' : v4.cell? ⟨gx, 1, none⟩ = some (.slice A2 (can f qs).length c2) := by rw [hv4]; exact World.cell?_setCell_same (u := .slice none 0 0) _ _ _ (by rw [World.cell?_setCell_other _ _ _ _ (fun e => by injection e with _ e2; omega)]; exact x1)
                    have HM4 := Lib.hid (HM3.out.chg (S := fun b => wb.heap.size ≤ b) ((Chg.of_below HBVv3.out).trans (hcx.mono (fun b _ hb => by omega))) (fun b hb => hb))
                    have HP4 := Lib.hid (Sl.frame (R := EN false) EN.framed HP2.out hcx (fun b h1 h2 => by have := HD1.out b h1; omega))
                    have HO4 := Lib.hid (Sl.frame (R := EB false) EB.framed HO2.out hcx (fun b h1 h2 => by have := HD2.out b h1; omega))
                    have HL4 := Lib.hid (HL3.out.frame ((Chg.of_below (S := fun b => wb.heap.size ≤ b) HBVv3.out).trans (hcx.mono (fun b _ hb => by omega))) (fun b h1 h2 => by omega))
                    rw [← hv4]
                    clear hv4 hcx x0 x1 xf0 xf1 k0 k1 e0 c7 HM3 HL3
                    have k0 := HM4.out.r0
                    have k1 := HM4.out.r1
                    have rf0 := HM4.out.rf0
                    have rf1 := HM4.out.rf1
                    have hlr_HM4 := HM4.out.h3
                    have HM5 := Lib.hid (HM4.out.setR (rs' := sq f r4) (A' := A2) (c' := c2) (ys' := can f qs) (T' := T1) HP4.out (fun b hb => by have := HD1.out b hb; exact ⟨by omega, by omega, by omega⟩))
                    have hcr : Chg (fun b => b = w2.heap.size) v4 ((v4.setCell ⟨w2.heap.size, 0, none⟩ (.int .i64 (sq f r4))).setCell ⟨w2.heap.size, 1, none⟩ (.slice A2 (can f qs).length c2)) := Chg.setCell_ (S := fun b => b = w2.heap.size) (Chg.setCell_ (S := fun b => b = w2.heap.size) (Chg.refl _ _) (p := ⟨w2.heap.size, 0, none⟩) rfl _) (p := ⟨w2.heap.size, 1, none⟩) rfl _
                    have hsr := hcr.size
                    have HO5 := Lib.hid (Sl.frame (R := EB false) EB.framed HO4.out hcr (fun b h1 h2 => by have := HD2.out b h1; omega))
                    have HL5 := Lib.hid (HL4.out.frame hcr (fun b h1 h2 => by omega))
                    have HSRC : Hid (Src false 1 (EB false) ((v4.setCell ⟨w2.heap.size, 0, none⟩ (.int .i64 (sq f r4))).setCell ⟨w2.heap.size, 1, none⟩ (.slice A2 (can f qs).length c2)) (fun b => w2.heap.size < b) (fun b => w2.heap.size < b) g3 (some ⟨gb, 0, none⟩) out) := Lib.hid (Sl.src (Sl.wider HO5.out (T' := fun b => w2.heap.size < b ∧ b < ((v4.setCell ⟨w2.heap.size, 0, none⟩ (.int .i64 (sq f r4))).setCell ⟨w2.heap.size, 1, none⟩ (.slice A2 (can f qs).length c2)).heap.size ∧ b ≠ g3) (fun b hb => by have := HD2.out b hb; exact ⟨by omega, by omega, by omega⟩)) (fun b hb => ⟨hb.2.1, hb.2.2, fun h => by cases h⟩) |>.imp_ (fun b hb => hb.1))
                    go_wp2_with (at_builtin; refine wpList_appW (R := EB false) (u := false) (w0 := ((v4.setCell ⟨w2.heap.size, 0, none⟩ (.int .i64 (sq f r4))).setCell ⟨w2.heap.size, 1, none⟩ (.slice A2 (can f qs).length c2))) (xs := got3) (ys := out) (T := fun b => w2.heap.size < b) (Fn := fun b => w2.heap.size < b) rfl EB.mov EB.cls (.tmp 94) (.tmp 95) 29 rfl 38 i0 (.slice none 0 0) 24 Try.underlying29 hI0 hz0 hz1 hz2 rfl (by decide) rfl HM5.out.own (Below.refl _ _) rfl HSRC.out (by have h1 := HGL.out; have h2 := HOL.out; omega) (by decide) (by omega) ?_)
                    intro g9 c9 w9 l9 HQ9 HO9 HG9 HC9 HB9
                    have hs9 := HC9.out.size
                    have hl9 := HO9.out.lt
                    have HM9 := Lib.hid (HM5.out.app HC9.out HG9.out (HO9.out.widerT (fun b h _ => h.elim id id)))
                    have HG9n : Hid (g9 ≠ gl) := Lib.hid (by rcases HG9.out with h | h <;> omega)
                    have HL9 := Lib.hid (HL5.out.frame HC9.out (fun b h1 h2 => by omega))
                    have hgt9 : l9 = gotL r4 := by rw [HQ9.out, HGT.out, HOUT.out]; exact gotL_app (by have := HR4.out; omega)
                    have HGT9 := Lib.hid hgt9
                    clear hgt9 HC9 HB9 HG9 HSRC HM5 HM4 HO5 HO4 HP4 HL4 HL5 hcr
                    go_wp2
                    go_roundw
                    case rel => exact ⟨i + 1, r4, qs, g9, c9, A2, c2, T1, l9, by go_num, by omega, rfl, HGT9, Lib.hid (HI3.out.recv HR4.out.1 HR4.out.2.1 HR4.out.2.2.1 HR4.out.2.2.2), HM9, HL9, HG9n.out, by omega, Lib.hid (fun h30 j' x' hj' hx' => by
                        rcases Nat.lt_or_ge j' i with h | h
                        · obtain ⟨p, h1, h2⟩ := HRV.out h30 j' x' h hx'
                          exact ⟨p, h1, (HR4.out.2.2.2 p).2 (h2.imp id .inl)⟩
                        · obtain rfl : j' = i := by omega
                          rw [HXI.out] at hx'
                          injection hx' with hx'
                          exact ⟨j, hx'.symm, (HR4.out.2.2.2 j).2 (.inr (.inr rfl))⟩)⟩
                    case measure => simp [intOf]; omega
                · go_simp
                  go_wp2_with fail
                  refine hK.out _ _ (fun _ => ?_) (fun hHeld => ?_)
                  · ((try dsimp only); first | exact ⟨k0, k1, e0⟩ | exact ⟨(World.cell?_alloc_lt _ _ _ (by simp only; omega)).trans k0, (World.cell?_alloc_lt _ _ _ (by simp only; omega)).trans k1, (World.cell?_alloc_lt _ _ _ (by simp only; omega)).trans e0⟩)
                  replace hHeld := hHeld (by rfl)
                  clear hK K
                  (try simp only [Act.put, List.setIfInBounds_toArray, List.set_cons_zero, List.set_cons_succ])
                  obtain ⟨v1, hv⟩ : ∃ v, v = (wb.alloc (.cells #[.int .i64 0, .slice none 0 0] 28)).drew := ⟨_, rfl⟩
                  rw [← hv] at hHeld ⊢
                  have hbv : Below wb.heap.size wb v1 := by rw [hv]; exact Below.drew (Below.alloc (Below.refl _ _) (Nat.le_refl _) _)
                  have hzv1 : wb.heap.size < v1.heap.size := by rw [hv]; simp
                  obtain ⟨gx, hgx⟩ : ∃ g, g = wb.heap.size := ⟨_, rfl⟩
                  have hbk : v1.heap[gx]? = some (.cells #[.int .i64 0, .slice none 0 0] 28) := by rw [hv, hgx]; exact World.heap_new _ _ _ rfl
                  replace k0 := (hbv.cell (p := ⟨w2.heap.size, 0, none⟩) (by simp only; omega)).trans k0
                  replace k1 := (hbv.cell (p := ⟨w2.heap.size, 1, none⟩) (by simp only; omega)).trans k1
                  replace e0 := (hbv.cell (p := ⟨gl, i, none⟩) (by simp only; omega)).trans e0
                  have hsv1 := hbv.size
                  have HBVv1 := Lib.hid (hbv)
                  have x0 := (block_cell hbk 0).1
                  have x1 := (block_cell hbk 1).1
                  have xf0 := (block_cell hbk 0).2
                  have xf1 := (block_cell hbk 1).2
                  clear hv hbv hbk
                  rw [← hgx]
                  have hgx1 : wb.heap.size ≤ gx := Nat.le_of_eq hgx.symm
                  have hgx2 : gx < v1.heap.size := by omega
                  clear hgx
                  refine wpAnyG_ready (rs := [7]) (by kernel_rfl) (by simp) ?_
                  refine (AllReadyG.cons (i := 7) (by simp only [List.getElem?_toArray, List.getElem?_cons_succ, List.getElem?_cons_zero]; rfl) (fun K hK => ?_) AllReadyG.nil)
                  go_simp
                  go_wp2_with fail
                  refine hK.out _ _ (fun _ => ?_) (fun hHeld => ?_)
                  · ((try dsimp only); first | exact ⟨k0, k1, e0⟩ | exact ⟨(World.cell?_alloc_lt _ _ _ (by simp only; omega)).trans k0, (World.cell?_alloc_lt _ _ _ (by simp only; omega)).trans k1, (World.cell?_alloc_lt _ _ _ (by simp only; omega)).trans e0⟩)
                  replace hHeld := hHeld (by rfl)
                  clear hK K
                  (try simp only [Act.put, List.setIfInBounds_toArray, List.set_cons_zero, List.set_cons_succ])
                  obtain ⟨v2, hv⟩ : ∃ v, v = v1.alloc (.cells #[.int .u8 (j : Int)] 5) := ⟨_, rfl⟩
                  rw [← hv] at hHeld ⊢
                  have hbv : Below v1.heap.size v1 v2 := by rw [hv]; exact Below.alloc (Below.refl _ _) (Nat.le_refl _) _
                  have hzv2 : v1.heap.size < v2.heap.size := by rw [hv]; simp
                  obtain ⟨g7, hg7⟩ : ∃ g, g = v1.heap.size := ⟨_, rfl⟩
                  have hbk : v2.heap[g7]? = some (.cells #[.int .u8 (j : Int)] 5) := by rw [hv, hg7]; exact World.heap_new _ _ _ rfl
                  replace k0 := (hbv.cell (p := ⟨w2.heap.size, 0, none⟩) (by simp only; omega)).trans k0
                  replace k1 := (hbv.cell (p := ⟨w2.heap.size, 1, none⟩) (by simp only; omega)).trans k1
                  replace e0 := (hbv.cell (p := ⟨gl, i, none⟩) (by simp only; omega)).trans e0
                  have hsv2 := hbv.size
                  replace x0 := (hbv.cell (p := ⟨gx, 0, none⟩) (by simp only; omega)).trans x0
                  replace x1 := (hbv.cell (p := ⟨gx, 1, none⟩) (by simp only; omega)).trans x1
                  replace xf0 := (hbv.frozen (p := ⟨gx, 0, none⟩) (by simp only; omega)).trans xf0
                  replace xf1 := (hbv.frozen (p := ⟨gx, 1, none⟩) (by simp only; omega)).trans xf1
                  have HBVv2 := Lib.hid (HBVv1.out.trans (hbv.mono HBVv1.out.size))
                  have c7 := (block_cell hbk 0).1
                  clear hv hbv hbk
                  rw [← hg7]
                  have hg71 : v1.heap.size ≤ g7 := Nat.le_of_eq hg7.symm
                  have hg72 : g7 < v2.heap.size := by omega
                  clear hg7
                  refine wpAnyG_ready (rs := [8]) (by kernel_rfl) (by simp) ?_
                  refine (AllReadyG.cons (i := 8) (by simp only [List.getElem?_toArray, List.getElem?_cons_succ, List.getElem?_cons_zero]; rfl) (fun K hK => ?_) AllReadyG.nil)
                  go_simp
                  refine (implRN_any (T := T3) (Tb := fun b => b = g7) (sq f rr3) A3 c3 (can f ps3) (sq f j) (some ⟨g7, 0, none⟩) 1 [(j : Int)] _ (HM3.out.row.below EN.framed HBVv2.out) (by rw [can_len]; have := HPL.out; omega) (fun x hx => by obtain ⟨p, hp, rfl⟩ := can_mem hx; simp) (fun k' hk' => by obtain rfl : k' = 0 := (by simpa using hk'); exact ⟨g7, 0, rfl, rfl, by omega, c7, fun h => by cases h⟩) (by simp)).mono ?_
                  rw [HRC.out]
                  rintro e v3 ⟨A2, c2, gb, cb, T1, T2, rfl, hbv, hcap2, hd1, hd2, hp2, ho2, hT2⟩
                  have hgb := hd2 gb hT2
                  have HD1 := Lib.hid (fun b h => (⟨(hd1 b h).1, (hd1 b h).2.1⟩ : _ ∧ _))
                  have HD2 := Lib.hid hd2
                  replace k0 := (hbv.cell (p := ⟨w2.heap.size, 0, none⟩) (by simp only; omega)).trans k0
                  replace k1 := (hbv.cell (p := ⟨w2.heap.size, 1, none⟩) (by simp only; omega)).trans k1
                  replace e0 := (hbv.cell (p := ⟨gl, i, none⟩) (by simp only; omega)).trans e0
                  have hsv3 := hbv.size
                  replace c7 := (hbv.cell (p := ⟨g7, 0, none⟩) (by simp only; omega)).trans c7
                  replace x0 := (hbv.cell (p := ⟨gx, 0, none⟩) (by simp only; omega)).trans x0
                  replace x1 := (hbv.cell (p := ⟨gx, 1, none⟩) (by simp only; omega)).trans x1
                  replace xf0 := (hbv.frozen (p := ⟨gx, 0, none⟩) (by simp only; omega)).trans xf0
                  replace xf1 := (hbv.frozen (p := ⟨gx, 1, none⟩) (by simp only; omega)).trans xf1
                  have HBVv3 := Lib.hid (HBVv2.out.trans (hbv.mono HBVv2.out.size))
                  have HP2 := Lib.hid (SlN.read hp2)
                  have HO2 := Lib.hid (SlB.read (u := true) (ho2.slT (fun a ha => by injection ha with ha; subst ha; exact hT2)))
                  clear hbv hcap2 hd1 hd2 hp2 ho2 hT2
                  go_wp2_with fail
                  refine hK.out _ _ (fun _ => ?_) (fun hHeld => ?_)
                  · ((try dsimp only); first | exact ⟨k0, k1, e0⟩ | exact ⟨(World.cell?_alloc_lt _ _ _ (by simp only; omega)).trans k0, (World.cell?_alloc_lt _ _ _ (by simp only; omega)).trans k1, (World.cell?_alloc_lt _ _ _ (by simp only; omega)).trans e0⟩)
                  replace hHeld := hHeld (by rfl)
                  clear hK K
                  (try simp only [Act.put, List.setIfInBounds_toArray, List.set_cons_zero, List.set_cons_succ])
                  refine wpAnyG_takeW [10, 11, 13, 14] (i := 9) (d := some 81) (v := ?_) (by simp only [List.getElem?_toArray, List.getElem?_cons_succ, List.getElem?_cons_zero]; rfl) (by rfl) (by kernel_rfl) (by kernel_rfl) (by kernel_rfl) (by kernel_rfl) (by kernel_rfl) (by intro _ _ _ h; exact h) (by rfl) ?_ (by assumption) ?_
                  rotate_left 1
                  · (intro w hSw; (try dsimp only at hSw); go_simp; try (with_reducible rfl))
                  (try simp only [Act.put, List.setIfInBounds_toArray, List.set_cons_zero, List.set_cons_succ])
                  refine wpAnyG_takeP (i := 10) (d := some 91) (v := ?_) (by simp only [List.getElem?_toArray, List.getElem?_cons_succ, List.getElem?_cons_zero]; rfl) (by rfl) (by kernel_rfl) (by kernel_rfl) (by kernel_rfl) (by kernel_rfl) (by intro _ _ _ h; exact h) (by rfl) ?_ ?_
                  rotate_left 1
                  · (intro w hSw; (try dsimp only at hSw); go_simp; try (with_reducible rfl))
                  (try simp only [Act.put, List.setIfInBounds_toArray, List.set_cons_zero, List.set_cons_succ])
                  refine wpAnyG_takeP (i := 11) (d := some 92) (v := ?_) (by simp only [List.getElem?_toArray, List.getElem?_cons_succ, List.getElem?_cons_zero]; rfl) (by rfl) (by kernel_rfl) (by kernel_rfl) (by kernel_rfl) (by kernel_rfl) (by intro _ _ _ h; exact h) (by rfl) ?_ ?_
                  rotate_left 1
                  · (intro w hSw; (try dsimp only at hSw); go_simp; try (with_reducible rfl))
                  (try simp only [Act.put, List.setIfInBounds_toArray, List.set_cons_zero, List.set_cons_succ])
                  refine wpAnyG_ready (rs := [13]) (by kernel_rfl) (by simp) ?_
                  refine (AllReadyG.cons (i := 13) (by simp only [List.getElem?_toArray, List.getElem?_cons_succ, List.getElem?_cons_zero]; rfl) (fun K hK => ?_) AllReadyG.nil)
                  go_simp
                  go_wp2_with fail
                  refine hK.out _ _ (fun h => by cases h) (fun _ => ?_)
                  clear hK K
                  (try simp only [Act.put, List.setIfInBounds_toArray, List.set_cons_zero, List.set_cons_succ])
                  refine wpAnyG_takeP (i := 14) (d := some 17) (v := ?_) (by simp only [List.getElem?_toArray, List.getElem?_cons_succ, List.getElem?_cons_zero]; rfl) (by rfl) (by kernel_rfl) (by kernel_rfl) (by kernel_rfl) (by kernel_rfl) (by intro _ _ _ h; exact h) (by rfl) ?_ ?_
                  rotate_left 1
                  · (intro w hSw; (try dsimp only at hSw); go_simp; try (with_reducible rfl))
                  (try simp only [Act.put, List.setIfInBounds_toArray, List.set_cons_zero, List.set_cons_succ])
                  refine wpAnyG_done (by kernel_rfl) ?_ _
                  obtain ⟨v4, hv4⟩ : ∃ v, v = ((v3.setCell ⟨gx, 0, none⟩ (.int .i64 (sq f r4))).setCell ⟨gx, 1, none⟩ (.slice A2 (can f qs).length c2)) := ⟨_, rfl⟩
                  have hcx : Chg (fun b => b = gx) v3 v4 := by rw [hv4]; exact Chg.setCell_ (S := fun b => b = gx) (Chg.setCell_ (S := fun b => b = gx) (Chg.refl _ _) (p := ⟨gx, 0, none⟩) rfl _) (p := ⟨gx, 1, none⟩) rfl _
                  have hs4 := hcx.size
                  have x0' : v4.cell? ⟨gx, 0, none⟩ = some (.int .i64 (sq f r4)) := by rw [hv4, World.cell?_setCell_other _ _ _ _ (fun e => by injection e with _ e2; omega)]; exact World.cell?_setCell_same _ _ _ x0
                  have x1' : v4.cell? ⟨gx, 1, none⟩ = some (.slice A2 (can f qs).length c2) := by rw [hv4]; exact World.cell?_setCell_same (u := .slice none 0 0) _ _ _ (by rw [World.cell?_setCell_other _ _ _ _ (fun e => by injection e with _ e2; omega)]; exact x1)
                  have HM4 := Lib.hid (HM3.out.chg (S := fun b => wb.heap.size ≤ b) ((Chg.of_below HBVv3.out).trans (hcx.mono (fun b _ hb => by omega))) (fun b hb => hb))
                  have HP4 := Lib.hid (Sl.frame (R := EN false) EN.framed HP2.out hcx (fun b h1 h2 => by have := HD1.out b h1; omega))
                  have HO4 := Lib.hid (Sl.frame (R := EB false) EB.framed HO2.out hcx (fun b h1 h2 => by have := HD2.out b h1; omega))
                  have HL4 := Lib.hid (HL3.out.frame ((Chg.of_below (S := fun b => wb.heap.size ≤ b) HBVv3.out).trans (hcx.mono (fun b _ hb => by omega))) (fun b h1 h2 => by omega))
                  rw [← hv4]
                  clear hv4 hcx x0 x1 xf0 xf1 k0 k1 e0 c7 HM3 HL3
                  have k0 := HM4.out.r0
                  have k1 := HM4.out.r1
                  have rf0 := HM4.out.rf0
                  have rf1 := HM4.out.rf1
                  have hlr_HM4 := HM4.out.h3
                  have HM5 := Lib.hid (HM4.out.setR (rs' := sq f r4) (A' := A2) (c' := c2) (ys' := can f qs) (T' := T1) HP4.out (fun b hb => by have := HD1.out b hb; exact ⟨by omega, by omega, by omega⟩))
                  have hcr : Chg (fun b => b = w2.heap.size) v4 ((v4.setCell ⟨w2.heap.size, 0, none⟩ (.int .i64 (sq f r4))).setCell ⟨w2.heap.size, 1, none⟩ (.slice A2 (can f qs).length c2)) := Chg.setCell_ (S := fun b => b = w2.heap.size) (Chg.setCell_ (S := fun b => b = w2.heap.size) (Chg.refl _ _) (p := ⟨w2.heap.size, 0, none⟩) rfl _) (p := ⟨w2.heap.size, 1, none⟩) rfl _
                  have hsr := hcr.size
                  have HO5 := Lib.hid (Sl.frame (R := EB false) EB.framed HO4.out hcr (fun b h1 h2 => by have := HD2.out b h1; omega))
                  have HL5 := Lib.hid (HL4.out.frame hcr (fun b h1 h2 => by omega))
                  have HSRC : Hid (Src false 1 (EB false) ((v4.setCell ⟨w2.heap.size, 0, none⟩ (.int .i64 (sq f r4))).setCell ⟨w2.heap.size, 1, none⟩ (.slice A2 (can f qs).length c2)) (fun b => w2.heap.size < b) (fun b => w2.heap.size < b) g3 (some ⟨gb, 0, none⟩) out) := Lib.hid (Sl.src (Sl.wider HO5.out (T' := fun b => w2.heap.size < b ∧ b < ((v4.setCell ⟨w2.heap.size, 0, none⟩ (.int .i64 (sq f r4))).setCell ⟨w2.heap.size, 1, none⟩ (.slice A2 (can f qs).length c2)).heap.size ∧ b ≠ g3) (fun b hb => by have := HD2.out b hb; exact ⟨by omega, by omega, by omega⟩)) (fun b hb => ⟨hb.2.1, hb.2.2, fun h => by cases h⟩) |>.imp_ (fun b hb => hb.1))
                  go_wp2_with (at_builtin; refine wpList_appW (R := EB false) (u := false) (w0 := ((v4.setCell ⟨w2.heap.size, 0, none⟩ (.int .i64 (sq f r4))).setCell ⟨w2.heap.size, 1, none⟩ (.slice A2 (can f qs).length c2))) (xs := got3) (ys := out) (T := fun b => w2.heap.size < b) (Fn := fun b => w2.heap.size < b) rfl EB.mov EB.cls (.tmp 94) (.tmp 95) 29 rfl 38 i0 (.slice none 0 0) 24 Try.underlying29 hI0 hz0 hz1 hz2 rfl (by decide) rfl HM5.out.own (Below.refl _ _) rfl HSRC.out (by have h1 := HGL.out; have h2 := HOL.out; omega) (by decide) (by omega) ?_)
                  intro g9 c9 w9 l9 HQ9 HO9 HG9 HC9 HB9
                  have hs9 := HC9.out.size
                  have hl9 := HO9.out.lt
                  have HM9 := Lib.hid (HM5.out.app HC9.out HG9.out (HO9.out.widerT (fun b h _ => h.elim id id)))
                  have HG9n : Hid (g9 ≠ gl) := Lib.hid (by rcases HG9.out with h | h <;> omega)
                  have HL9 := Lib.hid (HL5.out.frame HC9.out (fun b h1 h2 => by omega))
                  have hgt9 : l9 = gotL r4 := by rw [HQ9.out, HGT.out, HOUT.out]; exact gotL_app (by have := HR4.out; omega)
                  have HGT9 := Lib.hid hgt9
                  clear hgt9 HC9 HB9 HG9 HSRC HM5 HM4 HO5 HO4 HP4 HL4 HL5 hcr
                  go_wp2
                  go_roundw
                  case rel => exact ⟨i + 1, r4, qs, g9, c9, A2, c2, T1, l9, by go_num, by omega, rfl, HGT9, Lib.hid (HI3.out.recv HR4.out.1 HR4.out.2.1 HR4.out.2.2.1 HR4.out.2.2.2), HM9, HL9, HG9n.out, by omega, Lib.hid (fun h30 j' x' hj' hx' => by
                      rcases Nat.lt_or_ge j' i with h | h
                      · obtain ⟨p, h1, h2⟩ := HRV.out h30 j' x' h hx'
                        exact ⟨p, h1, (HR4.out.2.2.2 p).2 (h2.imp id .inl)⟩
                      · obtain rfl : j' = i := by omega
                        rw [HXI.out] at hx'
                        injection hx' with hx'
                        exact ⟨j, hx'.symm, (HR4.out.2.2.2 j).2 (.inr (.inr rfl))⟩)⟩
                  case measure => simp [intOf]; omega
            · have hiI : ¬ (i : Int) < (ls.length : Int) := by omega
              have HFULL : Hid (30 ≤ r → rr3 = m) := Lib.hid (fun h30 => HI3.out.full (fun y hy hb => by
                have hmem := (outS_can_mem f (show a ≤ m by have h1 := HI3.out.ar; have h2 := HI3.out.rn; omega) HI3.out.na HI3.out.n60 HI3.out.lt HI3.out.ev).2 ⟨y, hy, hb, rfl⟩
                rw [← HLS.out] at hmem
                obtain ⟨q, hq, he⟩ := List.getElem_of_mem hmem
                obtain ⟨p, h1, h2⟩ := HRV.out h30 q _ (by omega) (List.getElem?_eq_getElem hq)
                rw [he] at h1
                have hp : p ≤ 100 := by
                  rcases h2 with h2 | h2
                  · have h3 := HI3.out.rn; have h4 := HI3.out.n60; omega
                  · have h3 := HI3.out.srt.mem _ h2; have h4 := HI3.out.n60; omega
                have := (sq_inj f (by have h4 := HI3.out.n60; omega) hp).1 h1
                rw [this]
                exact h2))
              have s0 := HM3.out.s0
              have s1 := HM3.out.s1
              have s2 := HM3.out.s2
              have sf0 := HM3.out.sf0
              have sf1 := HM3.out.sf1
              have sf2 := HM3.out.sf2
              have hls_HM3 := Nat.lt_trans HM3.out.h2 HM3.out.h3
              have k0 := HM3.out.r0
              have k1 := HM3.out.r1
              have rf0 := HM3.out.rf0
              have rf1 := HM3.out.rf1
              have hlr_HM3 := HM3.out.h3
              by_cases hr30 : r < 30
              · have hrI : (r : Int) < 30 := by omega
                obtain ⟨av, hav⟩ : ∃ v, v = atV code (r + 2) := ⟨_, rfl⟩
                have hav0 : 0 ≤ av ∧ av ≤ 255 := by rw [hav]; exact atV_le HB.out _
                obtain ⟨hav1, hav2⟩ := hav0
                have HAV := Lib.hid hav
                clear hav
                by_cases h4 : av % 4 = 0
                · have h4b : (av % 4 == 0) = true := by simp [h4]
                  go_wp2_with (go_at_call 37; refine Calls.mono (at_i AC cc code (r + 2) _ _ (by omega) (HX.out.below HM3.out.below) hcl HB.out (by omega)) ?_; rw [← HAV.out]; rintro e w' ⟨rfl, rfl⟩)
                  obtain ⟨wz, rfl⟩ : ∃ wz : World, wz = wb := ⟨_, rfl⟩
                  have HMZ := HM3
                  have HIZ : Hid (TrI (t1 + 1) (r + 1) a m rr3 A ps3) := Lib.hid (HI3.out.noack hr30)
                  clear s0 s1 s2 sf0 sf1 sf2 k0 k1 rf0 rf1
                  have s0 := HMZ.out.s0
                  have s1 := HMZ.out.s1
                  have s2 := HMZ.out.s2
                  have sf0 := HMZ.out.sf0
                  have sf1 := HMZ.out.sf1
                  have sf2 := HMZ.out.sf2
                  have hls_HMZ := Nat.lt_trans HMZ.out.h2 HMZ.out.h3
                  have k0 := HMZ.out.r0
                  have k1 := HMZ.out.r1
                  have rf0 := HMZ.out.rf0
                  have rf1 := HMZ.out.rf1
                  have hlr_HMZ := HMZ.out.h3
                  have HVR : Hid (vROB (sq f rr3) (can f ps3) = true) := Lib.hid (HIZ.out.vr f)
                  have HVS : Hid (vSend (sq f a) (sq f m) (A : Int) = true) := Lib.hid (HIZ.out.vs f)
                  have hz1 := HMZ.out.h3
                  go_wp2_with fail
                  refine (implVR_any (sq f rr3) A3 c3 (can f ps3) _ HMZ.out.row (by rw [can_len]; have h1 := HIZ.out.srt.len; have h2 := HIZ.out.n60; rcases h1 with h1 | h1; omega; rw [h1]; simp) (fun x hx => by obtain ⟨p, hp, rfl⟩ := can_mem hx; simp)).mono ?_
                  rw [HVR.out]
                  rintro e wy ⟨rfl, hb⟩
                  have HMY := Lib.hid (HMZ.out.below_ hb)
                  clear hb s0 s1 s2 sf0 sf1 sf2 k0 k1 rf0 rf1 hz1
                  have s0 := HMY.out.s0
                  have s1 := HMY.out.s1
                  have s2 := HMY.out.s2
                  have sf0 := HMY.out.sf0
                  have sf1 := HMY.out.sf1
                  have sf2 := HMY.out.sf2
                  have hls_HMY := Nat.lt_trans HMY.out.h2 HMY.out.h3
                  go_wp2_with fail
                  refine (implVS_any (sq f a) (sq f m) (A : Int) _).mono ?_
                  rw [HVS.out]
                  rintro e wx ⟨rfl, hb⟩
                  have HMX := Lib.hid (HMY.out.below_ hb)
                  clear hb s0 s1 s2 sf0 sf1 sf2
                  go_wp2

                  go_roundw
                  case rel => exact ⟨r + 1, a, m, rr3, A, ps3, g3, cl3, A3, c3, T3, got3, by go_num, rfl, rfl, by omega, HGT, HIZ, HMX⟩
                  case measure => simp [intOf]; omega
                · have h4b : (av % 4 == 0) = false := by simp [h4]
                  have h4c : (av % 4 != 0) = true := by simp [h4]
                  have h4d : decide (av % 4 = 0) = false := by simp [h4]
                  go_wp2_with (go_at_call 37; refine Calls.mono (at_i AC cc code (r + 2) _ _ (by omega) (HX.out.below HM3.out.below) hcl HB.out (by omega)) ?_; rw [← HAV.out]; rintro e w' ⟨rfl, rfl⟩)
                  obtain ⟨A5, hak, hA1, hA2, hA3⟩ := ack_can f HI3.out.ar HI3.out.rn HI3.out.na HI3.out.n60 HI3.out.srt HI3.out.lt HI3.out.ev HI3.out.rec_
                  have HAK := Lib.hid hak
                  have HA5 := Lib.hid (⟨hA1, hA2, hA3⟩ : _ ∧ _ ∧ _)
                  clear hak hA1 hA2 hA3
                  go_wp2
                  refine wp_region_G [4] (S := (fun w' => w'.cell? ⟨w1.heap.size, 0, none⟩ = some (.int .i64 (sq f a)) ∧ w'.cell? ⟨w1.heap.size, 1, none⟩ = some (.int .i64 (sq f m)) ∧ w'.cell? ⟨w1.heap.size, 2, none⟩ = some (.int .i64 (A : Int)) ∧ w'.cell? ⟨w2.heap.size, 0, none⟩ = some (.int .i64 (sq f rr3)) ∧ w'.cell? ⟨w2.heap.size, 1, none⟩ = some (.slice A3 (can f ps3).length c3))) (by kernel_rfl) ?_ (fun hHeld => ?_)
                  · exact ⟨s0, s1, s2, k0, k1⟩
                  refine wpAnyG_takeW [3, 4] (i := 0) (d := some 107) (v := ?_) (by simp only [List.getElem?_toArray, List.getElem?_cons_succ, List.getElem?_cons_zero]; rfl) (by rfl) (by kernel_rfl) (by kernel_rfl) (by kernel_rfl) (by kernel_rfl) (by kernel_rfl) (by intro _ _ _ h; exact h) (by rfl) ?_ (by assumption) ?_
                  rotate_left 1
                  · (intro w hSw; (try dsimp only at hSw); go_simp; try (with_reducible rfl))
                  (try simp only [Act.put, List.setIfInBounds_toArray, List.set_cons_zero, List.set_cons_succ])
                  refine wpAnyG_takeW [2, 3, 4] (i := 1) (d := some 108) (v := ?_) (by simp only [List.getElem?_toArray, List.getElem?_cons_succ, List.getElem?_cons_zero]; rfl) (by rfl) (by kernel_rfl) (by kernel_rfl) (by kernel_rfl) (by kernel_rfl) (by kernel_rfl) (by intro _ _ _ h; exact h) (by rfl) ?_ (by assumption) ?_
                  rotate_left 1
                  · (intro w hSw; (try dsimp only at hSw); go_simp; try (with_reducible rfl))
                  (try simp only [Act.put, List.setIfInBounds_toArray, List.set_cons_zero, List.set_cons_succ])
                  refine wpAnyG_ready (rs := [2]) (by kernel_rfl) (by simp) ?_
                  refine (AllReadyG.cons (i := 2) (by simp only [List.getElem?_toArray, List.getElem?_cons_succ, List.getElem?_cons_zero]; rfl) (fun K hK => ?_) AllReadyG.nil)
                  go_simp
                  refine (implBak_any (sq f rr3) A3 c3 (can f ps3) _ (HM3.out.row.below EN.framed (Below.drew (Below.refl _ _))) (by rw [can_len]; have h1 := HI3.out.srt.len; have h2 := HI3.out.n60; rcases h1 with h1 | h1; omega; rw [h1]; simp) (fun x hx => by obtain ⟨p, hp, rfl⟩ := can_mem hx; simp)).mono ?_
                  rintro e u1 ⟨rfl, hb⟩
                  replace hb : Below wb.heap.size wb u1 := Below.trans (Below.drew (Below.refl _ _)) hb
                  have hsu1 := hb.size
                  have HMu1 := Lib.hid (HM3.out.below_ hb)
                  replace s0 := (hb.cell (p := ⟨w1.heap.size, 0, none⟩) (by simp only; omega)).trans s0
                  replace s1 := (hb.cell (p := ⟨w1.heap.size, 1, none⟩) (by simp only; omega)).trans s1
                  replace s2 := (hb.cell (p := ⟨w1.heap.size, 2, none⟩) (by simp only; omega)).trans s2
                  replace sf0 := (hb.frozen (p := ⟨w1.heap.size, 0, none⟩) (by simp only; omega)).trans sf0
                  replace sf1 := (hb.frozen (p := ⟨w1.heap.size, 1, none⟩) (by simp only; omega)).trans sf1
                  replace sf2 := (hb.frozen (p := ⟨w1.heap.size, 2, none⟩) (by simp only; omega)).trans sf2
                  replace k0 := (hb.cell (p := ⟨w2.heap.size, 0, none⟩) (by simp only; omega)).trans k0
                  replace k1 := (hb.cell (p := ⟨w2.heap.size, 1, none⟩) (by simp only; omega)).trans k1
                  clear hb
                  go_wp2_with fail
                  refine hK.out _ _ (fun _ => ?_) (fun hHeld => ?_)
                  · ((try dsimp only); exact ⟨s0, s1, s2, k0, k1⟩)
                  replace hHeld := hHeld (by rfl)
                  clear hK K
                  (try simp only [Act.put, List.setIfInBounds_toArray, List.set_cons_zero, List.set_cons_succ])
                  refine wpAnyG_ready (rs := [3]) (by kernel_rfl) (by simp) ?_
                  refine (AllReadyG.cons (i := 3) (by simp only [List.getElem?_toArray, List.getElem?_cons_succ, List.getElem?_cons_zero]; rfl) (fun K hK => ?_) AllReadyG.nil)
                  go_simp
                  refine (implRecv_any (sq f a) (sq f m) (A : Int) _ _ _).mono ?_
                  rw [HAK.out]
                  rintro e u2 ⟨rfl, hb⟩
                  have hsu2 := hb.size
                  have HMu2 := Lib.hid (HMu1.out.below_ hb)
                  replace s0 := (hb.cell (p := ⟨w1.heap.size, 0, none⟩) (by simp only; omega)).trans s0
                  replace s1 := (hb.cell (p := ⟨w1.heap.size, 1, none⟩) (by simp only; omega)).trans s1
                  replace s2 := (hb.cell (p := ⟨w1.heap.size, 2, none⟩) (by simp only; omega)).trans s2
                  replace sf0 := (hb.frozen (p := ⟨w1.heap.size, 0, none⟩) (by simp only; omega)).trans sf0
                  replace sf1 := (hb.frozen (p := ⟨w1.heap.size, 1, none⟩) (by simp only; omega)).trans sf1
                  replace sf2 := (hb.frozen (p := ⟨w1.heap.size, 2, none⟩) (by simp only; omega)).trans sf2
                  replace k0 := (hb.cell (p := ⟨w2.heap.size, 0, none⟩) (by simp only; omega)).trans k0
                  replace k1 := (hb.cell (p := ⟨w2.heap.size, 1, none⟩) (by simp only; omega)).trans k1
                  clear hb
                  go_wp2_with fail
                  refine hK.out _ _ (fun _ => ?_) (fun hHeld => ?_)
                  · ((try dsimp only); exact ⟨s0, s1, s2, k0, k1⟩)
                  replace hHeld := hHeld (by rfl)
                  clear hK K
                  (try simp only [Act.put, List.setIfInBounds_toArray, List.set_cons_zero, List.set_cons_succ])
                  refine wpAnyG_ready (rs := [4]) (by kernel_rfl) (by simp) ?_
                  refine (AllReadyG.cons (i := 4) (by simp only [List.getElem?_toArray, List.getElem?_cons_succ, List.getElem?_cons_zero]; rfl) (fun K hK => ?_) AllReadyG.nil)
                  go_simp
                  go_wp2_with fail
                  refine hK.out _ _ (fun h => by cases h) (fun _ => ?_)
                  clear hK K
                  (try simp only [Act.put, List.setIfInBounds_toArray, List.set_cons_zero, List.set_cons_succ])
                  refine wpAnyG_done (by kernel_rfl) ?_ _
                  obtain ⟨wz, hwz⟩ : ∃ v, v = (((u2.setCell ⟨w1.heap.size, 0, none⟩ (.int .i64 (sq f rr3))).setCell ⟨w1.heap.size, 1, none⟩ (.int .i64 (sq f m))).setCell ⟨w1.heap.size, 2, none⟩ (.int .i64 (A5 : Int))) := ⟨_, rfl⟩
                  have HMZ := Lib.hid (HMu2.out.setS (st' := sq f rr3) (nx' := sq f m) (ak' := (A5 : Int)))
                  rw [← hwz] at HMZ ⊢
                  have HIZ : Hid (TrI (t1 + 1) (r + 1) rr3 m rr3 A5 ps3) := Lib.hid (HI3.out.ack HA5.out.1 HA5.out.2.1 HA5.out.2.2 HSENT.out (fun h30 => absurd h30 (by omega)))
                  clear hwz s0 s1 s2 sf0 sf1 sf2 k0 k1 rf0 rf1 HMu1 HMu2
                  have s0 := HMZ.out.s0
                  have s1 := HMZ.out.s1
                  have s2 := HMZ.out.s2
                  have sf0 := HMZ.out.sf0
                  have sf1 := HMZ.out.sf1
                  have sf2 := HMZ.out.sf2
                  have hls_HMZ := Nat.lt_trans HMZ.out.h2 HMZ.out.h3
                  have k0 := HMZ.out.r0
                  have k1 := HMZ.out.r1
                  have rf0 := HMZ.out.rf0
                  have rf1 := HMZ.out.rf1
                  have hlr_HMZ := HMZ.out.h3
                  have HVR : Hid (vROB (sq f rr3) (can f ps3) = true) := Lib.hid (HIZ.out.vr f)
                  have HVS : Hid (vSend (sq f rr3) (sq f m) (A5 : Int) = true) := Lib.hid (HIZ.out.vs f)
                  have hz1 := HMZ.out.h3
                  go_wp2_with fail
                  refine (implVR_any (sq f rr3) A3 c3 (can f ps3) _ HMZ.out.row (by rw [can_len]; have h1 := HIZ.out.srt.len; have h2 := HIZ.out.n60; rcases h1 with h1 | h1; omega; rw [h1]; simp) (fun x hx => by obtain ⟨p, hp, rfl⟩ := can_mem hx; simp)).mono ?_
                  rw [HVR.out]
                  rintro e wy ⟨rfl, hb⟩
                  have HMY := Lib.hid (HMZ.out.below_ hb)
                  clear hb s0 s1 s2 sf0 sf1 sf2 k0 k1 rf0 rf1 hz1
                  have s0 := HMY.out.s0
                  have s1 := HMY.out.s1
                  have s2 := HMY.out.s2
                  have sf0 := HMY.out.sf0
                  have sf1 := HMY.out.sf1
                  have sf2 := HMY.out.sf2
                  have hls_HMY := Nat.lt_trans HMY.out.h2 HMY.out.h3
                  go_wp2_with fail
                  refine (implVS_any (sq f rr3) (sq f m) (A5 : Int) _).mono ?_
                  rw [HVS.out]
                  rintro e wx ⟨rfl, hb⟩
                  have HMX := Lib.hid (HMY.out.below_ hb)
                  clear hb s0 s1 s2 sf0 sf1 sf2
                  go_wp2

                  go_roundw
                  case rel => exact ⟨r + 1, rr3, m, rr3, A5, ps3, g3, cl3, A3, c3, T3, got3, by go_num, rfl, rfl, by omega, HGT, HIZ, HMX⟩
                  case measure => simp [intOf]; omega
              · have hrI : ¬ (r : Int) < 30 := by omega
                obtain ⟨A5, hak, hA1, hA2, hA3⟩ := ack_can f HI3.out.ar HI3.out.rn HI3.out.na HI3.out.n60 HI3.out.srt HI3.out.lt HI3.out.ev HI3.out.rec_
                have HAK := Lib.hid hak
                have HA5 := Lib.hid (⟨hA1, hA2, hA3⟩ : _ ∧ _ ∧ _)
                clear hak hA1 hA2 hA3
                go_wp2
                refine wp_region_G [4] (S := (fun w' => w'.cell? ⟨w1.heap.size, 0, none⟩ = some (.int .i64 (sq f a)) ∧ w'.cell? ⟨w1.heap.size, 1, none⟩ = some (.int .i64 (sq f m)) ∧ w'.cell? ⟨w1.heap.size, 2, none⟩ = some (.int .i64 (A : Int)) ∧ w'.cell? ⟨w2.heap.size, 0, none⟩ = some (.int .i64 (sq f rr3)) ∧ w'.cell? ⟨w2.heap.size, 1, none⟩ = some (.slice A3 (can f ps3).length c3))) (by kernel_rfl) ?_ (fun hHeld => ?_)
                · exact ⟨s0, s1, s2, k0, k1⟩
                refine wpAnyG_takeW [3, 4] (i := 0) (d := some 107) (v := ?_) (by simp only [List.getElem?_toArray, List.getElem?_cons_succ, List.getElem?_cons_zero]; rfl) (by rfl) (by kernel_rfl) (by kernel_rfl) (by kernel_rfl) (by kernel_rfl) (by kernel_rfl) (by intro _ _ _ h; exact h) (by rfl) ?_ (by assumption) ?_
                rotate_left 1
                · (intro w hSw; (try dsimp only at hSw); go_simp; try (with_reducible rfl))
                (try simp only [Act.put, List.setIfInBounds_toArray, List.set_cons_zero, List.set_cons_succ])
                refine wpAnyG_takeW [2, 3, 4] (i := 1) (d := some 108) (v := ?_) (by simp only [List.getElem?_toArray, List.getElem?_cons_succ, List.getElem?_cons_zero]; rfl) (by rfl) (by kernel_rfl) (by kernel_rfl) (by kernel_rfl) (by kernel_rfl) (by kernel_rfl) (by intro _ _ _ h; exact h) (by rfl) ?_ (by assumption) ?_
                rotate_left 1
                · (intro w hSw; (try dsimp only at hSw); go_simp; try (with_reducible rfl))
                (try simp only [Act.put, List.setIfInBounds_toArray, List.set_cons_zero, List.set_cons_succ])
                refine wpAnyG_ready (rs := [2]) (by kernel_rfl) (by simp) ?_
                refine (AllReadyG.cons (i := 2) (by simp only [List.getElem?_toArray, List.getElem?_cons_succ, List.getElem?_cons_zero]; rfl) (fun K hK => ?_) AllReadyG.nil)
                go_simp
                refine (implBak_any (sq f rr3) A3 c3 (can f ps3) _ (HM3.out.row.below EN.framed (Below.drew (Below.refl _ _))) (by rw [can_len]; have h1 := HI3.out.srt.len; have h2 := HI3.out.n60; rcases h1 with h1 | h1; omega; rw [h1]; simp) (fun x hx => by obtain ⟨p, hp, rfl⟩ := can_mem hx; simp)).mono ?_
                rintro e u1 ⟨rfl, hb⟩
                replace hb : Below wb.heap.size wb u1 := Below.trans (Below.drew (Below.refl _ _)) hb
                have hsu1 := hb.size
                have HMu1 := Lib.hid (HM3.out.below_ hb)
                replace s0 := (hb.cell (p := ⟨w1.heap.size, 0, none⟩) (by simp only; omega)).trans s0
                replace s1 := (hb.cell (p := ⟨w1.heap.size, 1, none⟩) (by simp only; omega)).trans s1
                replace s2 := (hb.cell (p := ⟨w1.heap.size, 2, none⟩) (by simp only; omega)).trans s2
                replace sf0 := (hb.frozen (p := ⟨w1.heap.size, 0, none⟩) (by simp only; omega)).trans sf0
                replace sf1 := (hb.frozen (p := ⟨w1.heap.size, 1, none⟩) (by simp only; omega)).trans sf1
                replace sf2 := (hb.frozen (p := ⟨w1.heap.size, 2, none⟩) (by simp only; omega)).trans sf2
                replace k0 := (hb.cell (p := ⟨w2.heap.size, 0, none⟩) (by simp only; omega)).trans k0
                replace k1 := (hb.cell (p := ⟨w2.heap.size, 1, none⟩) (by simp only; omega)).trans k1
                clear hb
                go_wp2_with fail
                refine hK.out _ _ (fun _ => ?_) (fun hHeld => ?_)
                · ((try dsimp only); exact ⟨s0, s1, s2, k0, k1⟩)
                replace hHeld := hHeld (by rfl)
                clear hK K
                (try simp only [Act.put, List.setIfInBounds_toArray, List.set_cons_zero, List.set_cons_succ])
                refine wpAnyG_ready (rs := [3]) (by kernel_rfl) (by simp) ?_
                refine (AllReadyG.cons (i := 3) (by simp only [List.getElem?_toArray, List.getElem?_cons_succ, List.getElem?_cons_zero]; rfl) (fun K hK => ?_) AllReadyG.nil)
                go_simp
                refine (implRecv_any (sq f a) (sq f m) (A : Int) _ _ _).mono ?_
                rw [HAK.out]
                rintro e u2 ⟨rfl, hb⟩
                have hsu2 := hb.size
                have HMu2 := Lib.hid (HMu1.out.below_ hb)
                replace s0 := (hb.cell (p := ⟨w1.heap.size, 0, none⟩) (by simp only; omega)).trans s0
                replace s1 := (hb.cell (p := ⟨w1.heap.size, 1, none⟩) (by simp only; omega)).trans s1
                replace s2 := (hb.cell (p := ⟨w1.heap.size, 2, none⟩) (by simp only; omega)).trans s2
                replace sf0 := (hb.frozen (p := ⟨w1.heap.size, 0, none⟩) (by simp only; omega)).trans sf0
                replace sf1 := (hb.frozen (p := ⟨w1.heap.size, 1, none⟩) (by simp only; omega)).trans sf1
                replace sf2 := (hb.frozen (p := ⟨w1.heap.size, 2, none⟩) (by simp only; omega)).trans sf2
                replace k0 := (hb.cell (p := ⟨w2.heap.size, 0, none⟩) (by simp only; omega)).trans k0
                replace k1 := (hb.cell (p := ⟨w2.heap.size, 1, none⟩) (by simp only; omega)).trans k1
                clear hb
                go_wp2_with fail
                refine hK.out _ _ (fun _ => ?_) (fun hHeld => ?_)
                · ((try dsimp only); exact ⟨s0, s1, s2, k0, k1⟩)
                replace hHeld := hHeld (by rfl)
                clear hK K
                (try simp only [Act.put, List.setIfInBounds_toArray, List.set_cons_zero, List.set_cons_succ])
                refine wpAnyG_ready (rs := [4]) (by kernel_rfl) (by simp) ?_
                refine (AllReadyG.cons (i := 4) (by simp only [List.getElem?_toArray, List.getElem?_cons_succ, List.getElem?_cons_zero]; rfl) (fun K hK => ?_) AllReadyG.nil)
                go_simp
                go_wp2_with fail
                refine hK.out _ _ (fun h => by cases h) (fun _ => ?_)
                clear hK K
                (try simp only [Act.put, List.setIfInBounds_toArray, List.set_cons_zero, List.set_cons_succ])
                refine wpAnyG_done (by kernel_rfl) ?_ _
                obtain ⟨wz, hwz⟩ : ∃ v, v = (((u2.setCell ⟨w1.heap.size, 0, none⟩ (.int .i64 (sq f rr3))).setCell ⟨w1.heap.size, 1, none⟩ (.int .i64 (sq f m))).setCell ⟨w1.heap.size, 2, none⟩ (.int .i64 (A5 : Int))) := ⟨_, rfl⟩
                have HMZ := Lib.hid (HMu2.out.setS (st' := sq f rr3) (nx' := sq f m) (ak' := (A5 : Int)))
                rw [← hwz] at HMZ ⊢
                have HIZ : Hid (TrI (t1 + 1) (r + 1) rr3 m rr3 A5 ps3) := Lib.hid (HI3.out.ack HA5.out.1 HA5.out.2.1 HA5.out.2.2 HSENT.out (fun h30 => HFULL.out h30))
                clear hwz s0 s1 s2 sf0 sf1 sf2 k0 k1 rf0 rf1 HMu1 HMu2
                have s0 := HMZ.out.s0
                have s1 := HMZ.out.s1
                have s2 := HMZ.out.s2
                have sf0 := HMZ.out.sf0
                have sf1 := HMZ.out.sf1
                have sf2 := HMZ.out.sf2
                have hls_HMZ := Nat.lt_trans HMZ.out.h2 HMZ.out.h3
                have k0 := HMZ.out.r0
                have k1 := HMZ.out.r1
                have rf0 := HMZ.out.rf0
                have rf1 := HMZ.out.rf1
                have hlr_HMZ := HMZ.out.h3
                have HVR : Hid (vROB (sq f rr3) (can f ps3) = true) := Lib.hid (HIZ.out.vr f)
                have HVS : Hid (vSend (sq f rr3) (sq f m) (A5 : Int) = true) := Lib.hid (HIZ.out.vs f)
                have hz1 := HMZ.out.h3
                go_wp2_with fail
                refine (implVR_any (sq f rr3) A3 c3 (can f ps3) _ HMZ.out.row (by rw [can_len]; have h1 := HIZ.out.srt.len; have h2 := HIZ.out.n60; rcases h1 with h1 | h1; omega; rw [h1]; simp) (fun x hx => by obtain ⟨p, hp, rfl⟩ := can_mem hx; simp)).mono ?_
                rw [HVR.out]
                rintro e wy ⟨rfl, hb⟩
                have HMY := Lib.hid (HMZ.out.below_ hb)
                clear hb s0 s1 s2 sf0 sf1 sf2 k0 k1 rf0 rf1 hz1
                have s0 := HMY.out.s0
                have s1 := HMY.out.s1
                have s2 := HMY.out.s2
                have sf0 := HMY.out.sf0
                have sf1 := HMY.out.sf1
                have sf2 := HMY.out.sf2
                have hls_HMY := Nat.lt_trans HMY.out.h2 HMY.out.h3
                go_wp2_with fail
                refine (implVS_any (sq f rr3) (sq f m) (A5 : Int) _).mono ?_
                rw [HVS.out]
                rintro e wx ⟨rfl, hb⟩
                have HMX := Lib.hid (HMY.out.below_ hb)
                clear hb s0 s1 s2 sf0 sf1 sf2
                go_wp2

                go_roundw
                case rel => exact ⟨r + 1, rr3, m, rr3, A5, ps3, g3, cl3, A3, c3, T3, got3, by go_num, rfl, rfl, by omega, HGT, HIZ, HMX⟩
                case measure => simp [intOf]; omega
    · have hr6 : r = 60 := by omega
      have hrI60 : ¬ (r : Int) < 60 := by omega
      have hat := HI1.out.p32 (by omega)
      have hrt : rr = t1 + 1 ∧ n = t1 + 1 := by have h1 := HI1.out.ar; have h2 := HI1.out.rn; have h3 := HI1.out.nt; omega
      obtain ⟨hrt, hnt⟩ := hrt
      have hgl0 : got.length = t1 + 1 := by rw [HGT0.out, gotL_len, hrt]
      have hle2 : (got.length : Int) = 1 + (t1 : Int) := by omega
      have hne2 : (n : Int) = 1 + (t1 : Int) := by omega
      have HGL0 := Lib.hid hgl0
      have HLE2 := Lib.hid hle2
      have HNE2 := Lib.hid hne2
      have HDN : Hid (doneB (sq f a) (sq f n) (A : Int) = true) := Lib.hid (by
        unfold doneB
        rw [HI1.out.vs f, outS_can f (Nat.le_trans HI1.out.ar HI1.out.rn) HI1.out.na HI1.out.n60 HI1.out.lt HI1.out.ev, show n - a = 0 by omega]
        rfl)
      have HEL : Hid (∀ (i : Nat) (h : i < got.length), got[i] = [(i : Int)]) := Lib.hid (fun i h => by
        have e := HGT0.out
        subst e
        simp [gotL])
      have HSL := Lib.hid HM1.out.own.sl
      clear hat hrt hnt hgl0 hle2 hne2 hr6
      go_wp2
      go_loopw [18] (fun vi wr => ∃ i : Nat, vi = .int .i64 (i : Int) ∧ i ≤ got.length ∧ Hid (Dr wa wr)) (fun vi _ => got.length - (intOf vi).toNat)
      case atStart => exact ⟨0, rfl, Nat.zero_le _, Lib.hid (Dr.refl _)⟩
      case round =>
        obtain ⟨i, rfl, hil, HDr⟩ := hrel
        have hl21 : got.length ≤ 20 := by have := HGL0.out; omega
        by_cases hl : i < got.length
        · have hlI : (i : Int) < (got.length : Int) := by omega
          obtain ⟨g1, o1, F1, hAe, hg1, ⟨B1, d1, hc, _, hr1⟩, _, _⟩ := HSL.out.at_ i hl
          injection hAe with hAe
          injection hAe with e1 e2
          subst e1 e2
          rw [HEL.out i hl] at hc hr1
          rw [Nat.zero_add, Nat.mul_one] at hc
          replace hc := (HDr.out.cell ⟨g, i, none⟩).trans hc
          obtain ⟨g2, o2, hB, _, hg2, hv, _⟩ := hr1 0 (by simp)
          replace hv := (HDr.out.cell ⟨g2, o2 + 0, none⟩).trans hv
          rw [Nat.add_zero] at hv
          simp only [List.getElem_cons_zero, List.length_singleton] at hv hc
          rw [hB] at hc
          clear hr1 hB hg1 hg2
          go_wp2
          go_roundw
          case rel => exact ⟨i + 1, by go_num, by omega, HDr⟩
          case measure => simp [intOf]; omega
        · have hlI : ¬ (i : Int) < (got.length : Int) := by omega
          have HME := Lib.hid (HM1.out.below_ HDr.out.below)
          have s0 := HME.out.s0
          have s1 := HME.out.s1
          have s2 := HME.out.s2
          have sf0 := HME.out.sf0
          have sf1 := HME.out.sf1
          have sf2 := HME.out.sf2
          have hls_HME := Nat.lt_trans HME.out.h2 HME.out.h3
          have hle2 := HLE2.out
          have hne2 := HNE2.out
          have hle3 : ((got.length : Int) == 1 + (t1 : Int)) = true := by simp [hle2]
          have hne3 : ((n : Int) == 1 + (t1 : Int)) = true := by simp [hne2]
          clear hle2 hne2
          go_wp2_with fail
          refine (implDone_any (sq f a) (sq f n) (A : Int) _).mono ?_
          rw [HDN.out]
          rintro e wf ⟨rfl, hb⟩
          have HBF := Lib.hid ((HME.out.below).trans (hb.mono HME.out.below.size))
          clear hb
          go_wp2
          go_ret
          exact ⟨rfl, HBF.out⟩

end Go.Proofs.Ytnfgdgmmbddmgaa
