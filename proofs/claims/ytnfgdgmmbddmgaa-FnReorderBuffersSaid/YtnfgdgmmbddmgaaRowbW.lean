/- FnReorderBuffers: arriving frames are delivered in the order of their numbers, a repetition changes nothing, and moving the start delivers what is pending before it. -/
import Derived.Test.YtnfgdgmmbddmgaaDrmg
import Derived.Test.YtnfgdgmmbddmgaaRrcI
import Derived.Test.YtnfgdgmmbddmgaaRmvI
import Derived.Test.YtnfgdgmmbddmgaaReqr
import Derived.Test.YtnfgdgmmbddmgaaRbak
import Derived.Test.YtnfgdgmmbddmgaaLawM
import Derived.Test.YtnfgdgmmbddmgaaRobQ
namespace Go.Proofs.Ytnfgdgmmbddmgaa
open Go.RowKit
set_option linter.unusedVariables false
set_option linter.unusedSimpArgs false

structure RoM (w : World) (b1 b2 : Nat) (st : Int) (A : Option Addr) (c : Nat) (ys : List NF) (X : Int) (Ax : Option Addr) (cx : Nat) (zs : List NF) (go : Nat) (body : List Int) (W : World) : Prop where
  below : Below w.heap.size w W
  ge : w.heap.size ≤ b1
  lt12 : b1 < b2
  r : BxR W b1 st A ys.length c
  x : BxR W b2 X Ax zs.length cx
  sr : Sl false 2 (EN false) W (fun b => b < b2) A ys
  sx : Sl false 2 (EN false) W (fun b => b < b2) Ax zs
  rb : Rw false .u8 W (fun b => b < b2) (some ⟨go, 0, none⟩) body
theorem RoM.below_ {w W W' : World} {b1 b2 : Nat} {st : Int} {A : Option Addr} {c : Nat} {ys : List NF} {X : Int} {Ax : Option Addr} {cx : Nat} {zs : List NF} {go : Nat} {body : List Int} (h : RoM w b1 b2 st A c ys X Ax cx zs go body W) (hb : Below W.heap.size W W') : RoM w b1 b2 st A c ys X Ax cx zs go body W' :=
  ⟨h.below.trans (hb.mono h.below.size), h.ge, h.lt12, h.r.below hb, h.x.below hb, Sl.below (R := EN false) EN.framed h.sr hb, Sl.below (R := EN false) EN.framed h.sx hb, h.rb.below hb⟩
theorem RoM.up {w W W' : World} {b1 b2 g : Nat} {st : Int} {A : Option Addr} {c : Nat} {ys : List NF} {X : Int} {Ax : Option Addr} {cx : Nat} {zs : List NF} {go : Nat} {body : List Int} (h : RoM w b1 b2 st A c ys X Ax cx zs go body W) (hc : Chg (fun k => k = g) W W') (hg : b2 < g) : RoM w b1 b2 st A c ys X Ax cx zs go body W' :=
  have h1 := h.ge
  have h2 := h.lt12
  ⟨h.below.trans (hc.below h.below.size (fun k hk => by omega)), h.ge, h.lt12, h.r.chg hc (by omega), h.x.chg hc (by omega), Sl.frame (R := EN false) EN.framed h.sr hc (fun b hb h3 => by omega), Sl.frame (R := EN false) EN.framed h.sx hc (fun b hb h3 => by omega), h.rb.frame hc (fun b hb h3 => by omega)⟩

theorem valid_mem {st : Int} {xs : List NF} (h : vROB st xs = true) : ∀ x ∈ xs, 1 ≤ seqD st x.1 ∧ seqD st x.1 ≤ 15 ∧ x.2.length ≤ 100 := fun x hx => by
  obtain ⟨_, v2, v3⟩ := valid_inc h
  have := v2.mem x hx
  exact ⟨by omega, by omega, v3 x hx⟩

theorem miss_len (st : Int) (ys : List NF) : (missB st ys).length ≤ 4096 := by
  unfold missB
  split
  · unfold missK dst
    rw [List.length_map]
    refine Nat.le_trans (List.length_filter_le _ _) ?_
    rw [List.length_range]
    have := seqD_bd st (ys.getD (ys.length - 1) (0, [])).1
    omega
  · simp

set_option maxRecDepth 10000 in
set_option maxHeartbeats 16000000 in
theorem reorderBuffers_walk (AC : Option Addr) (cc : Nat) (code : List Int) (w : World) (hx : Rw false .u8 w (fun g => g < w.heap.size) AC code) (hlen : code.length ≤ 9223372036854775807) (hb : ∀ x ∈ code, 0 ≤ x ∧ x ≤ 255) :
    Calls Try.prog 11 #[.slice AC code.length cc] w fun e w' => e = .returned (.bool true) ∧ Below w.heap.size w w' := by
  by_cases hbig : 1048576 < code.length
  · have HBG : Hid (bigB code.length = true) := Lib.hid (by simp [bigB, hbig])
    clear hx hb
    go_enter Try.func11, Try.ntmps11
    go_wp2_with (first | (go_at_call 36; refine (big_any _ _ _ _).mono ?_; rw [HBG.out]; rintro e w' ⟨rfl, rfl⟩))
    go_ret
    exact ⟨rfl, Below.refl _ _⟩
  have HBG : Hid (bigB code.length = false) := Lib.hid (by simp [bigB, hbig])
  have hcl : code.length ≤ 1000000000 := by omega
  have HX := Lib.hid hx
  have HB := Lib.hid hb
  clear hx hlen hb
  go_enter Try.func11, Try.ntmps11
  go_wp2_with (first | (go_at_call 36; refine (big_any _ _ _ _).mono ?_; rw [HBG.out]; rintro e w' ⟨rfl, rfl⟩))
  refine (drawRN_any AC cc code _ HX.out hcl HB.out).mono ?_
  rintro e w1 ⟨st, A, c, ys, q, go, cb, body, rfl, hb1, hsl, h16, hbd, hby, hbyt, hbl, hrb⟩
  have HB1 := Lib.hid hb1
  have HBD := Lib.hid hbd
  have HY := Lib.hid hby
  have HBYT := Lib.hid hbyt
  have hs1 := hb1.size
  have hal : Below w1.heap.size w1 (w1.alloc (.cells #[.int .i64 st, .slice A ys.length c] 28)) := Below.alloc (Below.refl _ _) (Nat.le_refl _) _
  have HSL : Hid (Sl false 2 (EN false) (w1.alloc (.cells #[.int .i64 st, .slice A ys.length c] 28)) (fun b => w.heap.size ≤ b ∧ b < w1.heap.size) A ys) := Lib.hid (Sl.below (R := EN false) EN.framed hsl hal)
  have HRB := Lib.hid ((Rw.read (Rw.inW hrb)).below hal)
  have HB1a := Lib.hid (hb1.trans (hal.mono hs1))
  clear hb1 hbd hby hbyt hsl hrb hal
  go_wp2_with fail
  refine (implRN_any st A c ys q _ cb body _ HSL.out (by omega) (fun x hx => by have := HBD.out x hx; omega) HRB.out (by omega)).mono ?_
  obtain ⟨r, hr⟩ : ∃ r, r = rcvI st q body ys := ⟨_, rfl⟩
  rw [← hr]
  obtain ⟨X, zs, outs⟩ := r
  have HRQ : Hid (rcvI st q body ys = (X, zs, outs)) := Lib.hid hr.symm
  clear hr
  rintro e w2 ⟨Ax, cx, gb, cbo, T1, T2, rfl, hb2, hcx, hT1, _, hsx, _, _⟩
  simp only at hsx hcx
  have HR2 : Hid (BxR w2 w1.heap.size st A ys.length c) := Lib.hid ((BxR.new (t := 28) (World.heap_new _ _ _ rfl)).below hb2)
  have HB2 := Lib.hid (HB1a.out.trans (hb2.mono HB1a.out.size))
  have HSR2 : Hid (Sl false 2 (EN false) w2 (fun b => b < w2.heap.size) A ys) := Lib.hid (Sl.wider (Sl.below (R := EN false) EN.framed HSL.out hb2) (fun b hb => by have := hb2.size; simp at this; omega))
  have HSX2 : Hid (Sl false 2 (EN false) w2 (fun b => b < w2.heap.size) Ax zs) := Lib.hid (Sl.wider (SlN.read hsx) (fun b hb => (hT1 b hb).2.1))
  have HRB2 : Hid (Rw false .u8 w2 (fun b => b < w2.heap.size) (some ⟨go, 0, none⟩) body) := Lib.hid ((HRB.out.below hb2).wider (fun b hb => by have := hb2.size; simp at this; omega))
  clear hb2 hsx hcx hT1 HSL HRB HB1a
  have hal : Below w2.heap.size w2 (w2.alloc (.cells #[.int .i64 X, .slice Ax zs.length cx] 28)) := Below.alloc (Below.refl _ _) (Nat.le_refl _) _
  have HM3 : Hid (RoM w w1.heap.size w2.heap.size st A c ys X Ax cx zs go body (w2.alloc (.cells #[.int .i64 X, .slice Ax zs.length cx] 28))) := Lib.hid ⟨HB2.out.trans (hal.mono HB2.out.size), hs1, HR2.out.lt, HR2.out.below hal, BxR.new (World.heap_new _ _ _ rfl), Sl.below (R := EN false) EN.framed HSR2.out hal, Sl.below (R := EN false) EN.framed HSX2.out hal, HRB2.out.below hal⟩
  clear hal HB2 HSR2 HSX2 HRB2
  obtain ⟨w3, hw3⟩ : ∃ v, v = w2.alloc (.cells #[.int .i64 X, .slice Ax zs.length cx] 28) := ⟨_, rfl⟩
  rw [← hw3] at HM3
  obtain ⟨rc0, rc1, rz0, rz1, rlt⟩ := HR2.out
  go_wp2_with fail
  rw [← hw3]
  obtain ⟨bv, hbv⟩ : ∃ b, b = vROB st ys := ⟨_, rfl⟩
  have HV := Lib.hid hbv
  refine (specVR_any st A c ys _ HM3.out.sr (by omega) (fun x hx => by have := HBD.out x hx; omega)).mono ?_
  rw [← hbv]
  rintro e w5 ⟨rfl, hb⟩
  have HM5 := Lib.hid (HM3.out.below_ hb)
  clear hb hw3 hbv HM3 HR2 rc0 rc1 rz0 rz1
  cases bv
  ·
    obtain ⟨hx1, hx2, hx3⟩ : X = st ∧ zs = ys ∧ outs = [] := by
      have h := HRQ.out
      rw [rcv_bad HV.out.symm] at h
      injection h with h1 h
      injection h with h2 h3
      exact ⟨h1.symm, h2.symm, h3.symm⟩
    subst hx1 hx2 hx3
    obtain ⟨rc0, rc1, rz0, rz1, rlt⟩ := HM5.out.r
    obtain ⟨xc0, xc1, xz0, xz1, xlt⟩ := HM5.out.x
    go_wp2_with fail
    refine (implEqR_any (b := true) (s1 := X) (s2 := X) (xs := zs) (ys := zs) (by simp) Ax A cx c _ HM5.out.sx HM5.out.sr (by omega) (by omega) (fun x hx => ⟨by have := HBD.out x hx; omega, HY.out x hx⟩) (fun x hx => ⟨by have := HBD.out x hx; omega, HY.out x hx⟩)).mono ?_
    rintro e w6 ⟨rfl, hb⟩
    have HM6 := Lib.hid (HM5.out.below_ hb)
    clear hb rc0 rc1 rz0 rz1 xc0 xc1 xz0 xz1
    obtain ⟨rc0, rc1, rz0, rz1, rlt⟩ := HM6.out.r
    go_wp2_with fail
    refine (implVR_any X A c zs _ HM6.out.sr (by omega) (fun x hx => by have := HBD.out x hx; omega)).mono ?_
    rw [← HV.out]
    rintro e w7 ⟨rfl, hb⟩
    have HM7 := Lib.hid (HM6.out.below_ hb)
    clear hb
    go_wp2
    go_ret
    exact ⟨by simp, HM7.out.below⟩
  ·
    have hvx := rcv_valid (q := q) (body := body) HV.out.symm
    have hlx := rcv_mem st q body ys
    rw [HRQ.out] at hvx hlx
    have HVX := Lib.hid hvx.1
    have HOL : Hid (outs.length ≤ 16) := Lib.hid hvx.2.1
    have HAG : Hid (rcvI X q body zs = (X, zs, [])) := Lib.hid hvx.2.2
    have hzl := vROB_len hvx.1
    have hyl := vROB_len HV.out.symm
    have HZD := Lib.hid (vROB_body hvx.1)
    have HZY : Hid (ByN zs) := Lib.hid (by have := rcv_by (st := st) (q := q) HY.out HBYT.out; rw [HRQ.out] at this; exact this)
    clear hvx hlx
    obtain ⟨xc0, xc1, xz0, xz1, xlt⟩ := HM5.out.x
    go_wp2_with fail
    refine (implRN_any X Ax cx zs q _ cb body _ HM5.out.sx (by omega) (fun x hx => by have := HZD.out x hx; omega) HM5.out.rb (by omega)).mono ?_
    rw [HAG.out]
    rintro e w6 ⟨Ay, cy, gy, cby, T1, T2, rfl, hb, hcy, _, _, hsy, _, _⟩
    simp only at hsy
    have HM6 := Lib.hid (HM5.out.below_ hb)
    have HSY6 : Hid (Sl false 2 (EN false) w6 T1 Ay zs) := Lib.hid (SlN.read hsy)
    clear hb hsy hcy xc0 xc1 xz0 xz1
    have hal : Below w6.heap.size w6 (w6.alloc (.cells #[.int .i64 X, .slice Ay zs.length cy] 28)) := Below.alloc (Below.refl _ _) (Nat.le_refl _) _
    have HM6a := Lib.hid (HM6.out.below_ hal)
    have HSY6a : Hid (Sl false 2 (EN false) (w6.alloc (.cells #[.int .i64 X, .slice Ay zs.length cy] 28)) T1 Ay zs) := Lib.hid (Sl.below (R := EN false) EN.framed HSY6.out hal)
    have HY6a : Hid (BxR (w6.alloc (.cells #[.int .i64 X, .slice Ay zs.length cy] 28)) w6.heap.size X Ay zs.length cy) := Lib.hid (BxR.new (World.heap_new _ _ _ rfl))
    clear hal HSY6
    obtain ⟨w7, hw7⟩ : ∃ v, v = w6.alloc (.cells #[.int .i64 X, .slice Ay zs.length cy] 28) := ⟨_, rfl⟩
    rw [← hw7] at HM6a HSY6a HY6a
    obtain ⟨xc0, xc1, xz0, xz1, xlt⟩ := HM6.out.x
    go_wp2_with fail
    rw [← hw7]
    refine (implVR_any X Ax cx zs _ HM6a.out.sx (by omega) (fun x hx => by have := HZD.out x hx; omega)).mono ?_
    rw [HVX.out]
    rintro e w8 ⟨rfl, hb⟩
    have HM8 := Lib.hid (HM6a.out.below_ hb)
    have HSY8 : Hid (Sl false 2 (EN false) w8 T1 Ay zs) := Lib.hid (Sl.below (R := EN false) EN.framed HSY6a.out hb)
    have HY8 := Lib.hid (HY6a.out.below hb)
    clear hb hw7 HM6 HM6a HSY6a HY6a xc0 xc1 xz0 xz1
    obtain ⟨xc0, xc1, xz0, xz1, xlt⟩ := HM8.out.x
    obtain ⟨yc0, yc1, yz0, yz1, ylt⟩ := HY8.out
    have hol : ¬ (16 : Int) < (outs.length : Int) := by have := HOL.out; omega
    go_wp2_with fail
    refine (implEqR_any (b := true) (s1 := X) (s2 := X) (xs := zs) (ys := zs) (by simp) Ay Ax cy cx _ HSY8.out HM8.out.sx (by omega) (by omega) (fun x hx => ⟨by have := HZD.out x hx; omega, HZY.out x hx⟩) (fun x hx => ⟨by have := HZD.out x hx; omega, HZY.out x hx⟩)).mono ?_
    rintro e w9 ⟨rfl, hb⟩
    have HM9 := Lib.hid (HM8.out.below_ hb)
    clear hb xc0 xc1 xz0 xz1 yc0 yc1 yz0 yz1 HSY8 HY8 HM8
    obtain ⟨xc0, xc1, xz0, xz1, xlt⟩ := HM9.out.x
    go_wp2_with fail
    refine (implMis_any X Ax cx zs _ HM9.out.sx (by omega) (fun x hx => by have := HZD.out x hx; omega)).mono ?_
    rintro e w10 ⟨gm, cm, rfl, hb, hml⟩
    have HM10 := Lib.hid (HM9.out.below_ hb)
    replace hml : Rw false .i64 w10 (fun b => b = gm) (some ⟨gm, 0, none⟩) (missB X zs) := hml.rwF.rw.read
    have hmlaw := miss_law HVX.out
    have HMLAW : Hid (∀ x ∈ missB X zs, 0 ≤ seqD X x ∧ seqD X x ≤ 15 ∧ (bitsN X zs).testBit (seqD X x).toNat = false) := Lib.hid hmlaw.1
    have HFST : Hid (∀ i (h : i < (missB X zs).length), i = 0 → (missB X zs)[i] = X) := Lib.hid (fun i h h0 => by
      subst h0
      by_cases hn : zs = []
      · exfalso; subst hn; simp [missB] at h
      · obtain ⟨r, hr⟩ := hmlaw.2 hn
        simp [hr])
    have HEMP : Hid ((zs.length = 0) = ((missB X zs).length = 0)) := Lib.hid (by
      by_cases hn : zs = []
      · subst hn; simp [missB]
      · obtain ⟨r, hr⟩ := hmlaw.2 hn
        simp [hr, hn])
    have hmlen := miss_len X zs
    clear hb hmlaw xc0 xc1 xz0 xz1
    generalize missB X zs = ml at *
    have HML := Lib.hid hml
    clear hml
    go_wp2
    go_loopw [11] (fun v wr => ∃ i : Nat, v = .int .i64 (i : Int) ∧ i ≤ ml.length ∧ Hid (RoM w w1.heap.size w2.heap.size st A c ys X Ax cx zs go body wr) ∧ Hid (Rw false .i64 wr (fun b => b = gm) (some ⟨gm, 0, none⟩) ml)) (fun v _ => ml.length - (intOf v).toNat)
    case atStart => exact ⟨0, rfl, Nat.zero_le _, HM10, HML⟩
    case round =>
      obtain ⟨i, rfl, hi, HM, HML⟩ := hrel
      by_cases hil : i < ml.length
      · have hilI : (i : Int) < (ml.length : Int) := by omega
        obtain ⟨g0, o0, hA0, _, hgmlt, k2, _⟩ := HML.out i hil
        injection hA0 with hA0
        injection hA0 with e1 e2
        subst e1 e2
        rw [Nat.zero_add] at k2
        have HMI := Lib.hid (HMLAW.out _ (List.getElem_mem hil))
        have HFS := Lib.hid (HFST.out i hil)
        obtain ⟨mi, hmi⟩ : ∃ x, x = ml[i] := ⟨_, rfl⟩
        rw [← hmi] at k2 HMI HFS
        clear hmi
        obtain ⟨d, hd⟩ : ∃ d : Nat, d = (seqD X mi).toNat := ⟨_, rfl⟩
        have HMD : Hid (seqD X mi = (d : Int)) := Lib.hid (by have := HMI.out.1; omega)
        have hd15 : d ≤ 15 := by have := HMI.out.2.1; omega
        have HBIT : Hid ((bitsN X zs).testBit d = false) := Lib.hid (by rw [hd]; exact HMI.out.2.2)
        obtain ⟨N, hN⟩ : ∃ N : Int, N = ((bitsN X zs : Nat) : Int) := ⟨_, rfl⟩
        have HBK : Hid (bakS X zs = X ∧ bakB X zs = N) := Lib.hid (by rw [hN]; unfold bakS bakB; rw [HVX.out]; exact ⟨rfl, rfl⟩)
        have hfd : ∀ W : World, (Instr.field 50 (.agg #[.int .i64 X, .int .i64 N]) 1).run Try.prog W = .ok (.int .i64 N) W := fun _ => by kernel_rfl
        have hblt : bitsN X zs < 9223372036854775808 := Nat.lt_trans (bitsN_lt X zs (valid_mem HVX.out)) (by decide)
        have hbt : (bits .and .i64 (N / 2 ^ d) 1 == 1) = false := by rw [hN, bit_and _ _ hblt, HBIT.out]; rfl
        clear hd HMI hN hblt
        have k0 := HM.out.x.c0
        go_wp2
        refine wp_region_held_drew (S := (fun w' => w'.cell? ⟨w2.heap.size, 0, none⟩ = some (.int .i64 X) ∧ w'.cell? ⟨gm, i, none⟩ = some (.int .i64 mi))) (by kernel_rfl) ?_ (fun hHeld => ?_)
        · first | exact ⟨k0, k2⟩ | (simp [go_sem, *]; done)
        refine wpAnyH_takeW (i := 0) (d := some 80) (v := ?_) (by simp only [List.getElem?_toArray, List.getElem?_cons_succ, List.getElem?_cons_zero]; rfl) (by rfl) (by kernel_rfl) (by kernel_rfl) (by kernel_rfl) (by intro _ _ _ h; exact h) (by rfl) ?_ (by assumption) ?_
        rotate_left 1
        · (intro w hSw; (try dsimp only at hSw); go_simp; try (with_reducible rfl))
        (try simp only [Act.put, List.setIfInBounds_toArray, List.set_cons_zero, List.set_cons_succ])
        refine wpAnyH_takeW (i := 1) (d := some 81) (v := ?_) (by simp only [List.getElem?_toArray, List.getElem?_cons_succ, List.getElem?_cons_zero]; rfl) (by rfl) (by kernel_rfl) (by kernel_rfl) (by kernel_rfl) (by intro _ _ _ h; exact h) (by rfl) ?_ (by assumption) ?_
        rotate_left 1
        · (intro w hSw; (try dsimp only at hSw); go_simp; try (with_reducible rfl))
        (try simp only [Act.put, List.setIfInBounds_toArray, List.set_cons_zero, List.set_cons_succ])
        refine wpAnyH_takeW (i := 2) (d := some 82) (v := ?_) (by simp only [List.getElem?_toArray, List.getElem?_cons_succ, List.getElem?_cons_zero]; rfl) (by rfl) (by kernel_rfl) (by kernel_rfl) (by kernel_rfl) (by intro _ _ _ h; exact h) (by rfl) ?_ (by assumption) ?_
        rotate_left 1
        · (intro w hSw; (try dsimp only at hSw); go_simp; try (with_reducible rfl))
        (try simp only [Act.put, List.setIfInBounds_toArray, List.set_cons_zero, List.set_cons_succ])
        refine wpAnyH_takeW (i := 3) (d := some 83) (v := ?_) (by simp only [List.getElem?_toArray, List.getElem?_cons_succ, List.getElem?_cons_zero]; rfl) (by rfl) (by kernel_rfl) (by kernel_rfl) (by kernel_rfl) (by intro _ _ _ h; exact h) (by rfl) ?_ (by assumption) ?_
        rotate_left 1
        · (intro w hSw; (try dsimp only at hSw); go_simp; try (with_reducible rfl))
        (try simp only [Act.put, List.setIfInBounds_toArray, List.set_cons_zero, List.set_cons_succ])
        refine wpAnyH_takeW (i := 4) (d := some 84) (v := ?_) (by simp only [List.getElem?_toArray, List.getElem?_cons_succ, List.getElem?_cons_zero]; rfl) (by rfl) (by kernel_rfl) (by kernel_rfl) (by kernel_rfl) (by intro _ _ _ h; exact h) (by rfl) ?_ (by assumption) ?_
        rotate_left 1
        · (intro w hSw; (try dsimp only at hSw); go_simp; try (with_reducible rfl))
        (try simp only [Act.put, List.setIfInBounds_toArray, List.set_cons_zero, List.set_cons_succ])
        refine wpAnyH_takeW (i := 5) (d := some 85) (v := ?_) (by simp only [List.getElem?_toArray, List.getElem?_cons_succ, List.getElem?_cons_zero]; rfl) (by rfl) (by kernel_rfl) (by kernel_rfl) (by kernel_rfl) (by intro _ _ _ h; exact h) (by rfl) ?_ (by assumption) ?_
        rotate_left 1
        · (intro w hSw; (try dsimp only at hSw); go_simp; try (with_reducible rfl))
        (try simp only [Act.put, List.setIfInBounds_toArray, List.set_cons_zero, List.set_cons_succ])
        refine wpAnyH_ready (rs := [6]) (by kernel_rfl) (by simp) ?_
        refine AllReadyH.cons (i := 6) (by simp only [List.getElem?_toArray, List.getElem?_cons_succ, List.getElem?_cons_zero]; rfl) (fun K hK => ?_) AllReadyH.nil
        go_simp
        refine (specDist_any X mi _).mono ?_
        rw [HMD.out]
        rintro e w' ⟨rfl, rfl⟩
        go_wp2_with fail
        refine hK.out _ _ ?_ (fun hHeld => ?_)
        · ((try dsimp only); first | exact ⟨k0, k2⟩ | (simp [go_sem, *]; done))
        clear hK K
        (try simp only [Act.put, List.setIfInBounds_toArray, List.set_cons_zero, List.set_cons_succ])
        refine wpAnyH_takeW (i := 7) (d := some 12) (v := ?_) (by simp only [List.getElem?_toArray, List.getElem?_cons_succ, List.getElem?_cons_zero]; rfl) (by rfl) (by kernel_rfl) (by kernel_rfl) (by kernel_rfl) (by intro _ _ _ h; exact h) (by rfl) ?_ (by assumption) ?_
        rotate_left 1
        · (intro w hSw; (try dsimp only at hSw); go_simp; try (with_reducible rfl))
        (try simp only [Act.put, List.setIfInBounds_toArray, List.set_cons_zero, List.set_cons_succ])
        refine wpAnyH_done (by kernel_rfl) ?_ _
        go_wp2
        obtain ⟨wq, hwq⟩ : ∃ v, v = wr.drew := ⟨_, rfl⟩
        rw [← hwq]
        have hbd : Below wr.heap.size wr wq := by rw [hwq]; exact Below.drew (Below.refl _ _)
        have HMq := Lib.hid (HM.out.below_ hbd)
        have HMLq := Lib.hid (HML.out.below hbd)
        replace k0 := HMq.out.x.c0
        have k1 := HMq.out.x.c1
        replace k2 := (hbd.cell (p := ⟨gm, i, none⟩) (by simp only; omega)).trans k2
        have hgq : gm < wq.heap.size := Nat.lt_of_lt_of_le hgmlt hbd.size
        clear hwq hbd HM HML hHeld
        by_cases hi0 : i = 0
        · have hmi := HFS.out hi0
          rw [hmi] at k2
          clear hmi
          subst hi0
          refine wp_region_held_drew (S := (fun w' => w'.cell? ⟨w2.heap.size, 0, none⟩ = some (.int .i64 X) ∧ w'.cell? ⟨w2.heap.size, 1, none⟩ = some (.slice Ax zs.length cx) ∧ w'.cell? ⟨gm, 0, none⟩ = some (.int .i64 X))) (by kernel_rfl) ?_ (fun hHeld => ?_)
          · first | exact ⟨k0, k1, k2⟩ | (simp [go_sem, *]; done)
          refine wpAnyH_takeW (i := 0) (d := some 87) (v := ?_) (by simp only [List.getElem?_toArray, List.getElem?_cons_succ, List.getElem?_cons_zero]; rfl) (by rfl) (by kernel_rfl) (by kernel_rfl) (by kernel_rfl) (by intro _ _ _ h; exact h) (by rfl) ?_ (by assumption) ?_
          rotate_left 1
          · (intro w hSw; (try dsimp only at hSw); go_simp; try (with_reducible rfl))
          (try simp only [Act.put, List.setIfInBounds_toArray, List.set_cons_zero, List.set_cons_succ])
          refine wpAnyH_takeW (i := 3) (d := some 90) (v := ?_) (by simp only [List.getElem?_toArray, List.getElem?_cons_succ, List.getElem?_cons_zero]; rfl) (by rfl) (by kernel_rfl) (by kernel_rfl) (by kernel_rfl) (by intro _ _ _ h; exact h) (by rfl) ?_ (by assumption) ?_
          rotate_left 1
          · (intro w hSw; (try dsimp only at hSw); go_simp; try (with_reducible rfl))
          (try simp only [Act.put, List.setIfInBounds_toArray, List.set_cons_zero, List.set_cons_succ])
          refine wpAnyH_ready (rs := [1]) (by kernel_rfl) (by simp) ?_
          refine AllReadyH.cons (i := 1) (by simp only [List.getElem?_toArray, List.getElem?_cons_succ, List.getElem?_cons_zero]; rfl) (fun K hK => ?_) AllReadyH.nil
          go_simp
          refine (implBak_any X Ax cx zs _ (Sl.below (R := EN false) EN.framed HMq.out.sx (Below.drew (Below.refl _ _))) (by omega) (fun x hx => by have := HZD.out x hx; omega)).mono ?_
          rw [HBK.out.1, HBK.out.2]
          rintro e u1 ⟨rfl, hb⟩
          replace hb : Below wq.heap.size wq u1 := Below.trans (Below.drew (Below.refl _ _)) hb
          have HMu := Lib.hid (HMq.out.below_ hb)
          have HMLu := Lib.hid (HMLq.out.below hb)
          replace k0 := HMu.out.x.c0
          replace k1 := HMu.out.x.c1
          replace k2 := (hb.cell (p := ⟨gm, 0, none⟩) (by simp only; omega)).trans k2
          clear hb
          go_wp2_with fail
          refine hK.out _ _ ?_ (fun hHeld => ?_)
          · ((try dsimp only); first | exact ⟨k0, k1, k2⟩ | (simp [go_sem, *]; done))
          clear hK K
          (try simp only [Act.put, List.setIfInBounds_toArray, List.set_cons_zero, List.set_cons_succ])
          refine wpAnyH_takeW (i := 2) (d := some 89) (v := ?_) (by simp only [List.getElem?_toArray, List.getElem?_cons_succ, List.getElem?_cons_zero]; rfl) (by rfl) (by kernel_rfl) (by kernel_rfl) (by kernel_rfl) (by intro _ _ _ h; exact h) (by rfl) ?_ (by assumption) ?_
          rotate_left 1
          · (intro w hSw; (try dsimp only at hSw); go_simp; try (with_reducible rfl))
          (try simp only [Act.put, List.setIfInBounds_toArray, List.set_cons_zero, List.set_cons_succ])
          refine wpAnyH_takeW (i := 4) (d := some 91) (v := ?_) (by simp only [List.getElem?_toArray, List.getElem?_cons_succ, List.getElem?_cons_zero]; rfl) (by rfl) (by kernel_rfl) (by kernel_rfl) (by kernel_rfl) (by intro _ _ _ h; exact h) (by rfl) ?_ (by assumption) ?_
          rotate_left 1
          · (intro w hSw; (try dsimp only at hSw); go_simp; try (with_reducible rfl))
          (try simp only [Act.put, List.setIfInBounds_toArray, List.set_cons_zero, List.set_cons_succ])
          refine wpAnyH_takeW (i := 5) (d := some 92) (v := ?_) (by simp only [List.getElem?_toArray, List.getElem?_cons_succ, List.getElem?_cons_zero]; rfl) (by rfl) (by kernel_rfl) (by kernel_rfl) (by kernel_rfl) (by intro _ _ _ h; exact h) (by rfl) ?_ (by assumption) ?_
          rotate_left 1
          · (intro w hSw; (try dsimp only at hSw); go_simp; try (with_reducible rfl))
          (try simp only [Act.put, List.setIfInBounds_toArray, List.set_cons_zero, List.set_cons_succ])
          refine wpAnyH_takeW (i := 6) (d := some 93) (v := ?_) (by simp only [List.getElem?_toArray, List.getElem?_cons_succ, List.getElem?_cons_zero]; rfl) (by rfl) (by kernel_rfl) (by kernel_rfl) (by kernel_rfl) (by intro _ _ _ h; exact h) (by rfl) ?_ (by assumption) ?_
          rotate_left 1
          · (intro w hSw; (try dsimp only at hSw); go_simp; try (with_reducible rfl))
          (try simp only [Act.put, List.setIfInBounds_toArray, List.set_cons_zero, List.set_cons_succ])
          refine wpAnyH_takeW (i := 7) (d := some 94) (v := ?_) (by simp only [List.getElem?_toArray, List.getElem?_cons_succ, List.getElem?_cons_zero]; rfl) (by rfl) (by kernel_rfl) (by kernel_rfl) (by kernel_rfl) (by intro _ _ _ h; exact h) (by rfl) ?_ (by assumption) ?_
          rotate_left 1
          · (intro w hSw; (try dsimp only at hSw); go_simp; try (with_reducible rfl))
          (try simp only [Act.put, List.setIfInBounds_toArray, List.set_cons_zero, List.set_cons_succ])
          refine wpAnyH_takeW (i := 8) (d := some 95) (v := ?_) (by simp only [List.getElem?_toArray, List.getElem?_cons_succ, List.getElem?_cons_zero]; rfl) (by rfl) (by kernel_rfl) (by kernel_rfl) (by kernel_rfl) (by intro _ _ _ h; exact h) (by rfl) ?_ (by assumption) ?_
          rotate_left 1
          · (intro w hSw; (try dsimp only at hSw); go_simp; try (with_reducible rfl))
          (try simp only [Act.put, List.setIfInBounds_toArray, List.set_cons_zero, List.set_cons_succ])
          refine wpAnyH_takeW (i := 9) (d := some 96) (v := ?_) (by simp only [List.getElem?_toArray, List.getElem?_cons_succ, List.getElem?_cons_zero]; rfl) (by rfl) (by kernel_rfl) (by kernel_rfl) (by kernel_rfl) (by intro _ _ _ h; exact h) (by rfl) ?_ (by assumption) ?_
          rotate_left 1
          · (intro w hSw; (try dsimp only at hSw); go_simp; try (with_reducible rfl))
          (try simp only [Act.put, List.setIfInBounds_toArray, List.set_cons_zero, List.set_cons_succ])
          refine wpAnyH_takeW (i := 10) (d := some 97) (v := ?_) (by simp only [List.getElem?_toArray, List.getElem?_cons_succ, List.getElem?_cons_zero]; rfl) (by rfl) (by kernel_rfl) (by kernel_rfl) (by kernel_rfl) (by intro _ _ _ h; exact h) (by rfl) ?_ (by assumption) ?_
          rotate_left 1
          · (intro w hSw; (try dsimp only at hSw); go_simp; try (with_reducible rfl))
          (try simp only [Act.put, List.setIfInBounds_toArray, List.set_cons_zero, List.set_cons_succ])
          refine wpAnyH_takeW (i := 11) (d := some 98) (v := ?_) (by simp only [List.getElem?_toArray, List.getElem?_cons_succ, List.getElem?_cons_zero]; rfl) (by rfl) (by kernel_rfl) (by kernel_rfl) (by kernel_rfl) (by intro _ _ _ h; exact h) (by rfl) ?_ (by assumption) ?_
          rotate_left 1
          · (intro w hSw; (try dsimp only at hSw); go_simp; try (with_reducible rfl))
          (try simp only [Act.put, List.setIfInBounds_toArray, List.set_cons_zero, List.set_cons_succ])
          refine wpAnyH_takeW (i := 12) (d := some 99) (v := ?_) (by simp only [List.getElem?_toArray, List.getElem?_cons_succ, List.getElem?_cons_zero]; rfl) (by rfl) (by kernel_rfl) (by kernel_rfl) (by kernel_rfl) (by intro _ _ _ h; exact h) (by rfl) ?_ (by assumption) ?_
          rotate_left 1
          · (intro w hSw; (try dsimp only at hSw); go_simp; try (with_reducible rfl))
          (try simp only [Act.put, List.setIfInBounds_toArray, List.set_cons_zero, List.set_cons_succ])
          refine wpAnyH_takeW (i := 13) (d := some 100) (v := ?_) (by simp only [List.getElem?_toArray, List.getElem?_cons_succ, List.getElem?_cons_zero]; rfl) (by rfl) (by kernel_rfl) (by kernel_rfl) (by kernel_rfl) (by intro _ _ _ h; exact h) (by rfl) ?_ (by assumption) ?_
          rotate_left 1
          · (intro w hSw; (try dsimp only at hSw); go_simp; try (with_reducible rfl))
          (try simp only [Act.put, List.setIfInBounds_toArray, List.set_cons_zero, List.set_cons_succ])
          refine wpAnyH_takeW (i := 14) (d := some 101) (v := ?_) (by simp only [List.getElem?_toArray, List.getElem?_cons_succ, List.getElem?_cons_zero]; rfl) (by rfl) (by kernel_rfl) (by kernel_rfl) (by kernel_rfl) (by intro _ _ _ h; exact h) (by rfl) ?_ (by assumption) ?_
          rotate_left 1
          · (intro w hSw; (try dsimp only at hSw); go_simp; try (with_reducible rfl))
          (try simp only [Act.put, List.setIfInBounds_toArray, List.set_cons_zero, List.set_cons_succ])
          refine wpAnyH_takeW (i := 15) (d := some 102) (v := ?_) (by simp only [List.getElem?_toArray, List.getElem?_cons_succ, List.getElem?_cons_zero]; rfl) (by rfl) (by kernel_rfl) (by kernel_rfl) (by kernel_rfl) (by intro _ _ _ h; exact h) (by rfl) ?_ (by assumption) ?_
          rotate_left 1
          · (intro w hSw; (try dsimp only at hSw); go_simp; try (with_reducible rfl))
          (try simp only [Act.put, List.setIfInBounds_toArray, List.set_cons_zero, List.set_cons_succ])
          refine wpAnyH_takeW (i := 16) (d := some 103) (v := ?_) (by simp only [List.getElem?_toArray, List.getElem?_cons_succ, List.getElem?_cons_zero]; rfl) (by rfl) (by kernel_rfl) (by kernel_rfl) (by kernel_rfl) (by intro _ _ _ h; exact h) (by rfl) ?_ (by assumption) ?_
          rotate_left 1
          · (intro w hSw; (try dsimp only at hSw); go_simp; try (with_reducible rfl))
          (try simp only [Act.put, List.setIfInBounds_toArray, List.set_cons_zero, List.set_cons_succ])
          refine wpAnyH_takeW (i := 17) (d := some 104) (v := ?_) (by simp only [List.getElem?_toArray, List.getElem?_cons_succ, List.getElem?_cons_zero]; rfl) (by rfl) (by kernel_rfl) (by kernel_rfl) (by kernel_rfl) (by intro _ _ _ h; exact h) (by rfl) ?_ (by assumption) ?_
          rotate_left 1
          · (intro w hSw; (try dsimp only at hSw); go_simp; try (with_reducible rfl))
          (try simp only [Act.put, List.setIfInBounds_toArray, List.set_cons_zero, List.set_cons_succ])
          refine wpAnyH_takeW (i := 18) (d := some 105) (v := ?_) (by simp only [List.getElem?_toArray, List.getElem?_cons_succ, List.getElem?_cons_zero]; rfl) (by rfl) (by kernel_rfl) (by kernel_rfl) (by kernel_rfl) (by intro _ _ _ h; exact h) (by rfl) ?_ (by assumption) ?_
          rotate_left 1
          · (intro w hSw; (try dsimp only at hSw); go_simp; try (with_reducible rfl))
          (try simp only [Act.put, List.setIfInBounds_toArray, List.set_cons_zero, List.set_cons_succ])
          refine wpAnyH_takeW (i := 19) (d := some 106) (v := ?_) (by simp only [List.getElem?_toArray, List.getElem?_cons_succ, List.getElem?_cons_zero]; rfl) (by rfl) (by kernel_rfl) (by kernel_rfl) (by kernel_rfl) (by intro _ _ _ h; exact h) (by rfl) ?_ (by assumption) ?_
          rotate_left 1
          · (intro w hSw; (try dsimp only at hSw); go_simp; try (with_reducible rfl))
          (try simp only [Act.put, List.setIfInBounds_toArray, List.set_cons_zero, List.set_cons_succ])
          refine wpAnyH_done (by kernel_rfl) ?_ _
          go_wp2
          go_roundw
          case rel => exact ⟨1, rfl, by omega, HMu, HMLu⟩
          case measure => simp [intOf]; omega
        · have hi0I : ((i : Int) == 0) = false := by simp; omega
          refine wp_region_held_drew (S := (fun w' => w'.cell? ⟨w2.heap.size, 0, none⟩ = some (.int .i64 X) ∧ w'.cell? ⟨w2.heap.size, 1, none⟩ = some (.slice Ax zs.length cx) ∧ w'.cell? ⟨gm, i, none⟩ = some (.int .i64 mi))) (by kernel_rfl) ?_ (fun hHeld => ?_)
          · first | exact ⟨k0, k1, k2⟩ | (simp [go_sem, *]; done)
          refine wpAnyH_takeW (i := 0) (d := some 87) (v := ?_) (by simp only [List.getElem?_toArray, List.getElem?_cons_succ, List.getElem?_cons_zero]; rfl) (by rfl) (by kernel_rfl) (by kernel_rfl) (by kernel_rfl) (by intro _ _ _ h; exact h) (by rfl) ?_ (by assumption) ?_
          rotate_left 1
          · (intro w hSw; (try dsimp only at hSw); go_simp; try (with_reducible rfl))
          (try simp only [Act.put, List.setIfInBounds_toArray, List.set_cons_zero, List.set_cons_succ])
          refine wpAnyH_takeW (i := 3) (d := some 90) (v := ?_) (by simp only [List.getElem?_toArray, List.getElem?_cons_succ, List.getElem?_cons_zero]; rfl) (by rfl) (by kernel_rfl) (by kernel_rfl) (by kernel_rfl) (by intro _ _ _ h; exact h) (by rfl) ?_ (by assumption) ?_
          rotate_left 1
          · (intro w hSw; (try dsimp only at hSw); go_simp; try (with_reducible rfl))
          (try simp only [Act.put, List.setIfInBounds_toArray, List.set_cons_zero, List.set_cons_succ])
          refine wpAnyH_ready (rs := [1]) (by kernel_rfl) (by simp) ?_
          refine AllReadyH.cons (i := 1) (by simp only [List.getElem?_toArray, List.getElem?_cons_succ, List.getElem?_cons_zero]; rfl) (fun K hK => ?_) AllReadyH.nil
          go_simp
          refine (implBak_any X Ax cx zs _ (Sl.below (R := EN false) EN.framed HMq.out.sx (Below.drew (Below.refl _ _))) (by omega) (fun x hx => by have := HZD.out x hx; omega)).mono ?_
          rw [HBK.out.1, HBK.out.2]
          rintro e u1 ⟨rfl, hb⟩
          replace hb : Below wq.heap.size wq u1 := Below.trans (Below.drew (Below.refl _ _)) hb
          have HMu := Lib.hid (HMq.out.below_ hb)
          have HMLu := Lib.hid (HMLq.out.below hb)
          replace k0 := HMu.out.x.c0
          replace k1 := HMu.out.x.c1
          replace k2 := (hb.cell (p := ⟨gm, i, none⟩) (by simp only; omega)).trans k2
          clear hb
          go_wp2_with fail
          refine hK.out _ _ ?_ (fun hHeld => ?_)
          · ((try dsimp only); first | exact ⟨k0, k1, k2⟩ | (simp [go_sem, *]; done))
          clear hK K
          (try simp only [Act.put, List.setIfInBounds_toArray, List.set_cons_zero, List.set_cons_succ])
          refine wpAnyH_takeW (i := 2) (d := some 89) (v := ?_) (by simp only [List.getElem?_toArray, List.getElem?_cons_succ, List.getElem?_cons_zero]; rfl) (by rfl) (by kernel_rfl) (by kernel_rfl) (by kernel_rfl) (by intro _ _ _ h; exact h) (by rfl) ?_ (by assumption) ?_
          rotate_left 1
          · (intro w hSw; (try dsimp only at hSw); go_simp; try (with_reducible rfl))
          (try simp only [Act.put, List.setIfInBounds_toArray, List.set_cons_zero, List.set_cons_succ])
          refine wpAnyH_takeW (i := 4) (d := some 91) (v := ?_) (by simp only [List.getElem?_toArray, List.getElem?_cons_succ, List.getElem?_cons_zero]; rfl) (by rfl) (by kernel_rfl) (by kernel_rfl) (by kernel_rfl) (by intro _ _ _ h; exact h) (by rfl) ?_ (by assumption) ?_
          rotate_left 1
          · (intro w hSw; (try dsimp only at hSw); go_simp; try (with_reducible rfl))
          (try simp only [Act.put, List.setIfInBounds_toArray, List.set_cons_zero, List.set_cons_succ])
          refine wpAnyH_takeW (i := 5) (d := some 92) (v := ?_) (by simp only [List.getElem?_toArray, List.getElem?_cons_succ, List.getElem?_cons_zero]; rfl) (by rfl) (by kernel_rfl) (by kernel_rfl) (by kernel_rfl) (by intro _ _ _ h; exact h) (by rfl) ?_ (by assumption) ?_
          rotate_left 1
          · (intro w hSw; (try dsimp only at hSw); go_simp; try (with_reducible rfl))
          (try simp only [Act.put, List.setIfInBounds_toArray, List.set_cons_zero, List.set_cons_succ])
          refine wpAnyH_takeW (i := 6) (d := some 93) (v := ?_) (by simp only [List.getElem?_toArray, List.getElem?_cons_succ, List.getElem?_cons_zero]; rfl) (by rfl) (by kernel_rfl) (by kernel_rfl) (by kernel_rfl) (by intro _ _ _ h; exact h) (by rfl) ?_ (by assumption) ?_
          rotate_left 1
          · (intro w hSw; (try dsimp only at hSw); go_simp; try (with_reducible rfl))
          (try simp only [Act.put, List.setIfInBounds_toArray, List.set_cons_zero, List.set_cons_succ])
          refine wpAnyH_takeW (i := 7) (d := some 94) (v := ?_) (by simp only [List.getElem?_toArray, List.getElem?_cons_succ, List.getElem?_cons_zero]; rfl) (by rfl) (by kernel_rfl) (by kernel_rfl) (by kernel_rfl) (by intro _ _ _ h; exact h) (by rfl) ?_ (by assumption) ?_
          rotate_left 1
          · (intro w hSw; (try dsimp only at hSw); go_simp; try (with_reducible rfl))
          (try simp only [Act.put, List.setIfInBounds_toArray, List.set_cons_zero, List.set_cons_succ])
          refine wpAnyH_takeW (i := 8) (d := some 95) (v := ?_) (by simp only [List.getElem?_toArray, List.getElem?_cons_succ, List.getElem?_cons_zero]; rfl) (by rfl) (by kernel_rfl) (by kernel_rfl) (by kernel_rfl) (by intro _ _ _ h; exact h) (by rfl) ?_ (by assumption) ?_
          rotate_left 1
          · (intro w hSw; (try dsimp only at hSw); go_simp; try (with_reducible rfl))
          (try simp only [Act.put, List.setIfInBounds_toArray, List.set_cons_zero, List.set_cons_succ])
          refine wpAnyH_takeW (i := 9) (d := some 96) (v := ?_) (by simp only [List.getElem?_toArray, List.getElem?_cons_succ, List.getElem?_cons_zero]; rfl) (by rfl) (by kernel_rfl) (by kernel_rfl) (by kernel_rfl) (by intro _ _ _ h; exact h) (by rfl) ?_ (by assumption) ?_
          rotate_left 1
          · (intro w hSw; (try dsimp only at hSw); go_simp; try (with_reducible rfl))
          (try simp only [Act.put, List.setIfInBounds_toArray, List.set_cons_zero, List.set_cons_succ])
          refine wpAnyH_takeW (i := 10) (d := some 97) (v := ?_) (by simp only [List.getElem?_toArray, List.getElem?_cons_succ, List.getElem?_cons_zero]; rfl) (by rfl) (by kernel_rfl) (by kernel_rfl) (by kernel_rfl) (by intro _ _ _ h; exact h) (by rfl) ?_ (by assumption) ?_
          rotate_left 1
          · (intro w hSw; (try dsimp only at hSw); go_simp; try (with_reducible rfl))
          (try simp only [Act.put, List.setIfInBounds_toArray, List.set_cons_zero, List.set_cons_succ])
          refine wpAnyH_takeU (i := 11) (d := some 98) (by simp only [List.getElem?_toArray, List.getElem?_cons_succ, List.getElem?_cons_zero]; rfl) (by rfl) (by kernel_rfl) (by kernel_rfl) (by kernel_rfl) (by intro _ _ _ h; exact h) (by rfl) (by assumption) ?_
          (try simp only [Act.put, List.setIfInBounds_toArray, List.set_cons_zero, List.set_cons_succ])
          refine wpAnyH_takeU (i := 12) (d := some 99) (by simp only [List.getElem?_toArray, List.getElem?_cons_succ, List.getElem?_cons_zero]; rfl) (by rfl) (by kernel_rfl) (by kernel_rfl) (by kernel_rfl) (by intro _ _ _ h; exact h) (by rfl) (by assumption) ?_
          (try simp only [Act.put, List.setIfInBounds_toArray, List.set_cons_zero, List.set_cons_succ])
          refine wpAnyH_takeU (i := 13) (d := some 100) (by simp only [List.getElem?_toArray, List.getElem?_cons_succ, List.getElem?_cons_zero]; rfl) (by rfl) (by kernel_rfl) (by kernel_rfl) (by kernel_rfl) (by intro _ _ _ h; exact h) (by rfl) (by assumption) ?_
          (try simp only [Act.put, List.setIfInBounds_toArray, List.set_cons_zero, List.set_cons_succ])
          refine wpAnyH_takeU (i := 14) (d := some 101) (by simp only [List.getElem?_toArray, List.getElem?_cons_succ, List.getElem?_cons_zero]; rfl) (by rfl) (by kernel_rfl) (by kernel_rfl) (by kernel_rfl) (by intro _ _ _ h; exact h) (by rfl) (by assumption) ?_
          (try simp only [Act.put, List.setIfInBounds_toArray, List.set_cons_zero, List.set_cons_succ])
          refine wpAnyH_takeU (i := 15) (d := some 102) (by simp only [List.getElem?_toArray, List.getElem?_cons_succ, List.getElem?_cons_zero]; rfl) (by rfl) (by kernel_rfl) (by kernel_rfl) (by kernel_rfl) (by intro _ _ _ h; exact h) (by rfl) (by assumption) ?_
          (try simp only [Act.put, List.setIfInBounds_toArray, List.set_cons_zero, List.set_cons_succ])
          refine wpAnyH_takeU (i := 16) (d := some 103) (by simp only [List.getElem?_toArray, List.getElem?_cons_succ, List.getElem?_cons_zero]; rfl) (by rfl) (by kernel_rfl) (by kernel_rfl) (by kernel_rfl) (by intro _ _ _ h; exact h) (by rfl) (by assumption) ?_
          (try simp only [Act.put, List.setIfInBounds_toArray, List.set_cons_zero, List.set_cons_succ])
          refine wpAnyH_takeU (i := 17) (d := some 104) (by simp only [List.getElem?_toArray, List.getElem?_cons_succ, List.getElem?_cons_zero]; rfl) (by rfl) (by kernel_rfl) (by kernel_rfl) (by kernel_rfl) (by intro _ _ _ h; exact h) (by rfl) (by assumption) ?_
          (try simp only [Act.put, List.setIfInBounds_toArray, List.set_cons_zero, List.set_cons_succ])
          refine wpAnyH_takeW (i := 18) (d := some 105) (v := ?_) (by simp only [List.getElem?_toArray, List.getElem?_cons_succ, List.getElem?_cons_zero]; rfl) (by rfl) (by kernel_rfl) (by kernel_rfl) (by kernel_rfl) (by intro _ _ _ h; exact h) (by rfl) ?_ (by assumption) ?_
          rotate_left 1
          · (intro w hSw; (try dsimp only at hSw); go_simp; try (with_reducible rfl))
          (try simp only [Act.put, List.setIfInBounds_toArray, List.set_cons_zero, List.set_cons_succ])
          refine wpAnyH_takeW (i := 19) (d := some 106) (v := ?_) (by simp only [List.getElem?_toArray, List.getElem?_cons_succ, List.getElem?_cons_zero]; rfl) (by rfl) (by kernel_rfl) (by kernel_rfl) (by kernel_rfl) (by intro _ _ _ h; exact h) (by rfl) ?_ (by assumption) ?_
          rotate_left 1
          · (intro w hSw; (try dsimp only at hSw); go_simp; try (with_reducible rfl))
          (try simp only [Act.put, List.setIfInBounds_toArray, List.set_cons_zero, List.set_cons_succ])
          refine wpAnyH_done (by kernel_rfl) ?_ _
          go_wp2
          go_roundw
          case rel => exact ⟨i + 1, by go_num, by omega, HMu, HMLu⟩
          case measure => simp [intOf]; omega
      · have hilI : ¬ (i : Int) < (ml.length : Int) := by omega
        obtain ⟨wl, rfl⟩ : ∃ v : World, v = wr := ⟨_, rfl⟩
        obtain ⟨q16, hq16⟩ : ∃ x, x = (st + 16) % 4096 := ⟨_, rfl⟩
        have hstb := vROB_st HV.out.symm
        have hmv := move_all (st := st) (ys := ys) HV.out.symm
        rw [← hq16] at hmv
        have HQ16 : Hid (IntKind.i64.wrap (st + 16) % 4096 = q16) := Lib.hid (by rw [hq16, IntKind.wrap_i64]; omega)
        have HMV : Hid (moveR st q16 ys = (q16, [], ys.map Prod.snd)) := Lib.hid hmv.1
        have HD16 : Hid (seqD st q16 = 16) := Lib.hid hmv.2
        have HBK : Hid (bakS X zs = X) := Lib.hid (by unfold bakS; rw [HVX.out]; rfl)
        have HEMB : Hid ((((zs.length : Int) == 0) == ((ml.length : Int) == 0)) = true) := Lib.hid (by
          have h := HEMP.out
          have h2 : ((zs.length : Int) = 0) = ((ml.length : Int) = 0) := by
            apply propext
            constructor
            · intro e; have : zs.length = 0 := by omega
              rw [h] at this; omega
            · intro e; have : ml.length = 0 := by omega
              rw [← h] at this; omega
          rw [show ((zs.length : Int) == 0) = ((ml.length : Int) == 0) from by rw [Bool.eq_iff_iff]; simp only [beq_iff_eq]; rw [h2]]
          simp)
        clear hmv hq16
        obtain ⟨wq, hwq⟩ : ∃ v, v = wl.drew := ⟨_, rfl⟩
        have hbd : Below wl.heap.size wl wq := by rw [hwq]; exact Below.drew (Below.refl _ _)
        have HMwq := Lib.hid (HM.out.below_ hbd)
        have k0 := HM.out.r.c0
        have k1 := HM.out.r.c1
        have hlt_l : w2.heap.size < wl.heap.size := HM.out.x.lt
        have h12 := HM.out.lt12
        clear hbd
        go_wp2
        refine wp_region_G [] (S := (fun w' => w'.cell? ⟨w1.heap.size, 0, none⟩ = some (.int .i64 st) ∧ w'.cell? ⟨w1.heap.size, 1, none⟩ = some (.slice A ys.length c))) (by kernel_rfl) ?_ (fun hHeld => ?_)
        · first | exact ⟨k0, k1⟩ | exact ⟨(World.cell?_alloc_lt _ _ _ (by simp only [World.size_drew]; omega)).trans k0, (World.cell?_alloc_lt _ _ _ (by simp only [World.size_drew]; omega)).trans k1⟩ | (simp [go_sem, *]; done)
        refine wpAnyG_takeW [5, 6, 7, 8, 10, 11] (i := 0) (d := some 108) (v := ?_) (by simp only [List.getElem?_toArray, List.getElem?_cons_succ, List.getElem?_cons_zero]; rfl) (by rfl) (by kernel_rfl) (by kernel_rfl) (by kernel_rfl) (by kernel_rfl) (by kernel_rfl) (by intro _ _ _ h; exact h) (by rfl) ?_ (by assumption) ?_
        rotate_left 1
        · (intro w hSw; (try dsimp only at hSw); go_simp; try (with_reducible rfl))
        (try simp only [Act.put, List.setIfInBounds_toArray, List.set_cons_zero, List.set_cons_succ])
        refine wpAnyG_takeW [2, 3, 4, 5, 6, 7, 8, 10, 11] (i := 1) (d := some 109) (v := ?_) (by simp only [List.getElem?_toArray, List.getElem?_cons_succ, List.getElem?_cons_zero]; rfl) (by rfl) (by kernel_rfl) (by kernel_rfl) (by kernel_rfl) (by kernel_rfl) (by kernel_rfl) (by intro _ _ _ h; exact h) (by rfl) ?_ (by assumption) ?_
        rotate_left 1
        · (intro w hSw; (try dsimp only at hSw); go_simp; try (with_reducible rfl))
        (try simp only [Act.put, List.setIfInBounds_toArray, List.set_cons_zero, List.set_cons_succ])
        refine wpAnyG_takeW [3, 4, 5, 6, 7, 8, 10, 11] (i := 2) (d := some 110) (v := ?_) (by simp only [List.getElem?_toArray, List.getElem?_cons_succ, List.getElem?_cons_zero]; rfl) (by rfl) (by kernel_rfl) (by kernel_rfl) (by kernel_rfl) (by kernel_rfl) (by kernel_rfl) (by intro _ _ _ h; exact h) (by rfl) ?_ (by assumption) ?_
        rotate_left 1
        · (intro w hSw; (try dsimp only at hSw); go_simp; try (with_reducible rfl))
        (try simp only [Act.put, List.setIfInBounds_toArray, List.set_cons_zero, List.set_cons_succ])
        refine wpAnyG_takeW [4, 5, 6, 7, 8, 10, 11] (i := 3) (d := some 111) (v := ?_) (by simp only [List.getElem?_toArray, List.getElem?_cons_succ, List.getElem?_cons_zero]; rfl) (by rfl) (by kernel_rfl) (by kernel_rfl) (by kernel_rfl) (by kernel_rfl) (by kernel_rfl) (by intro _ _ _ h; exact h) (by rfl) ?_ (by assumption) ?_
        rotate_left 1
        · (intro w hSw; (try dsimp only at hSw); go_simp; try (with_reducible rfl))
        (try simp only [Act.put, List.setIfInBounds_toArray, List.set_cons_zero, List.set_cons_succ])
        refine wpAnyG_ready (rs := [4, 9]) (by kernel_rfl) (by simp) ?_
        refine (AllReadyG.cons (i := 4) (by simp only [List.getElem?_toArray, List.getElem?_cons_succ, List.getElem?_cons_zero]; rfl) (fun K hK => ?_) (AllReadyG.cons (i := 9) (by simp only [List.getElem?_toArray, List.getElem?_cons_succ, List.getElem?_cons_zero]; rfl) (fun K hK => ?_) AllReadyG.nil))
        · go_simp
          refine (specMod_any _ 4096 (by unfold I64; rw [IntKind.wrap_i64]; omega) rfl _).mono ?_
          rw [HQ16.out]
          rintro e w' ⟨rfl, rfl⟩
          go_wp2_with fail
          refine hK.out _ _ (fun _ => ?_) (fun hHeld => ?_)
          · ((try dsimp only); first | exact ⟨k0, k1⟩ | exact ⟨(World.cell?_alloc_lt _ _ _ (by simp only [World.size_drew]; omega)).trans k0, (World.cell?_alloc_lt _ _ _ (by simp only [World.size_drew]; omega)).trans k1⟩ | (simp [go_sem, *]; done))
          replace hHeld := hHeld (by rfl)
          clear hK K
          (try simp only [Act.put, List.setIfInBounds_toArray, List.set_cons_zero, List.set_cons_succ])
          obtain ⟨v1, hv⟩ : ∃ v, v = wl.drew := ⟨_, rfl⟩
          have hb : Below wq.heap.size wq v1 := by rw [hv]; exact (by rw [hwq]; exact Below.refl _ _)
          have HMv1 := Lib.hid (HMwq.out.below_ hb)
          replace k0 := HMv1.out.r.c0
          replace k1 := HMv1.out.r.c1
          have hlt_v1 : w2.heap.size < v1.heap.size := HMv1.out.x.lt
          rw [← hv] at hHeld ⊢
          clear hv hb
          refine wpAnyG_ready (rs := [5, 9]) (by kernel_rfl) (by simp) ?_
          refine (AllReadyG.cons (i := 5) (by simp only [List.getElem?_toArray, List.getElem?_cons_succ, List.getElem?_cons_zero]; rfl) (fun K hK => ?_) (AllReadyG.cons (i := 9) (by simp only [List.getElem?_toArray, List.getElem?_cons_succ, List.getElem?_cons_zero]; rfl) (fun K hK => ?_) AllReadyG.nil))
          · go_simp
            refine (implMS_any st A c ys q16 _ HMv1.out.sr (by omega) (fun x hx => by have := HBD.out x hx; omega)).mono ?_
            rw [HMV.out]
            rintro e v2 ⟨Az, cz, gz, cbz, T1z, T2z, rfl, hb, _, _, _, _, _, _⟩
            have HMv2 := Lib.hid (HMv1.out.below_ hb)
            replace k0 := HMv2.out.r.c0
            replace k1 := HMv2.out.r.c1
            have hlt_v2 : w2.heap.size < v2.heap.size := HMv2.out.x.lt
            clear hb
            go_wp2_with fail
            refine hK.out _ _ (fun _ => ?_) (fun hHeld => ?_)
            · ((try dsimp only); first | exact ⟨k0, k1⟩ | exact ⟨(World.cell?_alloc_lt _ _ _ (by simp only [World.size_drew]; omega)).trans k0, (World.cell?_alloc_lt _ _ _ (by simp only [World.size_drew]; omega)).trans k1⟩ | (simp [go_sem, *]; done))
            replace hHeld := hHeld (by rfl)
            clear hK K
            (try simp only [Act.put, List.setIfInBounds_toArray, List.set_cons_zero, List.set_cons_succ])
            refine wpAnyG_takeW [7, 8, 10, 11] (i := 6) (d := some 107) (v := ?_) (by simp only [List.getElem?_toArray, List.getElem?_cons_succ, List.getElem?_cons_zero]; rfl) (by rfl) (by kernel_rfl) (by kernel_rfl) (by kernel_rfl) (by kernel_rfl) (by kernel_rfl) (by intro _ _ _ h; exact h) (by rfl) ?_ (by assumption) ?_
            rotate_left 1
            · (intro w hSw; (try dsimp only at hSw); go_simp; try (with_reducible rfl))
            (try simp only [Act.put, List.setIfInBounds_toArray, List.set_cons_zero, List.set_cons_succ])
            refine wpAnyG_takeW [10, 11] (i := 7) (d := some 114) (v := ?_) (by simp only [List.getElem?_toArray, List.getElem?_cons_succ, List.getElem?_cons_zero]; rfl) (by rfl) (by kernel_rfl) (by kernel_rfl) (by kernel_rfl) (by kernel_rfl) (by kernel_rfl) (by intro _ _ _ h; exact h) (by rfl) ?_ (by assumption) ?_
            rotate_left 1
            · (intro w hSw; (try dsimp only at hSw); go_simp; try (with_reducible rfl))
            (try simp only [Act.put, List.setIfInBounds_toArray, List.set_cons_zero, List.set_cons_succ])
            refine wpAnyG_takeW [11] (i := 8) (d := some 115) (v := ?_) (by simp only [List.getElem?_toArray, List.getElem?_cons_succ, List.getElem?_cons_zero]; rfl) (by rfl) (by kernel_rfl) (by kernel_rfl) (by kernel_rfl) (by kernel_rfl) (by kernel_rfl) (by intro _ _ _ h; exact h) (by rfl) ?_ (by assumption) ?_
            rotate_left 1
            · (intro w hSw; (try dsimp only at hSw); go_simp; try (with_reducible rfl))
            (try simp only [Act.put, List.setIfInBounds_toArray, List.set_cons_zero, List.set_cons_succ])
            refine wpAnyG_ready (rs := [9]) (by kernel_rfl) (by simp) ?_
            refine (AllReadyG.cons (i := 9) (by simp only [List.getElem?_toArray, List.getElem?_cons_succ, List.getElem?_cons_zero]; rfl) (fun K hK => ?_) AllReadyG.nil)
            go_simp
            go_wp2_with fail
            refine hK.out _ _ (fun _ => ?_) (fun hHeld => ?_)
            · ((try dsimp only); first | exact ⟨k0, k1⟩ | exact ⟨(World.cell?_alloc_lt _ _ _ (by simp only [World.size_drew]; omega)).trans k0, (World.cell?_alloc_lt _ _ _ (by simp only [World.size_drew]; omega)).trans k1⟩ | (simp [go_sem, *]; done))
            replace hHeld := hHeld (by rfl)
            clear hK K
            (try simp only [Act.put, List.setIfInBounds_toArray, List.set_cons_zero, List.set_cons_succ])
            obtain ⟨v3, hv⟩ : ∃ v, v = v2.alloc (.cells #[.int .i64 0, .slice none 0 0] 28) := ⟨_, rfl⟩
            rw [← hv] at hHeld ⊢
            have hb : Below v2.heap.size v2 v3 := by rw [hv]; exact Below.alloc (Below.refl _ _) (Nat.le_refl _) _
            obtain ⟨gx, hgx⟩ : ∃ x, x = v2.heap.size := ⟨_, rfl⟩
            have HZ : Hid (BxR v3 gx 0 none 0 0) := Lib.hid (BxR.new (t := 28) (by rw [hv, hgx]; exact World.heap_new _ _ _ rfl))
            have hgx2 : w2.heap.size < gx := by rw [hgx]; exact HMv2.out.x.lt
            have HMv3 := Lib.hid (HMv2.out.below_ hb)
            replace k0 := HMv3.out.r.c0
            replace k1 := HMv3.out.r.c1
            have hlt_v3 : w2.heap.size < v3.heap.size := HMv3.out.x.lt
            clear hv hb
            rw [← hgx]
            clear hgx
            refine wpAnyG_ready (rs := [10]) (by kernel_rfl) (by simp) ?_
            refine (AllReadyG.cons (i := 10) (by simp only [List.getElem?_toArray, List.getElem?_cons_succ, List.getElem?_cons_zero]; rfl) (fun K hK => ?_) AllReadyG.nil)
            obtain ⟨zc0, zc1, zz0, zz1, zlt⟩ := HZ.out
            go_simp
            go_wp2_with fail
            refine hK.out _ _ (fun _ => ?_) (fun hHeld => ?_)
            · ((try dsimp only); exact ⟨(Chg.cell (stR_chg v3 gx q16 Az 0 cz) (p := ⟨w1.heap.size, 0, none⟩) (by simp only; omega) (by simp only; omega)).trans k0, (Chg.cell (stR_chg v3 gx q16 Az 0 cz) (p := ⟨w1.heap.size, 1, none⟩) (by simp only; omega) (by simp only; omega)).trans k1⟩)
            replace hHeld := hHeld (by rfl)
            clear hK K
            (try simp only [Act.put, List.setIfInBounds_toArray, List.set_cons_zero, List.set_cons_succ])
            refine wpAnyG_takeW [] (i := 11) (d := some 14) (v := ?_) (by simp only [List.getElem?_toArray, List.getElem?_cons_succ, List.getElem?_cons_zero]; rfl) (by rfl) (by kernel_rfl) (by kernel_rfl) (by kernel_rfl) (by kernel_rfl) (by kernel_rfl) (by intro _ _ _ h; exact h) (by rfl) ?_ (by assumption) ?_
            rotate_left 1
            · (intro w hSw; (try dsimp only at hSw); go_simp; try (with_reducible rfl))
            (try simp only [Act.put, List.setIfInBounds_toArray, List.set_cons_zero, List.set_cons_succ])
            refine wpAnyG_done (by kernel_rfl) ?_ _
            obtain ⟨ws, hws⟩ : ∃ x, x = ((v3.setCell ⟨gx, 0, none⟩ (.int .i64 q16)).setCell ⟨gx, 1, none⟩ (.slice Az 0 cz)) := ⟨_, rfl⟩
            have hcs : Chg (fun k => k = gx) v3 ws := by rw [hws]; exact stR_chg v3 gx q16 Az 0 cz
            have HZs : Hid (BxR ws gx q16 Az 0 cz) := Lib.hid (by rw [hws]; exact HZ.out.s0.s1)
            have HMs := Lib.hid (HMv3.out.up hcs (by omega))
            rw [← hws]
            clear hws hcs zc0 zc1 zz0 zz1 k0 k1
            have r0 := HMs.out.r.c0
            have r1 := HMs.out.r.c1
            have x0 := HMs.out.x.c0
            have x1 := HMs.out.x.c1
            have z0 := HZs.out.c0
            have z1 := HZs.out.c1
            have hxs : w2.heap.size < ws.heap.size := HMs.out.x.lt
            go_wp2
            refine wp_region_held_drew (S := (fun w' => w'.cell? ⟨w1.heap.size, 0, none⟩ = some (.int .i64 st) ∧ w'.cell? ⟨w1.heap.size, 1, none⟩ = some (.slice A ys.length c) ∧ w'.cell? ⟨w2.heap.size, 0, none⟩ = some (.int .i64 X) ∧ w'.cell? ⟨w2.heap.size, 1, none⟩ = some (.slice Ax zs.length cx) ∧ w'.cell? ⟨gx, 0, none⟩ = some (.int .i64 q16) ∧ w'.cell? ⟨gx, 1, none⟩ = some (.slice Az 0 cz))) (by kernel_rfl) ?_ (fun hHeld => ?_)
            · first | exact ⟨r0, r1, x0, x1, z0, z1⟩ | (simp [go_sem, *]; done)
            refine wpAnyH_takeW (i := 0) (d := some 116) (v := ?_) (by simp only [List.getElem?_toArray, List.getElem?_cons_succ, List.getElem?_cons_zero]; rfl) (by rfl) (by kernel_rfl) (by kernel_rfl) (by kernel_rfl) (by intro _ _ _ h; exact h) (by rfl) ?_ (by assumption) ?_
            rotate_left 1
            · (intro w hSw; (try dsimp only at hSw); go_simp; try (with_reducible rfl))
            (try simp only [Act.put, List.setIfInBounds_toArray, List.set_cons_zero, List.set_cons_succ])
            refine wpAnyH_takeW (i := 1) (d := some 117) (v := ?_) (by simp only [List.getElem?_toArray, List.getElem?_cons_succ, List.getElem?_cons_zero]; rfl) (by rfl) (by kernel_rfl) (by kernel_rfl) (by kernel_rfl) (by intro _ _ _ h; exact h) (by rfl) ?_ (by assumption) ?_
            rotate_left 1
            · (intro w hSw; (try dsimp only at hSw); go_simp; try (with_reducible rfl))
            (try simp only [Act.put, List.setIfInBounds_toArray, List.set_cons_zero, List.set_cons_succ])
            refine wpAnyH_takeW (i := 2) (d := some 118) (v := ?_) (by simp only [List.getElem?_toArray, List.getElem?_cons_succ, List.getElem?_cons_zero]; rfl) (by rfl) (by kernel_rfl) (by kernel_rfl) (by kernel_rfl) (by intro _ _ _ h; exact h) (by rfl) ?_ (by assumption) ?_
            rotate_left 1
            · (intro w hSw; (try dsimp only at hSw); go_simp; try (with_reducible rfl))
            (try simp only [Act.put, List.setIfInBounds_toArray, List.set_cons_zero, List.set_cons_succ])
            refine wpAnyH_takeW (i := 3) (d := some 119) (v := ?_) (by simp only [List.getElem?_toArray, List.getElem?_cons_succ, List.getElem?_cons_zero]; rfl) (by rfl) (by kernel_rfl) (by kernel_rfl) (by kernel_rfl) (by intro _ _ _ h; exact h) (by rfl) ?_ (by assumption) ?_
            rotate_left 1
            · (intro w hSw; (try dsimp only at hSw); go_simp; try (with_reducible rfl))
            (try simp only [Act.put, List.setIfInBounds_toArray, List.set_cons_zero, List.set_cons_succ])
            refine wpAnyH_takeW (i := 4) (d := some 120) (v := ?_) (by simp only [List.getElem?_toArray, List.getElem?_cons_succ, List.getElem?_cons_zero]; rfl) (by rfl) (by kernel_rfl) (by kernel_rfl) (by kernel_rfl) (by intro _ _ _ h; exact h) (by rfl) ?_ (by assumption) ?_
            rotate_left 1
            · (intro w hSw; (try dsimp only at hSw); go_simp; try (with_reducible rfl))
            (try simp only [Act.put, List.setIfInBounds_toArray, List.set_cons_zero, List.set_cons_succ])
            refine wpAnyH_takeW (i := 5) (d := some 121) (v := ?_) (by simp only [List.getElem?_toArray, List.getElem?_cons_succ, List.getElem?_cons_zero]; rfl) (by rfl) (by kernel_rfl) (by kernel_rfl) (by kernel_rfl) (by intro _ _ _ h; exact h) (by rfl) ?_ (by assumption) ?_
            rotate_left 1
            · (intro w hSw; (try dsimp only at hSw); go_simp; try (with_reducible rfl))
            (try simp only [Act.put, List.setIfInBounds_toArray, List.set_cons_zero, List.set_cons_succ])
            refine wpAnyH_takeW (i := 6) (d := some 122) (v := ?_) (by simp only [List.getElem?_toArray, List.getElem?_cons_succ, List.getElem?_cons_zero]; rfl) (by rfl) (by kernel_rfl) (by kernel_rfl) (by kernel_rfl) (by intro _ _ _ h; exact h) (by rfl) ?_ (by assumption) ?_
            rotate_left 1
            · (intro w hSw; (try dsimp only at hSw); go_simp; try (with_reducible rfl))
            (try simp only [Act.put, List.setIfInBounds_toArray, List.set_cons_zero, List.set_cons_succ])
            refine wpAnyH_takeW (i := 7) (d := some 123) (v := ?_) (by simp only [List.getElem?_toArray, List.getElem?_cons_succ, List.getElem?_cons_zero]; rfl) (by rfl) (by kernel_rfl) (by kernel_rfl) (by kernel_rfl) (by intro _ _ _ h; exact h) (by rfl) ?_ (by assumption) ?_
            rotate_left 1
            · (intro w hSw; (try dsimp only at hSw); go_simp; try (with_reducible rfl))
            (try simp only [Act.put, List.setIfInBounds_toArray, List.set_cons_zero, List.set_cons_succ])
            refine wpAnyH_takeW (i := 8) (d := some 124) (v := ?_) (by simp only [List.getElem?_toArray, List.getElem?_cons_succ, List.getElem?_cons_zero]; rfl) (by rfl) (by kernel_rfl) (by kernel_rfl) (by kernel_rfl) (by intro _ _ _ h; exact h) (by rfl) ?_ (by assumption) ?_
            rotate_left 1
            · (intro w hSw; (try dsimp only at hSw); go_simp; try (with_reducible rfl))
            (try simp only [Act.put, List.setIfInBounds_toArray, List.set_cons_zero, List.set_cons_succ])
            refine wpAnyH_takeW (i := 9) (d := some 125) (v := ?_) (by simp only [List.getElem?_toArray, List.getElem?_cons_succ, List.getElem?_cons_zero]; rfl) (by rfl) (by kernel_rfl) (by kernel_rfl) (by kernel_rfl) (by intro _ _ _ h; exact h) (by rfl) ?_ (by assumption) ?_
            rotate_left 1
            · (intro w hSw; (try dsimp only at hSw); go_simp; try (with_reducible rfl))
            (try simp only [Act.put, List.setIfInBounds_toArray, List.set_cons_zero, List.set_cons_succ])
            refine wpAnyH_takeW (i := 10) (d := some 126) (v := ?_) (by simp only [List.getElem?_toArray, List.getElem?_cons_succ, List.getElem?_cons_zero]; rfl) (by rfl) (by kernel_rfl) (by kernel_rfl) (by kernel_rfl) (by intro _ _ _ h; exact h) (by rfl) ?_ (by assumption) ?_
            rotate_left 1
            · (intro w hSw; (try dsimp only at hSw); go_simp; try (with_reducible rfl))
            (try simp only [Act.put, List.setIfInBounds_toArray, List.set_cons_zero, List.set_cons_succ])
            refine wpAnyH_takeW (i := 11) (d := some 127) (v := ?_) (by simp only [List.getElem?_toArray, List.getElem?_cons_succ, List.getElem?_cons_zero]; rfl) (by rfl) (by kernel_rfl) (by kernel_rfl) (by kernel_rfl) (by intro _ _ _ h; exact h) (by rfl) ?_ (by assumption) ?_
            rotate_left 1
            · (intro w hSw; (try dsimp only at hSw); go_simp; try (with_reducible rfl))
            (try simp only [Act.put, List.setIfInBounds_toArray, List.set_cons_zero, List.set_cons_succ])
            refine wpAnyH_takeW (i := 12) (d := some 128) (v := ?_) (by simp only [List.getElem?_toArray, List.getElem?_cons_succ, List.getElem?_cons_zero]; rfl) (by rfl) (by kernel_rfl) (by kernel_rfl) (by kernel_rfl) (by intro _ _ _ h; exact h) (by rfl) ?_ (by assumption) ?_
            rotate_left 1
            · (intro w hSw; (try dsimp only at hSw); go_simp; try (with_reducible rfl))
            (try simp only [Act.put, List.setIfInBounds_toArray, List.set_cons_zero, List.set_cons_succ])
            refine wpAnyH_takeW (i := 13) (d := some 129) (v := ?_) (by simp only [List.getElem?_toArray, List.getElem?_cons_succ, List.getElem?_cons_zero]; rfl) (by rfl) (by kernel_rfl) (by kernel_rfl) (by kernel_rfl) (by intro _ _ _ h; exact h) (by rfl) ?_ (by assumption) ?_
            rotate_left 1
            · (intro w hSw; (try dsimp only at hSw); go_simp; try (with_reducible rfl))
            (try simp only [Act.put, List.setIfInBounds_toArray, List.set_cons_zero, List.set_cons_succ])
            refine wpAnyH_takeW (i := 14) (d := some 130) (v := ?_) (by simp only [List.getElem?_toArray, List.getElem?_cons_succ, List.getElem?_cons_zero]; rfl) (by rfl) (by kernel_rfl) (by kernel_rfl) (by kernel_rfl) (by intro _ _ _ h; exact h) (by rfl) ?_ (by assumption) ?_
            rotate_left 1
            · (intro w hSw; (try dsimp only at hSw); go_simp; try (with_reducible rfl))
            (try simp only [Act.put, List.setIfInBounds_toArray, List.set_cons_zero, List.set_cons_succ])
            refine wpAnyH_takeW (i := 15) (d := some 131) (v := ?_) (by simp only [List.getElem?_toArray, List.getElem?_cons_succ, List.getElem?_cons_zero]; rfl) (by rfl) (by kernel_rfl) (by kernel_rfl) (by kernel_rfl) (by intro _ _ _ h; exact h) (by rfl) ?_ (by assumption) ?_
            rotate_left 1
            · (intro w hSw; (try dsimp only at hSw); go_simp; try (with_reducible rfl))
            (try simp only [Act.put, List.setIfInBounds_toArray, List.set_cons_zero, List.set_cons_succ])
            refine wpAnyH_takeW (i := 16) (d := some 132) (v := ?_) (by simp only [List.getElem?_toArray, List.getElem?_cons_succ, List.getElem?_cons_zero]; rfl) (by rfl) (by kernel_rfl) (by kernel_rfl) (by kernel_rfl) (by intro _ _ _ h; exact h) (by rfl) ?_ (by assumption) ?_
            rotate_left 1
            · (intro w hSw; (try dsimp only at hSw); go_simp; try (with_reducible rfl))
            (try simp only [Act.put, List.setIfInBounds_toArray, List.set_cons_zero, List.set_cons_succ])
            refine wpAnyH_ready (rs := [17]) (by kernel_rfl) (by simp) ?_
            refine AllReadyH.cons (i := 17) (by simp only [List.getElem?_toArray, List.getElem?_cons_succ, List.getElem?_cons_zero]; rfl) (fun K hK => ?_) AllReadyH.nil
            go_simp
            refine (specDist_any st q16 _).mono ?_
            rw [HD16.out]
            rintro e w' ⟨rfl, rfl⟩
            go_wp2_with fail
            refine hK.out _ _ ?_ (fun hHeld => ?_)
            · ((try dsimp only); first | exact ⟨r0, r1, x0, x1, z0, z1⟩ | (simp [go_sem, *]; done))
            clear hK K
            (try simp only [Act.put, List.setIfInBounds_toArray, List.set_cons_zero, List.set_cons_succ])
            refine wpAnyH_takeW (i := 18) (d := some 134) (v := ?_) (by simp only [List.getElem?_toArray, List.getElem?_cons_succ, List.getElem?_cons_zero]; rfl) (by rfl) (by kernel_rfl) (by kernel_rfl) (by kernel_rfl) (by intro _ _ _ h; exact h) (by rfl) ?_ (by assumption) ?_
            rotate_left 1
            · (intro w hSw; (try dsimp only at hSw); go_simp; try (with_reducible rfl))
            (try simp only [Act.put, List.setIfInBounds_toArray, List.set_cons_zero, List.set_cons_succ])
            refine wpAnyH_takeW (i := 19) (d := some 135) (v := ?_) (by simp only [List.getElem?_toArray, List.getElem?_cons_succ, List.getElem?_cons_zero]; rfl) (by rfl) (by kernel_rfl) (by kernel_rfl) (by kernel_rfl) (by intro _ _ _ h; exact h) (by rfl) ?_ (by assumption) ?_
            rotate_left 1
            · (intro w hSw; (try dsimp only at hSw); go_simp; try (with_reducible rfl))
            (try simp only [Act.put, List.setIfInBounds_toArray, List.set_cons_zero, List.set_cons_succ])
            refine wpAnyH_takeW (i := 20) (d := some 136) (v := ?_) (by simp only [List.getElem?_toArray, List.getElem?_cons_succ, List.getElem?_cons_zero]; rfl) (by rfl) (by kernel_rfl) (by kernel_rfl) (by kernel_rfl) (by intro _ _ _ h; exact h) (by rfl) ?_ (by assumption) ?_
            rotate_left 1
            · (intro w hSw; (try dsimp only at hSw); go_simp; try (with_reducible rfl))
            (try simp only [Act.put, List.setIfInBounds_toArray, List.set_cons_zero, List.set_cons_succ])
            refine wpAnyH_takeW (i := 21) (d := some 137) (v := ?_) (by simp only [List.getElem?_toArray, List.getElem?_cons_succ, List.getElem?_cons_zero]; rfl) (by rfl) (by kernel_rfl) (by kernel_rfl) (by kernel_rfl) (by intro _ _ _ h; exact h) (by rfl) ?_ (by assumption) ?_
            rotate_left 1
            · (intro w hSw; (try dsimp only at hSw); go_simp; try (with_reducible rfl))
            (try simp only [Act.put, List.setIfInBounds_toArray, List.set_cons_zero, List.set_cons_succ])
            refine wpAnyH_takeW (i := 24) (d := some 140) (v := ?_) (by simp only [List.getElem?_toArray, List.getElem?_cons_succ, List.getElem?_cons_zero]; rfl) (by rfl) (by kernel_rfl) (by kernel_rfl) (by kernel_rfl) (by intro _ _ _ h; exact h) (by rfl) ?_ (by assumption) ?_
            rotate_left 1
            · (intro w hSw; (try dsimp only at hSw); go_simp; try (with_reducible rfl))
            (try simp only [Act.put, List.setIfInBounds_toArray, List.set_cons_zero, List.set_cons_succ])
            refine wpAnyH_takeW (i := 25) (d := some 141) (v := ?_) (by simp only [List.getElem?_toArray, List.getElem?_cons_succ, List.getElem?_cons_zero]; rfl) (by rfl) (by kernel_rfl) (by kernel_rfl) (by kernel_rfl) (by intro _ _ _ h; exact h) (by rfl) ?_ (by assumption) ?_
            rotate_left 1
            · (intro w hSw; (try dsimp only at hSw); go_simp; try (with_reducible rfl))
            (try simp only [Act.put, List.setIfInBounds_toArray, List.set_cons_zero, List.set_cons_succ])
            refine wpAnyH_ready (rs := [22]) (by kernel_rfl) (by simp) ?_
            refine AllReadyH.cons (i := 22) (by simp only [List.getElem?_toArray, List.getElem?_cons_succ, List.getElem?_cons_zero]; rfl) (fun K hK => ?_) AllReadyH.nil
            go_simp
            refine (implBak_any X Ax cx zs _ (Sl.below (R := EN false) EN.framed HMs.out.sx (Below.drew (Below.refl _ _))) (by omega) (fun x hx => by have := HZD.out x hx; omega)).mono ?_
            rw [HBK.out]
            generalize bakB X zs = N
            rintro e u1 ⟨rfl, hb⟩
            replace hb : Below ws.heap.size ws u1 := Below.trans (Below.drew (Below.refl _ _)) hb
            have HMu := Lib.hid (HMs.out.below_ hb)
            have HZu := Lib.hid (HZs.out.below hb)
            replace r0 := HMu.out.r.c0
            replace r1 := HMu.out.r.c1
            replace x0 := HMu.out.x.c0
            replace x1 := HMu.out.x.c1
            replace z0 := HZu.out.c0
            replace z1 := HZu.out.c1
            have hfd : ∀ W : World, (Instr.field 50 (.agg #[.int .i64 X, .int .i64 N]) 0).run Try.prog W = .ok (.int .i64 X) W := fun _ => by kernel_rfl
            clear hb
            go_wp2_with fail
            refine hK.out _ _ ?_ (fun hHeld => ?_)
            · ((try dsimp only); first | exact ⟨r0, r1, x0, x1, z0, z1⟩ | (simp [go_sem, *]; done))
            clear hK K
            (try simp only [Act.put, List.setIfInBounds_toArray, List.set_cons_zero, List.set_cons_succ])
            refine wpAnyH_takeW (i := 23) (d := some 139) (v := ?_) (by simp only [List.getElem?_toArray, List.getElem?_cons_succ, List.getElem?_cons_zero]; rfl) (by rfl) (by kernel_rfl) (by kernel_rfl) (by kernel_rfl) (by intro _ _ _ h; exact h) (by rfl) ?_ (by assumption) ?_
            rotate_left 1
            · (intro w hSw; (try dsimp only at hSw); go_simp; try (with_reducible rfl))
            (try simp only [Act.put, List.setIfInBounds_toArray, List.set_cons_zero, List.set_cons_succ])
            refine wpAnyH_takeW (i := 26) (d := some 142) (v := ?_) (by simp only [List.getElem?_toArray, List.getElem?_cons_succ, List.getElem?_cons_zero]; rfl) (by rfl) (by kernel_rfl) (by kernel_rfl) (by kernel_rfl) (by intro _ _ _ h; exact h) (by rfl) ?_ (by assumption) ?_
            rotate_left 1
            · (intro w hSw; (try dsimp only at hSw); go_simp; try (with_reducible rfl))
            (try simp only [Act.put, List.setIfInBounds_toArray, List.set_cons_zero, List.set_cons_succ])
            refine wpAnyH_takeW (i := 27) (d := some 143) (v := ?_) (by simp only [List.getElem?_toArray, List.getElem?_cons_succ, List.getElem?_cons_zero]; rfl) (by rfl) (by kernel_rfl) (by kernel_rfl) (by kernel_rfl) (by intro _ _ _ h; exact h) (by rfl) ?_ (by assumption) ?_
            rotate_left 1
            · (intro w hSw; (try dsimp only at hSw); go_simp; try (with_reducible rfl))
            (try simp only [Act.put, List.setIfInBounds_toArray, List.set_cons_zero, List.set_cons_succ])
            refine wpAnyH_takeW (i := 28) (d := some 144) (v := ?_) (by simp only [List.getElem?_toArray, List.getElem?_cons_succ, List.getElem?_cons_zero]; rfl) (by rfl) (by kernel_rfl) (by kernel_rfl) (by kernel_rfl) (by intro _ _ _ h; exact h) (by rfl) ?_ (by assumption) ?_
            rotate_left 1
            · (intro w hSw; (try dsimp only at hSw); go_simp; try (with_reducible rfl))
            (try simp only [Act.put, List.setIfInBounds_toArray, List.set_cons_zero, List.set_cons_succ])
            refine wpAnyH_takeW (i := 29) (d := some 145) (v := ?_) (by simp only [List.getElem?_toArray, List.getElem?_cons_succ, List.getElem?_cons_zero]; rfl) (by rfl) (by kernel_rfl) (by kernel_rfl) (by kernel_rfl) (by intro _ _ _ h; exact h) (by rfl) ?_ (by assumption) ?_
            rotate_left 1
            · (intro w hSw; (try dsimp only at hSw); go_simp; try (with_reducible rfl))
            (try simp only [Act.put, List.setIfInBounds_toArray, List.set_cons_zero, List.set_cons_succ])
            refine wpAnyH_takeW (i := 30) (d := some 146) (v := ?_) (by simp only [List.getElem?_toArray, List.getElem?_cons_succ, List.getElem?_cons_zero]; rfl) (by rfl) (by kernel_rfl) (by kernel_rfl) (by kernel_rfl) (by intro _ _ _ h; exact h) (by rfl) ?_ (by assumption) ?_
            rotate_left 1
            · (intro w hSw; (try dsimp only at hSw); go_simp; try (with_reducible rfl))
            (try simp only [Act.put, List.setIfInBounds_toArray, List.set_cons_zero, List.set_cons_succ])
            refine wpAnyH_takeW (i := 31) (d := some 147) (v := ?_) (by simp only [List.getElem?_toArray, List.getElem?_cons_succ, List.getElem?_cons_zero]; rfl) (by rfl) (by kernel_rfl) (by kernel_rfl) (by kernel_rfl) (by intro _ _ _ h; exact h) (by rfl) ?_ (by assumption) ?_
            rotate_left 1
            · (intro w hSw; (try dsimp only at hSw); go_simp; try (with_reducible rfl))
            (try simp only [Act.put, List.setIfInBounds_toArray, List.set_cons_zero, List.set_cons_succ])
            refine wpAnyH_takeW (i := 32) (d := some 148) (v := ?_) (by simp only [List.getElem?_toArray, List.getElem?_cons_succ, List.getElem?_cons_zero]; rfl) (by rfl) (by kernel_rfl) (by kernel_rfl) (by kernel_rfl) (by intro _ _ _ h; exact h) (by rfl) ?_ (by assumption) ?_
            rotate_left 1
            · (intro w hSw; (try dsimp only at hSw); go_simp; try (with_reducible rfl))
            (try simp only [Act.put, List.setIfInBounds_toArray, List.set_cons_zero, List.set_cons_succ])
            refine wpAnyH_takeW (i := 33) (d := some 149) (v := ?_) (by simp only [List.getElem?_toArray, List.getElem?_cons_succ, List.getElem?_cons_zero]; rfl) (by rfl) (by kernel_rfl) (by kernel_rfl) (by kernel_rfl) (by intro _ _ _ h; exact h) (by rfl) ?_ (by assumption) ?_
            rotate_left 1
            · (intro w hSw; (try dsimp only at hSw); go_simp; try (with_reducible rfl))
            (try simp only [Act.put, List.setIfInBounds_toArray, List.set_cons_zero, List.set_cons_succ])
            refine wpAnyH_takeW (i := 34) (d := some 150) (v := ?_) (by simp only [List.getElem?_toArray, List.getElem?_cons_succ, List.getElem?_cons_zero]; rfl) (by rfl) (by kernel_rfl) (by kernel_rfl) (by kernel_rfl) (by intro _ _ _ h; exact h) (by rfl) ?_ (by assumption) ?_
            rotate_left 1
            · (intro w hSw; (try dsimp only at hSw); go_simp; try (with_reducible rfl))
            (try simp only [Act.put, List.setIfInBounds_toArray, List.set_cons_zero, List.set_cons_succ])
            refine wpAnyH_takeW (i := 35) (d := some 151) (v := ?_) (by simp only [List.getElem?_toArray, List.getElem?_cons_succ, List.getElem?_cons_zero]; rfl) (by rfl) (by kernel_rfl) (by kernel_rfl) (by kernel_rfl) (by intro _ _ _ h; exact h) (by rfl) ?_ (by assumption) ?_
            rotate_left 1
            · (intro w hSw; (try dsimp only at hSw); go_simp; try (with_reducible rfl))
            (try simp only [Act.put, List.setIfInBounds_toArray, List.set_cons_zero, List.set_cons_succ])
            refine wpAnyH_takeW (i := 36) (d := some 152) (v := ?_) (by simp only [List.getElem?_toArray, List.getElem?_cons_succ, List.getElem?_cons_zero]; rfl) (by rfl) (by kernel_rfl) (by kernel_rfl) (by kernel_rfl) (by intro _ _ _ h; exact h) (by rfl) ?_ (by assumption) ?_
            rotate_left 1
            · (intro w hSw; (try dsimp only at hSw); go_simp; try (with_reducible rfl))
            (try simp only [Act.put, List.setIfInBounds_toArray, List.set_cons_zero, List.set_cons_succ])
            refine wpAnyH_takeW (i := 37) (d := some 153) (v := ?_) (by simp only [List.getElem?_toArray, List.getElem?_cons_succ, List.getElem?_cons_zero]; rfl) (by rfl) (by kernel_rfl) (by kernel_rfl) (by kernel_rfl) (by intro _ _ _ h; exact h) (by rfl) ?_ (by assumption) ?_
            rotate_left 1
            · (intro w hSw; (try dsimp only at hSw); go_simp; try (with_reducible rfl))
            (try simp only [Act.put, List.setIfInBounds_toArray, List.set_cons_zero, List.set_cons_succ])
            refine wpAnyH_takeW (i := 38) (d := some 2) (v := ?_) (by simp only [List.getElem?_toArray, List.getElem?_cons_succ, List.getElem?_cons_zero]; rfl) (by rfl) (by kernel_rfl) (by kernel_rfl) (by kernel_rfl) (by intro _ _ _ h; exact h) (by rfl) ?_ (by assumption) ?_
            rotate_left 1
            · (intro w hSw; (try dsimp only at hSw); go_simp; try (with_reducible rfl))
            (try simp only [Act.put, List.setIfInBounds_toArray, List.set_cons_zero, List.set_cons_succ])
            refine wpAnyH_done (by kernel_rfl) ?_ _
            go_wp2
            go_ret
            exact ⟨congrArg (fun b => Ending.returned (Value.bool b)) HEMB.out, HMu.out.below⟩
          · go_simp
            go_wp2_with fail
            refine hK.out _ _ (fun _ => ?_) (fun hHeld => ?_)
            · ((try dsimp only); first | exact ⟨k0, k1⟩ | exact ⟨(World.cell?_alloc_lt _ _ _ (by simp only [World.size_drew]; omega)).trans k0, (World.cell?_alloc_lt _ _ _ (by simp only [World.size_drew]; omega)).trans k1⟩ | (simp [go_sem, *]; done))
            replace hHeld := hHeld (by rfl)
            clear hK K
            (try simp only [Act.put, List.setIfInBounds_toArray, List.set_cons_zero, List.set_cons_succ])
            obtain ⟨v2, hv⟩ : ∃ v, v = v1.alloc (.cells #[.int .i64 0, .slice none 0 0] 28) := ⟨_, rfl⟩
            rw [← hv] at hHeld ⊢
            have hb : Below v1.heap.size v1 v2 := by rw [hv]; exact Below.alloc (Below.refl _ _) (Nat.le_refl _) _
            obtain ⟨gx, hgx⟩ : ∃ x, x = v1.heap.size := ⟨_, rfl⟩
            have HZ : Hid (BxR v2 gx 0 none 0 0) := Lib.hid (BxR.new (t := 28) (by rw [hv, hgx]; exact World.heap_new _ _ _ rfl))
            have hgx2 : w2.heap.size < gx := by rw [hgx]; exact HMv1.out.x.lt
            have HMv2 := Lib.hid (HMv1.out.below_ hb)
            replace k0 := HMv2.out.r.c0
            replace k1 := HMv2.out.r.c1
            have hlt_v2 : w2.heap.size < v2.heap.size := HMv2.out.x.lt
            clear hv hb
            rw [← hgx]
            clear hgx
            refine wpAnyG_ready (rs := [5]) (by kernel_rfl) (by simp) ?_
            refine (AllReadyG.cons (i := 5) (by simp only [List.getElem?_toArray, List.getElem?_cons_succ, List.getElem?_cons_zero]; rfl) (fun K hK => ?_) AllReadyG.nil)
            go_simp
            refine (implMS_any st A c ys q16 _ HMv2.out.sr (by omega) (fun x hx => by have := HBD.out x hx; omega)).mono ?_
            rw [HMV.out]
            rintro e v3 ⟨Az, cz, gz, cbz, T1z, T2z, rfl, hb, _, _, _, _, _, _⟩
            have HMv3 := Lib.hid (HMv2.out.below_ hb)
            replace k0 := HMv3.out.r.c0
            replace k1 := HMv3.out.r.c1
            have hlt_v3 : w2.heap.size < v3.heap.size := HMv3.out.x.lt
            replace HZ := Lib.hid (HZ.out.below hb)
            clear hb
            go_wp2_with fail
            refine hK.out _ _ (fun _ => ?_) (fun hHeld => ?_)
            · ((try dsimp only); first | exact ⟨k0, k1⟩ | exact ⟨(World.cell?_alloc_lt _ _ _ (by simp only [World.size_drew]; omega)).trans k0, (World.cell?_alloc_lt _ _ _ (by simp only [World.size_drew]; omega)).trans k1⟩ | (simp [go_sem, *]; done))
            replace hHeld := hHeld (by rfl)
            clear hK K
            (try simp only [Act.put, List.setIfInBounds_toArray, List.set_cons_zero, List.set_cons_succ])
            refine wpAnyG_takeW [7, 8, 10, 11] (i := 6) (d := some 107) (v := ?_) (by simp only [List.getElem?_toArray, List.getElem?_cons_succ, List.getElem?_cons_zero]; rfl) (by rfl) (by kernel_rfl) (by kernel_rfl) (by kernel_rfl) (by kernel_rfl) (by kernel_rfl) (by intro _ _ _ h; exact h) (by rfl) ?_ (by assumption) ?_
            rotate_left 1
            · (intro w hSw; (try dsimp only at hSw); go_simp; try (with_reducible rfl))
            (try simp only [Act.put, List.setIfInBounds_toArray, List.set_cons_zero, List.set_cons_succ])
            refine wpAnyG_takeW [10, 11] (i := 7) (d := some 114) (v := ?_) (by simp only [List.getElem?_toArray, List.getElem?_cons_succ, List.getElem?_cons_zero]; rfl) (by rfl) (by kernel_rfl) (by kernel_rfl) (by kernel_rfl) (by kernel_rfl) (by kernel_rfl) (by intro _ _ _ h; exact h) (by rfl) ?_ (by assumption) ?_
            rotate_left 1
            · (intro w hSw; (try dsimp only at hSw); go_simp; try (with_reducible rfl))
            (try simp only [Act.put, List.setIfInBounds_toArray, List.set_cons_zero, List.set_cons_succ])
            refine wpAnyG_takeW [11] (i := 8) (d := some 115) (v := ?_) (by simp only [List.getElem?_toArray, List.getElem?_cons_succ, List.getElem?_cons_zero]; rfl) (by rfl) (by kernel_rfl) (by kernel_rfl) (by kernel_rfl) (by kernel_rfl) (by kernel_rfl) (by intro _ _ _ h; exact h) (by rfl) ?_ (by assumption) ?_
            rotate_left 1
            · (intro w hSw; (try dsimp only at hSw); go_simp; try (with_reducible rfl))
            (try simp only [Act.put, List.setIfInBounds_toArray, List.set_cons_zero, List.set_cons_succ])
            refine wpAnyG_ready (rs := [10]) (by kernel_rfl) (by simp) ?_
            refine (AllReadyG.cons (i := 10) (by simp only [List.getElem?_toArray, List.getElem?_cons_succ, List.getElem?_cons_zero]; rfl) (fun K hK => ?_) AllReadyG.nil)
            obtain ⟨zc0, zc1, zz0, zz1, zlt⟩ := HZ.out
            go_simp
            go_wp2_with fail
            refine hK.out _ _ (fun _ => ?_) (fun hHeld => ?_)
            · ((try dsimp only); exact ⟨(Chg.cell (stR_chg v3 gx q16 Az 0 cz) (p := ⟨w1.heap.size, 0, none⟩) (by simp only; omega) (by simp only; omega)).trans k0, (Chg.cell (stR_chg v3 gx q16 Az 0 cz) (p := ⟨w1.heap.size, 1, none⟩) (by simp only; omega) (by simp only; omega)).trans k1⟩)
            replace hHeld := hHeld (by rfl)
            clear hK K
            (try simp only [Act.put, List.setIfInBounds_toArray, List.set_cons_zero, List.set_cons_succ])
            refine wpAnyG_takeW [] (i := 11) (d := some 14) (v := ?_) (by simp only [List.getElem?_toArray, List.getElem?_cons_succ, List.getElem?_cons_zero]; rfl) (by rfl) (by kernel_rfl) (by kernel_rfl) (by kernel_rfl) (by kernel_rfl) (by kernel_rfl) (by intro _ _ _ h; exact h) (by rfl) ?_ (by assumption) ?_
            rotate_left 1
            · (intro w hSw; (try dsimp only at hSw); go_simp; try (with_reducible rfl))
            (try simp only [Act.put, List.setIfInBounds_toArray, List.set_cons_zero, List.set_cons_succ])
            refine wpAnyG_done (by kernel_rfl) ?_ _
            obtain ⟨ws, hws⟩ : ∃ x, x = ((v3.setCell ⟨gx, 0, none⟩ (.int .i64 q16)).setCell ⟨gx, 1, none⟩ (.slice Az 0 cz)) := ⟨_, rfl⟩
            have hcs : Chg (fun k => k = gx) v3 ws := by rw [hws]; exact stR_chg v3 gx q16 Az 0 cz
            have HZs : Hid (BxR ws gx q16 Az 0 cz) := Lib.hid (by rw [hws]; exact HZ.out.s0.s1)
            have HMs := Lib.hid (HMv3.out.up hcs (by omega))
            rw [← hws]
            clear hws hcs zc0 zc1 zz0 zz1 k0 k1
            have r0 := HMs.out.r.c0
            have r1 := HMs.out.r.c1
            have x0 := HMs.out.x.c0
            have x1 := HMs.out.x.c1
            have z0 := HZs.out.c0
            have z1 := HZs.out.c1
            have hxs : w2.heap.size < ws.heap.size := HMs.out.x.lt
            go_wp2
            refine wp_region_held_drew (S := (fun w' => w'.cell? ⟨w1.heap.size, 0, none⟩ = some (.int .i64 st) ∧ w'.cell? ⟨w1.heap.size, 1, none⟩ = some (.slice A ys.length c) ∧ w'.cell? ⟨w2.heap.size, 0, none⟩ = some (.int .i64 X) ∧ w'.cell? ⟨w2.heap.size, 1, none⟩ = some (.slice Ax zs.length cx) ∧ w'.cell? ⟨gx, 0, none⟩ = some (.int .i64 q16) ∧ w'.cell? ⟨gx, 1, none⟩ = some (.slice Az 0 cz))) (by kernel_rfl) ?_ (fun hHeld => ?_)
            · first | exact ⟨r0, r1, x0, x1, z0, z1⟩ | (simp [go_sem, *]; done)
            refine wpAnyH_takeW (i := 0) (d := some 116) (v := ?_) (by simp only [List.getElem?_toArray, List.getElem?_cons_succ, List.getElem?_cons_zero]; rfl) (by rfl) (by kernel_rfl) (by kernel_rfl) (by kernel_rfl) (by intro _ _ _ h; exact h) (by rfl) ?_ (by assumption) ?_
            rotate_left 1
            · (intro w hSw; (try dsimp only at hSw); go_simp; try (with_reducible rfl))
            (try simp only [Act.put, List.setIfInBounds_toArray, List.set_cons_zero, List.set_cons_succ])
            refine wpAnyH_takeW (i := 1) (d := some 117) (v := ?_) (by simp only [List.getElem?_toArray, List.getElem?_cons_succ, List.getElem?_cons_zero]; rfl) (by rfl) (by kernel_rfl) (by kernel_rfl) (by kernel_rfl) (by intro _ _ _ h; exact h) (by rfl) ?_ (by assumption) ?_
            rotate_left 1
            · (intro w hSw; (try dsimp only at hSw); go_simp; try (with_reducible rfl))
            (try simp only [Act.put, List.setIfInBounds_toArray, List.set_cons_zero, List.set_cons_succ])
            refine wpAnyH_takeW (i := 2) (d := some 118) (v := ?_) (by simp only [List.getElem?_toArray, List.getElem?_cons_succ, List.getElem?_cons_zero]; rfl) (by rfl) (by kernel_rfl) (by kernel_rfl) (by kernel_rfl) (by intro _ _ _ h; exact h) (by rfl) ?_ (by assumption) ?_
            rotate_left 1
            · (intro w hSw; (try dsimp only at hSw); go_simp; try (with_reducible rfl))
            (try simp only [Act.put, List.setIfInBounds_toArray, List.set_cons_zero, List.set_cons_succ])
            refine wpAnyH_takeW (i := 3) (d := some 119) (v := ?_) (by simp only [List.getElem?_toArray, List.getElem?_cons_succ, List.getElem?_cons_zero]; rfl) (by rfl) (by kernel_rfl) (by kernel_rfl) (by kernel_rfl) (by intro _ _ _ h; exact h) (by rfl) ?_ (by assumption) ?_
            rotate_left 1
            · (intro w hSw; (try dsimp only at hSw); go_simp; try (with_reducible rfl))
            (try simp only [Act.put, List.setIfInBounds_toArray, List.set_cons_zero, List.set_cons_succ])
            refine wpAnyH_takeW (i := 4) (d := some 120) (v := ?_) (by simp only [List.getElem?_toArray, List.getElem?_cons_succ, List.getElem?_cons_zero]; rfl) (by rfl) (by kernel_rfl) (by kernel_rfl) (by kernel_rfl) (by intro _ _ _ h; exact h) (by rfl) ?_ (by assumption) ?_
            rotate_left 1
            · (intro w hSw; (try dsimp only at hSw); go_simp; try (with_reducible rfl))
            (try simp only [Act.put, List.setIfInBounds_toArray, List.set_cons_zero, List.set_cons_succ])
            refine wpAnyH_takeW (i := 5) (d := some 121) (v := ?_) (by simp only [List.getElem?_toArray, List.getElem?_cons_succ, List.getElem?_cons_zero]; rfl) (by rfl) (by kernel_rfl) (by kernel_rfl) (by kernel_rfl) (by intro _ _ _ h; exact h) (by rfl) ?_ (by assumption) ?_
            rotate_left 1
            · (intro w hSw; (try dsimp only at hSw); go_simp; try (with_reducible rfl))
            (try simp only [Act.put, List.setIfInBounds_toArray, List.set_cons_zero, List.set_cons_succ])
            refine wpAnyH_takeW (i := 6) (d := some 122) (v := ?_) (by simp only [List.getElem?_toArray, List.getElem?_cons_succ, List.getElem?_cons_zero]; rfl) (by rfl) (by kernel_rfl) (by kernel_rfl) (by kernel_rfl) (by intro _ _ _ h; exact h) (by rfl) ?_ (by assumption) ?_
            rotate_left 1
            · (intro w hSw; (try dsimp only at hSw); go_simp; try (with_reducible rfl))
            (try simp only [Act.put, List.setIfInBounds_toArray, List.set_cons_zero, List.set_cons_succ])
            refine wpAnyH_takeW (i := 7) (d := some 123) (v := ?_) (by simp only [List.getElem?_toArray, List.getElem?_cons_succ, List.getElem?_cons_zero]; rfl) (by rfl) (by kernel_rfl) (by kernel_rfl) (by kernel_rfl) (by intro _ _ _ h; exact h) (by rfl) ?_ (by assumption) ?_
            rotate_left 1
            · (intro w hSw; (try dsimp only at hSw); go_simp; try (with_reducible rfl))
            (try simp only [Act.put, List.setIfInBounds_toArray, List.set_cons_zero, List.set_cons_succ])
            refine wpAnyH_takeW (i := 8) (d := some 124) (v := ?_) (by simp only [List.getElem?_toArray, List.getElem?_cons_succ, List.getElem?_cons_zero]; rfl) (by rfl) (by kernel_rfl) (by kernel_rfl) (by kernel_rfl) (by intro _ _ _ h; exact h) (by rfl) ?_ (by assumption) ?_
            rotate_left 1
            · (intro w hSw; (try dsimp only at hSw); go_simp; try (with_reducible rfl))
            (try simp only [Act.put, List.setIfInBounds_toArray, List.set_cons_zero, List.set_cons_succ])
            refine wpAnyH_takeW (i := 9) (d := some 125) (v := ?_) (by simp only [List.getElem?_toArray, List.getElem?_cons_succ, List.getElem?_cons_zero]; rfl) (by rfl) (by kernel_rfl) (by kernel_rfl) (by kernel_rfl) (by intro _ _ _ h; exact h) (by rfl) ?_ (by assumption) ?_
            rotate_left 1
            · (intro w hSw; (try dsimp only at hSw); go_simp; try (with_reducible rfl))
            (try simp only [Act.put, List.setIfInBounds_toArray, List.set_cons_zero, List.set_cons_succ])
            refine wpAnyH_takeW (i := 10) (d := some 126) (v := ?_) (by simp only [List.getElem?_toArray, List.getElem?_cons_succ, List.getElem?_cons_zero]; rfl) (by rfl) (by kernel_rfl) (by kernel_rfl) (by kernel_rfl) (by intro _ _ _ h; exact h) (by rfl) ?_ (by assumption) ?_
            rotate_left 1
            · (intro w hSw; (try dsimp only at hSw); go_simp; try (with_reducible rfl))
            (try simp only [Act.put, List.setIfInBounds_toArray, List.set_cons_zero, List.set_cons_succ])
            refine wpAnyH_takeW (i := 11) (d := some 127) (v := ?_) (by simp only [List.getElem?_toArray, List.getElem?_cons_succ, List.getElem?_cons_zero]; rfl) (by rfl) (by kernel_rfl) (by kernel_rfl) (by kernel_rfl) (by intro _ _ _ h; exact h) (by rfl) ?_ (by assumption) ?_
            rotate_left 1
            · (intro w hSw; (try dsimp only at hSw); go_simp; try (with_reducible rfl))
            (try simp only [Act.put, List.setIfInBounds_toArray, List.set_cons_zero, List.set_cons_succ])
            refine wpAnyH_takeW (i := 12) (d := some 128) (v := ?_) (by simp only [List.getElem?_toArray, List.getElem?_cons_succ, List.getElem?_cons_zero]; rfl) (by rfl) (by kernel_rfl) (by kernel_rfl) (by kernel_rfl) (by intro _ _ _ h; exact h) (by rfl) ?_ (by assumption) ?_
            rotate_left 1
            · (intro w hSw; (try dsimp only at hSw); go_simp; try (with_reducible rfl))
            (try simp only [Act.put, List.setIfInBounds_toArray, List.set_cons_zero, List.set_cons_succ])
            refine wpAnyH_takeW (i := 13) (d := some 129) (v := ?_) (by simp only [List.getElem?_toArray, List.getElem?_cons_succ, List.getElem?_cons_zero]; rfl) (by rfl) (by kernel_rfl) (by kernel_rfl) (by kernel_rfl) (by intro _ _ _ h; exact h) (by rfl) ?_ (by assumption) ?_
            rotate_left 1
            · (intro w hSw; (try dsimp only at hSw); go_simp; try (with_reducible rfl))
            (try simp only [Act.put, List.setIfInBounds_toArray, List.set_cons_zero, List.set_cons_succ])
            refine wpAnyH_takeW (i := 14) (d := some 130) (v := ?_) (by simp only [List.getElem?_toArray, List.getElem?_cons_succ, List.getElem?_cons_zero]; rfl) (by rfl) (by kernel_rfl) (by kernel_rfl) (by kernel_rfl) (by intro _ _ _ h; exact h) (by rfl) ?_ (by assumption) ?_
            rotate_left 1
            · (intro w hSw; (try dsimp only at hSw); go_simp; try (with_reducible rfl))
            (try simp only [Act.put, List.setIfInBounds_toArray, List.set_cons_zero, List.set_cons_succ])
            refine wpAnyH_takeW (i := 15) (d := some 131) (v := ?_) (by simp only [List.getElem?_toArray, List.getElem?_cons_succ, List.getElem?_cons_zero]; rfl) (by rfl) (by kernel_rfl) (by kernel_rfl) (by kernel_rfl) (by intro _ _ _ h; exact h) (by rfl) ?_ (by assumption) ?_
            rotate_left 1
            · (intro w hSw; (try dsimp only at hSw); go_simp; try (with_reducible rfl))
            (try simp only [Act.put, List.setIfInBounds_toArray, List.set_cons_zero, List.set_cons_succ])
            refine wpAnyH_takeW (i := 16) (d := some 132) (v := ?_) (by simp only [List.getElem?_toArray, List.getElem?_cons_succ, List.getElem?_cons_zero]; rfl) (by rfl) (by kernel_rfl) (by kernel_rfl) (by kernel_rfl) (by intro _ _ _ h; exact h) (by rfl) ?_ (by assumption) ?_
            rotate_left 1
            · (intro w hSw; (try dsimp only at hSw); go_simp; try (with_reducible rfl))
            (try simp only [Act.put, List.setIfInBounds_toArray, List.set_cons_zero, List.set_cons_succ])
            refine wpAnyH_ready (rs := [17]) (by kernel_rfl) (by simp) ?_
            refine AllReadyH.cons (i := 17) (by simp only [List.getElem?_toArray, List.getElem?_cons_succ, List.getElem?_cons_zero]; rfl) (fun K hK => ?_) AllReadyH.nil
            go_simp
            refine (specDist_any st q16 _).mono ?_
            rw [HD16.out]
            rintro e w' ⟨rfl, rfl⟩
            go_wp2_with fail
            refine hK.out _ _ ?_ (fun hHeld => ?_)
            · ((try dsimp only); first | exact ⟨r0, r1, x0, x1, z0, z1⟩ | (simp [go_sem, *]; done))
            clear hK K
            (try simp only [Act.put, List.setIfInBounds_toArray, List.set_cons_zero, List.set_cons_succ])
            refine wpAnyH_takeW (i := 18) (d := some 134) (v := ?_) (by simp only [List.getElem?_toArray, List.getElem?_cons_succ, List.getElem?_cons_zero]; rfl) (by rfl) (by kernel_rfl) (by kernel_rfl) (by kernel_rfl) (by intro _ _ _ h; exact h) (by rfl) ?_ (by assumption) ?_
            rotate_left 1
            · (intro w hSw; (try dsimp only at hSw); go_simp; try (with_reducible rfl))
            (try simp only [Act.put, List.setIfInBounds_toArray, List.set_cons_zero, List.set_cons_succ])
            refine wpAnyH_takeW (i := 19) (d := some 135) (v := ?_) (by simp only [List.getElem?_toArray, List.getElem?_cons_succ, List.getElem?_cons_zero]; rfl) (by rfl) (by kernel_rfl) (by kernel_rfl) (by kernel_rfl) (by intro _ _ _ h; exact h) (by rfl) ?_ (by assumption) ?_
            rotate_left 1
            · (intro w hSw; (try dsimp only at hSw); go_simp; try (with_reducible rfl))
            (try simp only [Act.put, List.setIfInBounds_toArray, List.set_cons_zero, List.set_cons_succ])
            refine wpAnyH_takeW (i := 20) (d := some 136) (v := ?_) (by simp only [List.getElem?_toArray, List.getElem?_cons_succ, List.getElem?_cons_zero]; rfl) (by rfl) (by kernel_rfl) (by kernel_rfl) (by kernel_rfl) (by intro _ _ _ h; exact h) (by rfl) ?_ (by assumption) ?_
            rotate_left 1
            · (intro w hSw; (try dsimp only at hSw); go_simp; try (with_reducible rfl))
            (try simp only [Act.put, List.setIfInBounds_toArray, List.set_cons_zero, List.set_cons_succ])
            refine wpAnyH_takeW (i := 21) (d := some 137) (v := ?_) (by simp only [List.getElem?_toArray, List.getElem?_cons_succ, List.getElem?_cons_zero]; rfl) (by rfl) (by kernel_rfl) (by kernel_rfl) (by kernel_rfl) (by intro _ _ _ h; exact h) (by rfl) ?_ (by assumption) ?_
            rotate_left 1
            · (intro w hSw; (try dsimp only at hSw); go_simp; try (with_reducible rfl))
            (try simp only [Act.put, List.setIfInBounds_toArray, List.set_cons_zero, List.set_cons_succ])
            refine wpAnyH_takeW (i := 24) (d := some 140) (v := ?_) (by simp only [List.getElem?_toArray, List.getElem?_cons_succ, List.getElem?_cons_zero]; rfl) (by rfl) (by kernel_rfl) (by kernel_rfl) (by kernel_rfl) (by intro _ _ _ h; exact h) (by rfl) ?_ (by assumption) ?_
            rotate_left 1
            · (intro w hSw; (try dsimp only at hSw); go_simp; try (with_reducible rfl))
            (try simp only [Act.put, List.setIfInBounds_toArray, List.set_cons_zero, List.set_cons_succ])
            refine wpAnyH_takeW (i := 25) (d := some 141) (v := ?_) (by simp only [List.getElem?_toArray, List.getElem?_cons_succ, List.getElem?_cons_zero]; rfl) (by rfl) (by kernel_rfl) (by kernel_rfl) (by kernel_rfl) (by intro _ _ _ h; exact h) (by rfl) ?_ (by assumption) ?_
            rotate_left 1
            · (intro w hSw; (try dsimp only at hSw); go_simp; try (with_reducible rfl))
            (try simp only [Act.put, List.setIfInBounds_toArray, List.set_cons_zero, List.set_cons_succ])
            refine wpAnyH_ready (rs := [22]) (by kernel_rfl) (by simp) ?_
            refine AllReadyH.cons (i := 22) (by simp only [List.getElem?_toArray, List.getElem?_cons_succ, List.getElem?_cons_zero]; rfl) (fun K hK => ?_) AllReadyH.nil
            go_simp
            refine (implBak_any X Ax cx zs _ (Sl.below (R := EN false) EN.framed HMs.out.sx (Below.drew (Below.refl _ _))) (by omega) (fun x hx => by have := HZD.out x hx; omega)).mono ?_
            rw [HBK.out]
            generalize bakB X zs = N
            rintro e u1 ⟨rfl, hb⟩
            replace hb : Below ws.heap.size ws u1 := Below.trans (Below.drew (Below.refl _ _)) hb
            have HMu := Lib.hid (HMs.out.below_ hb)
            have HZu := Lib.hid (HZs.out.below hb)
            replace r0 := HMu.out.r.c0
            replace r1 := HMu.out.r.c1
            replace x0 := HMu.out.x.c0
            replace x1 := HMu.out.x.c1
            replace z0 := HZu.out.c0
            replace z1 := HZu.out.c1
            have hfd : ∀ W : World, (Instr.field 50 (.agg #[.int .i64 X, .int .i64 N]) 0).run Try.prog W = .ok (.int .i64 X) W := fun _ => by kernel_rfl
            clear hb
            go_wp2_with fail
            refine hK.out _ _ ?_ (fun hHeld => ?_)
            · ((try dsimp only); first | exact ⟨r0, r1, x0, x1, z0, z1⟩ | (simp [go_sem, *]; done))
            clear hK K
            (try simp only [Act.put, List.setIfInBounds_toArray, List.set_cons_zero, List.set_cons_succ])
            refine wpAnyH_takeW (i := 23) (d := some 139) (v := ?_) (by simp only [List.getElem?_toArray, List.getElem?_cons_succ, List.getElem?_cons_zero]; rfl) (by rfl) (by kernel_rfl) (by kernel_rfl) (by kernel_rfl) (by intro _ _ _ h; exact h) (by rfl) ?_ (by assumption) ?_
            rotate_left 1
            · (intro w hSw; (try dsimp only at hSw); go_simp; try (with_reducible rfl))
            (try simp only [Act.put, List.setIfInBounds_toArray, List.set_cons_zero, List.set_cons_succ])
            refine wpAnyH_takeW (i := 26) (d := some 142) (v := ?_) (by simp only [List.getElem?_toArray, List.getElem?_cons_succ, List.getElem?_cons_zero]; rfl) (by rfl) (by kernel_rfl) (by kernel_rfl) (by kernel_rfl) (by intro _ _ _ h; exact h) (by rfl) ?_ (by assumption) ?_
            rotate_left 1
            · (intro w hSw; (try dsimp only at hSw); go_simp; try (with_reducible rfl))
            (try simp only [Act.put, List.setIfInBounds_toArray, List.set_cons_zero, List.set_cons_succ])
            refine wpAnyH_takeW (i := 27) (d := some 143) (v := ?_) (by simp only [List.getElem?_toArray, List.getElem?_cons_succ, List.getElem?_cons_zero]; rfl) (by rfl) (by kernel_rfl) (by kernel_rfl) (by kernel_rfl) (by intro _ _ _ h; exact h) (by rfl) ?_ (by assumption) ?_
            rotate_left 1
            · (intro w hSw; (try dsimp only at hSw); go_simp; try (with_reducible rfl))
            (try simp only [Act.put, List.setIfInBounds_toArray, List.set_cons_zero, List.set_cons_succ])
            refine wpAnyH_takeW (i := 28) (d := some 144) (v := ?_) (by simp only [List.getElem?_toArray, List.getElem?_cons_succ, List.getElem?_cons_zero]; rfl) (by rfl) (by kernel_rfl) (by kernel_rfl) (by kernel_rfl) (by intro _ _ _ h; exact h) (by rfl) ?_ (by assumption) ?_
            rotate_left 1
            · (intro w hSw; (try dsimp only at hSw); go_simp; try (with_reducible rfl))
            (try simp only [Act.put, List.setIfInBounds_toArray, List.set_cons_zero, List.set_cons_succ])
            refine wpAnyH_takeW (i := 29) (d := some 145) (v := ?_) (by simp only [List.getElem?_toArray, List.getElem?_cons_succ, List.getElem?_cons_zero]; rfl) (by rfl) (by kernel_rfl) (by kernel_rfl) (by kernel_rfl) (by intro _ _ _ h; exact h) (by rfl) ?_ (by assumption) ?_
            rotate_left 1
            · (intro w hSw; (try dsimp only at hSw); go_simp; try (with_reducible rfl))
            (try simp only [Act.put, List.setIfInBounds_toArray, List.set_cons_zero, List.set_cons_succ])
            refine wpAnyH_takeW (i := 30) (d := some 146) (v := ?_) (by simp only [List.getElem?_toArray, List.getElem?_cons_succ, List.getElem?_cons_zero]; rfl) (by rfl) (by kernel_rfl) (by kernel_rfl) (by kernel_rfl) (by intro _ _ _ h; exact h) (by rfl) ?_ (by assumption) ?_
            rotate_left 1
            · (intro w hSw; (try dsimp only at hSw); go_simp; try (with_reducible rfl))
            (try simp only [Act.put, List.setIfInBounds_toArray, List.set_cons_zero, List.set_cons_succ])
            refine wpAnyH_takeW (i := 31) (d := some 147) (v := ?_) (by simp only [List.getElem?_toArray, List.getElem?_cons_succ, List.getElem?_cons_zero]; rfl) (by rfl) (by kernel_rfl) (by kernel_rfl) (by kernel_rfl) (by intro _ _ _ h; exact h) (by rfl) ?_ (by assumption) ?_
            rotate_left 1
            · (intro w hSw; (try dsimp only at hSw); go_simp; try (with_reducible rfl))
            (try simp only [Act.put, List.setIfInBounds_toArray, List.set_cons_zero, List.set_cons_succ])
            refine wpAnyH_takeW (i := 32) (d := some 148) (v := ?_) (by simp only [List.getElem?_toArray, List.getElem?_cons_succ, List.getElem?_cons_zero]; rfl) (by rfl) (by kernel_rfl) (by kernel_rfl) (by kernel_rfl) (by intro _ _ _ h; exact h) (by rfl) ?_ (by assumption) ?_
            rotate_left 1
            · (intro w hSw; (try dsimp only at hSw); go_simp; try (with_reducible rfl))
            (try simp only [Act.put, List.setIfInBounds_toArray, List.set_cons_zero, List.set_cons_succ])
            refine wpAnyH_takeW (i := 33) (d := some 149) (v := ?_) (by simp only [List.getElem?_toArray, List.getElem?_cons_succ, List.getElem?_cons_zero]; rfl) (by rfl) (by kernel_rfl) (by kernel_rfl) (by kernel_rfl) (by intro _ _ _ h; exact h) (by rfl) ?_ (by assumption) ?_
            rotate_left 1
            · (intro w hSw; (try dsimp only at hSw); go_simp; try (with_reducible rfl))
            (try simp only [Act.put, List.setIfInBounds_toArray, List.set_cons_zero, List.set_cons_succ])
            refine wpAnyH_takeW (i := 34) (d := some 150) (v := ?_) (by simp only [List.getElem?_toArray, List.getElem?_cons_succ, List.getElem?_cons_zero]; rfl) (by rfl) (by kernel_rfl) (by kernel_rfl) (by kernel_rfl) (by intro _ _ _ h; exact h) (by rfl) ?_ (by assumption) ?_
            rotate_left 1
            · (intro w hSw; (try dsimp only at hSw); go_simp; try (with_reducible rfl))
            (try simp only [Act.put, List.setIfInBounds_toArray, List.set_cons_zero, List.set_cons_succ])
            refine wpAnyH_takeW (i := 35) (d := some 151) (v := ?_) (by simp only [List.getElem?_toArray, List.getElem?_cons_succ, List.getElem?_cons_zero]; rfl) (by rfl) (by kernel_rfl) (by kernel_rfl) (by kernel_rfl) (by intro _ _ _ h; exact h) (by rfl) ?_ (by assumption) ?_
            rotate_left 1
            · (intro w hSw; (try dsimp only at hSw); go_simp; try (with_reducible rfl))
            (try simp only [Act.put, List.setIfInBounds_toArray, List.set_cons_zero, List.set_cons_succ])
            refine wpAnyH_takeW (i := 36) (d := some 152) (v := ?_) (by simp only [List.getElem?_toArray, List.getElem?_cons_succ, List.getElem?_cons_zero]; rfl) (by rfl) (by kernel_rfl) (by kernel_rfl) (by kernel_rfl) (by intro _ _ _ h; exact h) (by rfl) ?_ (by assumption) ?_
            rotate_left 1
            · (intro w hSw; (try dsimp only at hSw); go_simp; try (with_reducible rfl))
            (try simp only [Act.put, List.setIfInBounds_toArray, List.set_cons_zero, List.set_cons_succ])
            refine wpAnyH_takeW (i := 37) (d := some 153) (v := ?_) (by simp only [List.getElem?_toArray, List.getElem?_cons_succ, List.getElem?_cons_zero]; rfl) (by rfl) (by kernel_rfl) (by kernel_rfl) (by kernel_rfl) (by intro _ _ _ h; exact h) (by rfl) ?_ (by assumption) ?_
            rotate_left 1
            · (intro w hSw; (try dsimp only at hSw); go_simp; try (with_reducible rfl))
            (try simp only [Act.put, List.setIfInBounds_toArray, List.set_cons_zero, List.set_cons_succ])
            refine wpAnyH_takeW (i := 38) (d := some 2) (v := ?_) (by simp only [List.getElem?_toArray, List.getElem?_cons_succ, List.getElem?_cons_zero]; rfl) (by rfl) (by kernel_rfl) (by kernel_rfl) (by kernel_rfl) (by intro _ _ _ h; exact h) (by rfl) ?_ (by assumption) ?_
            rotate_left 1
            · (intro w hSw; (try dsimp only at hSw); go_simp; try (with_reducible rfl))
            (try simp only [Act.put, List.setIfInBounds_toArray, List.set_cons_zero, List.set_cons_succ])
            refine wpAnyH_done (by kernel_rfl) ?_ _
            go_wp2
            go_ret
            exact ⟨congrArg (fun b => Ending.returned (Value.bool b)) HEMB.out, HMu.out.below⟩
        · go_simp
          go_wp2_with fail
          refine hK.out _ _ (fun _ => ?_) (fun hHeld => ?_)
          · ((try dsimp only); first | exact ⟨k0, k1⟩ | exact ⟨(World.cell?_alloc_lt _ _ _ (by simp only [World.size_drew]; omega)).trans k0, (World.cell?_alloc_lt _ _ _ (by simp only [World.size_drew]; omega)).trans k1⟩ | (simp [go_sem, *]; done))
          replace hHeld := hHeld (by rfl)
          clear hK K
          (try simp only [Act.put, List.setIfInBounds_toArray, List.set_cons_zero, List.set_cons_succ])
          obtain ⟨v1, hv⟩ : ∃ v, v = (wl.alloc (.cells #[.int .i64 0, .slice none 0 0] 28)).drew := ⟨_, rfl⟩
          rw [← hv] at hHeld ⊢
          have hb : Below wq.heap.size wq v1 := by rw [hv]; exact (by rw [hwq]; show Below _ _ ((World.drew wl).alloc (.cells #[.int .i64 0, .slice none 0 0] 28)); exact Below.alloc (Below.refl _ _) (Nat.le_refl _) _)
          obtain ⟨gx, hgx⟩ : ∃ x, x = wl.heap.size := ⟨_, rfl⟩
          have HZ : Hid (BxR v1 gx 0 none 0 0) := Lib.hid (BxR.new (t := 28) (by rw [hv, hgx]; exact World.heap_new _ _ _ rfl))
          have hgx2 : w2.heap.size < gx := by rw [hgx]; exact HM.out.x.lt
          have HMv1 := Lib.hid (HMwq.out.below_ hb)
          replace k0 := HMv1.out.r.c0
          replace k1 := HMv1.out.r.c1
          have hlt_v1 : w2.heap.size < v1.heap.size := HMv1.out.x.lt
          clear hv hb
          rw [← hgx]
          clear hgx
          refine wpAnyG_ready (rs := [4]) (by kernel_rfl) (by simp) ?_
          refine (AllReadyG.cons (i := 4) (by simp only [List.getElem?_toArray, List.getElem?_cons_succ, List.getElem?_cons_zero]; rfl) (fun K hK => ?_) AllReadyG.nil)
          go_simp
          refine (specMod_any _ 4096 (by unfold I64; rw [IntKind.wrap_i64]; omega) rfl _).mono ?_
          rw [HQ16.out]
          rintro e w' ⟨rfl, rfl⟩
          go_wp2_with fail
          refine hK.out _ _ (fun _ => ?_) (fun hHeld => ?_)
          · ((try dsimp only); first | exact ⟨k0, k1⟩ | exact ⟨(World.cell?_alloc_lt _ _ _ (by simp only [World.size_drew]; omega)).trans k0, (World.cell?_alloc_lt _ _ _ (by simp only [World.size_drew]; omega)).trans k1⟩ | (simp [go_sem, *]; done))
          replace hHeld := hHeld (by rfl)
          clear hK K
          (try simp only [Act.put, List.setIfInBounds_toArray, List.set_cons_zero, List.set_cons_succ])
          obtain ⟨v2, hv⟩ : ∃ v, v = v1 := ⟨_, rfl⟩
          have hb : Below v1.heap.size v1 v2 := by rw [hv]; exact Below.refl _ _
          have HMv2 := Lib.hid (HMv1.out.below_ hb)
          replace k0 := HMv2.out.r.c0
          replace k1 := HMv2.out.r.c1
          have hlt_v2 : w2.heap.size < v2.heap.size := HMv2.out.x.lt
          replace HZ := Lib.hid (HZ.out.below hb)
          rw [← hv] at hHeld ⊢
          clear hv hb
          refine wpAnyG_ready (rs := [5]) (by kernel_rfl) (by simp) ?_
          refine (AllReadyG.cons (i := 5) (by simp only [List.getElem?_toArray, List.getElem?_cons_succ, List.getElem?_cons_zero]; rfl) (fun K hK => ?_) AllReadyG.nil)
          go_simp
          refine (implMS_any st A c ys q16 _ HMv2.out.sr (by omega) (fun x hx => by have := HBD.out x hx; omega)).mono ?_
          rw [HMV.out]
          rintro e v3 ⟨Az, cz, gz, cbz, T1z, T2z, rfl, hb, _, _, _, _, _, _⟩
          have HMv3 := Lib.hid (HMv2.out.below_ hb)
          replace k0 := HMv3.out.r.c0
          replace k1 := HMv3.out.r.c1
          have hlt_v3 : w2.heap.size < v3.heap.size := HMv3.out.x.lt
          replace HZ := Lib.hid (HZ.out.below hb)
          clear hb
          go_wp2_with fail
          refine hK.out _ _ (fun _ => ?_) (fun hHeld => ?_)
          · ((try dsimp only); first | exact ⟨k0, k1⟩ | exact ⟨(World.cell?_alloc_lt _ _ _ (by simp only [World.size_drew]; omega)).trans k0, (World.cell?_alloc_lt _ _ _ (by simp only [World.size_drew]; omega)).trans k1⟩ | (simp [go_sem, *]; done))
          replace hHeld := hHeld (by rfl)
          clear hK K
          (try simp only [Act.put, List.setIfInBounds_toArray, List.set_cons_zero, List.set_cons_succ])
          refine wpAnyG_takeW [7, 8, 10, 11] (i := 6) (d := some 107) (v := ?_) (by simp only [List.getElem?_toArray, List.getElem?_cons_succ, List.getElem?_cons_zero]; rfl) (by rfl) (by kernel_rfl) (by kernel_rfl) (by kernel_rfl) (by kernel_rfl) (by kernel_rfl) (by intro _ _ _ h; exact h) (by rfl) ?_ (by assumption) ?_
          rotate_left 1
          · (intro w hSw; (try dsimp only at hSw); go_simp; try (with_reducible rfl))
          (try simp only [Act.put, List.setIfInBounds_toArray, List.set_cons_zero, List.set_cons_succ])
          refine wpAnyG_takeW [10, 11] (i := 7) (d := some 114) (v := ?_) (by simp only [List.getElem?_toArray, List.getElem?_cons_succ, List.getElem?_cons_zero]; rfl) (by rfl) (by kernel_rfl) (by kernel_rfl) (by kernel_rfl) (by kernel_rfl) (by kernel_rfl) (by intro _ _ _ h; exact h) (by rfl) ?_ (by assumption) ?_
          rotate_left 1
          · (intro w hSw; (try dsimp only at hSw); go_simp; try (with_reducible rfl))
          (try simp only [Act.put, List.setIfInBounds_toArray, List.set_cons_zero, List.set_cons_succ])
          refine wpAnyG_takeW [11] (i := 8) (d := some 115) (v := ?_) (by simp only [List.getElem?_toArray, List.getElem?_cons_succ, List.getElem?_cons_zero]; rfl) (by rfl) (by kernel_rfl) (by kernel_rfl) (by kernel_rfl) (by kernel_rfl) (by kernel_rfl) (by intro _ _ _ h; exact h) (by rfl) ?_ (by assumption) ?_
          rotate_left 1
          · (intro w hSw; (try dsimp only at hSw); go_simp; try (with_reducible rfl))
          (try simp only [Act.put, List.setIfInBounds_toArray, List.set_cons_zero, List.set_cons_succ])
          refine wpAnyG_ready (rs := [10]) (by kernel_rfl) (by simp) ?_
          refine (AllReadyG.cons (i := 10) (by simp only [List.getElem?_toArray, List.getElem?_cons_succ, List.getElem?_cons_zero]; rfl) (fun K hK => ?_) AllReadyG.nil)
          obtain ⟨zc0, zc1, zz0, zz1, zlt⟩ := HZ.out
          go_simp
          go_wp2_with fail
          refine hK.out _ _ (fun _ => ?_) (fun hHeld => ?_)
          · ((try dsimp only); exact ⟨(Chg.cell (stR_chg v3 gx q16 Az 0 cz) (p := ⟨w1.heap.size, 0, none⟩) (by simp only; omega) (by simp only; omega)).trans k0, (Chg.cell (stR_chg v3 gx q16 Az 0 cz) (p := ⟨w1.heap.size, 1, none⟩) (by simp only; omega) (by simp only; omega)).trans k1⟩)
          replace hHeld := hHeld (by rfl)
          clear hK K
          (try simp only [Act.put, List.setIfInBounds_toArray, List.set_cons_zero, List.set_cons_succ])
          refine wpAnyG_takeW [] (i := 11) (d := some 14) (v := ?_) (by simp only [List.getElem?_toArray, List.getElem?_cons_succ, List.getElem?_cons_zero]; rfl) (by rfl) (by kernel_rfl) (by kernel_rfl) (by kernel_rfl) (by kernel_rfl) (by kernel_rfl) (by intro _ _ _ h; exact h) (by rfl) ?_ (by assumption) ?_
          rotate_left 1
          · (intro w hSw; (try dsimp only at hSw); go_simp; try (with_reducible rfl))
          (try simp only [Act.put, List.setIfInBounds_toArray, List.set_cons_zero, List.set_cons_succ])
          refine wpAnyG_done (by kernel_rfl) ?_ _
          obtain ⟨ws, hws⟩ : ∃ x, x = ((v3.setCell ⟨gx, 0, none⟩ (.int .i64 q16)).setCell ⟨gx, 1, none⟩ (.slice Az 0 cz)) := ⟨_, rfl⟩
          have hcs : Chg (fun k => k = gx) v3 ws := by rw [hws]; exact stR_chg v3 gx q16 Az 0 cz
          have HZs : Hid (BxR ws gx q16 Az 0 cz) := Lib.hid (by rw [hws]; exact HZ.out.s0.s1)
          have HMs := Lib.hid (HMv3.out.up hcs (by omega))
          rw [← hws]
          clear hws hcs zc0 zc1 zz0 zz1 k0 k1
          have r0 := HMs.out.r.c0
          have r1 := HMs.out.r.c1
          have x0 := HMs.out.x.c0
          have x1 := HMs.out.x.c1
          have z0 := HZs.out.c0
          have z1 := HZs.out.c1
          have hxs : w2.heap.size < ws.heap.size := HMs.out.x.lt
          go_wp2
          refine wp_region_held_drew (S := (fun w' => w'.cell? ⟨w1.heap.size, 0, none⟩ = some (.int .i64 st) ∧ w'.cell? ⟨w1.heap.size, 1, none⟩ = some (.slice A ys.length c) ∧ w'.cell? ⟨w2.heap.size, 0, none⟩ = some (.int .i64 X) ∧ w'.cell? ⟨w2.heap.size, 1, none⟩ = some (.slice Ax zs.length cx) ∧ w'.cell? ⟨gx, 0, none⟩ = some (.int .i64 q16) ∧ w'.cell? ⟨gx, 1, none⟩ = some (.slice Az 0 cz))) (by kernel_rfl) ?_ (fun hHeld => ?_)
          · first | exact ⟨r0, r1, x0, x1, z0, z1⟩ | (simp [go_sem, *]; done)
          refine wpAnyH_takeW (i := 0) (d := some 116) (v := ?_) (by simp only [List.getElem?_toArray, List.getElem?_cons_succ, List.getElem?_cons_zero]; rfl) (by rfl) (by kernel_rfl) (by kernel_rfl) (by kernel_rfl) (by intro _ _ _ h; exact h) (by rfl) ?_ (by assumption) ?_
          rotate_left 1
          · (intro w hSw; (try dsimp only at hSw); go_simp; try (with_reducible rfl))
          (try simp only [Act.put, List.setIfInBounds_toArray, List.set_cons_zero, List.set_cons_succ])
          refine wpAnyH_takeW (i := 1) (d := some 117) (v := ?_) (by simp only [List.getElem?_toArray, List.getElem?_cons_succ, List.getElem?_cons_zero]; rfl) (by rfl) (by kernel_rfl) (by kernel_rfl) (by kernel_rfl) (by intro _ _ _ h; exact h) (by rfl) ?_ (by assumption) ?_
          rotate_left 1
          · (intro w hSw; (try dsimp only at hSw); go_simp; try (with_reducible rfl))
          (try simp only [Act.put, List.setIfInBounds_toArray, List.set_cons_zero, List.set_cons_succ])
          refine wpAnyH_takeW (i := 2) (d := some 118) (v := ?_) (by simp only [List.getElem?_toArray, List.getElem?_cons_succ, List.getElem?_cons_zero]; rfl) (by rfl) (by kernel_rfl) (by kernel_rfl) (by kernel_rfl) (by intro _ _ _ h; exact h) (by rfl) ?_ (by assumption) ?_
          rotate_left 1
          · (intro w hSw; (try dsimp only at hSw); go_simp; try (with_reducible rfl))
          (try simp only [Act.put, List.setIfInBounds_toArray, List.set_cons_zero, List.set_cons_succ])
          refine wpAnyH_takeW (i := 3) (d := some 119) (v := ?_) (by simp only [List.getElem?_toArray, List.getElem?_cons_succ, List.getElem?_cons_zero]; rfl) (by rfl) (by kernel_rfl) (by kernel_rfl) (by kernel_rfl) (by intro _ _ _ h; exact h) (by rfl) ?_ (by assumption) ?_
          rotate_left 1
          · (intro w hSw; (try dsimp only at hSw); go_simp; try (with_reducible rfl))
          (try simp only [Act.put, List.setIfInBounds_toArray, List.set_cons_zero, List.set_cons_succ])
          refine wpAnyH_takeW (i := 4) (d := some 120) (v := ?_) (by simp only [List.getElem?_toArray, List.getElem?_cons_succ, List.getElem?_cons_zero]; rfl) (by rfl) (by kernel_rfl) (by kernel_rfl) (by kernel_rfl) (by intro _ _ _ h; exact h) (by rfl) ?_ (by assumption) ?_
          rotate_left 1
          · (intro w hSw; (try dsimp only at hSw); go_simp; try (with_reducible rfl))
          (try simp only [Act.put, List.setIfInBounds_toArray, List.set_cons_zero, List.set_cons_succ])
          refine wpAnyH_takeW (i := 5) (d := some 121) (v := ?_) (by simp only [List.getElem?_toArray, List.getElem?_cons_succ, List.getElem?_cons_zero]; rfl) (by rfl) (by kernel_rfl) (by kernel_rfl) (by kernel_rfl) (by intro _ _ _ h; exact h) (by rfl) ?_ (by assumption) ?_
          rotate_left 1
          · (intro w hSw; (try dsimp only at hSw); go_simp; try (with_reducible rfl))
          (try simp only [Act.put, List.setIfInBounds_toArray, List.set_cons_zero, List.set_cons_succ])
          refine wpAnyH_takeW (i := 6) (d := some 122) (v := ?_) (by simp only [List.getElem?_toArray, List.getElem?_cons_succ, List.getElem?_cons_zero]; rfl) (by rfl) (by kernel_rfl) (by kernel_rfl) (by kernel_rfl) (by intro _ _ _ h; exact h) (by rfl) ?_ (by assumption) ?_
          rotate_left 1
          · (intro w hSw; (try dsimp only at hSw); go_simp; try (with_reducible rfl))
          (try simp only [Act.put, List.setIfInBounds_toArray, List.set_cons_zero, List.set_cons_succ])
          refine wpAnyH_takeW (i := 7) (d := some 123) (v := ?_) (by simp only [List.getElem?_toArray, List.getElem?_cons_succ, List.getElem?_cons_zero]; rfl) (by rfl) (by kernel_rfl) (by kernel_rfl) (by kernel_rfl) (by intro _ _ _ h; exact h) (by rfl) ?_ (by assumption) ?_
          rotate_left 1
          · (intro w hSw; (try dsimp only at hSw); go_simp; try (with_reducible rfl))
          (try simp only [Act.put, List.setIfInBounds_toArray, List.set_cons_zero, List.set_cons_succ])
          refine wpAnyH_takeW (i := 8) (d := some 124) (v := ?_) (by simp only [List.getElem?_toArray, List.getElem?_cons_succ, List.getElem?_cons_zero]; rfl) (by rfl) (by kernel_rfl) (by kernel_rfl) (by kernel_rfl) (by intro _ _ _ h; exact h) (by rfl) ?_ (by assumption) ?_
          rotate_left 1
          · (intro w hSw; (try dsimp only at hSw); go_simp; try (with_reducible rfl))
          (try simp only [Act.put, List.setIfInBounds_toArray, List.set_cons_zero, List.set_cons_succ])
          refine wpAnyH_takeW (i := 9) (d := some 125) (v := ?_) (by simp only [List.getElem?_toArray, List.getElem?_cons_succ, List.getElem?_cons_zero]; rfl) (by rfl) (by kernel_rfl) (by kernel_rfl) (by kernel_rfl) (by intro _ _ _ h; exact h) (by rfl) ?_ (by assumption) ?_
          rotate_left 1
          · (intro w hSw; (try dsimp only at hSw); go_simp; try (with_reducible rfl))
          (try simp only [Act.put, List.setIfInBounds_toArray, List.set_cons_zero, List.set_cons_succ])
          refine wpAnyH_takeW (i := 10) (d := some 126) (v := ?_) (by simp only [List.getElem?_toArray, List.getElem?_cons_succ, List.getElem?_cons_zero]; rfl) (by rfl) (by kernel_rfl) (by kernel_rfl) (by kernel_rfl) (by intro _ _ _ h; exact h) (by rfl) ?_ (by assumption) ?_
          rotate_left 1
          · (intro w hSw; (try dsimp only at hSw); go_simp; try (with_reducible rfl))
          (try simp only [Act.put, List.setIfInBounds_toArray, List.set_cons_zero, List.set_cons_succ])
          refine wpAnyH_takeW (i := 11) (d := some 127) (v := ?_) (by simp only [List.getElem?_toArray, List.getElem?_cons_succ, List.getElem?_cons_zero]; rfl) (by rfl) (by kernel_rfl) (by kernel_rfl) (by kernel_rfl) (by intro _ _ _ h; exact h) (by rfl) ?_ (by assumption) ?_
          rotate_left 1
          · (intro w hSw; (try dsimp only at hSw); go_simp; try (with_reducible rfl))
          (try simp only [Act.put, List.setIfInBounds_toArray, List.set_cons_zero, List.set_cons_succ])
          refine wpAnyH_takeW (i := 12) (d := some 128) (v := ?_) (by simp only [List.getElem?_toArray, List.getElem?_cons_succ, List.getElem?_cons_zero]; rfl) (by rfl) (by kernel_rfl) (by kernel_rfl) (by kernel_rfl) (by intro _ _ _ h; exact h) (by rfl) ?_ (by assumption) ?_
          rotate_left 1
          · (intro w hSw; (try dsimp only at hSw); go_simp; try (with_reducible rfl))
          (try simp only [Act.put, List.setIfInBounds_toArray, List.set_cons_zero, List.set_cons_succ])
          refine wpAnyH_takeW (i := 13) (d := some 129) (v := ?_) (by simp only [List.getElem?_toArray, List.getElem?_cons_succ, List.getElem?_cons_zero]; rfl) (by rfl) (by kernel_rfl) (by kernel_rfl) (by kernel_rfl) (by intro _ _ _ h; exact h) (by rfl) ?_ (by assumption) ?_
          rotate_left 1
          · (intro w hSw; (try dsimp only at hSw); go_simp; try (with_reducible rfl))
          (try simp only [Act.put, List.setIfInBounds_toArray, List.set_cons_zero, List.set_cons_succ])
          refine wpAnyH_takeW (i := 14) (d := some 130) (v := ?_) (by simp only [List.getElem?_toArray, List.getElem?_cons_succ, List.getElem?_cons_zero]; rfl) (by rfl) (by kernel_rfl) (by kernel_rfl) (by kernel_rfl) (by intro _ _ _ h; exact h) (by rfl) ?_ (by assumption) ?_
          rotate_left 1
          · (intro w hSw; (try dsimp only at hSw); go_simp; try (with_reducible rfl))
          (try simp only [Act.put, List.setIfInBounds_toArray, List.set_cons_zero, List.set_cons_succ])
          refine wpAnyH_takeW (i := 15) (d := some 131) (v := ?_) (by simp only [List.getElem?_toArray, List.getElem?_cons_succ, List.getElem?_cons_zero]; rfl) (by rfl) (by kernel_rfl) (by kernel_rfl) (by kernel_rfl) (by intro _ _ _ h; exact h) (by rfl) ?_ (by assumption) ?_
          rotate_left 1
          · (intro w hSw; (try dsimp only at hSw); go_simp; try (with_reducible rfl))
          (try simp only [Act.put, List.setIfInBounds_toArray, List.set_cons_zero, List.set_cons_succ])
          refine wpAnyH_takeW (i := 16) (d := some 132) (v := ?_) (by simp only [List.getElem?_toArray, List.getElem?_cons_succ, List.getElem?_cons_zero]; rfl) (by rfl) (by kernel_rfl) (by kernel_rfl) (by kernel_rfl) (by intro _ _ _ h; exact h) (by rfl) ?_ (by assumption) ?_
          rotate_left 1
          · (intro w hSw; (try dsimp only at hSw); go_simp; try (with_reducible rfl))
          (try simp only [Act.put, List.setIfInBounds_toArray, List.set_cons_zero, List.set_cons_succ])
          refine wpAnyH_ready (rs := [17]) (by kernel_rfl) (by simp) ?_
          refine AllReadyH.cons (i := 17) (by simp only [List.getElem?_toArray, List.getElem?_cons_succ, List.getElem?_cons_zero]; rfl) (fun K hK => ?_) AllReadyH.nil
          go_simp
          refine (specDist_any st q16 _).mono ?_
          rw [HD16.out]
          rintro e w' ⟨rfl, rfl⟩
          go_wp2_with fail
          refine hK.out _ _ ?_ (fun hHeld => ?_)
          · ((try dsimp only); first | exact ⟨r0, r1, x0, x1, z0, z1⟩ | (simp [go_sem, *]; done))
          clear hK K
          (try simp only [Act.put, List.setIfInBounds_toArray, List.set_cons_zero, List.set_cons_succ])
          refine wpAnyH_takeW (i := 18) (d := some 134) (v := ?_) (by simp only [List.getElem?_toArray, List.getElem?_cons_succ, List.getElem?_cons_zero]; rfl) (by rfl) (by kernel_rfl) (by kernel_rfl) (by kernel_rfl) (by intro _ _ _ h; exact h) (by rfl) ?_ (by assumption) ?_
          rotate_left 1
          · (intro w hSw; (try dsimp only at hSw); go_simp; try (with_reducible rfl))
          (try simp only [Act.put, List.setIfInBounds_toArray, List.set_cons_zero, List.set_cons_succ])
          refine wpAnyH_takeW (i := 19) (d := some 135) (v := ?_) (by simp only [List.getElem?_toArray, List.getElem?_cons_succ, List.getElem?_cons_zero]; rfl) (by rfl) (by kernel_rfl) (by kernel_rfl) (by kernel_rfl) (by intro _ _ _ h; exact h) (by rfl) ?_ (by assumption) ?_
          rotate_left 1
          · (intro w hSw; (try dsimp only at hSw); go_simp; try (with_reducible rfl))
          (try simp only [Act.put, List.setIfInBounds_toArray, List.set_cons_zero, List.set_cons_succ])
          refine wpAnyH_takeW (i := 20) (d := some 136) (v := ?_) (by simp only [List.getElem?_toArray, List.getElem?_cons_succ, List.getElem?_cons_zero]; rfl) (by rfl) (by kernel_rfl) (by kernel_rfl) (by kernel_rfl) (by intro _ _ _ h; exact h) (by rfl) ?_ (by assumption) ?_
          rotate_left 1
          · (intro w hSw; (try dsimp only at hSw); go_simp; try (with_reducible rfl))
          (try simp only [Act.put, List.setIfInBounds_toArray, List.set_cons_zero, List.set_cons_succ])
          refine wpAnyH_takeW (i := 21) (d := some 137) (v := ?_) (by simp only [List.getElem?_toArray, List.getElem?_cons_succ, List.getElem?_cons_zero]; rfl) (by rfl) (by kernel_rfl) (by kernel_rfl) (by kernel_rfl) (by intro _ _ _ h; exact h) (by rfl) ?_ (by assumption) ?_
          rotate_left 1
          · (intro w hSw; (try dsimp only at hSw); go_simp; try (with_reducible rfl))
          (try simp only [Act.put, List.setIfInBounds_toArray, List.set_cons_zero, List.set_cons_succ])
          refine wpAnyH_takeW (i := 24) (d := some 140) (v := ?_) (by simp only [List.getElem?_toArray, List.getElem?_cons_succ, List.getElem?_cons_zero]; rfl) (by rfl) (by kernel_rfl) (by kernel_rfl) (by kernel_rfl) (by intro _ _ _ h; exact h) (by rfl) ?_ (by assumption) ?_
          rotate_left 1
          · (intro w hSw; (try dsimp only at hSw); go_simp; try (with_reducible rfl))
          (try simp only [Act.put, List.setIfInBounds_toArray, List.set_cons_zero, List.set_cons_succ])
          refine wpAnyH_takeW (i := 25) (d := some 141) (v := ?_) (by simp only [List.getElem?_toArray, List.getElem?_cons_succ, List.getElem?_cons_zero]; rfl) (by rfl) (by kernel_rfl) (by kernel_rfl) (by kernel_rfl) (by intro _ _ _ h; exact h) (by rfl) ?_ (by assumption) ?_
          rotate_left 1
          · (intro w hSw; (try dsimp only at hSw); go_simp; try (with_reducible rfl))
          (try simp only [Act.put, List.setIfInBounds_toArray, List.set_cons_zero, List.set_cons_succ])
          refine wpAnyH_ready (rs := [22]) (by kernel_rfl) (by simp) ?_
          refine AllReadyH.cons (i := 22) (by simp only [List.getElem?_toArray, List.getElem?_cons_succ, List.getElem?_cons_zero]; rfl) (fun K hK => ?_) AllReadyH.nil
          go_simp
          refine (implBak_any X Ax cx zs _ (Sl.below (R := EN false) EN.framed HMs.out.sx (Below.drew (Below.refl _ _))) (by omega) (fun x hx => by have := HZD.out x hx; omega)).mono ?_
          rw [HBK.out]
          generalize bakB X zs = N
          rintro e u1 ⟨rfl, hb⟩
          replace hb : Below ws.heap.size ws u1 := Below.trans (Below.drew (Below.refl _ _)) hb
          have HMu := Lib.hid (HMs.out.below_ hb)
          have HZu := Lib.hid (HZs.out.below hb)
          replace r0 := HMu.out.r.c0
          replace r1 := HMu.out.r.c1
          replace x0 := HMu.out.x.c0
          replace x1 := HMu.out.x.c1
          replace z0 := HZu.out.c0
          replace z1 := HZu.out.c1
          have hfd : ∀ W : World, (Instr.field 50 (.agg #[.int .i64 X, .int .i64 N]) 0).run Try.prog W = .ok (.int .i64 X) W := fun _ => by kernel_rfl
          clear hb
          go_wp2_with fail
          refine hK.out _ _ ?_ (fun hHeld => ?_)
          · ((try dsimp only); first | exact ⟨r0, r1, x0, x1, z0, z1⟩ | (simp [go_sem, *]; done))
          clear hK K
          (try simp only [Act.put, List.setIfInBounds_toArray, List.set_cons_zero, List.set_cons_succ])
          refine wpAnyH_takeW (i := 23) (d := some 139) (v := ?_) (by simp only [List.getElem?_toArray, List.getElem?_cons_succ, List.getElem?_cons_zero]; rfl) (by rfl) (by kernel_rfl) (by kernel_rfl) (by kernel_rfl) (by intro _ _ _ h; exact h) (by rfl) ?_ (by assumption) ?_
          rotate_left 1
          · (intro w hSw; (try dsimp only at hSw); go_simp; try (with_reducible rfl))
          (try simp only [Act.put, List.setIfInBounds_toArray, List.set_cons_zero, List.set_cons_succ])
          refine wpAnyH_takeW (i := 26) (d := some 142) (v := ?_) (by simp only [List.getElem?_toArray, List.getElem?_cons_succ, List.getElem?_cons_zero]; rfl) (by rfl) (by kernel_rfl) (by kernel_rfl) (by kernel_rfl) (by intro _ _ _ h; exact h) (by rfl) ?_ (by assumption) ?_
          rotate_left 1
          · (intro w hSw; (try dsimp only at hSw); go_simp; try (with_reducible rfl))
          (try simp only [Act.put, List.setIfInBounds_toArray, List.set_cons_zero, List.set_cons_succ])
          refine wpAnyH_takeW (i := 27) (d := some 143) (v := ?_) (by simp only [List.getElem?_toArray, List.getElem?_cons_succ, List.getElem?_cons_zero]; rfl) (by rfl) (by kernel_rfl) (by kernel_rfl) (by kernel_rfl) (by intro _ _ _ h; exact h) (by rfl) ?_ (by assumption) ?_
          rotate_left 1
          · (intro w hSw; (try dsimp only at hSw); go_simp; try (with_reducible rfl))
          (try simp only [Act.put, List.setIfInBounds_toArray, List.set_cons_zero, List.set_cons_succ])
          refine wpAnyH_takeW (i := 28) (d := some 144) (v := ?_) (by simp only [List.getElem?_toArray, List.getElem?_cons_succ, List.getElem?_cons_zero]; rfl) (by rfl) (by kernel_rfl) (by kernel_rfl) (by kernel_rfl) (by intro _ _ _ h; exact h) (by rfl) ?_ (by assumption) ?_
          rotate_left 1
          · (intro w hSw; (try dsimp only at hSw); go_simp; try (with_reducible rfl))
          (try simp only [Act.put, List.setIfInBounds_toArray, List.set_cons_zero, List.set_cons_succ])
          refine wpAnyH_takeW (i := 29) (d := some 145) (v := ?_) (by simp only [List.getElem?_toArray, List.getElem?_cons_succ, List.getElem?_cons_zero]; rfl) (by rfl) (by kernel_rfl) (by kernel_rfl) (by kernel_rfl) (by intro _ _ _ h; exact h) (by rfl) ?_ (by assumption) ?_
          rotate_left 1
          · (intro w hSw; (try dsimp only at hSw); go_simp; try (with_reducible rfl))
          (try simp only [Act.put, List.setIfInBounds_toArray, List.set_cons_zero, List.set_cons_succ])
          refine wpAnyH_takeW (i := 30) (d := some 146) (v := ?_) (by simp only [List.getElem?_toArray, List.getElem?_cons_succ, List.getElem?_cons_zero]; rfl) (by rfl) (by kernel_rfl) (by kernel_rfl) (by kernel_rfl) (by intro _ _ _ h; exact h) (by rfl) ?_ (by assumption) ?_
          rotate_left 1
          · (intro w hSw; (try dsimp only at hSw); go_simp; try (with_reducible rfl))
          (try simp only [Act.put, List.setIfInBounds_toArray, List.set_cons_zero, List.set_cons_succ])
          refine wpAnyH_takeW (i := 31) (d := some 147) (v := ?_) (by simp only [List.getElem?_toArray, List.getElem?_cons_succ, List.getElem?_cons_zero]; rfl) (by rfl) (by kernel_rfl) (by kernel_rfl) (by kernel_rfl) (by intro _ _ _ h; exact h) (by rfl) ?_ (by assumption) ?_
          rotate_left 1
          · (intro w hSw; (try dsimp only at hSw); go_simp; try (with_reducible rfl))
          (try simp only [Act.put, List.setIfInBounds_toArray, List.set_cons_zero, List.set_cons_succ])
          refine wpAnyH_takeW (i := 32) (d := some 148) (v := ?_) (by simp only [List.getElem?_toArray, List.getElem?_cons_succ, List.getElem?_cons_zero]; rfl) (by rfl) (by kernel_rfl) (by kernel_rfl) (by kernel_rfl) (by intro _ _ _ h; exact h) (by rfl) ?_ (by assumption) ?_
          rotate_left 1
          · (intro w hSw; (try dsimp only at hSw); go_simp; try (with_reducible rfl))
          (try simp only [Act.put, List.setIfInBounds_toArray, List.set_cons_zero, List.set_cons_succ])
          refine wpAnyH_takeW (i := 33) (d := some 149) (v := ?_) (by simp only [List.getElem?_toArray, List.getElem?_cons_succ, List.getElem?_cons_zero]; rfl) (by rfl) (by kernel_rfl) (by kernel_rfl) (by kernel_rfl) (by intro _ _ _ h; exact h) (by rfl) ?_ (by assumption) ?_
          rotate_left 1
          · (intro w hSw; (try dsimp only at hSw); go_simp; try (with_reducible rfl))
          (try simp only [Act.put, List.setIfInBounds_toArray, List.set_cons_zero, List.set_cons_succ])
          refine wpAnyH_takeW (i := 34) (d := some 150) (v := ?_) (by simp only [List.getElem?_toArray, List.getElem?_cons_succ, List.getElem?_cons_zero]; rfl) (by rfl) (by kernel_rfl) (by kernel_rfl) (by kernel_rfl) (by intro _ _ _ h; exact h) (by rfl) ?_ (by assumption) ?_
          rotate_left 1
          · (intro w hSw; (try dsimp only at hSw); go_simp; try (with_reducible rfl))
          (try simp only [Act.put, List.setIfInBounds_toArray, List.set_cons_zero, List.set_cons_succ])
          refine wpAnyH_takeW (i := 35) (d := some 151) (v := ?_) (by simp only [List.getElem?_toArray, List.getElem?_cons_succ, List.getElem?_cons_zero]; rfl) (by rfl) (by kernel_rfl) (by kernel_rfl) (by kernel_rfl) (by intro _ _ _ h; exact h) (by rfl) ?_ (by assumption) ?_
          rotate_left 1
          · (intro w hSw; (try dsimp only at hSw); go_simp; try (with_reducible rfl))
          (try simp only [Act.put, List.setIfInBounds_toArray, List.set_cons_zero, List.set_cons_succ])
          refine wpAnyH_takeW (i := 36) (d := some 152) (v := ?_) (by simp only [List.getElem?_toArray, List.getElem?_cons_succ, List.getElem?_cons_zero]; rfl) (by rfl) (by kernel_rfl) (by kernel_rfl) (by kernel_rfl) (by intro _ _ _ h; exact h) (by rfl) ?_ (by assumption) ?_
          rotate_left 1
          · (intro w hSw; (try dsimp only at hSw); go_simp; try (with_reducible rfl))
          (try simp only [Act.put, List.setIfInBounds_toArray, List.set_cons_zero, List.set_cons_succ])
          refine wpAnyH_takeW (i := 37) (d := some 153) (v := ?_) (by simp only [List.getElem?_toArray, List.getElem?_cons_succ, List.getElem?_cons_zero]; rfl) (by rfl) (by kernel_rfl) (by kernel_rfl) (by kernel_rfl) (by intro _ _ _ h; exact h) (by rfl) ?_ (by assumption) ?_
          rotate_left 1
          · (intro w hSw; (try dsimp only at hSw); go_simp; try (with_reducible rfl))
          (try simp only [Act.put, List.setIfInBounds_toArray, List.set_cons_zero, List.set_cons_succ])
          refine wpAnyH_takeW (i := 38) (d := some 2) (v := ?_) (by simp only [List.getElem?_toArray, List.getElem?_cons_succ, List.getElem?_cons_zero]; rfl) (by rfl) (by kernel_rfl) (by kernel_rfl) (by kernel_rfl) (by intro _ _ _ h; exact h) (by rfl) ?_ (by assumption) ?_
          rotate_left 1
          · (intro w hSw; (try dsimp only at hSw); go_simp; try (with_reducible rfl))
          (try simp only [Act.put, List.setIfInBounds_toArray, List.set_cons_zero, List.set_cons_succ])
          refine wpAnyH_done (by kernel_rfl) ?_ _
          go_wp2
          go_ret
          exact ⟨congrArg (fun b => Ending.returned (Value.bool b)) HEMB.out, HMu.out.below⟩

end Go.Proofs.Ytnfgdgmmbddmgaa
