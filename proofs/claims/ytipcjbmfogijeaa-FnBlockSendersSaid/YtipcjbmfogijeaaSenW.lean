/- FnBlockSenders: outstanding frames are those that were sent and not acknowledged, and the window is never exceeded. -/
import Derived.Test.YtipcjbmfogijeaaDsnr
import Derived.Test.YtipcjbmfogijeaaLawMx
import Derived.Test.YtipcjbmfogijeaaSendD
namespace Go.Proofs.Ytipcjbmfogijeaa
open Go.RowKit
set_option linter.unusedVariables false
set_option linter.unusedSimpArgs false

structure SenM (w : World) (b1 b2 : Nat) (st nx ak bs bm X K : Int) (W : World) : Prop where
  below : Below w.heap.size w W
  ge : w.heap.size ≤ b1
  lt12 : b1 + 1 < b2
  lt2 : b2 < W.heap.size
  s : Bx3 W b1 st nx ak
  a : Bx2 W (b1 + 1) bs bm
  x : Bx3 W b2 X nx K
theorem SenM.up {w W W' : World} {b1 b2 g : Nat} {st nx ak bs bm X K : Int} (h : SenM w b1 b2 st nx ak bs bm X K W) (hc : Chg (fun k => k = g) W W') (hg : ∀ b, b = g → b2 < b) : SenM w b1 b2 st nx ak bs bm X K W' := by
  have h1 := h.lt12
  have h2 := h.lt2
  have h3 := h.ge
  have h4 := hg g rfl
  exact ⟨h.below.trans (hc.below h.below.size (fun k hk => by omega)), h.ge, h.lt12, Nat.lt_of_lt_of_le h.lt2 hc.size, h.s.chg hc (by omega), h.a.chg hc (by omega), h.x.chg hc (by omega)⟩
theorem SenM.below_ {w W W' : World} {b1 b2 : Nat} {st nx ak bs bm X K : Int} (h : SenM w b1 b2 st nx ak bs bm X K W) (hb : Below W.heap.size W W') : SenM w b1 b2 st nx ak bs bm X K W' :=
  ⟨h.below.trans (hb.mono h.below.size), h.ge, h.lt12, Nat.lt_of_lt_of_le h.lt2 hb.size, h.s.below hb, h.a.below hb, h.x.below hb⟩
theorem outB (st nx ak : Int) (w : World) : Calls Try.prog 26 #[.agg #[.int .i64 st, .int .i64 nx, .int .i64 ak]] w fun e w' => ∃ g c, e = .returned (.slice (some ⟨g, 0, none⟩) (outS st nx ak).length c) ∧ Below w.heap.size w w' ∧ Rw false .i64 w' (fun b => b = g) (some ⟨g, 0, none⟩) (outS st nx ak) :=
  (implOutS_any st nx ak w).mono fun e w' ⟨g, c, X, d, h1, h2, h3, h4⟩ => ⟨g, c, h1, by rw [h2]; exact Below.ext (Below.refl _ _) (Nat.le_refl _) _ _, (Rw.of_own h4).read.wider (fun b hb => by have := hb.2; injection this with this; injection this with this; exact this.symm)⟩
theorem outBs (st nx ak : Int) (w : World) : Calls Try.prog 25 #[.agg #[.int .i64 st, .int .i64 nx, .int .i64 ak]] w fun e w' => ∃ g c, e = .returned (.slice (some ⟨g, 0, none⟩) (outS st nx ak).length c) ∧ Below w.heap.size w w' :=
  (specOutS_any st nx ak w).mono fun e w' ⟨g, c, X, d, h1, h2, h3, h4⟩ => ⟨g, c, h1, by rw [h2]; exact Below.ext (Below.refl _ _) (Nat.le_refl _) _ _⟩

set_option maxRecDepth 10000 in
set_option maxHeartbeats 16000000 in
theorem blockSenders_walk (AC : Option Addr) (cc : Nat) (code : List Int) (w : World) (hx : Rw false .u8 w (fun g => g < w.heap.size) AC code) (hlen : code.length ≤ 9223372036854775807) (hb : ∀ x ∈ code, 0 ≤ x ∧ x ≤ 255) :
    Calls Try.prog 11 #[.slice AC code.length cc] w fun e w' => e = .returned (.bool true) ∧ Below w.heap.size w w' := by
  by_cases hbig : 1048576 < code.length
  · have HBG : Hid (bigB code.length = true) := Lib.hid (by simp [bigB, hbig])
    clear hx hb
    go_enter Try.func11, Try.ntmps11
    go_wp2_with (first | (go_at_call 34; refine (big_any _ _ _ _).mono ?_; rw [HBG.out]; rintro e w' ⟨rfl, rfl⟩))
    go_ret
    exact ⟨rfl, Below.refl _ _⟩
  have HBG : Hid (bigB code.length = false) := Lib.hid (by simp [bigB, hbig])
  have hcl : code.length ≤ 1000000000 := by omega
  have HX := Lib.hid hx
  have HB := Lib.hid hb
  clear hx hlen hb
  go_enter Try.func11, Try.ntmps11
  go_wp2_with (first | (go_at_call 34; refine (big_any _ _ _ _).mono ?_; rw [HBG.out]; rintro e w' ⟨rfl, rfl⟩))
  refine (drawRBA_any AC cc code _ HX.out hcl HB.out).mono ?_
  rintro e w1 ⟨st, nx, ak, bs, bm, rfl, hb1⟩
  have HB1 := Lib.hid hb1
  have hs1 := hb1.size
  clear hb1
  obtain ⟨X, hXe⟩ : ∃ x, x = (recvA st nx ak bs bm).1 := ⟨_, rfl⟩
  obtain ⟨K, hKe⟩ : ∃ x, x = (recvA st nx ak bs bm).2 := ⟨_, rfl⟩
  have HXE := Lib.hid hXe
  have HKE := Lib.hid hKe
  clear hXe hKe
  go_wp2_with fail
  refine (implRecv_any st nx ak bs bm _).mono ?_
  rw [← HXE.out, ← HKE.out]
  rintro e w2 ⟨rfl, hb2⟩
  have HS2 : Hid (Bx3 w2 w1.heap.size st nx ak) := Lib.hid ((Bx3.new (t := 29) (((Below.alloc (Below.refl _ _) (Nat.le_refl _) _).block _ (by simp)).trans (World.heap_new w1 (.cells #[.int .i64 st, .int .i64 nx, .int .i64 ak] 29) _ rfl))).below hb2)
  have HA2 : Hid (Bx2 w2 (w1.heap.size + 1) bs bm) := Lib.hid ((Bx2.new (t := 25) (World.heap_new _ _ _ (by simp))).below hb2)
  have HB2 := Lib.hid (HB1.out.trans ((Below.trans (by repeat (first | (with_reducible exact Below.refl _ _) | (with_reducible refine Below.ext ?_ (by go_size) _ _) | (with_reducible refine Below.alloc ?_ (by go_size) _) | (with_reducible refine Below.setCell ?_ (by go_size) _) | (with_reducible refine Below.drew ?_) | (with_reducible refine Below.drewN_ ?_ _))) (hb2.mono (by simp; omega) : Below w1.heap.size _ w2)).mono HB1.out.size))
  clear hb2
  go_wp2
  obtain ⟨w3, hw3⟩ : ∃ v, v = w2.alloc (.cells #[.int .i64 X, .int .i64 nx, .int .i64 K] 29) := ⟨_, rfl⟩
  rw [← hw3]
  have hal : Below w2.heap.size w2 w3 := by rw [hw3]; exact Below.alloc (Below.refl _ _) (Nat.le_refl _) _
  have HM3 : Hid (SenM w w1.heap.size w2.heap.size st nx ak bs bm X K w3) := Lib.hid ⟨HB2.out.trans (hal.mono HB2.out.size), hs1, HA2.out.lt, by rw [hw3]; simp, HS2.out.below hal, HA2.out.below hal, by rw [hw3]; exact Bx3.new (World.heap_new _ _ _ rfl)⟩
  clear hw3 hal HB1 HB2 HS2 HA2
  have k0 := HM3.out.s.c0
  have k1 := HM3.out.s.c1
  have k2 := HM3.out.s.c2
  refine wp_region_held_drew (S := (fun w' => w'.cell? ⟨w1.heap.size, 0, none⟩ = some (.int .i64 st) ∧ w'.cell? ⟨w1.heap.size, 1, none⟩ = some (.int .i64 nx) ∧ w'.cell? ⟨w1.heap.size, 2, none⟩ = some (.int .i64 ak))) (by kernel_rfl) ?_ (fun hHeld => ?_)
  · first | exact ⟨k0, k1, k2⟩ | (simp [go_sem, *]; done)
  refine wpAnyH_takeW (i := 0) (d := some 27) (v := ?_) (by simp only [List.getElem?_toArray, List.getElem?_cons_succ, List.getElem?_cons_zero]; rfl) (by rfl) (by kernel_rfl) (by kernel_rfl) (by kernel_rfl) (by intro _ _ _ h; exact h) (by rfl) ?_ (by assumption) ?_
  rotate_left 1
  · (intro w hSw; (try dsimp only at hSw); go_simp; try (with_reducible rfl))
  (try simp only [Act.put, List.setIfInBounds_toArray, List.set_cons_zero, List.set_cons_succ])
  refine wpAnyH_takeW (i := 2) (d := some 29) (v := ?_) (by simp only [List.getElem?_toArray, List.getElem?_cons_succ, List.getElem?_cons_zero]; rfl) (by rfl) (by kernel_rfl) (by kernel_rfl) (by kernel_rfl) (by intro _ _ _ h; exact h) (by rfl) ?_ (by assumption) ?_
  rotate_left 1
  · (intro w hSw; (try dsimp only at hSw); go_simp; try (with_reducible rfl))
  (try simp only [Act.put, List.setIfInBounds_toArray, List.set_cons_zero, List.set_cons_succ])
  refine wpAnyH_ready (rs := [1]) (by kernel_rfl) (by simp) ?_
  refine AllReadyH.cons (i := 1) (by simp only [List.getElem?_toArray, List.getElem?_cons_succ, List.getElem?_cons_zero]; rfl) (fun K hK => ?_) AllReadyH.nil
  go_simp
  refine (implVS_any st nx ak _).mono ?_
  rintro e w4 ⟨rfl, hb⟩
  replace hb : Below w3.heap.size w3 w4 := Below.trans (Below.drew (Below.refl _ _)) hb
  have HM4 := Lib.hid (HM3.out.below_ hb)
  have k0 := HM4.out.s.c0
  have k1 := HM4.out.s.c1
  have k2 := HM4.out.s.c2
  clear hb
  go_wp2_with fail
  refine hK.out _ _ ?_ (fun hHeld => ?_)
  · ((try dsimp only); first | exact ⟨k0, k1, k2⟩ | (simp [go_sem, *]; done))
  clear hK K
  (try simp only [Act.put, List.setIfInBounds_toArray, List.set_cons_zero, List.set_cons_succ])
  refine wpAnyH_ready (rs := [3]) (by kernel_rfl) (by simp) ?_
  refine AllReadyH.cons (i := 3) (by simp only [List.getElem?_toArray, List.getElem?_cons_succ, List.getElem?_cons_zero]; rfl) (fun K hK => ?_) AllReadyH.nil
  go_simp
  refine (specVS_any st nx ak _).mono ?_
  rintro e w5 ⟨rfl, hb⟩
  have HM5 := Lib.hid (HM4.out.below_ hb)
  have k0 := HM5.out.s.c0
  have k1 := HM5.out.s.c1
  have k2 := HM5.out.s.c2
  clear hb
  go_wp2_with fail
  refine hK.out _ _ ?_ (fun hHeld => ?_)
  · ((try dsimp only); first | exact ⟨k0, k1, k2⟩ | (simp [go_sem, *]; done))
  clear hK K
  (try simp only [Act.put, List.setIfInBounds_toArray, List.set_cons_zero, List.set_cons_succ])
  refine wpAnyH_takeW (i := 4) (d := some 31) (v := ?_) (by simp only [List.getElem?_toArray, List.getElem?_cons_succ, List.getElem?_cons_zero]; rfl) (by rfl) (by kernel_rfl) (by kernel_rfl) (by kernel_rfl) (by intro _ _ _ h; exact h) (by rfl) ?_ (by assumption) ?_
  rotate_left 1
  · (intro w hSw; (try dsimp only at hSw); go_simp; try (with_reducible rfl))
  (try simp only [Act.put, List.setIfInBounds_toArray, List.set_cons_zero, List.set_cons_succ])
  refine wpAnyH_done (by kernel_rfl) ?_ _
  clear k0 k1 k2
  obtain ⟨bv, hbv⟩ : ∃ b, b = vSend st nx ak := ⟨_, rfl⟩
  have HV := Lib.hid hbv
  obtain ⟨sc0, sc1, sc2, sz0, sz1, sz2, slt⟩ := HM5.out.s
  obtain ⟨ac0, ac1, az0, az1, alt⟩ := HM5.out.a
  obtain ⟨xc0, xc1, xc2, xz0, xz1, xz2, xlt⟩ := HM5.out.x
  go_wp2_with fail
  refine (specVS_any st nx ak _).mono ?_
  rw [← hbv]
  rintro e w6 ⟨rfl, hb⟩
  have HM6a := Lib.hid (HM5.out.below_ hb)
  clear hb
  clear sc0 sc1 sc2 sz0 sz1 sz2 ac0 ac1 az0 az1 xc0 xc1 xc2 xz0 xz1 xz2
  clear hbv
  cases bv
  · have HNO : Hid (okRecv st nx ak bs bm = false) := Lib.hid (by unfold okRecv; rw [← HV.out]; rfl)
    have he : okRecv st nx ak bs bm = false := HNO.out
    have hx1 : X = st := by rw [HXE.out]; unfold recvA; rw [if_neg (by rw [he]; simp)]
    have hk1 : K = ak := by rw [HKE.out]; unfold recvA; rw [if_neg (by rw [he]; simp)]
    subst hx1 hk1
    clear he
    obtain ⟨sc0, sc1, sc2, sz0, sz1, sz2, slt⟩ := HM6a.out.s
    obtain ⟨ac0, ac1, az0, az1, alt⟩ := HM6a.out.a
    obtain ⟨xc0, xc1, xc2, xz0, xz1, xz2, xlt⟩ := HM6a.out.x
    go_wp2
    go_ret
    exact ⟨by simp, HM6a.out.below⟩
  · obtain ⟨ba, hba⟩ : ∃ b, b = vAck bs bm := ⟨_, rfl⟩
    have HVA := Lib.hid hba
    obtain ⟨sc0, sc1, sc2, sz0, sz1, sz2, slt⟩ := HM6a.out.s
    obtain ⟨ac0, ac1, az0, az1, alt⟩ := HM6a.out.a
    obtain ⟨xc0, xc1, xc2, xz0, xz1, xz2, xlt⟩ := HM6a.out.x
    go_wp2_with fail
    refine (specVA_any bs bm _).mono ?_
    rw [← hba]
    rintro e w7 ⟨rfl, hb⟩
    have HM7a := Lib.hid (HM6a.out.below_ hb)
    clear hb
    clear sc0 sc1 sc2 sz0 sz1 sz2 ac0 ac1 az0 az1 xc0 xc1 xc2 xz0 xz1 xz2
    clear hba
    cases ba
    · have HNO : Hid (okRecv st nx ak bs bm = false) := Lib.hid (by unfold okRecv; rw [← HVA.out]; simp)
      have he : okRecv st nx ak bs bm = false := HNO.out
      have hx1 : X = st := by rw [HXE.out]; unfold recvA; rw [if_neg (by rw [he]; simp)]
      have hk1 : K = ak := by rw [HKE.out]; unfold recvA; rw [if_neg (by rw [he]; simp)]
      subst hx1 hk1
      clear he
      obtain ⟨sc0, sc1, sc2, sz0, sz1, sz2, slt⟩ := HM7a.out.s
      obtain ⟨ac0, ac1, az0, az1, alt⟩ := HM7a.out.a
      obtain ⟨xc0, xc1, xc2, xz0, xz1, xz2, xlt⟩ := HM7a.out.x
      go_wp2
      go_ret
      exact ⟨by simp, HM7a.out.below⟩
    ·
      obtain ⟨D, An, e1, e2, e3, hD, hA, h0⟩ := valid_sq HV.out.symm
      obtain ⟨f, hf⟩ : ∃ f, f = st := ⟨_, rfl⟩
      have e1' : st = sq f 0 := by rw [hf]; exact e1
      have e2' : nx = sq f D := by rw [hf]; exact e2
      clear e1 e2 hf
      subst e1' e2' e3
      obtain ⟨k, Bn, hkD, hr, hB, hbk, hAB, hid⟩ := recv_all (f := f) hD hA h0 bs bm
      have hX2 : X = sq f k := by rw [HXE.out, hr]
      have hK2 : K = ((Bn >>> k : Nat) : Int) := by rw [HKE.out, hr]
      subst hX2 hK2
      have hS := shr_lt hB hkD
      have hbz : (Bn >>> k).testBit 0 = false := by rw [shr_bit]; exact hbk
      have HID := Lib.hid hid
      have HBK : Hid (Bn >>> k < 2 ^ (D - k) ∧ (Bn >>> k) % 2 = 0 ∧ True) := Lib.hid ⟨hS, even_of hbz, trivial⟩
      have HVX : Hid (vSend (sq f k) (sq f D) ((Bn >>> k : Nat) : Int) = true) := Lib.hid (vSend_can f hkD (by omega) (by omega) hS (even_of hbz))
      have HVS : Hid (vSend (sq f 0) (sq f D) (An : Int) = true) := Lib.hid HV.out.symm
      have HDA := Lib.hid (⟨hD, hA⟩ : _ ∧ _)
      have HEV := Lib.hid h0
      obtain ⟨bl, hbl⟩ : ∃ l, l = outS (sq f 0) (sq f D) (An : Int) := ⟨_, rfl⟩
      obtain ⟨al, hal⟩ : ∃ l, l = outS (sq f k) (sq f D) ((Bn >>> k : Nat) : Int) := ⟨_, rfl⟩
      have hbl16 : bl.length ≤ 16 := by rw [hbl]; exact outS_le _ _ _
      have hal16 : al.length ≤ 16 := by rw [hal]; exact outS_le _ _ _
      have hbl9 : bl.length ≤ 1000000000 := by omega
      have HBLE := Lib.hid hbl
      have HALE := Lib.hid hal
      have HBZ : Hid (bl.drop 0 = (zs D An 16 0).map (sq f)) := Lib.hid (by rw [List.drop_zero, hbl]; exact before_zs f hD hA h0)
      have HSUB : Hid (∀ x ∈ al, x ∈ bl) := Lib.hid (fun x hx => by
        rw [hal] at hx
        obtain ⟨i, hi, hb, rfl⟩ := (outS_can_mem f hkD (by omega) (by omega) hS (even_of hbz)).1 hx
        rw [shr_bit] at hb
        rw [hbl]
        refine (outS_can_mem f (a := 0) (Nat.zero_le _) (by omega) (by omega) (by simpa using hA) h0).2 ⟨k + i, by omega, ?_, by rw [Nat.zero_add]⟩
        cases h : An.testBit (k + i) with
        | false => rfl
        | true => have := hAB _ h; rw [this] at hb; cases hb)
      clear hbl hal hr hid hS hbz hAB hB hbk h0
      obtain ⟨sc0, sc1, sc2, sz0, sz1, sz2, slt⟩ := HM7a.out.s
      obtain ⟨ac0, ac1, az0, az1, alt⟩ := HM7a.out.a
      obtain ⟨xc0, xc1, xc2, xz0, xz1, xz2, xlt⟩ := HM7a.out.x
      go_wp2_with fail
      refine (outB (sq f 0) (sq f D) (An : Int) _).mono ?_
      rintro e w8 ⟨gb, cb, rfl, hb, hrb⟩
      rw [← HBLE.out] at hrb ⊢
      have HBL8 := Lib.hid hrb
      clear hrb
      have HM8a := Lib.hid (HM7a.out.below_ hb)
      clear hb
      clear sc0 sc1 sc2 sz0 sz1 sz2 ac0 ac1 az0 az1 xc0 xc1 xc2 xz0 xz1 xz2
      obtain ⟨sc0, sc1, sc2, sz0, sz1, sz2, slt⟩ := HM8a.out.s
      obtain ⟨ac0, ac1, az0, az1, alt⟩ := HM8a.out.a
      obtain ⟨xc0, xc1, xc2, xz0, xz1, xz2, xlt⟩ := HM8a.out.x
      go_wp2_with fail
      refine (outB (sq f k) (sq f D) ((Bn >>> k : Nat) : Int) _).mono ?_
      rintro e w9 ⟨ga, ca, rfl, hb, hra⟩
      rw [← HALE.out] at hra ⊢
      have HAL9a := Lib.hid hra
      have HBL9a := Lib.hid (HBL8.out.below hb)
      clear hra HBL8
      have HM9a := Lib.hid (HM8a.out.below_ hb)
      clear hb
      clear sc0 sc1 sc2 sz0 sz1 sz2 ac0 ac1 az0 az1 xc0 xc1 xc2 xz0 xz1 xz2
      obtain ⟨sc0, sc1, sc2, sz0, sz1, sz2, slt⟩ := HM9a.out.s
      obtain ⟨ac0, ac1, az0, az1, alt⟩ := HM9a.out.a
      obtain ⟨xc0, xc1, xc2, xz0, xz1, xz2, xlt⟩ := HM9a.out.x
      go_wp2_with fail
      refine (implVS_any (sq f k) (sq f D) ((Bn >>> k : Nat) : Int) _).mono ?_
      rw [HVX.out]
      rintro e w10 ⟨rfl, hb⟩
      have HM10 := Lib.hid (HM9a.out.below_ hb)
      have HAL10 := Lib.hid (HAL9a.out.below hb)
      have HBL10 := Lib.hid (HBL9a.out.below hb)
      clear hb HAL9a HBL9a
      clear sc0 sc1 sc2 sz0 sz1 sz2 ac0 ac1 az0 az1 xc0 xc1 xc2 xz0 xz1 xz2
      have hbl16I : ¬ (16 : Int) < (bl.length : Int) := by omega
      obtain ⟨sc0, sc1, sc2, sz0, sz1, sz2, slt⟩ := HM10.out.s
      obtain ⟨ac0, ac1, az0, az1, alt⟩ := HM10.out.a
      obtain ⟨xc0, xc1, xc2, xz0, xz1, xz2, xlt⟩ := HM10.out.x
      go_wp2_with fail
      refine (outBs (sq f 0) (sq f D) (An : Int) _).mono ?_
      rintro e w11 ⟨gq, cq, rfl, hb⟩
      rw [← HBLE.out]
      have HAL7 := Lib.hid (HAL10.out.below hb)
      have HBL7 := Lib.hid (HBL10.out.below hb)
      clear HAL10 HBL10
      have HM7 := Lib.hid (HM10.out.below_ hb)
      clear hb
      clear sc0 sc1 sc2 sz0 sz1 sz2 ac0 ac1 az0 az1 xc0 xc1 xc2 xz0 xz1 xz2
      go_wp2
      go_loopw [8] (fun v wr => ∃ i : Nat, v = .int .i64 (i : Int) ∧ i ≤ al.length ∧ Hid (SenM w w1.heap.size w2.heap.size (sq f 0) (sq f D) (An : Int) bs bm (sq f k) (((Bn >>> k : Nat)) : Int) wr) ∧ Hid (Rw false .i64 wr (fun b => b = gb) (some ⟨gb, 0, none⟩) bl) ∧ Hid (Rw false .i64 wr (fun b => b = ga) (some ⟨ga, 0, none⟩) al)) (fun v _ => al.length - (intOf v).toNat)
      case atStart => exact ⟨0, rfl, Nat.zero_le _, HM7, HBL7, HAL7⟩
      case round =>
        obtain ⟨i, rfl, hi, HM, HBL, HAL⟩ := hrel
        by_cases hil : i < al.length
        · have hilI : (i : Int) < (al.length : Int) := by omega
          obtain ⟨g0, o0, hA0, _, _, hc, _⟩ := HAL.out i hil
          injection hA0 with hA0
          injection hA0 with e1 e2
          subst e1 e2
          rw [Nat.zero_add] at hc
          have HIN : Hid (al[i] ∈ bl) := Lib.hid (HSUB.out _ (List.getElem_mem hil))
          generalize al[i] = x at hc HIN
          go_wp2_with fail
          refine (contains_any _ cb bl x _ HBL.out hbl9 HIN.out).mono ?_
          rintro e w9 ⟨rfl, hb⟩
          have HM9 := Lib.hid (HM.out.below_ hb)
          have HBL9 := Lib.hid (HBL.out.below hb)
          have HAL9 := Lib.hid (HAL.out.below hb)
          clear hb
          go_wp2
          go_roundw
          case rel => exact ⟨i + 1, by go_num, by omega, HM9, HBL9, HAL9⟩
          case measure => simp [intOf]; omega
        · have hilI : ¬ (i : Int) < (al.length : Int) := by omega
          obtain ⟨wl, rfl⟩ : ∃ v : World, v = wr := ⟨_, rfl⟩
          have hwl := HM.out.lt2
          have hgb9 : bl ≠ [] → gb < wl.heap.size := fun hn => by
            obtain ⟨g0, o0, hA0, _, hlt, _⟩ := HBL.out 0 (List.length_pos_iff.2 hn)
            injection hA0 with hA0
            injection hA0 with e1 e2
            omega
          have HGBN := Lib.hid hgb9
          clear hgb9
          obtain ⟨sc0, sc1, sc2, sz0, sz1, sz2, slt⟩ := HM.out.s
          have HYN : Hid (Bx3 (wl.alloc (.cells #[.int .i64 (sq f 0), .int .i64 (sq f D), .int .i64 (An : Int)] 29)) wl.heap.size (sq f 0) (sq f D) ((An >>> 0 : Nat) : Int)) := Lib.hid (Bx3.new (World.heap_new _ _ _ rfl))
          have hal : Below wl.heap.size wl (wl.alloc (.cells #[.int .i64 (sq f 0), .int .i64 (sq f D), .int .i64 (An : Int)] 29)) := Below.alloc (Below.refl _ _) (Nat.le_refl _) _
          have HMN := Lib.hid (HM.out.below_ hal)
          have HBLN := Lib.hid (HBL.out.below hal)
          clear hal HM HBL HAL
          go_wp2
          go_loopw [10] (fun v wr => ∃ (i p n' : Nat), v = .int .i64 (i : Int) ∧ i ≤ bl.length ∧ Hid (SenM w w1.heap.size w2.heap.size (sq f 0) (sq f D) (An : Int) bs bm (sq f k) (((Bn >>> k : Nat)) : Int) wr) ∧ Hid (Bx3 wr wl.heap.size (sq f p) (sq f D) ((An >>> p : Nat) : Int)) ∧ Hid (Rw false .i64 wr (fun b => b = gb) (some ⟨gb, 0, none⟩) bl) ∧ Hid (bl.drop i = (zs D An n' p).map (sq f)) ∧ Hid (p ≤ D ∧ D - p ≤ n') ∧ (p = D ∨ An.testBit p = false)) (fun v _ => bl.length - (intOf v).toNat)
          case atStart => exact ⟨0, 0, 16, rfl, Nat.zero_le _, HMN, HYN, HBLN, Lib.hid HBZ.out, Lib.hid ⟨Nat.zero_le _, by omega⟩, .inr (bit0_of HEV.out)⟩
          case round =>
            obtain ⟨i, p, n', rfl, hi, HM, HY, HBL, HZ, HP, hp0⟩ := hrel
            by_cases hil : i < bl.length
            · have hilI : (i : Int) < (bl.length : Int) := by omega
              have hpD : p < D ∧ An.testBit p = false := by
                rcases hp0 with h | h
                · exfalso
                  have e := HZ.out
                  have hl := congrArg List.length e
                  rw [List.length_drop, List.length_map] at hl
                  have hz : zs D An n' p = [] := by
                    cases n' with
                    | zero => rfl
                    | succ m => rw [zs_succ, if_neg (by omega)]
                  rw [hz] at hl
                  simp at hl
                  omega
                · refine ⟨?_, h⟩
                  rcases Nat.lt_or_ge p D with h1 | h1
                  · exact h1
                  · exfalso
                    have e := HZ.out
                    have hl := congrArg List.length e
                    rw [List.length_drop, List.length_map] at hl
                    have hz : zs D An n' p = [] := by
                      cases n' with
                      | zero => rfl
                      | succ m => rw [zs_succ, if_neg (by omega)]
                    rw [hz] at hl
                    simp at hl
                    omega
              obtain ⟨kk, g1, g2, g3, g4, g5⟩ := gUp_step (f := f) HDA.out.1 HDA.out.2 hpD.1 hpD.2
              have HGU := Lib.hid g3
              obtain ⟨m, rfl⟩ : ∃ m, n' = m + 1 := ⟨n' - 1, by have := HP.out; omega⟩
              have hzz : zs D An (m + 1) p = p :: zs D An m (p + 1) := by rw [zs_succ, if_pos hpD.1, if_neg (by rw [hpD.2]; simp)]
              have hsk := zs_skip D An (kk - 1) (m - (kk - 1)) (p + 1) (fun j h1 h2 => g5 j (by omega) (by omega)) (by omega)
              rw [show m - (kk - 1) + (kk - 1) = m by have := HP.out; omega, show p + 1 + (kk - 1) = p + kk by omega] at hsk
              have hdr : bl.drop i = sq f p :: (zs D An (m - (kk - 1)) (p + kk)).map (sq f) := by rw [HZ.out, hzz, hsk]; rfl
              have hbi : bl[i] = sq f p := by
                have := List.drop_eq_getElem_cons hil
                rw [this] at hdr
                injection hdr
              have hdr2 : bl.drop (i + 1) = (zs D An (m - (kk - 1)) (p + kk)).map (sq f) := by
                have := List.drop_eq_getElem_cons hil
                rw [this] at hdr
                injection hdr
              obtain ⟨n', hn'⟩ : ∃ n', n' = m - (kk - 1) := ⟨_, rfl⟩
              rw [← hn'] at hdr2
              have HG3 : Hid (bl.drop (i + 1) = (zs D An n' (p + kk)).map (sq f) ∧ (p + kk ≤ D ∧ D - (p + kk) ≤ n') ∧ (p + kk = D ∨ An.testBit (p + kk) = false)) := Lib.hid ⟨hdr2, ⟨g2, by have := HP.out; omega⟩, g4⟩
              obtain ⟨g0, o0, hA0, _, hgb2, k3, _⟩ := HBL.out i hil
              injection hA0 with hA0
              injection hA0 with e1 e2
              subst e1 e2
              rw [Nat.zero_add, hbi] at k3
              have hgb3 := HGBN.out (fun h => by rw [h] at hil; simp at hil)
              have hwl2 := HY.out.lt
              have k0 := HY.out.c0
              have k1 := HY.out.c1
              have k2 := HY.out.c2
              clear hdr hdr2 hbi hzz hsk g3 g4 g5 hn'
              go_wp2
              refine wp_region_G [6] (S := (fun w' => w'.cell? ⟨wl.heap.size, 0, none⟩ = some (.int .i64 (sq f p)) ∧ w'.cell? ⟨wl.heap.size, 1, none⟩ = some (.int .i64 (sq f D)) ∧ w'.cell? ⟨wl.heap.size, 2, none⟩ = some (.int .i64 ((An >>> p : Nat) : Int)) ∧ w'.cell? ⟨gb, i, none⟩ = some (.int .i64 (sq f p)))) (by kernel_rfl) ?_ (fun hHeld => ?_)
              · first | exact ⟨k0, k1, k2, k3⟩ | exact ⟨yc0, yc1, yc2, k3'⟩ | (simp [go_sem, *]; done)
              refine wpAnyG_takeW [5, 6] (i := 0) (d := some 90) (v := ?_) (by simp only [List.getElem?_toArray, List.getElem?_cons_succ, List.getElem?_cons_zero]; rfl) (by rfl) (by kernel_rfl) (by kernel_rfl) (by kernel_rfl) (by kernel_rfl) (by kernel_rfl) (by intro _ _ _ h; exact h) (by rfl) ?_ (by assumption) ?_
              rotate_left 1
              · (intro w hSw; (try dsimp only at hSw); go_simp; try (with_reducible rfl))
              (try simp only [Act.put, List.setIfInBounds_toArray, List.set_cons_zero, List.set_cons_succ])
              refine wpAnyG_takeW [3, 4, 5, 6] (i := 1) (d := some 91) (v := ?_) (by simp only [List.getElem?_toArray, List.getElem?_cons_succ, List.getElem?_cons_zero]; rfl) (by rfl) (by kernel_rfl) (by kernel_rfl) (by kernel_rfl) (by kernel_rfl) (by kernel_rfl) (by intro _ _ _ h; exact h) (by rfl) ?_ (by assumption) ?_
              rotate_left 1
              · (intro w hSw; (try dsimp only at hSw); go_simp; try (with_reducible rfl))
              (try simp only [Act.put, List.setIfInBounds_toArray, List.set_cons_zero, List.set_cons_succ])
              refine wpAnyG_takeW [3, 4, 5, 6] (i := 2) (d := some 92) (v := ?_) (by simp only [List.getElem?_toArray, List.getElem?_cons_succ, List.getElem?_cons_zero]; rfl) (by rfl) (by kernel_rfl) (by kernel_rfl) (by kernel_rfl) (by kernel_rfl) (by kernel_rfl) (by intro _ _ _ h; exact h) (by rfl) ?_ (by assumption) ?_
              rotate_left 1
              · (intro w hSw; (try dsimp only at hSw); go_simp; try (with_reducible rfl))
              (try simp only [Act.put, List.setIfInBounds_toArray, List.set_cons_zero, List.set_cons_succ])
              refine wpAnyG_takeW [4, 5, 6] (i := 3) (d := some 93) (v := ?_) (by simp only [List.getElem?_toArray, List.getElem?_cons_succ, List.getElem?_cons_zero]; rfl) (by rfl) (by kernel_rfl) (by kernel_rfl) (by kernel_rfl) (by kernel_rfl) (by kernel_rfl) (by intro _ _ _ h; exact h) (by rfl) ?_ (by assumption) ?_
              rotate_left 1
              · (intro w hSw; (try dsimp only at hSw); go_simp; try (with_reducible rfl))
              (try simp only [Act.put, List.setIfInBounds_toArray, List.set_cons_zero, List.set_cons_succ])
              refine wpAnyG_takeW [5, 6] (i := 4) (d := some 94) (v := ?_) (by simp only [List.getElem?_toArray, List.getElem?_cons_succ, List.getElem?_cons_zero]; rfl) (by rfl) (by kernel_rfl) (by kernel_rfl) (by kernel_rfl) (by kernel_rfl) (by kernel_rfl) (by intro _ _ _ h; exact h) (by rfl) ?_ (by assumption) ?_
              rotate_left 1
              · (intro w hSw; (try dsimp only at hSw); go_simp; try (with_reducible rfl))
              (try simp only [Act.put, List.setIfInBounds_toArray, List.set_cons_zero, List.set_cons_succ])
              refine wpAnyG_ready (rs := [5]) (by kernel_rfl) (by simp) ?_
              refine (AllReadyG.cons (i := 5) (by simp only [List.getElem?_toArray, List.getElem?_cons_succ, List.getElem?_cons_zero]; rfl) (fun K hK => ?_) AllReadyG.nil)
              go_simp
              refine (implGive_any (sq f p) (sq f D) ((An >>> p : Nat) : Int) (sq f p) _).mono ?_
              rw [HGU.out]
              rintro e u1 ⟨rfl, hb⟩
              replace hb : Below wr.heap.size wr u1 := Below.trans (Below.drew (Below.refl _ _)) hb
              have HMu := Lib.hid (HM.out.below_ hb)
              have HYu := Lib.hid (HY.out.below hb)
              have HBLu := Lib.hid (HBL.out.below hb)
              obtain ⟨yc0, yc1, yc2, yz0, yz1, yz2, ylt⟩ := HYu.out
              have k3' := (hb.cell (p := ⟨gb, i, none⟩) hgb2).trans k3
              clear hb
              go_wp2_with fail
              refine hK.out _ _ (fun _ => ?_) (fun hHeld => ?_)
              · ((try dsimp only); first | exact ⟨k0, k1, k2, k3⟩ | exact ⟨yc0, yc1, yc2, k3'⟩ | (simp [go_sem, *]; done))
              replace hHeld := hHeld (by rfl)
              clear hK K
              (try simp only [Act.put, List.setIfInBounds_toArray, List.set_cons_zero, List.set_cons_succ])
              refine wpAnyG_ready (rs := [6]) (by kernel_rfl) (by simp) ?_
              refine (AllReadyG.cons (i := 6) (by simp only [List.getElem?_toArray, List.getElem?_cons_succ, List.getElem?_cons_zero]; rfl) (fun K hK => ?_) AllReadyG.nil)
              go_simp
              go_wp2_with fail
              refine hK.out _ _ (fun h => by cases h) (fun _ => ?_)
              clear hK K
              (try simp only [Act.put, List.setIfInBounds_toArray, List.set_cons_zero, List.set_cons_succ])
              refine wpAnyG_done (by kernel_rfl) ?_ _
              go_wp2
              go_roundw
              case rel => exact ⟨i + 1, p + kk, n', by go_num, by omega, Lib.hid (HMu.out.up (st3_chg u1 wl.heap.size (sq f (p + kk)) (sq f D) ((An >>> (p + kk) : Nat) : Int)) (fun b hb => by have h1 := HM.out.lt2; have h2 := hwl2; omega)), Lib.hid HYu.out.s0.s1.s2, Lib.hid (HBLu.out.frame (st3_chg u1 wl.heap.size (sq f (p + kk)) (sq f D) ((An >>> (p + kk) : Nat) : Int)) (fun b h1 h2 => by omega)), Lib.hid HG3.out.1, Lib.hid HG3.out.2.1, HG3.out.2.2⟩
              case measure => simp [intOf]; omega
            · have hilI : ¬ (i : Int) < (bl.length : Int) := by omega
              have hpD : p = D := by
                have hl := congrArg List.length HZ.out
                rw [List.length_drop, List.length_map] at hl
                have hP := HP.out
                rcases Nat.lt_or_ge p D with h | h
                · exfalso
                  rcases hp0 with h1 | h1
                  · omega
                  · obtain ⟨m, rfl⟩ : ∃ m, n' = m + 1 := ⟨n' - 1, by omega⟩
                    rw [zs_succ, if_pos h, if_neg (by rw [h1]; simp)] at hl
                    simp at hl
                    omega
                · omega
              have hpD2 := hpD.symm
              clear hpD hp0 HP HZ
              subst hpD2
              obtain ⟨wm, rfl⟩ : ∃ v : World, v = wr := ⟨_, rfl⟩
              have HDN : Hid (doneB (sq f D) (sq f D) ((An >>> D : Nat) : Int) = true) := Lib.hid (by
                have e : An >>> D = 0 := by rw [Nat.shiftRight_eq_div_pow]; exact Nat.div_eq_of_lt HDA.out.2
                rw [e]
                have hv := vSend_can f (a := D) (n := D) (A := 0) (Nat.le_refl _) (by omega) (by omega) (by simp) rfl
                have ho := outS_can f (a := D) (n := D) (A := 0) (Nat.le_refl _) (by omega) (by omega) (by simp) rfl
                unfold doneB
                rw [hv, ho, Nat.sub_self]
                rfl)
              obtain ⟨cs, hcs⟩ : ∃ b, b = canSend (sq f k) (sq f D) ((Bn >>> k : Nat) : Int) := ⟨_, rfl⟩
              obtain ⟨N, hN⟩ : ∃ b, b = sendN (sq f k) (sq f D) ((Bn >>> k : Nat) : Int) := ⟨_, rfl⟩
              obtain ⟨n0, hn0⟩ : ∃ b, b = sendX (sq f k) (sq f D) ((Bn >>> k : Nat) : Int) := ⟨_, rfl⟩
              have HCS := Lib.hid hcs
              have HN := Lib.hid hN
              have HN0 := Lib.hid hn0
              clear hcs hN hn0
              obtain ⟨xc0, xc1, xc2, xz0, xz1, xz2, xlt⟩ := HM.out.x
              go_wp2_with fail
              refine (implSendNext_any (sq f k) (sq f D) ((Bn >>> k : Nat) : Int) _).mono ?_
              rw [← HCS.out, ← HN.out, ← HN0.out]
              rintro e wn ⟨rfl, hb⟩
              have HMn := Lib.hid (HM.out.below_ hb)
              have HYn := Lib.hid (HY.out.below hb)
              have hltn := HYn.out.lt
              clear hb xc0 xc1 xc2 xz0 xz1 xz2
              go_wp2_with fail
              have HC5 : Hid (canSend 5 21 0 = false) := Lib.hid (by rfl)
              have HN5 : Hid (sendN 5 21 0 = 21) := Lib.hid (by unfold sendN; rw [if_neg (by rw [HC5.out]; simp)])
              refine (implSendNext_any 5 21 0 _).mono ?_
              rw [HC5.out, HN5.out]
              generalize sendX 5 21 0 = nq
              rintro e wo ⟨rfl, hb⟩
              have hal : Below wn.heap.size wn (wn.alloc (.cells #[.int .i64 (sq f k), .int .i64 N, .int .i64 ((Bn >>> k : Nat) : Int)] 29)) := Below.alloc (Below.refl _ _) (Nat.le_refl _) _
              have HMo := Lib.hid ((HMn.out.below_ hal).below_ hb)
              have HYo := Lib.hid ((HYn.out.below hal).below hb)
              have HZo : Hid (Bx3 wo wn.heap.size (sq f k) N ((Bn >>> k : Nat) : Int)) := Lib.hid ((Bx3.new (World.heap_new _ _ _ rfl)).below hb)
              have hlto := HZo.out.lt
              clear hb hal HMn HYn
              go_wp2
              obtain ⟨w5, hw5⟩ : ∃ v, v = wo.alloc (.cells #[.int .i64 5, .int .i64 21, .int .i64 0] 29) := ⟨_, rfl⟩
              rw [← hw5]
              have hal : Below wo.heap.size wo w5 := by rw [hw5]; exact Below.alloc (Below.refl _ _) (Nat.le_refl _) _
              have HM5 := Lib.hid (HMo.out.below_ hal)
              have HY5 := Lib.hid (HYo.out.below hal)
              have HZ5 := Lib.hid (HZo.out.below hal)
              have HW5 : Hid (Bx3 w5 wo.heap.size 5 21 0) := Lib.hid (by rw [hw5]; exact Bx3.new (World.heap_new _ _ _ rfl))
              have HB5 := Lib.hid HM5.out.below
              have hl5 := HW5.out.lt
              have hlm1 := HM5.out.lt12
              have hlm2 := HM5.out.lt2
              clear hw5 hal HMo HYo HZo
              have qy0 := HY5.out.c0
              have qy1 := HY5.out.c1
              have qy2 := HY5.out.c2
              have qs1 := HM5.out.s.c1
              have qx0 := HM5.out.x.c0
              have qx1 := HM5.out.x.c1
              have qx2 := HM5.out.x.c2
              have qa0 := HM5.out.a.c0
              have qa1 := HM5.out.a.c1
              have qz0 := HZ5.out.c0
              have qz1 := HZ5.out.c1
              have qz2 := HZ5.out.c2
              have qw0 := HW5.out.c0
              cases cs
              ·
                refine wp_region_held_drew (S := (fun w' => w'.cell? ⟨wl.heap.size, 0, none⟩ = some (.int .i64 (sq f D)) ∧ w'.cell? ⟨wl.heap.size, 1, none⟩ = some (.int .i64 (sq f D)) ∧ w'.cell? ⟨wl.heap.size, 2, none⟩ = some (.int .i64 (((An >>> D : Nat) : Int))) ∧ w'.cell? ⟨w1.heap.size, 1, none⟩ = some (.int .i64 (sq f D)) ∧ w'.cell? ⟨w2.heap.size, 0, none⟩ = some (.int .i64 (sq f k)) ∧ w'.cell? ⟨w2.heap.size, 1, none⟩ = some (.int .i64 (sq f D)) ∧ w'.cell? ⟨w2.heap.size, 2, none⟩ = some (.int .i64 (((Bn >>> k : Nat) : Int))) ∧ w'.cell? ⟨w1.heap.size + 1, 0, none⟩ = some (.int .i64 (bs)) ∧ w'.cell? ⟨w1.heap.size + 1, 1, none⟩ = some (.int .i64 (bm)) ∧ w'.cell? ⟨wn.heap.size, 0, none⟩ = some (.int .i64 (sq f k)) ∧ w'.cell? ⟨wn.heap.size, 1, none⟩ = some (.int .i64 (N)) ∧ w'.cell? ⟨wn.heap.size, 2, none⟩ = some (.int .i64 (((Bn >>> k : Nat) : Int))) ∧ w'.cell? ⟨wo.heap.size, 0, none⟩ = some (.int .i64 (5)))) (by kernel_rfl) ?_ (fun hHeld => ?_)
                · first | exact ⟨qy0, qy1, qy2, qs1, qx0, qx1, qx2, qa0, qa1, qz0, qz1, qz2, qw0⟩ | (simp [go_sem, *]; done)
                refine wpAnyH_takeW (i := 0) (d := some 108) (v := ?_) (by simp only [List.getElem?_toArray, List.getElem?_cons_succ, List.getElem?_cons_zero]; rfl) (by rfl) (by kernel_rfl) (by kernel_rfl) (by kernel_rfl) (by intro _ _ _ h; exact h) (by rfl) ?_ (by assumption) ?_
                rotate_left 1
                · (intro w hSw; (try dsimp only at hSw); go_simp; try (with_reducible rfl))
                (try simp only [Act.put, List.setIfInBounds_toArray, List.set_cons_zero, List.set_cons_succ])
                refine wpAnyH_ready (rs := [1]) (by kernel_rfl) (by simp) ?_
                refine AllReadyH.cons (i := 1) (by simp only [List.getElem?_toArray, List.getElem?_cons_succ, List.getElem?_cons_zero]; rfl) (fun K hK => ?_) AllReadyH.nil
                go_simp
                refine (implDone_any (sq f D) (sq f D) ((An >>> D : Nat) : Int) _).mono ?_
                rw [HDN.out]
                rintro e u1 ⟨rfl, hb⟩
                replace hb : Below w5.heap.size w5 u1 := Below.trans (Below.drew (Below.refl _ _)) hb
                have hsz_u1 := hb.size
                have HBB_u1 := Lib.hid (hb)
                replace qy0 := (hb.cell (p := ⟨wl.heap.size, 0, none⟩) (by simp only; omega)).trans qy0
                replace qy1 := (hb.cell (p := ⟨wl.heap.size, 1, none⟩) (by simp only; omega)).trans qy1
                replace qy2 := (hb.cell (p := ⟨wl.heap.size, 2, none⟩) (by simp only; omega)).trans qy2
                replace qs1 := (hb.cell (p := ⟨w1.heap.size, 1, none⟩) (by simp only; omega)).trans qs1
                replace qx0 := (hb.cell (p := ⟨w2.heap.size, 0, none⟩) (by simp only; omega)).trans qx0
                replace qx1 := (hb.cell (p := ⟨w2.heap.size, 1, none⟩) (by simp only; omega)).trans qx1
                replace qx2 := (hb.cell (p := ⟨w2.heap.size, 2, none⟩) (by simp only; omega)).trans qx2
                replace qa0 := (hb.cell (p := ⟨w1.heap.size + 1, 0, none⟩) (by simp only; omega)).trans qa0
                replace qa1 := (hb.cell (p := ⟨w1.heap.size + 1, 1, none⟩) (by simp only; omega)).trans qa1
                replace qz0 := (hb.cell (p := ⟨wn.heap.size, 0, none⟩) (by simp only; omega)).trans qz0
                replace qz1 := (hb.cell (p := ⟨wn.heap.size, 1, none⟩) (by simp only; omega)).trans qz1
                replace qz2 := (hb.cell (p := ⟨wn.heap.size, 2, none⟩) (by simp only; omega)).trans qz2
                replace qw0 := (hb.cell (p := ⟨wo.heap.size, 0, none⟩) (by simp only; omega)).trans qw0
                clear hb
                go_wp2_with fail
                refine hK.out _ _ ?_ (fun hHeld => ?_)
                · ((try dsimp only); first | exact ⟨qy0, qy1, qy2, qs1, qx0, qx1, qx2, qa0, qa1, qz0, qz1, qz2, qw0⟩ | (simp [go_sem, *]; done))
                clear hK K
                (try simp only [Act.put, List.setIfInBounds_toArray, List.set_cons_zero, List.set_cons_succ])
                refine wpAnyH_takeW (i := 2) (d := some 110) (v := ?_) (by simp only [List.getElem?_toArray, List.getElem?_cons_succ, List.getElem?_cons_zero]; rfl) (by rfl) (by kernel_rfl) (by kernel_rfl) (by kernel_rfl) (by intro _ _ _ h; exact h) (by rfl) ?_ (by assumption) ?_
                rotate_left 1
                · (intro w hSw; (try dsimp only at hSw); go_simp; try (with_reducible rfl))
                (try simp only [Act.put, List.setIfInBounds_toArray, List.set_cons_zero, List.set_cons_succ])
                refine wpAnyH_takeW (i := 3) (d := some 111) (v := ?_) (by simp only [List.getElem?_toArray, List.getElem?_cons_succ, List.getElem?_cons_zero]; rfl) (by rfl) (by kernel_rfl) (by kernel_rfl) (by kernel_rfl) (by intro _ _ _ h; exact h) (by rfl) ?_ (by assumption) ?_
                rotate_left 1
                · (intro w hSw; (try dsimp only at hSw); go_simp; try (with_reducible rfl))
                (try simp only [Act.put, List.setIfInBounds_toArray, List.set_cons_zero, List.set_cons_succ])
                refine wpAnyH_takeW (i := 4) (d := some 112) (v := ?_) (by simp only [List.getElem?_toArray, List.getElem?_cons_succ, List.getElem?_cons_zero]; rfl) (by rfl) (by kernel_rfl) (by kernel_rfl) (by kernel_rfl) (by intro _ _ _ h; exact h) (by rfl) ?_ (by assumption) ?_
                rotate_left 1
                · (intro w hSw; (try dsimp only at hSw); go_simp; try (with_reducible rfl))
                (try simp only [Act.put, List.setIfInBounds_toArray, List.set_cons_zero, List.set_cons_succ])
                refine wpAnyH_takeW (i := 5) (d := some 113) (v := ?_) (by simp only [List.getElem?_toArray, List.getElem?_cons_succ, List.getElem?_cons_zero]; rfl) (by rfl) (by kernel_rfl) (by kernel_rfl) (by kernel_rfl) (by intro _ _ _ h; exact h) (by rfl) ?_ (by assumption) ?_
                rotate_left 1
                · (intro w hSw; (try dsimp only at hSw); go_simp; try (with_reducible rfl))
                (try simp only [Act.put, List.setIfInBounds_toArray, List.set_cons_zero, List.set_cons_succ])
                refine wpAnyH_takeW (i := 6) (d := some 114) (v := ?_) (by simp only [List.getElem?_toArray, List.getElem?_cons_succ, List.getElem?_cons_zero]; rfl) (by rfl) (by kernel_rfl) (by kernel_rfl) (by kernel_rfl) (by intro _ _ _ h; exact h) (by rfl) ?_ (by assumption) ?_
                rotate_left 1
                · (intro w hSw; (try dsimp only at hSw); go_simp; try (with_reducible rfl))
                (try simp only [Act.put, List.setIfInBounds_toArray, List.set_cons_zero, List.set_cons_succ])
                refine wpAnyH_takeW (i := 7) (d := some 115) (v := ?_) (by simp only [List.getElem?_toArray, List.getElem?_cons_succ, List.getElem?_cons_zero]; rfl) (by rfl) (by kernel_rfl) (by kernel_rfl) (by kernel_rfl) (by intro _ _ _ h; exact h) (by rfl) ?_ (by assumption) ?_
                rotate_left 1
                · (intro w hSw; (try dsimp only at hSw); go_simp; try (with_reducible rfl))
                (try simp only [Act.put, List.setIfInBounds_toArray, List.set_cons_zero, List.set_cons_succ])
                refine wpAnyH_takeW (i := 8) (d := some 116) (v := ?_) (by simp only [List.getElem?_toArray, List.getElem?_cons_succ, List.getElem?_cons_zero]; rfl) (by rfl) (by kernel_rfl) (by kernel_rfl) (by kernel_rfl) (by intro _ _ _ h; exact h) (by rfl) ?_ (by assumption) ?_
                rotate_left 1
                · (intro w hSw; (try dsimp only at hSw); go_simp; try (with_reducible rfl))
                (try simp only [Act.put, List.setIfInBounds_toArray, List.set_cons_zero, List.set_cons_succ])
                refine wpAnyH_takeW (i := 9) (d := some 117) (v := ?_) (by simp only [List.getElem?_toArray, List.getElem?_cons_succ, List.getElem?_cons_zero]; rfl) (by rfl) (by kernel_rfl) (by kernel_rfl) (by kernel_rfl) (by intro _ _ _ h; exact h) (by rfl) ?_ (by assumption) ?_
                rotate_left 1
                · (intro w hSw; (try dsimp only at hSw); go_simp; try (with_reducible rfl))
                (try simp only [Act.put, List.setIfInBounds_toArray, List.set_cons_zero, List.set_cons_succ])
                refine wpAnyH_takeW (i := 10) (d := some 118) (v := ?_) (by simp only [List.getElem?_toArray, List.getElem?_cons_succ, List.getElem?_cons_zero]; rfl) (by rfl) (by kernel_rfl) (by kernel_rfl) (by kernel_rfl) (by intro _ _ _ h; exact h) (by rfl) ?_ (by assumption) ?_
                rotate_left 1
                · (intro w hSw; (try dsimp only at hSw); go_simp; try (with_reducible rfl))
                (try simp only [Act.put, List.setIfInBounds_toArray, List.set_cons_zero, List.set_cons_succ])
                refine wpAnyH_takeW (i := 11) (d := some 119) (v := ?_) (by simp only [List.getElem?_toArray, List.getElem?_cons_succ, List.getElem?_cons_zero]; rfl) (by rfl) (by kernel_rfl) (by kernel_rfl) (by kernel_rfl) (by intro _ _ _ h; exact h) (by rfl) ?_ (by assumption) ?_
                rotate_left 1
                · (intro w hSw; (try dsimp only at hSw); go_simp; try (with_reducible rfl))
                (try simp only [Act.put, List.setIfInBounds_toArray, List.set_cons_zero, List.set_cons_succ])
                refine wpAnyH_takeW (i := 13) (d := some 121) (v := ?_) (by simp only [List.getElem?_toArray, List.getElem?_cons_succ, List.getElem?_cons_zero]; rfl) (by rfl) (by kernel_rfl) (by kernel_rfl) (by kernel_rfl) (by intro _ _ _ h; exact h) (by rfl) ?_ (by assumption) ?_
                rotate_left 1
                · (intro w hSw; (try dsimp only at hSw); go_simp; try (with_reducible rfl))
                (try simp only [Act.put, List.setIfInBounds_toArray, List.set_cons_zero, List.set_cons_succ])
                refine wpAnyH_ready (rs := [12]) (by kernel_rfl) (by simp) ?_
                refine AllReadyH.cons (i := 12) (by simp only [List.getElem?_toArray, List.getElem?_cons_succ, List.getElem?_cons_zero]; rfl) (fun K hK => ?_) AllReadyH.nil
                go_simp
                refine (implRecv_any (sq f k) (sq f D) ((Bn >>> k : Nat) : Int) bs bm _).mono ?_
                rw [HID.out]
                rintro e u2 ⟨rfl, hb⟩
                have hsz_u2 := hb.size
                have HBB_u2 := Lib.hid (HBB_u1.out.trans (hb.mono HBB_u1.out.size))
                replace qy0 := (hb.cell (p := ⟨wl.heap.size, 0, none⟩) (by simp only; omega)).trans qy0
                replace qy1 := (hb.cell (p := ⟨wl.heap.size, 1, none⟩) (by simp only; omega)).trans qy1
                replace qy2 := (hb.cell (p := ⟨wl.heap.size, 2, none⟩) (by simp only; omega)).trans qy2
                replace qs1 := (hb.cell (p := ⟨w1.heap.size, 1, none⟩) (by simp only; omega)).trans qs1
                replace qx0 := (hb.cell (p := ⟨w2.heap.size, 0, none⟩) (by simp only; omega)).trans qx0
                replace qx1 := (hb.cell (p := ⟨w2.heap.size, 1, none⟩) (by simp only; omega)).trans qx1
                replace qx2 := (hb.cell (p := ⟨w2.heap.size, 2, none⟩) (by simp only; omega)).trans qx2
                replace qa0 := (hb.cell (p := ⟨w1.heap.size + 1, 0, none⟩) (by simp only; omega)).trans qa0
                replace qa1 := (hb.cell (p := ⟨w1.heap.size + 1, 1, none⟩) (by simp only; omega)).trans qa1
                replace qz0 := (hb.cell (p := ⟨wn.heap.size, 0, none⟩) (by simp only; omega)).trans qz0
                replace qz1 := (hb.cell (p := ⟨wn.heap.size, 1, none⟩) (by simp only; omega)).trans qz1
                replace qz2 := (hb.cell (p := ⟨wn.heap.size, 2, none⟩) (by simp only; omega)).trans qz2
                replace qw0 := (hb.cell (p := ⟨wo.heap.size, 0, none⟩) (by simp only; omega)).trans qw0
                clear hb
                go_wp2_with fail
                refine hK.out _ _ ?_ (fun hHeld => ?_)
                · ((try dsimp only); first | exact ⟨qy0, qy1, qy2, qs1, qx0, qx1, qx2, qa0, qa1, qz0, qz1, qz2, qw0⟩ | (simp [go_sem, *]; done))
                clear hK K
                (try simp only [Act.put, List.setIfInBounds_toArray, List.set_cons_zero, List.set_cons_succ])
                refine wpAnyH_takeW (i := 14) (d := some 122) (v := ?_) (by simp only [List.getElem?_toArray, List.getElem?_cons_succ, List.getElem?_cons_zero]; rfl) (by rfl) (by kernel_rfl) (by kernel_rfl) (by kernel_rfl) (by intro _ _ _ h; exact h) (by rfl) ?_ (by assumption) ?_
                rotate_left 1
                · (intro w hSw; (try dsimp only at hSw); go_simp; try (with_reducible rfl))
                (try simp only [Act.put, List.setIfInBounds_toArray, List.set_cons_zero, List.set_cons_succ])
                refine wpAnyH_takeW (i := 15) (d := some 123) (v := ?_) (by simp only [List.getElem?_toArray, List.getElem?_cons_succ, List.getElem?_cons_zero]; rfl) (by rfl) (by kernel_rfl) (by kernel_rfl) (by kernel_rfl) (by intro _ _ _ h; exact h) (by rfl) ?_ (by assumption) ?_
                rotate_left 1
                · (intro w hSw; (try dsimp only at hSw); go_simp; try (with_reducible rfl))
                (try simp only [Act.put, List.setIfInBounds_toArray, List.set_cons_zero, List.set_cons_succ])
                refine wpAnyH_takeW (i := 16) (d := some 124) (v := ?_) (by simp only [List.getElem?_toArray, List.getElem?_cons_succ, List.getElem?_cons_zero]; rfl) (by rfl) (by kernel_rfl) (by kernel_rfl) (by kernel_rfl) (by intro _ _ _ h; exact h) (by rfl) ?_ (by assumption) ?_
                rotate_left 1
                · (intro w hSw; (try dsimp only at hSw); go_simp; try (with_reducible rfl))
                (try simp only [Act.put, List.setIfInBounds_toArray, List.set_cons_zero, List.set_cons_succ])
                refine wpAnyH_takeW (i := 17) (d := some 125) (v := ?_) (by simp only [List.getElem?_toArray, List.getElem?_cons_succ, List.getElem?_cons_zero]; rfl) (by rfl) (by kernel_rfl) (by kernel_rfl) (by kernel_rfl) (by intro _ _ _ h; exact h) (by rfl) ?_ (by assumption) ?_
                rotate_left 1
                · (intro w hSw; (try dsimp only at hSw); go_simp; try (with_reducible rfl))
                (try simp only [Act.put, List.setIfInBounds_toArray, List.set_cons_zero, List.set_cons_succ])
                refine wpAnyH_takeW (i := 18) (d := some 126) (v := ?_) (by simp only [List.getElem?_toArray, List.getElem?_cons_succ, List.getElem?_cons_zero]; rfl) (by rfl) (by kernel_rfl) (by kernel_rfl) (by kernel_rfl) (by intro _ _ _ h; exact h) (by rfl) ?_ (by assumption) ?_
                rotate_left 1
                · (intro w hSw; (try dsimp only at hSw); go_simp; try (with_reducible rfl))
                (try simp only [Act.put, List.setIfInBounds_toArray, List.set_cons_zero, List.set_cons_succ])
                refine wpAnyH_takeW (i := 19) (d := some 127) (v := ?_) (by simp only [List.getElem?_toArray, List.getElem?_cons_succ, List.getElem?_cons_zero]; rfl) (by rfl) (by kernel_rfl) (by kernel_rfl) (by kernel_rfl) (by intro _ _ _ h; exact h) (by rfl) ?_ (by assumption) ?_
                rotate_left 1
                · (intro w hSw; (try dsimp only at hSw); go_simp; try (with_reducible rfl))
                (try simp only [Act.put, List.setIfInBounds_toArray, List.set_cons_zero, List.set_cons_succ])
                refine wpAnyH_takeU (i := 20) (d := some 128) (by simp only [List.getElem?_toArray, List.getElem?_cons_succ, List.getElem?_cons_zero]; rfl) (by rfl) (by kernel_rfl) (by kernel_rfl) (by kernel_rfl) (by intro _ _ _ h; exact h) (by rfl) (by assumption) ?_
                (try simp only [Act.put, List.setIfInBounds_toArray, List.set_cons_zero, List.set_cons_succ])
                refine wpAnyH_takeU (i := 21) (d := some 129) (by simp only [List.getElem?_toArray, List.getElem?_cons_succ, List.getElem?_cons_zero]; rfl) (by rfl) (by kernel_rfl) (by kernel_rfl) (by kernel_rfl) (by intro _ _ _ h; exact h) (by rfl) (by assumption) ?_
                (try simp only [Act.put, List.setIfInBounds_toArray, List.set_cons_zero, List.set_cons_succ])
                refine wpAnyH_takeU (i := 22) (d := some 130) (by simp only [List.getElem?_toArray, List.getElem?_cons_succ, List.getElem?_cons_zero]; rfl) (by rfl) (by kernel_rfl) (by kernel_rfl) (by kernel_rfl) (by intro _ _ _ h; exact h) (by rfl) (by assumption) ?_
                (try simp only [Act.put, List.setIfInBounds_toArray, List.set_cons_zero, List.set_cons_succ])
                refine wpAnyH_takeU (i := 23) (d := some 131) (by simp only [List.getElem?_toArray, List.getElem?_cons_succ, List.getElem?_cons_zero]; rfl) (by rfl) (by kernel_rfl) (by kernel_rfl) (by kernel_rfl) (by intro _ _ _ h; exact h) (by rfl) (by assumption) ?_
                (try simp only [Act.put, List.setIfInBounds_toArray, List.set_cons_zero, List.set_cons_succ])
                refine wpAnyH_takeU (i := 24) (d := some 132) (by simp only [List.getElem?_toArray, List.getElem?_cons_succ, List.getElem?_cons_zero]; rfl) (by rfl) (by kernel_rfl) (by kernel_rfl) (by kernel_rfl) (by intro _ _ _ h; exact h) (by rfl) (by assumption) ?_
                (try simp only [Act.put, List.setIfInBounds_toArray, List.set_cons_zero, List.set_cons_succ])
                refine wpAnyH_takeU (i := 25) (d := some 133) (by simp only [List.getElem?_toArray, List.getElem?_cons_succ, List.getElem?_cons_zero]; rfl) (by rfl) (by kernel_rfl) (by kernel_rfl) (by kernel_rfl) (by intro _ _ _ h; exact h) (by rfl) (by assumption) ?_
                (try simp only [Act.put, List.setIfInBounds_toArray, List.set_cons_zero, List.set_cons_succ])
                refine wpAnyH_takeU (i := 26) (d := some 134) (by simp only [List.getElem?_toArray, List.getElem?_cons_succ, List.getElem?_cons_zero]; rfl) (by rfl) (by kernel_rfl) (by kernel_rfl) (by kernel_rfl) (by intro _ _ _ h; exact h) (by rfl) (by assumption) ?_
                (try simp only [Act.put, List.setIfInBounds_toArray, List.set_cons_zero, List.set_cons_succ])
                refine wpAnyH_takeU (i := 27) (d := some 135) (by simp only [List.getElem?_toArray, List.getElem?_cons_succ, List.getElem?_cons_zero]; rfl) (by rfl) (by kernel_rfl) (by kernel_rfl) (by kernel_rfl) (by intro _ _ _ h; exact h) (by rfl) (by assumption) ?_
                (try simp only [Act.put, List.setIfInBounds_toArray, List.set_cons_zero, List.set_cons_succ])
                refine wpAnyH_takeU (i := 28) (d := some 136) (by simp only [List.getElem?_toArray, List.getElem?_cons_succ, List.getElem?_cons_zero]; rfl) (by rfl) (by kernel_rfl) (by kernel_rfl) (by kernel_rfl) (by intro _ _ _ h; exact h) (by rfl) (by assumption) ?_
                (try simp only [Act.put, List.setIfInBounds_toArray, List.set_cons_zero, List.set_cons_succ])
                refine wpAnyH_takeU (i := 29) (d := some 137) (by simp only [List.getElem?_toArray, List.getElem?_cons_succ, List.getElem?_cons_zero]; rfl) (by rfl) (by kernel_rfl) (by kernel_rfl) (by kernel_rfl) (by intro _ _ _ h; exact h) (by rfl) (by assumption) ?_
                (try simp only [Act.put, List.setIfInBounds_toArray, List.set_cons_zero, List.set_cons_succ])
                refine wpAnyH_takeU (i := 30) (d := some 138) (by simp only [List.getElem?_toArray, List.getElem?_cons_succ, List.getElem?_cons_zero]; rfl) (by rfl) (by kernel_rfl) (by kernel_rfl) (by kernel_rfl) (by intro _ _ _ h; exact h) (by rfl) (by assumption) ?_
                (try simp only [Act.put, List.setIfInBounds_toArray, List.set_cons_zero, List.set_cons_succ])
                refine wpAnyH_takeU (i := 31) (d := some 139) (by simp only [List.getElem?_toArray, List.getElem?_cons_succ, List.getElem?_cons_zero]; rfl) (by rfl) (by kernel_rfl) (by kernel_rfl) (by kernel_rfl) (by intro _ _ _ h; exact h) (by rfl) (by assumption) ?_
                (try simp only [Act.put, List.setIfInBounds_toArray, List.set_cons_zero, List.set_cons_succ])
                refine wpAnyH_takeU (i := 32) (d := some 140) (by simp only [List.getElem?_toArray, List.getElem?_cons_succ, List.getElem?_cons_zero]; rfl) (by rfl) (by kernel_rfl) (by kernel_rfl) (by kernel_rfl) (by intro _ _ _ h; exact h) (by rfl) (by assumption) ?_
                (try simp only [Act.put, List.setIfInBounds_toArray, List.set_cons_zero, List.set_cons_succ])
                refine wpAnyH_takeU (i := 33) (d := some 141) (by simp only [List.getElem?_toArray, List.getElem?_cons_succ, List.getElem?_cons_zero]; rfl) (by rfl) (by kernel_rfl) (by kernel_rfl) (by kernel_rfl) (by intro _ _ _ h; exact h) (by rfl) (by assumption) ?_
                (try simp only [Act.put, List.setIfInBounds_toArray, List.set_cons_zero, List.set_cons_succ])
                refine wpAnyH_takeW (i := 34) (d := some 142) (v := ?_) (by simp only [List.getElem?_toArray, List.getElem?_cons_succ, List.getElem?_cons_zero]; rfl) (by rfl) (by kernel_rfl) (by kernel_rfl) (by kernel_rfl) (by intro _ _ _ h; exact h) (by rfl) ?_ (by assumption) ?_
                rotate_left 1
                · (intro w hSw; (try dsimp only at hSw); go_simp; try (with_reducible rfl))
                (try simp only [Act.put, List.setIfInBounds_toArray, List.set_cons_zero, List.set_cons_succ])
                refine wpAnyH_takeW (i := 35) (d := some 143) (v := ?_) (by simp only [List.getElem?_toArray, List.getElem?_cons_succ, List.getElem?_cons_zero]; rfl) (by rfl) (by kernel_rfl) (by kernel_rfl) (by kernel_rfl) (by intro _ _ _ h; exact h) (by rfl) ?_ (by assumption) ?_
                rotate_left 1
                · (intro w hSw; (try dsimp only at hSw); go_simp; try (with_reducible rfl))
                (try simp only [Act.put, List.setIfInBounds_toArray, List.set_cons_zero, List.set_cons_succ])
                refine wpAnyH_takeW (i := 36) (d := some 144) (v := ?_) (by simp only [List.getElem?_toArray, List.getElem?_cons_succ, List.getElem?_cons_zero]; rfl) (by rfl) (by kernel_rfl) (by kernel_rfl) (by kernel_rfl) (by intro _ _ _ h; exact h) (by rfl) ?_ (by assumption) ?_
                rotate_left 1
                · (intro w hSw; (try dsimp only at hSw); go_simp; try (with_reducible rfl))
                (try simp only [Act.put, List.setIfInBounds_toArray, List.set_cons_zero, List.set_cons_succ])
                refine wpAnyH_takeW (i := 37) (d := some 145) (v := ?_) (by simp only [List.getElem?_toArray, List.getElem?_cons_succ, List.getElem?_cons_zero]; rfl) (by rfl) (by kernel_rfl) (by kernel_rfl) (by kernel_rfl) (by intro _ _ _ h; exact h) (by rfl) ?_ (by assumption) ?_
                rotate_left 1
                · (intro w hSw; (try dsimp only at hSw); go_simp; try (with_reducible rfl))
                (try simp only [Act.put, List.setIfInBounds_toArray, List.set_cons_zero, List.set_cons_succ])
                refine wpAnyH_takeW (i := 38) (d := some 146) (v := ?_) (by simp only [List.getElem?_toArray, List.getElem?_cons_succ, List.getElem?_cons_zero]; rfl) (by rfl) (by kernel_rfl) (by kernel_rfl) (by kernel_rfl) (by intro _ _ _ h; exact h) (by rfl) ?_ (by assumption) ?_
                rotate_left 1
                · (intro w hSw; (try dsimp only at hSw); go_simp; try (with_reducible rfl))
                (try simp only [Act.put, List.setIfInBounds_toArray, List.set_cons_zero, List.set_cons_succ])
                refine wpAnyH_takeW (i := 39) (d := some 147) (v := ?_) (by simp only [List.getElem?_toArray, List.getElem?_cons_succ, List.getElem?_cons_zero]; rfl) (by rfl) (by kernel_rfl) (by kernel_rfl) (by kernel_rfl) (by intro _ _ _ h; exact h) (by rfl) ?_ (by assumption) ?_
                rotate_left 1
                · (intro w hSw; (try dsimp only at hSw); go_simp; try (with_reducible rfl))
                (try simp only [Act.put, List.setIfInBounds_toArray, List.set_cons_zero, List.set_cons_succ])
                refine wpAnyH_takeW (i := 40) (d := some 148) (v := ?_) (by simp only [List.getElem?_toArray, List.getElem?_cons_succ, List.getElem?_cons_zero]; rfl) (by rfl) (by kernel_rfl) (by kernel_rfl) (by kernel_rfl) (by intro _ _ _ h; exact h) (by rfl) ?_ (by assumption) ?_
                rotate_left 1
                · (intro w hSw; (try dsimp only at hSw); go_simp; try (with_reducible rfl))
                (try simp only [Act.put, List.setIfInBounds_toArray, List.set_cons_zero, List.set_cons_succ])
                refine wpAnyH_takeW (i := 41) (d := some 149) (v := ?_) (by simp only [List.getElem?_toArray, List.getElem?_cons_succ, List.getElem?_cons_zero]; rfl) (by rfl) (by kernel_rfl) (by kernel_rfl) (by kernel_rfl) (by intro _ _ _ h; exact h) (by rfl) ?_ (by assumption) ?_
                rotate_left 1
                · (intro w hSw; (try dsimp only at hSw); go_simp; try (with_reducible rfl))
                (try simp only [Act.put, List.setIfInBounds_toArray, List.set_cons_zero, List.set_cons_succ])
                refine wpAnyH_takeW (i := 42) (d := some 150) (v := ?_) (by simp only [List.getElem?_toArray, List.getElem?_cons_succ, List.getElem?_cons_zero]; rfl) (by rfl) (by kernel_rfl) (by kernel_rfl) (by kernel_rfl) (by intro _ _ _ h; exact h) (by rfl) ?_ (by assumption) ?_
                rotate_left 1
                · (intro w hSw; (try dsimp only at hSw); go_simp; try (with_reducible rfl))
                (try simp only [Act.put, List.setIfInBounds_toArray, List.set_cons_zero, List.set_cons_succ])
                refine wpAnyH_takeW (i := 43) (d := some 151) (v := ?_) (by simp only [List.getElem?_toArray, List.getElem?_cons_succ, List.getElem?_cons_zero]; rfl) (by rfl) (by kernel_rfl) (by kernel_rfl) (by kernel_rfl) (by intro _ _ _ h; exact h) (by rfl) ?_ (by assumption) ?_
                rotate_left 1
                · (intro w hSw; (try dsimp only at hSw); go_simp; try (with_reducible rfl))
                (try simp only [Act.put, List.setIfInBounds_toArray, List.set_cons_zero, List.set_cons_succ])
                refine wpAnyH_takeW (i := 44) (d := some 152) (v := ?_) (by simp only [List.getElem?_toArray, List.getElem?_cons_succ, List.getElem?_cons_zero]; rfl) (by rfl) (by kernel_rfl) (by kernel_rfl) (by kernel_rfl) (by intro _ _ _ h; exact h) (by rfl) ?_ (by assumption) ?_
                rotate_left 1
                · (intro w hSw; (try dsimp only at hSw); go_simp; try (with_reducible rfl))
                (try simp only [Act.put, List.setIfInBounds_toArray, List.set_cons_zero, List.set_cons_succ])
                refine wpAnyH_takeW (i := 45) (d := some 2) (v := ?_) (by simp only [List.getElem?_toArray, List.getElem?_cons_succ, List.getElem?_cons_zero]; rfl) (by rfl) (by kernel_rfl) (by kernel_rfl) (by kernel_rfl) (by intro _ _ _ h; exact h) (by rfl) ?_ (by assumption) ?_
                rotate_left 1
                · (intro w hSw; (try dsimp only at hSw); go_simp; try (with_reducible rfl))
                (try simp only [Act.put, List.setIfInBounds_toArray, List.set_cons_zero, List.set_cons_succ])
                refine wpAnyH_done (by kernel_rfl) ?_ _
                go_wp2
                go_ret
                exact ⟨by simp, HB5.out.trans (HBB_u2.out.mono HB5.out.size)⟩
              · have hcv : seqD (sq f k) (sq f D) ≠ 16 := fun h => by
                  have := HCS.out
                  unfold canSend at this
                  rw [h] at this
                  simp at this
                rw [sq_le f hkD (by omega)] at hcv
                have hN2 : N = sq f (D + 1) := by rw [HN.out]; unfold sendN; rw [if_pos HCS.out.symm, sq_next]
                have hn2 : n0 = sq f D := by rw [HN0.out]; unfold sendX; rw [if_pos HCS.out.symm]
                have hq5 : (n0 == sq f D) = true := by rw [hn2]; simp
                have HVZ : Hid (vSend (sq f k) N ((Bn >>> k : Nat) : Int) = true) := Lib.hid (by rw [hN2]; exact vSend_can f (by omega) (by omega) (by omega) (Nat.lt_of_lt_of_le HBK.out.1 (Nat.pow_le_pow_right (by omega) (by omega))) HBK.out.2.1)
                have HMZ : Hid (n0 ∈ outS (sq f k) N ((Bn >>> k : Nat) : Int)) := Lib.hid (by
                  rw [hN2, hn2]
                  refine (outS_can_mem f (show k ≤ D + 1 by omega) (by omega) (by omega) (Nat.lt_of_lt_of_le HBK.out.1 (Nat.pow_le_pow_right (by omega) (by omega))) HBK.out.2.1).2 ⟨D - k, by omega, Nat.testBit_lt_two_pow HBK.out.1, by rw [show k + (D - k) = D by omega]⟩)
                have hn3 := hn2
                clear hcv hN2
                subst hn3
                refine wp_region_held_drew (S := (fun w' => w'.cell? ⟨wl.heap.size, 0, none⟩ = some (.int .i64 (sq f D)) ∧ w'.cell? ⟨wl.heap.size, 1, none⟩ = some (.int .i64 (sq f D)) ∧ w'.cell? ⟨wl.heap.size, 2, none⟩ = some (.int .i64 (((An >>> D : Nat) : Int))) ∧ w'.cell? ⟨w1.heap.size, 1, none⟩ = some (.int .i64 (sq f D)) ∧ w'.cell? ⟨w2.heap.size, 0, none⟩ = some (.int .i64 (sq f k)) ∧ w'.cell? ⟨w2.heap.size, 1, none⟩ = some (.int .i64 (sq f D)) ∧ w'.cell? ⟨w2.heap.size, 2, none⟩ = some (.int .i64 (((Bn >>> k : Nat) : Int))) ∧ w'.cell? ⟨w1.heap.size + 1, 0, none⟩ = some (.int .i64 (bs)) ∧ w'.cell? ⟨w1.heap.size + 1, 1, none⟩ = some (.int .i64 (bm)) ∧ w'.cell? ⟨wn.heap.size, 0, none⟩ = some (.int .i64 (sq f k)) ∧ w'.cell? ⟨wn.heap.size, 1, none⟩ = some (.int .i64 (N)) ∧ w'.cell? ⟨wn.heap.size, 2, none⟩ = some (.int .i64 (((Bn >>> k : Nat) : Int))) ∧ w'.cell? ⟨wo.heap.size, 0, none⟩ = some (.int .i64 (5)))) (by kernel_rfl) ?_ (fun hHeld => ?_)
                · first | exact ⟨qy0, qy1, qy2, qs1, qx0, qx1, qx2, qa0, qa1, qz0, qz1, qz2, qw0⟩ | (simp [go_sem, *]; done)
                refine wpAnyH_takeW (i := 0) (d := some 108) (v := ?_) (by simp only [List.getElem?_toArray, List.getElem?_cons_succ, List.getElem?_cons_zero]; rfl) (by rfl) (by kernel_rfl) (by kernel_rfl) (by kernel_rfl) (by intro _ _ _ h; exact h) (by rfl) ?_ (by assumption) ?_
                rotate_left 1
                · (intro w hSw; (try dsimp only at hSw); go_simp; try (with_reducible rfl))
                (try simp only [Act.put, List.setIfInBounds_toArray, List.set_cons_zero, List.set_cons_succ])
                refine wpAnyH_ready (rs := [1]) (by kernel_rfl) (by simp) ?_
                refine AllReadyH.cons (i := 1) (by simp only [List.getElem?_toArray, List.getElem?_cons_succ, List.getElem?_cons_zero]; rfl) (fun K hK => ?_) AllReadyH.nil
                go_simp
                refine (implDone_any (sq f D) (sq f D) ((An >>> D : Nat) : Int) _).mono ?_
                rw [HDN.out]
                rintro e u1 ⟨rfl, hb⟩
                replace hb : Below w5.heap.size w5 u1 := Below.trans (Below.drew (Below.refl _ _)) hb
                have hsz_u1 := hb.size
                have HBB_u1 := Lib.hid (hb)
                replace qy0 := (hb.cell (p := ⟨wl.heap.size, 0, none⟩) (by simp only; omega)).trans qy0
                replace qy1 := (hb.cell (p := ⟨wl.heap.size, 1, none⟩) (by simp only; omega)).trans qy1
                replace qy2 := (hb.cell (p := ⟨wl.heap.size, 2, none⟩) (by simp only; omega)).trans qy2
                replace qs1 := (hb.cell (p := ⟨w1.heap.size, 1, none⟩) (by simp only; omega)).trans qs1
                replace qx0 := (hb.cell (p := ⟨w2.heap.size, 0, none⟩) (by simp only; omega)).trans qx0
                replace qx1 := (hb.cell (p := ⟨w2.heap.size, 1, none⟩) (by simp only; omega)).trans qx1
                replace qx2 := (hb.cell (p := ⟨w2.heap.size, 2, none⟩) (by simp only; omega)).trans qx2
                replace qa0 := (hb.cell (p := ⟨w1.heap.size + 1, 0, none⟩) (by simp only; omega)).trans qa0
                replace qa1 := (hb.cell (p := ⟨w1.heap.size + 1, 1, none⟩) (by simp only; omega)).trans qa1
                replace qz0 := (hb.cell (p := ⟨wn.heap.size, 0, none⟩) (by simp only; omega)).trans qz0
                replace qz1 := (hb.cell (p := ⟨wn.heap.size, 1, none⟩) (by simp only; omega)).trans qz1
                replace qz2 := (hb.cell (p := ⟨wn.heap.size, 2, none⟩) (by simp only; omega)).trans qz2
                replace qw0 := (hb.cell (p := ⟨wo.heap.size, 0, none⟩) (by simp only; omega)).trans qw0
                clear hb
                go_wp2_with fail
                refine hK.out _ _ ?_ (fun hHeld => ?_)
                · ((try dsimp only); first | exact ⟨qy0, qy1, qy2, qs1, qx0, qx1, qx2, qa0, qa1, qz0, qz1, qz2, qw0⟩ | (simp [go_sem, *]; done))
                clear hK K
                (try simp only [Act.put, List.setIfInBounds_toArray, List.set_cons_zero, List.set_cons_succ])
                refine wpAnyH_takeW (i := 2) (d := some 110) (v := ?_) (by simp only [List.getElem?_toArray, List.getElem?_cons_succ, List.getElem?_cons_zero]; rfl) (by rfl) (by kernel_rfl) (by kernel_rfl) (by kernel_rfl) (by intro _ _ _ h; exact h) (by rfl) ?_ (by assumption) ?_
                rotate_left 1
                · (intro w hSw; (try dsimp only at hSw); go_simp; try (with_reducible rfl))
                (try simp only [Act.put, List.setIfInBounds_toArray, List.set_cons_zero, List.set_cons_succ])
                refine wpAnyH_takeW (i := 3) (d := some 111) (v := ?_) (by simp only [List.getElem?_toArray, List.getElem?_cons_succ, List.getElem?_cons_zero]; rfl) (by rfl) (by kernel_rfl) (by kernel_rfl) (by kernel_rfl) (by intro _ _ _ h; exact h) (by rfl) ?_ (by assumption) ?_
                rotate_left 1
                · (intro w hSw; (try dsimp only at hSw); go_simp; try (with_reducible rfl))
                (try simp only [Act.put, List.setIfInBounds_toArray, List.set_cons_zero, List.set_cons_succ])
                refine wpAnyH_takeW (i := 4) (d := some 112) (v := ?_) (by simp only [List.getElem?_toArray, List.getElem?_cons_succ, List.getElem?_cons_zero]; rfl) (by rfl) (by kernel_rfl) (by kernel_rfl) (by kernel_rfl) (by intro _ _ _ h; exact h) (by rfl) ?_ (by assumption) ?_
                rotate_left 1
                · (intro w hSw; (try dsimp only at hSw); go_simp; try (with_reducible rfl))
                (try simp only [Act.put, List.setIfInBounds_toArray, List.set_cons_zero, List.set_cons_succ])
                refine wpAnyH_takeW (i := 5) (d := some 113) (v := ?_) (by simp only [List.getElem?_toArray, List.getElem?_cons_succ, List.getElem?_cons_zero]; rfl) (by rfl) (by kernel_rfl) (by kernel_rfl) (by kernel_rfl) (by intro _ _ _ h; exact h) (by rfl) ?_ (by assumption) ?_
                rotate_left 1
                · (intro w hSw; (try dsimp only at hSw); go_simp; try (with_reducible rfl))
                (try simp only [Act.put, List.setIfInBounds_toArray, List.set_cons_zero, List.set_cons_succ])
                refine wpAnyH_takeW (i := 6) (d := some 114) (v := ?_) (by simp only [List.getElem?_toArray, List.getElem?_cons_succ, List.getElem?_cons_zero]; rfl) (by rfl) (by kernel_rfl) (by kernel_rfl) (by kernel_rfl) (by intro _ _ _ h; exact h) (by rfl) ?_ (by assumption) ?_
                rotate_left 1
                · (intro w hSw; (try dsimp only at hSw); go_simp; try (with_reducible rfl))
                (try simp only [Act.put, List.setIfInBounds_toArray, List.set_cons_zero, List.set_cons_succ])
                refine wpAnyH_takeW (i := 7) (d := some 115) (v := ?_) (by simp only [List.getElem?_toArray, List.getElem?_cons_succ, List.getElem?_cons_zero]; rfl) (by rfl) (by kernel_rfl) (by kernel_rfl) (by kernel_rfl) (by intro _ _ _ h; exact h) (by rfl) ?_ (by assumption) ?_
                rotate_left 1
                · (intro w hSw; (try dsimp only at hSw); go_simp; try (with_reducible rfl))
                (try simp only [Act.put, List.setIfInBounds_toArray, List.set_cons_zero, List.set_cons_succ])
                refine wpAnyH_takeW (i := 8) (d := some 116) (v := ?_) (by simp only [List.getElem?_toArray, List.getElem?_cons_succ, List.getElem?_cons_zero]; rfl) (by rfl) (by kernel_rfl) (by kernel_rfl) (by kernel_rfl) (by intro _ _ _ h; exact h) (by rfl) ?_ (by assumption) ?_
                rotate_left 1
                · (intro w hSw; (try dsimp only at hSw); go_simp; try (with_reducible rfl))
                (try simp only [Act.put, List.setIfInBounds_toArray, List.set_cons_zero, List.set_cons_succ])
                refine wpAnyH_takeW (i := 9) (d := some 117) (v := ?_) (by simp only [List.getElem?_toArray, List.getElem?_cons_succ, List.getElem?_cons_zero]; rfl) (by rfl) (by kernel_rfl) (by kernel_rfl) (by kernel_rfl) (by intro _ _ _ h; exact h) (by rfl) ?_ (by assumption) ?_
                rotate_left 1
                · (intro w hSw; (try dsimp only at hSw); go_simp; try (with_reducible rfl))
                (try simp only [Act.put, List.setIfInBounds_toArray, List.set_cons_zero, List.set_cons_succ])
                refine wpAnyH_takeW (i := 10) (d := some 118) (v := ?_) (by simp only [List.getElem?_toArray, List.getElem?_cons_succ, List.getElem?_cons_zero]; rfl) (by rfl) (by kernel_rfl) (by kernel_rfl) (by kernel_rfl) (by intro _ _ _ h; exact h) (by rfl) ?_ (by assumption) ?_
                rotate_left 1
                · (intro w hSw; (try dsimp only at hSw); go_simp; try (with_reducible rfl))
                (try simp only [Act.put, List.setIfInBounds_toArray, List.set_cons_zero, List.set_cons_succ])
                refine wpAnyH_takeW (i := 11) (d := some 119) (v := ?_) (by simp only [List.getElem?_toArray, List.getElem?_cons_succ, List.getElem?_cons_zero]; rfl) (by rfl) (by kernel_rfl) (by kernel_rfl) (by kernel_rfl) (by intro _ _ _ h; exact h) (by rfl) ?_ (by assumption) ?_
                rotate_left 1
                · (intro w hSw; (try dsimp only at hSw); go_simp; try (with_reducible rfl))
                (try simp only [Act.put, List.setIfInBounds_toArray, List.set_cons_zero, List.set_cons_succ])
                refine wpAnyH_takeW (i := 13) (d := some 121) (v := ?_) (by simp only [List.getElem?_toArray, List.getElem?_cons_succ, List.getElem?_cons_zero]; rfl) (by rfl) (by kernel_rfl) (by kernel_rfl) (by kernel_rfl) (by intro _ _ _ h; exact h) (by rfl) ?_ (by assumption) ?_
                rotate_left 1
                · (intro w hSw; (try dsimp only at hSw); go_simp; try (with_reducible rfl))
                (try simp only [Act.put, List.setIfInBounds_toArray, List.set_cons_zero, List.set_cons_succ])
                refine wpAnyH_ready (rs := [12]) (by kernel_rfl) (by simp) ?_
                refine AllReadyH.cons (i := 12) (by simp only [List.getElem?_toArray, List.getElem?_cons_succ, List.getElem?_cons_zero]; rfl) (fun K hK => ?_) AllReadyH.nil
                go_simp
                refine (implRecv_any (sq f k) (sq f D) ((Bn >>> k : Nat) : Int) bs bm _).mono ?_
                rw [HID.out]
                rintro e u2 ⟨rfl, hb⟩
                have hsz_u2 := hb.size
                have HBB_u2 := Lib.hid (HBB_u1.out.trans (hb.mono HBB_u1.out.size))
                replace qy0 := (hb.cell (p := ⟨wl.heap.size, 0, none⟩) (by simp only; omega)).trans qy0
                replace qy1 := (hb.cell (p := ⟨wl.heap.size, 1, none⟩) (by simp only; omega)).trans qy1
                replace qy2 := (hb.cell (p := ⟨wl.heap.size, 2, none⟩) (by simp only; omega)).trans qy2
                replace qs1 := (hb.cell (p := ⟨w1.heap.size, 1, none⟩) (by simp only; omega)).trans qs1
                replace qx0 := (hb.cell (p := ⟨w2.heap.size, 0, none⟩) (by simp only; omega)).trans qx0
                replace qx1 := (hb.cell (p := ⟨w2.heap.size, 1, none⟩) (by simp only; omega)).trans qx1
                replace qx2 := (hb.cell (p := ⟨w2.heap.size, 2, none⟩) (by simp only; omega)).trans qx2
                replace qa0 := (hb.cell (p := ⟨w1.heap.size + 1, 0, none⟩) (by simp only; omega)).trans qa0
                replace qa1 := (hb.cell (p := ⟨w1.heap.size + 1, 1, none⟩) (by simp only; omega)).trans qa1
                replace qz0 := (hb.cell (p := ⟨wn.heap.size, 0, none⟩) (by simp only; omega)).trans qz0
                replace qz1 := (hb.cell (p := ⟨wn.heap.size, 1, none⟩) (by simp only; omega)).trans qz1
                replace qz2 := (hb.cell (p := ⟨wn.heap.size, 2, none⟩) (by simp only; omega)).trans qz2
                replace qw0 := (hb.cell (p := ⟨wo.heap.size, 0, none⟩) (by simp only; omega)).trans qw0
                clear hb
                go_wp2_with fail
                refine hK.out _ _ ?_ (fun hHeld => ?_)
                · ((try dsimp only); first | exact ⟨qy0, qy1, qy2, qs1, qx0, qx1, qx2, qa0, qa1, qz0, qz1, qz2, qw0⟩ | (simp [go_sem, *]; done))
                clear hK K
                (try simp only [Act.put, List.setIfInBounds_toArray, List.set_cons_zero, List.set_cons_succ])
                refine wpAnyH_takeW (i := 14) (d := some 122) (v := ?_) (by simp only [List.getElem?_toArray, List.getElem?_cons_succ, List.getElem?_cons_zero]; rfl) (by rfl) (by kernel_rfl) (by kernel_rfl) (by kernel_rfl) (by intro _ _ _ h; exact h) (by rfl) ?_ (by assumption) ?_
                rotate_left 1
                · (intro w hSw; (try dsimp only at hSw); go_simp; try (with_reducible rfl))
                (try simp only [Act.put, List.setIfInBounds_toArray, List.set_cons_zero, List.set_cons_succ])
                refine wpAnyH_takeW (i := 15) (d := some 123) (v := ?_) (by simp only [List.getElem?_toArray, List.getElem?_cons_succ, List.getElem?_cons_zero]; rfl) (by rfl) (by kernel_rfl) (by kernel_rfl) (by kernel_rfl) (by intro _ _ _ h; exact h) (by rfl) ?_ (by assumption) ?_
                rotate_left 1
                · (intro w hSw; (try dsimp only at hSw); go_simp; try (with_reducible rfl))
                (try simp only [Act.put, List.setIfInBounds_toArray, List.set_cons_zero, List.set_cons_succ])
                refine wpAnyH_takeW (i := 16) (d := some 124) (v := ?_) (by simp only [List.getElem?_toArray, List.getElem?_cons_succ, List.getElem?_cons_zero]; rfl) (by rfl) (by kernel_rfl) (by kernel_rfl) (by kernel_rfl) (by intro _ _ _ h; exact h) (by rfl) ?_ (by assumption) ?_
                rotate_left 1
                · (intro w hSw; (try dsimp only at hSw); go_simp; try (with_reducible rfl))
                (try simp only [Act.put, List.setIfInBounds_toArray, List.set_cons_zero, List.set_cons_succ])
                refine wpAnyH_takeW (i := 17) (d := some 125) (v := ?_) (by simp only [List.getElem?_toArray, List.getElem?_cons_succ, List.getElem?_cons_zero]; rfl) (by rfl) (by kernel_rfl) (by kernel_rfl) (by kernel_rfl) (by intro _ _ _ h; exact h) (by rfl) ?_ (by assumption) ?_
                rotate_left 1
                · (intro w hSw; (try dsimp only at hSw); go_simp; try (with_reducible rfl))
                (try simp only [Act.put, List.setIfInBounds_toArray, List.set_cons_zero, List.set_cons_succ])
                refine wpAnyH_takeW (i := 18) (d := some 126) (v := ?_) (by simp only [List.getElem?_toArray, List.getElem?_cons_succ, List.getElem?_cons_zero]; rfl) (by rfl) (by kernel_rfl) (by kernel_rfl) (by kernel_rfl) (by intro _ _ _ h; exact h) (by rfl) ?_ (by assumption) ?_
                rotate_left 1
                · (intro w hSw; (try dsimp only at hSw); go_simp; try (with_reducible rfl))
                (try simp only [Act.put, List.setIfInBounds_toArray, List.set_cons_zero, List.set_cons_succ])
                refine wpAnyH_takeW (i := 19) (d := some 127) (v := ?_) (by simp only [List.getElem?_toArray, List.getElem?_cons_succ, List.getElem?_cons_zero]; rfl) (by rfl) (by kernel_rfl) (by kernel_rfl) (by kernel_rfl) (by intro _ _ _ h; exact h) (by rfl) ?_ (by assumption) ?_
                rotate_left 1
                · (intro w hSw; (try dsimp only at hSw); go_simp; try (with_reducible rfl))
                (try simp only [Act.put, List.setIfInBounds_toArray, List.set_cons_zero, List.set_cons_succ])
                refine wpAnyH_takeW (i := 20) (d := some 128) (v := ?_) (by simp only [List.getElem?_toArray, List.getElem?_cons_succ, List.getElem?_cons_zero]; rfl) (by rfl) (by kernel_rfl) (by kernel_rfl) (by kernel_rfl) (by intro _ _ _ h; exact h) (by rfl) ?_ (by assumption) ?_
                rotate_left 1
                · (intro w hSw; (try dsimp only at hSw); go_simp; try (with_reducible rfl))
                (try simp only [Act.put, List.setIfInBounds_toArray, List.set_cons_zero, List.set_cons_succ])
                refine wpAnyH_takeW (i := 21) (d := some 129) (v := ?_) (by simp only [List.getElem?_toArray, List.getElem?_cons_succ, List.getElem?_cons_zero]; rfl) (by rfl) (by kernel_rfl) (by kernel_rfl) (by kernel_rfl) (by intro _ _ _ h; exact h) (by rfl) ?_ (by assumption) ?_
                rotate_left 1
                · (intro w hSw; (try dsimp only at hSw); go_simp; try (with_reducible rfl))
                (try simp only [Act.put, List.setIfInBounds_toArray, List.set_cons_zero, List.set_cons_succ])
                refine wpAnyH_takeW (i := 22) (d := some 130) (v := ?_) (by simp only [List.getElem?_toArray, List.getElem?_cons_succ, List.getElem?_cons_zero]; rfl) (by rfl) (by kernel_rfl) (by kernel_rfl) (by kernel_rfl) (by intro _ _ _ h; exact h) (by rfl) ?_ (by assumption) ?_
                rotate_left 1
                · (intro w hSw; (try dsimp only at hSw); go_simp; try (with_reducible rfl))
                (try simp only [Act.put, List.setIfInBounds_toArray, List.set_cons_zero, List.set_cons_succ])
                refine wpAnyH_takeW (i := 23) (d := some 131) (v := ?_) (by simp only [List.getElem?_toArray, List.getElem?_cons_succ, List.getElem?_cons_zero]; rfl) (by rfl) (by kernel_rfl) (by kernel_rfl) (by kernel_rfl) (by intro _ _ _ h; exact h) (by rfl) ?_ (by assumption) ?_
                rotate_left 1
                · (intro w hSw; (try dsimp only at hSw); go_simp; try (with_reducible rfl))
                (try simp only [Act.put, List.setIfInBounds_toArray, List.set_cons_zero, List.set_cons_succ])
                refine wpAnyH_takeW (i := 24) (d := some 132) (v := ?_) (by simp only [List.getElem?_toArray, List.getElem?_cons_succ, List.getElem?_cons_zero]; rfl) (by rfl) (by kernel_rfl) (by kernel_rfl) (by kernel_rfl) (by intro _ _ _ h; exact h) (by rfl) ?_ (by assumption) ?_
                rotate_left 1
                · (intro w hSw; (try dsimp only at hSw); go_simp; try (with_reducible rfl))
                (try simp only [Act.put, List.setIfInBounds_toArray, List.set_cons_zero, List.set_cons_succ])
                refine wpAnyH_takeW (i := 25) (d := some 133) (v := ?_) (by simp only [List.getElem?_toArray, List.getElem?_cons_succ, List.getElem?_cons_zero]; rfl) (by rfl) (by kernel_rfl) (by kernel_rfl) (by kernel_rfl) (by intro _ _ _ h; exact h) (by rfl) ?_ (by assumption) ?_
                rotate_left 1
                · (intro w hSw; (try dsimp only at hSw); go_simp; try (with_reducible rfl))
                (try simp only [Act.put, List.setIfInBounds_toArray, List.set_cons_zero, List.set_cons_succ])
                refine wpAnyH_ready (rs := [26]) (by kernel_rfl) (by simp) ?_
                refine AllReadyH.cons (i := 26) (by simp only [List.getElem?_toArray, List.getElem?_cons_succ, List.getElem?_cons_zero]; rfl) (fun K hK => ?_) AllReadyH.nil
                go_simp
                refine (implVS_any (sq f k) N ((Bn >>> k : Nat) : Int) _).mono ?_
                rw [HVZ.out]
                rintro e u3 ⟨rfl, hb⟩
                have hsz_u3 := hb.size
                have HBB_u3 := Lib.hid (HBB_u2.out.trans (hb.mono HBB_u2.out.size))
                replace qy0 := (hb.cell (p := ⟨wl.heap.size, 0, none⟩) (by simp only; omega)).trans qy0
                replace qy1 := (hb.cell (p := ⟨wl.heap.size, 1, none⟩) (by simp only; omega)).trans qy1
                replace qy2 := (hb.cell (p := ⟨wl.heap.size, 2, none⟩) (by simp only; omega)).trans qy2
                replace qs1 := (hb.cell (p := ⟨w1.heap.size, 1, none⟩) (by simp only; omega)).trans qs1
                replace qx0 := (hb.cell (p := ⟨w2.heap.size, 0, none⟩) (by simp only; omega)).trans qx0
                replace qx1 := (hb.cell (p := ⟨w2.heap.size, 1, none⟩) (by simp only; omega)).trans qx1
                replace qx2 := (hb.cell (p := ⟨w2.heap.size, 2, none⟩) (by simp only; omega)).trans qx2
                replace qa0 := (hb.cell (p := ⟨w1.heap.size + 1, 0, none⟩) (by simp only; omega)).trans qa0
                replace qa1 := (hb.cell (p := ⟨w1.heap.size + 1, 1, none⟩) (by simp only; omega)).trans qa1
                replace qz0 := (hb.cell (p := ⟨wn.heap.size, 0, none⟩) (by simp only; omega)).trans qz0
                replace qz1 := (hb.cell (p := ⟨wn.heap.size, 1, none⟩) (by simp only; omega)).trans qz1
                replace qz2 := (hb.cell (p := ⟨wn.heap.size, 2, none⟩) (by simp only; omega)).trans qz2
                replace qw0 := (hb.cell (p := ⟨wo.heap.size, 0, none⟩) (by simp only; omega)).trans qw0
                clear hb
                go_wp2_with fail
                refine hK.out _ _ ?_ (fun hHeld => ?_)
                · ((try dsimp only); first | exact ⟨qy0, qy1, qy2, qs1, qx0, qx1, qx2, qa0, qa1, qz0, qz1, qz2, qw0⟩ | (simp [go_sem, *]; done))
                clear hK K
                (try simp only [Act.put, List.setIfInBounds_toArray, List.set_cons_zero, List.set_cons_succ])
                refine wpAnyH_takeW (i := 27) (d := some 135) (v := ?_) (by simp only [List.getElem?_toArray, List.getElem?_cons_succ, List.getElem?_cons_zero]; rfl) (by rfl) (by kernel_rfl) (by kernel_rfl) (by kernel_rfl) (by intro _ _ _ h; exact h) (by rfl) ?_ (by assumption) ?_
                rotate_left 1
                · (intro w hSw; (try dsimp only at hSw); go_simp; try (with_reducible rfl))
                (try simp only [Act.put, List.setIfInBounds_toArray, List.set_cons_zero, List.set_cons_succ])
                refine wpAnyH_takeW (i := 28) (d := some 136) (v := ?_) (by simp only [List.getElem?_toArray, List.getElem?_cons_succ, List.getElem?_cons_zero]; rfl) (by rfl) (by kernel_rfl) (by kernel_rfl) (by kernel_rfl) (by intro _ _ _ h; exact h) (by rfl) ?_ (by assumption) ?_
                rotate_left 1
                · (intro w hSw; (try dsimp only at hSw); go_simp; try (with_reducible rfl))
                (try simp only [Act.put, List.setIfInBounds_toArray, List.set_cons_zero, List.set_cons_succ])
                refine wpAnyH_takeW (i := 29) (d := some 137) (v := ?_) (by simp only [List.getElem?_toArray, List.getElem?_cons_succ, List.getElem?_cons_zero]; rfl) (by rfl) (by kernel_rfl) (by kernel_rfl) (by kernel_rfl) (by intro _ _ _ h; exact h) (by rfl) ?_ (by assumption) ?_
                rotate_left 1
                · (intro w hSw; (try dsimp only at hSw); go_simp; try (with_reducible rfl))
                (try simp only [Act.put, List.setIfInBounds_toArray, List.set_cons_zero, List.set_cons_succ])
                refine wpAnyH_takeW (i := 31) (d := some 139) (v := ?_) (by simp only [List.getElem?_toArray, List.getElem?_cons_succ, List.getElem?_cons_zero]; rfl) (by rfl) (by kernel_rfl) (by kernel_rfl) (by kernel_rfl) (by intro _ _ _ h; exact h) (by rfl) ?_ (by assumption) ?_
                rotate_left 1
                · (intro w hSw; (try dsimp only at hSw); go_simp; try (with_reducible rfl))
                (try simp only [Act.put, List.setIfInBounds_toArray, List.set_cons_zero, List.set_cons_succ])
                refine wpAnyH_ready (rs := [30]) (by kernel_rfl) (by simp) ?_
                refine AllReadyH.cons (i := 30) (by simp only [List.getElem?_toArray, List.getElem?_cons_succ, List.getElem?_cons_zero]; rfl) (fun K hK => ?_) AllReadyH.nil
                go_simp
                refine (outB (sq f k) N ((Bn >>> k : Nat) : Int) _).mono ?_
                rintro e u4 ⟨gz, cz, rfl, hb, hrz⟩
                have hsz_u4 := hb.size
                have HBB_u4 := Lib.hid (HBB_u3.out.trans (hb.mono HBB_u3.out.size))
                replace qy0 := (hb.cell (p := ⟨wl.heap.size, 0, none⟩) (by simp only; omega)).trans qy0
                replace qy1 := (hb.cell (p := ⟨wl.heap.size, 1, none⟩) (by simp only; omega)).trans qy1
                replace qy2 := (hb.cell (p := ⟨wl.heap.size, 2, none⟩) (by simp only; omega)).trans qy2
                replace qs1 := (hb.cell (p := ⟨w1.heap.size, 1, none⟩) (by simp only; omega)).trans qs1
                replace qx0 := (hb.cell (p := ⟨w2.heap.size, 0, none⟩) (by simp only; omega)).trans qx0
                replace qx1 := (hb.cell (p := ⟨w2.heap.size, 1, none⟩) (by simp only; omega)).trans qx1
                replace qx2 := (hb.cell (p := ⟨w2.heap.size, 2, none⟩) (by simp only; omega)).trans qx2
                replace qa0 := (hb.cell (p := ⟨w1.heap.size + 1, 0, none⟩) (by simp only; omega)).trans qa0
                replace qa1 := (hb.cell (p := ⟨w1.heap.size + 1, 1, none⟩) (by simp only; omega)).trans qa1
                replace qz0 := (hb.cell (p := ⟨wn.heap.size, 0, none⟩) (by simp only; omega)).trans qz0
                replace qz1 := (hb.cell (p := ⟨wn.heap.size, 1, none⟩) (by simp only; omega)).trans qz1
                replace qz2 := (hb.cell (p := ⟨wn.heap.size, 2, none⟩) (by simp only; omega)).trans qz2
                replace qw0 := (hb.cell (p := ⟨wo.heap.size, 0, none⟩) (by simp only; omega)).trans qw0
                have HRZ := Lib.hid hrz
                clear hb hrz
                go_wp2_with fail
                refine hK.out _ _ ?_ (fun hHeld => ?_)
                · ((try dsimp only); first | exact ⟨qy0, qy1, qy2, qs1, qx0, qx1, qx2, qa0, qa1, qz0, qz1, qz2, qw0⟩ | (simp [go_sem, *]; done))
                clear hK K
                (try simp only [Act.put, List.setIfInBounds_toArray, List.set_cons_zero, List.set_cons_succ])
                refine wpAnyH_ready (rs := [32]) (by kernel_rfl) (by simp) ?_
                refine AllReadyH.cons (i := 32) (by simp only [List.getElem?_toArray, List.getElem?_cons_succ, List.getElem?_cons_zero]; rfl) (fun K hK => ?_) AllReadyH.nil
                go_simp
                refine (contains_any _ cz _ (sq f D) _ HRZ.out (by have := outS_le (sq f k) N ((Bn >>> k : Nat) : Int); omega) HMZ.out).mono ?_
                rintro e u5 ⟨rfl, hb⟩
                have hsz_u5 := hb.size
                have HBB_u5 := Lib.hid (HBB_u4.out.trans (hb.mono HBB_u4.out.size))
                replace qy0 := (hb.cell (p := ⟨wl.heap.size, 0, none⟩) (by simp only; omega)).trans qy0
                replace qy1 := (hb.cell (p := ⟨wl.heap.size, 1, none⟩) (by simp only; omega)).trans qy1
                replace qy2 := (hb.cell (p := ⟨wl.heap.size, 2, none⟩) (by simp only; omega)).trans qy2
                replace qs1 := (hb.cell (p := ⟨w1.heap.size, 1, none⟩) (by simp only; omega)).trans qs1
                replace qx0 := (hb.cell (p := ⟨w2.heap.size, 0, none⟩) (by simp only; omega)).trans qx0
                replace qx1 := (hb.cell (p := ⟨w2.heap.size, 1, none⟩) (by simp only; omega)).trans qx1
                replace qx2 := (hb.cell (p := ⟨w2.heap.size, 2, none⟩) (by simp only; omega)).trans qx2
                replace qa0 := (hb.cell (p := ⟨w1.heap.size + 1, 0, none⟩) (by simp only; omega)).trans qa0
                replace qa1 := (hb.cell (p := ⟨w1.heap.size + 1, 1, none⟩) (by simp only; omega)).trans qa1
                replace qz0 := (hb.cell (p := ⟨wn.heap.size, 0, none⟩) (by simp only; omega)).trans qz0
                replace qz1 := (hb.cell (p := ⟨wn.heap.size, 1, none⟩) (by simp only; omega)).trans qz1
                replace qz2 := (hb.cell (p := ⟨wn.heap.size, 2, none⟩) (by simp only; omega)).trans qz2
                replace qw0 := (hb.cell (p := ⟨wo.heap.size, 0, none⟩) (by simp only; omega)).trans qw0
                clear hb
                go_wp2_with fail
                refine hK.out _ _ ?_ (fun hHeld => ?_)
                · ((try dsimp only); first | exact ⟨qy0, qy1, qy2, qs1, qx0, qx1, qx2, qa0, qa1, qz0, qz1, qz2, qw0⟩ | (simp [go_sem, *]; done))
                clear hK K
                (try simp only [Act.put, List.setIfInBounds_toArray, List.set_cons_zero, List.set_cons_succ])
                refine wpAnyH_takeW (i := 33) (d := some 141) (v := ?_) (by simp only [List.getElem?_toArray, List.getElem?_cons_succ, List.getElem?_cons_zero]; rfl) (by rfl) (by kernel_rfl) (by kernel_rfl) (by kernel_rfl) (by intro _ _ _ h; exact h) (by rfl) ?_ (by assumption) ?_
                rotate_left 1
                · (intro w hSw; (try dsimp only at hSw); go_simp; try (with_reducible rfl))
                (try simp only [Act.put, List.setIfInBounds_toArray, List.set_cons_zero, List.set_cons_succ])
                refine wpAnyH_takeW (i := 34) (d := some 142) (v := ?_) (by simp only [List.getElem?_toArray, List.getElem?_cons_succ, List.getElem?_cons_zero]; rfl) (by rfl) (by kernel_rfl) (by kernel_rfl) (by kernel_rfl) (by intro _ _ _ h; exact h) (by rfl) ?_ (by assumption) ?_
                rotate_left 1
                · (intro w hSw; (try dsimp only at hSw); go_simp; try (with_reducible rfl))
                (try simp only [Act.put, List.setIfInBounds_toArray, List.set_cons_zero, List.set_cons_succ])
                refine wpAnyH_takeW (i := 35) (d := some 143) (v := ?_) (by simp only [List.getElem?_toArray, List.getElem?_cons_succ, List.getElem?_cons_zero]; rfl) (by rfl) (by kernel_rfl) (by kernel_rfl) (by kernel_rfl) (by intro _ _ _ h; exact h) (by rfl) ?_ (by assumption) ?_
                rotate_left 1
                · (intro w hSw; (try dsimp only at hSw); go_simp; try (with_reducible rfl))
                (try simp only [Act.put, List.setIfInBounds_toArray, List.set_cons_zero, List.set_cons_succ])
                refine wpAnyH_takeW (i := 36) (d := some 144) (v := ?_) (by simp only [List.getElem?_toArray, List.getElem?_cons_succ, List.getElem?_cons_zero]; rfl) (by rfl) (by kernel_rfl) (by kernel_rfl) (by kernel_rfl) (by intro _ _ _ h; exact h) (by rfl) ?_ (by assumption) ?_
                rotate_left 1
                · (intro w hSw; (try dsimp only at hSw); go_simp; try (with_reducible rfl))
                (try simp only [Act.put, List.setIfInBounds_toArray, List.set_cons_zero, List.set_cons_succ])
                refine wpAnyH_takeW (i := 37) (d := some 145) (v := ?_) (by simp only [List.getElem?_toArray, List.getElem?_cons_succ, List.getElem?_cons_zero]; rfl) (by rfl) (by kernel_rfl) (by kernel_rfl) (by kernel_rfl) (by intro _ _ _ h; exact h) (by rfl) ?_ (by assumption) ?_
                rotate_left 1
                · (intro w hSw; (try dsimp only at hSw); go_simp; try (with_reducible rfl))
                (try simp only [Act.put, List.setIfInBounds_toArray, List.set_cons_zero, List.set_cons_succ])
                refine wpAnyH_takeW (i := 38) (d := some 146) (v := ?_) (by simp only [List.getElem?_toArray, List.getElem?_cons_succ, List.getElem?_cons_zero]; rfl) (by rfl) (by kernel_rfl) (by kernel_rfl) (by kernel_rfl) (by intro _ _ _ h; exact h) (by rfl) ?_ (by assumption) ?_
                rotate_left 1
                · (intro w hSw; (try dsimp only at hSw); go_simp; try (with_reducible rfl))
                (try simp only [Act.put, List.setIfInBounds_toArray, List.set_cons_zero, List.set_cons_succ])
                refine wpAnyH_takeW (i := 39) (d := some 147) (v := ?_) (by simp only [List.getElem?_toArray, List.getElem?_cons_succ, List.getElem?_cons_zero]; rfl) (by rfl) (by kernel_rfl) (by kernel_rfl) (by kernel_rfl) (by intro _ _ _ h; exact h) (by rfl) ?_ (by assumption) ?_
                rotate_left 1
                · (intro w hSw; (try dsimp only at hSw); go_simp; try (with_reducible rfl))
                (try simp only [Act.put, List.setIfInBounds_toArray, List.set_cons_zero, List.set_cons_succ])
                refine wpAnyH_takeW (i := 40) (d := some 148) (v := ?_) (by simp only [List.getElem?_toArray, List.getElem?_cons_succ, List.getElem?_cons_zero]; rfl) (by rfl) (by kernel_rfl) (by kernel_rfl) (by kernel_rfl) (by intro _ _ _ h; exact h) (by rfl) ?_ (by assumption) ?_
                rotate_left 1
                · (intro w hSw; (try dsimp only at hSw); go_simp; try (with_reducible rfl))
                (try simp only [Act.put, List.setIfInBounds_toArray, List.set_cons_zero, List.set_cons_succ])
                refine wpAnyH_takeW (i := 41) (d := some 149) (v := ?_) (by simp only [List.getElem?_toArray, List.getElem?_cons_succ, List.getElem?_cons_zero]; rfl) (by rfl) (by kernel_rfl) (by kernel_rfl) (by kernel_rfl) (by intro _ _ _ h; exact h) (by rfl) ?_ (by assumption) ?_
                rotate_left 1
                · (intro w hSw; (try dsimp only at hSw); go_simp; try (with_reducible rfl))
                (try simp only [Act.put, List.setIfInBounds_toArray, List.set_cons_zero, List.set_cons_succ])
                refine wpAnyH_takeW (i := 42) (d := some 150) (v := ?_) (by simp only [List.getElem?_toArray, List.getElem?_cons_succ, List.getElem?_cons_zero]; rfl) (by rfl) (by kernel_rfl) (by kernel_rfl) (by kernel_rfl) (by intro _ _ _ h; exact h) (by rfl) ?_ (by assumption) ?_
                rotate_left 1
                · (intro w hSw; (try dsimp only at hSw); go_simp; try (with_reducible rfl))
                (try simp only [Act.put, List.setIfInBounds_toArray, List.set_cons_zero, List.set_cons_succ])
                refine wpAnyH_takeW (i := 43) (d := some 151) (v := ?_) (by simp only [List.getElem?_toArray, List.getElem?_cons_succ, List.getElem?_cons_zero]; rfl) (by rfl) (by kernel_rfl) (by kernel_rfl) (by kernel_rfl) (by intro _ _ _ h; exact h) (by rfl) ?_ (by assumption) ?_
                rotate_left 1
                · (intro w hSw; (try dsimp only at hSw); go_simp; try (with_reducible rfl))
                (try simp only [Act.put, List.setIfInBounds_toArray, List.set_cons_zero, List.set_cons_succ])
                refine wpAnyH_takeW (i := 44) (d := some 152) (v := ?_) (by simp only [List.getElem?_toArray, List.getElem?_cons_succ, List.getElem?_cons_zero]; rfl) (by rfl) (by kernel_rfl) (by kernel_rfl) (by kernel_rfl) (by intro _ _ _ h; exact h) (by rfl) ?_ (by assumption) ?_
                rotate_left 1
                · (intro w hSw; (try dsimp only at hSw); go_simp; try (with_reducible rfl))
                (try simp only [Act.put, List.setIfInBounds_toArray, List.set_cons_zero, List.set_cons_succ])
                refine wpAnyH_takeW (i := 45) (d := some 2) (v := ?_) (by simp only [List.getElem?_toArray, List.getElem?_cons_succ, List.getElem?_cons_zero]; rfl) (by rfl) (by kernel_rfl) (by kernel_rfl) (by kernel_rfl) (by intro _ _ _ h; exact h) (by rfl) ?_ (by assumption) ?_
                rotate_left 1
                · (intro w hSw; (try dsimp only at hSw); go_simp; try (with_reducible rfl))
                (try simp only [Act.put, List.setIfInBounds_toArray, List.set_cons_zero, List.set_cons_succ])
                refine wpAnyH_done (by kernel_rfl) ?_ _
                go_wp2
                go_ret
                exact ⟨by simp, HB5.out.trans (HBB_u5.out.mono HB5.out.size)⟩

end Go.Proofs.Ytipcjbmfogijeaa
