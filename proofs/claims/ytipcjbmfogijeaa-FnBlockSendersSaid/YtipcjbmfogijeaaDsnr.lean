/- DrawReceiveBlockAck; contains of the laws; what an acknowledgment makes of a sender, and that a repetition changes nothing. -/
import Derived.Test.YtipcjbmfogijeaaDsnd
import Derived.Test.YtipcjbmfogijeaaSenP
namespace Go.Proofs.Ytipcjbmfogijeaa
open Go.RowKit
set_option linter.unusedVariables false
set_option linter.unusedSimpArgs false

theorem recv_all {f : Int} {D A : Nat} (hD : D ≤ 16) (hA : A < 2 ^ D) (h0 : A % 2 = 0) (bs bm : Int) :
    ∃ k B : Nat, k ≤ D ∧ recvA (sq f 0) (sq f D) (A : Int) bs bm = (sq f k, ((B >>> k : Nat) : Int)) ∧ B < 2 ^ D ∧ B.testBit k = false ∧ (∀ i, A.testBit i = true → B.testBit i = true) ∧ recvA (sq f k) (sq f D) ((B >>> k : Nat) : Int) bs bm = (sq f k, ((B >>> k : Nat) : Int)) := by
  cases hok : okRecv (sq f 0) (sq f D) (A : Int) bs bm with
  | false =>
    have e : recvA (sq f 0) (sq f D) (A : Int) bs bm = (sq f 0, (A : Int)) := by unfold recvA; rw [if_neg (by rw [hok]; simp)]
    exact ⟨0, A, Nat.zero_le _, by rw [e]; rfl, hA, bit0_of h0, fun _ h => h, by rw [Nat.shiftRight_zero, e]⟩
  | true =>
    obtain ⟨k, B, h1, h2, h3, h4, h5, h6⟩ := recv_law hD hA h0 bs bm hok
    refine ⟨k, B, h1, h2, h3, h4, h5, ?_⟩
    cases hok2 : okRecv (sq f k) (sq f D) ((B >>> k : Nat) : Int) bs bm with
    | false => unfold recvA; rw [if_neg (by rw [hok2]; simp)]
    | true =>
      have hS := shr_lt h3 h1
      have hz : (B >>> k).testBit 0 = false := by rw [shr_bit]; exact h4
      unfold recvA
      rw [if_pos hok2, Int.toNat_natCast, accU_none _ _ _ _ _ (fun x hx => by
        obtain ⟨i, hi, hb, rfl⟩ := (outS_can_mem f h1 (by omega) (by omega) hS (even_of hz)).1 hx
        rw [shr_bit] at hb
        exact h6 (k + i) (by omega) hb), adv_can f 0 16 k (B >>> k) (fun i hi => by omega) hz (by omega)]
      rfl
def AnyP (w : World) (e : Ending) (w' : World) : Prop := ∃ st nx ak bs bm, e = .returned (.tuple #[.agg #[.int .i64 st, .int .i64 nx, .int .i64 ak], .agg #[.int .i64 bs, .int .i64 bm]]) ∧ Below w.heap.size w w'
theorem code_below_ {u : Bool} {w w' : World} {A : Option Addr} {xs : List Int} (hx : Rw u .u8 w (fun b => b < w.heap.size) A xs) (hb : Below w.heap.size w w') : Rw u .u8 w' (fun b => b < w'.heap.size) A xs :=
  (hx.below hb).wider (fun k hk => by have := hb.size; omega)
set_option maxRecDepth 8000 in
set_option maxHeartbeats 4000000 in
theorem drawRBA_any {u : Bool} (A : Option Addr) (cap : Nat) (xs : List Int) (w : World) (hx : Rw u .u8 w (fun b => b < w.heap.size) A xs) (hm : xs.length ≤ 1000000000) (hb : ∀ x ∈ xs, 0 ≤ x ∧ x ≤ 255) :
    Calls Try.prog 35 #[.slice A xs.length cap] w fun e w' => AnyP w e w' := by
  have hb0 : Below w.heap.size w ((w.alloc (.cells #[.int .i64 0, .int .i64 0, .int .i64 0] 29)).alloc (.cells #[.int .i64 0, .int .i64 0] 25)) := (by repeat (first | (with_reducible exact Below.refl _ _) | (with_reducible refine Below.ext ?_ (by go_size) _ _) | (with_reducible refine Below.alloc ?_ (by go_size) _) | (with_reducible refine Below.setCell ?_ (by go_size) _) | (with_reducible refine Below.drew ?_) | (with_reducible refine Below.drewN_ ?_ _)))
  have HX := Lib.hid (code_below_ hx hb0)
  have HB := Lib.hid hb
  clear hx hb
  go_enter Try.func35, Try.ntmps35
  go_wp2_with fail
  refine (new_any A cap xs _ HX.out (by omega)).mono ?_
  rintro e w1 ⟨h0, rfl, rfl⟩
  have hc := (cu_new (cap := cap) h0 HX.out (by omega) HB.out).cuu
  obtain ⟨wc, hwc⟩ : ∃ v, v = ((w.alloc (.cells #[.int .i64 0, .int .i64 0, .int .i64 0] 29)).alloc (.cells #[.int .i64 0, .int .i64 0] 25)).alloc (curO A xs.length cap 0 h0) := ⟨_, rfl⟩
  obtain ⟨gc, hgc⟩ : ∃ v, v = ((w.alloc (.cells #[.int .i64 0, .int .i64 0, .int .i64 0] 29)).alloc (.cells #[.int .i64 0, .int .i64 0] 25)).heap.size := ⟨_, rfl⟩
  rw [← hwc, ← hgc] at hc
  have hgc2 : gc = w.heap.size + 1 + 1 := by rw [hgc]; simp
  clear hgc
  subst hgc2
  have hbc : Below w.heap.size w wc := by rw [hwc]; exact (by repeat (first | (with_reducible exact Below.refl _ _) | (with_reducible refine Below.ext ?_ (by go_size) _ _) | (with_reducible refine Below.alloc ?_ (by go_size) _) | (with_reducible refine Below.setCell ?_ (by go_size) _) | (with_reducible refine Below.drew ?_) | (with_reducible refine Below.drewN_ ?_ _)))
  have HRc : Hid (Bx3 wc w.heap.size 0 0 0) := Lib.hid (by rw [hwc]; exact Bx3.new (t := 29) (((Below.alloc (Below.alloc (Below.refl _ _) (Nat.le_refl _) _) (by simp) _).block _ (by simp)).trans (World.heap_new w (.cells #[.int .i64 0, .int .i64 0, .int .i64 0] 29) _ rfl)))
  have HQc : Hid (Bx2 wc (w.heap.size + 1) 0 0) := Lib.hid (by rw [hwc]; exact Bx2.new (t := 25) (((Below.alloc (Below.refl _ _) (Nat.le_refl _) _).block _ (by simp)).trans (World.heap_new (w.alloc (.cells #[.int .i64 0, .int .i64 0, .int .i64 0] 29)) (.cells #[.int .i64 0, .int .i64 0] 25) _ (by simp))))
  have HC0 := Lib.hid hc
  have hgl := hc.lt
  go_wp2_with fail
  rw [← hwc]
  clear hc hwc hb0
  refine (l21Any_any _ A xs.length cap _ HC0.out).mono ?_
  rintro e w2 ⟨st, nx, ak, rfl, hd⟩
  have HD2 := Lib.hid hd
  have HR2 := Lib.hid (HRc.out.chg hd.chg_ (by omega))
  have HQ2 := Lib.hid (HQc.out.chg hd.chg_ (by omega))
  have hr2 := HQ2.out.lt
  have hg2 := hd.size_
  clear hd
  have hal : Below w2.heap.size w2 (w2.alloc (.cells #[.int .i64 st, .int .i64 nx, .int .i64 ak] 29)) := Below.alloc (Below.refl _ _) (Nat.le_refl _) _
  go_wp2
  obtain ⟨w3, hw3⟩ : ∃ v, v = w2.alloc (.cells #[.int .i64 st, .int .i64 nx, .int .i64 ak] 29) := ⟨_, rfl⟩
  rw [← hw3] at hal ⊢
  have HB3 : Hid (Bx3 w3 w2.heap.size st nx ak) := Lib.hid (by rw [hw3]; exact Bx3.new (World.heap_new _ _ _ rfl))
  have hbd : Below w3.heap.size w3 w3.drew := Below.drew (Below.refl _ _)
  have HD3 := Lib.hid ((HD2.out.below_ hal HD2.out.size_).below_ hbd (Nat.le_trans HD2.out.size_ hal.size))
  have HR3 := Lib.hid ((HR2.out.below hal).below hbd)
  have HQ3 := Lib.hid ((HQ2.out.below hal).below hbd)
  have k0 := HB3.out.c0
  have k1 := HB3.out.c1
  have k2 := HB3.out.c2
  replace HB3 := Lib.hid (HB3.out.below hbd)
  clear hw3 hal HD2 HR2 HQ2 hbd
  refine wp_region_G [4, 5] (S := (fun w' => w'.cell? ⟨w2.heap.size, 0, none⟩ = some (.int .i64 st) ∧ w'.cell? ⟨w2.heap.size, 1, none⟩ = some (.int .i64 nx) ∧ w'.cell? ⟨w2.heap.size, 2, none⟩ = some (.int .i64 ak))) (by kernel_rfl) ?_ (fun hHeld => ?_)
  · first | exact ⟨k0, k1, k2⟩ | (simp [go_sem, *]; done)
  refine wpAnyG_takeW [4, 5] (i := 0) (d := some 10) (v := ?_) (by simp only [List.getElem?_toArray, List.getElem?_cons_succ, List.getElem?_cons_zero]; rfl) (by rfl) (by kernel_rfl) (by kernel_rfl) (by kernel_rfl) (by kernel_rfl) (by kernel_rfl) (by intro _ _ _ h; exact h) (by rfl) ?_ (by assumption) ?_
  rotate_left 1
  · (intro w hSw; (try dsimp only at hSw); go_simp; try (with_reducible rfl))
  (try simp only [Act.put, List.setIfInBounds_toArray, List.set_cons_zero, List.set_cons_succ])
  refine wpAnyG_takeW [3, 4, 5] (i := 1) (d := some 11) (v := ?_) (by simp only [List.getElem?_toArray, List.getElem?_cons_succ, List.getElem?_cons_zero]; rfl) (by rfl) (by kernel_rfl) (by kernel_rfl) (by kernel_rfl) (by kernel_rfl) (by kernel_rfl) (by intro _ _ _ h; exact h) (by rfl) ?_ (by assumption) ?_
  rotate_left 1
  · (intro w hSw; (try dsimp only at hSw); go_simp; try (with_reducible rfl))
  (try simp only [Act.put, List.setIfInBounds_toArray, List.set_cons_zero, List.set_cons_succ])
  refine wpAnyG_takeW [3, 4, 5] (i := 2) (d := some 12) (v := ?_) (by simp only [List.getElem?_toArray, List.getElem?_cons_succ, List.getElem?_cons_zero]; rfl) (by rfl) (by kernel_rfl) (by kernel_rfl) (by kernel_rfl) (by kernel_rfl) (by kernel_rfl) (by intro _ _ _ h; exact h) (by rfl) ?_ (by assumption) ?_
  rotate_left 1
  · (intro w hSw; (try dsimp only at hSw); go_simp; try (with_reducible rfl))
  (try simp only [Act.put, List.setIfInBounds_toArray, List.set_cons_zero, List.set_cons_succ])
  refine wpAnyG_ready (rs := [3]) (by kernel_rfl) (by simp) ?_
  refine (AllReadyG.cons (i := 3) (by simp only [List.getElem?_toArray, List.getElem?_cons_succ, List.getElem?_cons_zero]; rfl) (fun K hK => ?_) AllReadyG.nil)
  go_simp
  refine (l21Ack_any _ A xs.length cap st nx ak _ (HC0.out.next HD3.out)).mono ?_
  rintro e u1 ⟨bs, bm, rfl, hd⟩
  have HDu := Lib.hid (Drew.trans hgl HD3.out hd)
  have HBu := Lib.hid (HB3.out.chg hd.chg_ (by omega))
  have HRu := Lib.hid (HR3.out.chg hd.chg_ (by omega))
  have HQu := Lib.hid (HQ3.out.chg hd.chg_ (by omega))
  replace k0 := HBu.out.c0
  replace k1 := HBu.out.c1
  replace k2 := HBu.out.c2
  obtain ⟨rc0, rc1, rc2, rz0, rz1, rz2, rlt⟩ := HRu.out
  obtain ⟨qc0, qc1, qz0, qz1, qlt⟩ := HQu.out
  clear hd
  go_wp2_with fail
  refine hK.out _ _ (fun _ => ?_) (fun hHeld => ?_)
  · ((try dsimp only); first | exact ⟨k0, k1, k2⟩ | (simp [go_sem, *]; done))
  replace hHeld := hHeld (by rfl)
  clear hK K
  (try simp only [Act.put, List.setIfInBounds_toArray, List.set_cons_zero, List.set_cons_succ])
  refine wpAnyG_ready (rs := [4]) (by kernel_rfl) (by simp) ?_
  refine (AllReadyG.cons (i := 4) (by simp only [List.getElem?_toArray, List.getElem?_cons_succ, List.getElem?_cons_zero]; rfl) (fun K hK => ?_) AllReadyG.nil)
  go_simp
  go_wp2_with fail
  refine hK.out _ _ (fun h => by cases h) (fun _ => ?_)
  clear hK K
  (try simp only [Act.put, List.setIfInBounds_toArray, List.set_cons_zero, List.set_cons_succ])
  refine wpAnyG_ready (rs := [5]) (by kernel_rfl) (by simp) ?_
  refine (AllReadyG.cons (i := 5) (by simp only [List.getElem?_toArray, List.getElem?_cons_succ, List.getElem?_cons_zero]; rfl) (fun K hK => ?_) AllReadyG.nil)
  go_simp
  go_wp2_with fail
  refine hK.out _ _ (fun h => by cases h) (fun _ => ?_)
  clear hK K
  (try simp only [Act.put, List.setIfInBounds_toArray, List.set_cons_zero, List.set_cons_succ])
  refine wpAnyG_done (by kernel_rfl) ?_ _
  have HRS : Hid (Bx3 ((((((u1.setCell ⟨w.heap.size, 0, none⟩ (.int .i64 st)).setCell ⟨w.heap.size, 1, none⟩ (.int .i64 nx)).setCell ⟨w.heap.size, 2, none⟩ (.int .i64 ak))).setCell ⟨w.heap.size + 1, 0, none⟩ (.int .i64 bs)).setCell ⟨w.heap.size + 1, 1, none⟩ (.int .i64 bm)) w.heap.size st nx ak) := Lib.hid ((HRu.out.s0.s1.s2).chg (st2_chg (st3 u1 w.heap.size st nx ak) (w.heap.size + 1) bs bm) (by omega))
  have HQS : Hid (Bx2 ((((((u1.setCell ⟨w.heap.size, 0, none⟩ (.int .i64 st)).setCell ⟨w.heap.size, 1, none⟩ (.int .i64 nx)).setCell ⟨w.heap.size, 2, none⟩ (.int .i64 ak))).setCell ⟨w.heap.size + 1, 0, none⟩ (.int .i64 bs)).setCell ⟨w.heap.size + 1, 1, none⟩ (.int .i64 bm)) (w.heap.size + 1) bs bm) := Lib.hid ((HQu.out.chg (st3_chg u1 w.heap.size st nx ak) (by omega)).s0.s1)
  have HBF : Hid (Below w.heap.size w ((((((u1.setCell ⟨w.heap.size, 0, none⟩ (.int .i64 st)).setCell ⟨w.heap.size, 1, none⟩ (.int .i64 nx)).setCell ⟨w.heap.size, 2, none⟩ (.int .i64 ak))).setCell ⟨w.heap.size + 1, 0, none⟩ (.int .i64 bs)).setCell ⟨w.heap.size + 1, 1, none⟩ (.int .i64 bm))) := Lib.hid (by
    have h1 : Below w.heap.size w u1 := hbc.trans (HDu.out.chg_.below (by omega) (fun k hk => by omega))
    have h2 := (st3_chg u1 w.heap.size st nx ak).below (B := w.heap.size) h1.size (fun k hk => by omega)
    have h3 := (st2_chg (st3 u1 w.heap.size st nx ak) (w.heap.size + 1) bs bm).below (B := w.heap.size) (Nat.le_trans h1.size (st3_chg u1 w.heap.size st nx ak).size) (fun k hk => by omega)
    exact (h1.trans h2).trans h3)
  go_simp
  repeat (first | go_skip | go_guarded | go_step | go_upon)
  refine bodyPost_ret (v := .tuple #[.agg #[.int .i64 st, .int .i64 nx, .int .i64 ak], .agg #[.int .i64 bs, .int .i64 bm]]) (by simp [results, Try.results35, go_sem, HRS.out.c0, HRS.out.c1, HRS.out.c2, HQS.out.c0, HQS.out.c1]) rfl ?_
  exact ⟨_, _, _, _, _, rfl, HBF.out⟩
set_option maxHeartbeats 1000000 in
theorem contains_any {u : Bool} {T : Nat → Prop} (A : Option Addr) (c : Nat) (xs : List Int) (x : Int) (w : World) (hx : Rw u .i64 w T A xs) (hm : xs.length ≤ 1000000000) (hmem : x ∈ xs) :
    Calls Try.prog 36 #[.slice A xs.length c, .int .i64 x] w fun e w' => e = .returned (.bool true) ∧ Below w.heap.size w w' := by
  obtain ⟨q, hq, hqe⟩ := List.getElem_of_mem hmem
  have HQE := Lib.hid hqe
  have HX := Lib.hid hx
  clear hx hqe hmem
  go_enter Try.func36, Try.ntmps36
  go_wp2
  go_loopw [5] (fun v wr => ∃ i : Nat, v = .int .i64 (i : Int) ∧ i ≤ q ∧ Hid (Dr w wr)) (fun v _ => xs.length - (intOf v).toNat)
  case atStart => exact ⟨0, rfl, Nat.zero_le _, Lib.hid (Dr.refl _)⟩
  case round =>
    obtain ⟨i, rfl, hi, HDr⟩ := hrel
    have hil : i < xs.length := by omega
    have hilI : (i : Int) < (xs.length : Int) := by omega
    obtain ⟨g, o, rfl, _, _, hc, _⟩ := HX.out i hil
    replace hc := (HDr.out.cell ⟨g, o + i, none⟩).trans hc
    by_cases he : xs[i] = x
    · have heb : (xs[i] == x) = true := by simp [he]
      go_wp2
      go_ret
      exact ⟨rfl, HDr.out.below⟩
    · have heb : (xs[i] == x) = false := by simp [he]
      have hne : i ≠ q := fun e => he (by subst e; exact HQE.out)
      generalize xs[i] = y at *
      go_wp2
      go_roundw
      case rel => exact ⟨i + 1, by go_num, by omega, HDr⟩
      case measure => simp [intOf]; omega

end Go.Proofs.Ytipcjbmfogijeaa
