/- Drawn block senders and acknowledgments: any, from the code. -/
import Derived.Test.YtipcjbmfogijeaaDrewO
import Derived.Test.YtipcjbmfogijeaaSendE
import Derived.Test.YtipcjbmfogijeaaHeldL
namespace Go.Proofs.Ytipcjbmfogijeaa
open Go.RowKit
set_option linter.unusedVariables false
set_option linter.unusedSimpArgs false

structure Bx3 (W : World) (b : Nat) (x y z : Int) : Prop where
  c0 : W.cell? ⟨b, 0, none⟩ = some (.int .i64 x)
  c1 : W.cell? ⟨b, 1, none⟩ = some (.int .i64 y)
  c2 : W.cell? ⟨b, 2, none⟩ = some (.int .i64 z)
  z0 : W.frozen? ⟨b, 0, none⟩ = false
  z1 : W.frozen? ⟨b, 1, none⟩ = false
  z2 : W.frozen? ⟨b, 2, none⟩ = false
  lt : b < W.heap.size
structure Bx2 (W : World) (b : Nat) (x y : Int) : Prop where
  c0 : W.cell? ⟨b, 0, none⟩ = some (.int .i64 x)
  c1 : W.cell? ⟨b, 1, none⟩ = some (.int .i64 y)
  z0 : W.frozen? ⟨b, 0, none⟩ = false
  z1 : W.frozen? ⟨b, 1, none⟩ = false
  lt : b < W.heap.size
theorem blk_cell {w : World} {g : Nat} {cur : Array Value} {e : TypeId} (h : w.heap[g]? = some (.cells cur e (0, 0))) (k : Nat) : w.cell? ⟨g, k, none⟩ = cur[k]? ∧ w.frozen? ⟨g, k, none⟩ = false := by
  simp [World.cell?, World.frozen?, h]
section
variable {W W' : World} {b : Nat} {x y z x' y' z' : Int} {S : Nat → Prop}
theorem Bx3.new {t : TypeId} (h : W.heap[b]? = some (.cells #[.int .i64 x, .int .i64 y, .int .i64 z] t (0, 0))) : Bx3 W b x y z :=
  ⟨(blk_cell h 0).1, (blk_cell h 1).1, (blk_cell h 2).1, (blk_cell h 0).2, (blk_cell h 1).2, (blk_cell h 2).2, lt_of_heap h⟩
theorem Bx2.new {t : TypeId} (h : W.heap[b]? = some (.cells #[.int .i64 x, .int .i64 y] t (0, 0))) : Bx2 W b x y :=
  ⟨(blk_cell h 0).1, (blk_cell h 1).1, (blk_cell h 0).2, (blk_cell h 1).2, lt_of_heap h⟩
theorem Bx3.chg (h : Bx3 W b x y z) (hc : Chg S W W') (hs : ¬ S b) : Bx3 W' b x y z :=
  ⟨(hc.cell (p := ⟨b, 0, none⟩) h.lt hs).trans h.c0, (hc.cell (p := ⟨b, 1, none⟩) h.lt hs).trans h.c1, (hc.cell (p := ⟨b, 2, none⟩) h.lt hs).trans h.c2, (hc.frozen (p := ⟨b, 0, none⟩) h.lt hs).trans h.z0, (hc.frozen (p := ⟨b, 1, none⟩) h.lt hs).trans h.z1, (hc.frozen (p := ⟨b, 2, none⟩) h.lt hs).trans h.z2, Nat.lt_of_lt_of_le h.lt hc.size⟩
theorem Bx2.chg (h : Bx2 W b x y) (hc : Chg S W W') (hs : ¬ S b) : Bx2 W' b x y :=
  ⟨(hc.cell (p := ⟨b, 0, none⟩) h.lt hs).trans h.c0, (hc.cell (p := ⟨b, 1, none⟩) h.lt hs).trans h.c1, (hc.frozen (p := ⟨b, 0, none⟩) h.lt hs).trans h.z0, (hc.frozen (p := ⟨b, 1, none⟩) h.lt hs).trans h.z1, Nat.lt_of_lt_of_le h.lt hc.size⟩
theorem Bx3.below (h : Bx3 W b x y z) (hb : Below W.heap.size W W') : Bx3 W' b x y z := h.chg (S := fun _ => False) (Chg.of_below hb) (fun h => h)
theorem Bx2.below (h : Bx2 W b x y) (hb : Below W.heap.size W W') : Bx2 W' b x y := h.chg (S := fun _ => False) (Chg.of_below hb) (fun h => h)
theorem set_ne {i j : Nat} (h : i ≠ j) : (⟨b, i, none⟩ : Addr) ≠ ⟨b, j, none⟩ := fun e => h (by injection e)
theorem Bx3.s0 (h : Bx3 W b x y z) : Bx3 (W.setCell ⟨b, 0, none⟩ (.int .i64 x')) b x' y z :=
  ⟨World.cell?_setCell_same _ _ _ h.c0, (World.cell?_setCell_other _ _ _ _ (set_ne (by decide))).trans h.c1, (World.cell?_setCell_other _ _ _ _ (set_ne (by decide))).trans h.c2, (World.frozen?_setCell _ _ _ _).trans h.z0, (World.frozen?_setCell _ _ _ _).trans h.z1, (World.frozen?_setCell _ _ _ _).trans h.z2, by simpa [World.setCell] using h.lt⟩
theorem Bx3.s1 (h : Bx3 W b x y z) : Bx3 (W.setCell ⟨b, 1, none⟩ (.int .i64 y')) b x y' z :=
  ⟨(World.cell?_setCell_other _ _ _ _ (set_ne (by decide))).trans h.c0, World.cell?_setCell_same _ _ _ h.c1, (World.cell?_setCell_other _ _ _ _ (set_ne (by decide))).trans h.c2, (World.frozen?_setCell _ _ _ _).trans h.z0, (World.frozen?_setCell _ _ _ _).trans h.z1, (World.frozen?_setCell _ _ _ _).trans h.z2, by simpa [World.setCell] using h.lt⟩
theorem Bx3.s2 (h : Bx3 W b x y z) : Bx3 (W.setCell ⟨b, 2, none⟩ (.int .i64 z')) b x y z' :=
  ⟨(World.cell?_setCell_other _ _ _ _ (set_ne (by decide))).trans h.c0, (World.cell?_setCell_other _ _ _ _ (set_ne (by decide))).trans h.c1, World.cell?_setCell_same _ _ _ h.c2, (World.frozen?_setCell _ _ _ _).trans h.z0, (World.frozen?_setCell _ _ _ _).trans h.z1, (World.frozen?_setCell _ _ _ _).trans h.z2, by simpa [World.setCell] using h.lt⟩
theorem Bx2.s0 (h : Bx2 W b x y) : Bx2 (W.setCell ⟨b, 0, none⟩ (.int .i64 x')) b x' y :=
  ⟨World.cell?_setCell_same _ _ _ h.c0, (World.cell?_setCell_other _ _ _ _ (set_ne (by decide))).trans h.c1, (World.frozen?_setCell _ _ _ _).trans h.z0, (World.frozen?_setCell _ _ _ _).trans h.z1, by simpa [World.setCell] using h.lt⟩
theorem Bx2.s1 (h : Bx2 W b x y) : Bx2 (W.setCell ⟨b, 1, none⟩ (.int .i64 y')) b x y' :=
  ⟨(World.cell?_setCell_other _ _ _ _ (set_ne (by decide))).trans h.c0, World.cell?_setCell_same _ _ _ h.c1, (World.frozen?_setCell _ _ _ _).trans h.z0, (World.frozen?_setCell _ _ _ _).trans h.z1, by simpa [World.setCell] using h.lt⟩
def st3 (W : World) (b : Nat) (x y z : Int) : World := ((W.setCell ⟨b, 0, none⟩ (.int .i64 x)).setCell ⟨b, 1, none⟩ (.int .i64 y)).setCell ⟨b, 2, none⟩ (.int .i64 z)
theorem st3_chg (W : World) (b : Nat) (x y z : Int) : Chg (fun k => k = b) W (st3 W b x y z) :=
  Chg.setCell_ (S := fun k => k = b) (Chg.setCell_ (S := fun k => k = b) (Chg.setCell_ (S := fun k => k = b) (Chg.refl _ _) (p := ⟨b, 0, none⟩) rfl _) (p := ⟨b, 1, none⟩) rfl _) (p := ⟨b, 2, none⟩) rfl _
def st2 (W : World) (b : Nat) (x y : Int) : World := (W.setCell ⟨b, 0, none⟩ (.int .i64 x)).setCell ⟨b, 1, none⟩ (.int .i64 y)
theorem st2_chg (W : World) (b : Nat) (x y : Int) : Chg (fun k => k = b) W (st2 W b x y) :=
  Chg.setCell_ (S := fun k => k = b) (Chg.setCell_ (S := fun k => k = b) (Chg.refl _ _) (p := ⟨b, 0, none⟩) rfl _) (p := ⟨b, 1, none⟩) rfl _
theorem one_chg (W : World) (b i : Nat) (v : Value) : Chg (fun k => k = b) W (W.setCell ⟨b, i, none⟩ v) := Chg.setCell_ (S := fun k => k = b) (Chg.refl _ _) (p := ⟨b, i, none⟩) rfl _
end
def SomeS (w : World) (g : Nat) (A : Option Addr) (n cap : Nat) (e : Ending) (w' : World) : Prop := ∃ st nx ak, e = .returned (.agg #[.int .i64 st, .int .i64 nx, .int .i64 ak]) ∧ Drew w g A n cap w'
def SomeA (w : World) (g : Nat) (A : Option Addr) (n cap : Nat) (e : Ending) (w' : World) : Prop := ∃ st bm, e = .returned (.agg #[.int .i64 st, .int .i64 bm]) ∧ Drew w g A n cap w'

set_option maxRecDepth 8000 in
set_option maxHeartbeats 4000000 in
theorem l21Sender_any (g : Nat) (A : Option Addr) (n cap : Nat) (w : World) (hcu : Cuu w g A n cap) :
    Calls Try.prog 53 #[.pointer (some ⟨g, 0, none⟩)] w fun e w' => SomeS w g A n cap e w' := by
  have HCU := Lib.hid hcu
  have hgl := hcu.lt
  clear hcu
  go_enter Try.func53, Try.ntmps53
  go_wp2_with fail
  refine Calls.mono (intX (g := g) (A := A) (n := n) (cap := cap) ?i1 ?i2 ?i3) ?_
  case i1 => first | (simp; done) | (rw [hwq]; rfl)
  case i2 => exact HCU.out.alloc _
  case i3 => exact ⟨[_, _, _], rfl, rfl, by simp, by simp⟩
  rintro e w1 ⟨x, rfl, hd1⟩
  have hal : Below w.heap.size w ((w.alloc (.cells #[.int .i64 0, .int .i64 0, .int .i64 0] 29)).alloc (.cells #[.int .i64 0, .int .i64 5, .int .i64 4090] 3)) := (by repeat (first | (with_reducible exact Below.refl _ _) | (with_reducible refine Below.ext ?_ (by go_size) _ _) | (with_reducible refine Below.alloc ?_ (by go_size) _) | (with_reducible refine Below.setCell ?_ (by go_size) _) | (with_reducible refine Below.drew ?_) | (with_reducible refine Below.drewN_ ?_ _)))
  have HD1 := Lib.hid (Drew.trans hgl (HCU.out.drew_below hal) hd1)
  have HR1 : Hid (Bx3 w1 w.heap.size 0 0 0) := Lib.hid ((Bx3.new (t := 29) (((Below.alloc (Below.refl _ _) (Nat.le_refl _) _).block _ (by simp)).trans (World.heap_new w (.cells #[.int .i64 0, .int .i64 0, .int .i64 0] 29) _ rfl))).chg hd1.chg_ (by omega))
  clear hd1 hal
  go_wp2_with fail
  refine (specNewS_any x _).mono ?_
  generalize zeroSeq x = s0
  rintro e w2 ⟨rfl, hb2⟩
  have HD2 := Lib.hid (HD1.out.below_ hb2 HD1.out.size_)
  have HR2 := Lib.hid (HR1.out.below hb2)
  have hr2 := HR2.out.lt
  clear hb2 HD1 HR1
  go_wp2_with fail
  refine (belowC g A n cap _ 25 (by omega) ((HCU.out.next HD2.out).alloc _)).mono ?_
  rintro e w3 ⟨y0, rfl, hy0, hy1, hy2, hd3⟩
  have hy3 := hy2 (by omega)
  have hal : Below w2.heap.size w2 (w2.alloc (.cells #[.int .i64 s0, .int .i64 s0, .int .i64 0] 29)) := Below.alloc (Below.refl _ _) (Nat.le_refl _) _
  have HD3 := Lib.hid (Drew.trans hgl (HD2.out.below_ hal HD2.out.size_) hd3)
  have HR3 := Lib.hid ((HR2.out.below hal).chg hd3.chg_ (by omega))
  have HB3 : Hid (Bx3 w3 w2.heap.size s0 s0 0) := Lib.hid ((Bx3.new (World.heap_new _ _ _ rfl)).chg hd3.chg_ (by omega))
  clear hd3 hal hy2 HD2 HR2
  go_wp2
  go_loopw [4] (fun v wr => ∃ (y st nx ak : Int), v = .int .i64 y ∧ 0 ≤ y ∧ y ≤ 25 ∧ Hid (Drew w g A n cap wr) ∧ Hid (Bx3 wr w2.heap.size st nx ak) ∧ Hid (Bx3 wr w.heap.size 0 0 0)) (fun v _ => (intOf v).toNat)
  case atStart => exact ⟨y0, s0, s0, 0, rfl, by omega, by omega, HD3, HB3, HR3⟩
  case round =>
    obtain ⟨y, st, nx, ak, rfl, hya, hyb, HD, HB, HR⟩ := hrel
    by_cases hy : 0 < y
    · go_wp2_with fail
      refine (onceC g A n cap _ 4 (by omega) (HCU.out.next HD.out)).mono ?_
      rintro e w6 ⟨q, rfl, hd⟩
      have HDp := Lib.hid (Drew.trans hgl HD.out hd)
      have HBp := Lib.hid (HB.out.chg hd.chg_ (by omega))
      have HRp := Lib.hid (HR.out.chg hd.chg_ (by omega))
      clear hd HD HB HR
      cases q
      · obtain ⟨bc0, bc1, bc2, bz0, bz1, bz2, blt⟩ := HBp.out
        go_wp2_with fail
        refine (specSendNext_any st nx ak _).mono ?_
        generalize sendN st nx ak = nN
        generalize sendX st nx ak = nX
        generalize canSend st nx ak = nC
        rintro e w7 ⟨rfl, hb⟩
        have HDs := Lib.hid (HDp.out.below_ hb HDp.out.size_)
        have HBs := Lib.hid (HBp.out.below hb)
        have HRs := Lib.hid (HRp.out.below hb)
        clear hb bc0 bc1 bc2 bz0 bz1 bz2
        obtain ⟨bc0, bc1, bc2, bz0, bz1, bz2, blt⟩ := HBs.out
        go_wp2
        go_roundw
        case rel => exact ⟨y - 1, st, nN, ak, rfl, by omega, by omega, Lib.hid (HDs.out.up ((st3_chg w7 w2.heap.size st nN ak).mono (fun k _ hk => by omega))), Lib.hid (HBs.out.s0.s1.s2), Lib.hid (HRs.out.chg (st3_chg w7 w2.heap.size st nN ak) (by omega))⟩
        case measure => simp [intOf]; omega
      · have HDq := Lib.hid (HDp.out.below_ (Below.drew (Below.refl _ _)) HDp.out.size_)
        have HBq := Lib.hid (HBp.out.below (Below.drew (Below.refl _ _)))
        have HRq := Lib.hid (HRp.out.below (Below.drew (Below.refl _ _)))
        have k0 := HBp.out.c0
        have k1 := HBp.out.c1
        have k2 := HBp.out.c2
        go_wp2
        refine wp_region_G [7] (S := (fun w' => w'.cell? ⟨w2.heap.size, 0, none⟩ = some (.int .i64 st) ∧ w'.cell? ⟨w2.heap.size, 1, none⟩ = some (.int .i64 nx) ∧ w'.cell? ⟨w2.heap.size, 2, none⟩ = some (.int .i64 ak))) (by kernel_rfl) ?_ (fun hHeld => ?_)
        · first | exact ⟨k0, k1, k2⟩ | (simp [go_sem, *]; done)
        refine wpAnyG_takeW [6, 7] (i := 0) (d := some 17) (v := ?_) (by simp only [List.getElem?_toArray, List.getElem?_cons_succ, List.getElem?_cons_zero]; rfl) (by rfl) (by kernel_rfl) (by kernel_rfl) (by kernel_rfl) (by kernel_rfl) (by kernel_rfl) (by intro _ _ _ h; exact h) (by rfl) ?_ (by assumption) ?_
        rotate_left 1
        · (intro w hSw; (try dsimp only at hSw); go_simp; try (with_reducible rfl))
        (try simp only [Act.put, List.setIfInBounds_toArray, List.set_cons_zero, List.set_cons_succ])
        refine wpAnyG_takeW [2, 5, 6, 7] (i := 1) (d := some 18) (v := ?_) (by simp only [List.getElem?_toArray, List.getElem?_cons_succ, List.getElem?_cons_zero]; rfl) (by rfl) (by kernel_rfl) (by kernel_rfl) (by kernel_rfl) (by kernel_rfl) (by kernel_rfl) (by intro _ _ _ h; exact h) (by rfl) ?_ (by assumption) ?_
        rotate_left 1
        · (intro w hSw; (try dsimp only at hSw); go_simp; try (with_reducible rfl))
        (try simp only [Act.put, List.setIfInBounds_toArray, List.set_cons_zero, List.set_cons_succ])
        refine wpAnyG_takeW [5, 6, 7] (i := 2) (d := some 19) (v := ?_) (by simp only [List.getElem?_toArray, List.getElem?_cons_succ, List.getElem?_cons_zero]; rfl) (by rfl) (by kernel_rfl) (by kernel_rfl) (by kernel_rfl) (by kernel_rfl) (by kernel_rfl) (by intro _ _ _ h; exact h) (by rfl) ?_ (by assumption) ?_
        rotate_left 1
        · (intro w hSw; (try dsimp only at hSw); go_simp; try (with_reducible rfl))
        (try simp only [Act.put, List.setIfInBounds_toArray, List.set_cons_zero, List.set_cons_succ])
        refine wpAnyG_takeW [4, 5, 6, 7] (i := 3) (d := some 20) (v := ?_) (by simp only [List.getElem?_toArray, List.getElem?_cons_succ, List.getElem?_cons_zero]; rfl) (by rfl) (by kernel_rfl) (by kernel_rfl) (by kernel_rfl) (by kernel_rfl) (by kernel_rfl) (by intro _ _ _ h; exact h) (by rfl) ?_ (by assumption) ?_
        rotate_left 1
        · (intro w hSw; (try dsimp only at hSw); go_simp; try (with_reducible rfl))
        (try simp only [Act.put, List.setIfInBounds_toArray, List.set_cons_zero, List.set_cons_succ])
        refine wpAnyG_ready (rs := [4]) (by kernel_rfl) (by simp) ?_
        refine (AllReadyG.cons (i := 4) (by simp only [List.getElem?_toArray, List.getElem?_cons_succ, List.getElem?_cons_zero]; rfl) (fun K hK => ?_) AllReadyG.nil)
        go_simp
        refine (belowC g A n cap _ 256 (by omega) (HCU.out.next HDq.out)).mono ?_
        rintro e u1 ⟨x, rfl, _, _, _, hd⟩
        have HDu := Lib.hid (Drew.trans hgl HDq.out hd)
        have HBu := Lib.hid (HBq.out.chg hd.chg_ (by omega))
        have HRu := Lib.hid (HRq.out.chg hd.chg_ (by omega))
        have k0 := HBu.out.c0
        have k1 := HBu.out.c1
        have k2 := HBu.out.c2
        clear hd
        go_wp2_with fail
        refine hK.out _ _ (fun _ => ?_) (fun hHeld => ?_)
        · ((try dsimp only); first | exact ⟨k0, k1, k2⟩ | (simp [go_sem, *]; done))
        replace hHeld := hHeld (by rfl)
        clear hK K
        (try simp only [Act.put, List.setIfInBounds_toArray, List.set_cons_zero, List.set_cons_succ])
        refine wpAnyG_takeW [6, 7] (i := 5) (d := some 22) (v := ?_) (by simp only [List.getElem?_toArray, List.getElem?_cons_succ, List.getElem?_cons_zero]; rfl) (by rfl) (by kernel_rfl) (by kernel_rfl) (by kernel_rfl) (by kernel_rfl) (by kernel_rfl) (by intro _ _ _ h; exact h) (by rfl) ?_ (by assumption) ?_
        rotate_left 1
        · (intro w hSw; (try dsimp only at hSw); go_simp; try (with_reducible rfl))
        (try simp only [Act.put, List.setIfInBounds_toArray, List.set_cons_zero, List.set_cons_succ])
        refine wpAnyG_ready (rs := [6]) (by kernel_rfl) (by simp) ?_
        refine (AllReadyG.cons (i := 6) (by simp only [List.getElem?_toArray, List.getElem?_cons_succ, List.getElem?_cons_zero]; rfl) (fun K hK => ?_) AllReadyG.nil)
        go_simp
        refine (specRecv_any st nx ak st x _).mono ?_
        generalize (recvA st nx ak st x).1 = r1
        generalize (recvA st nx ak st x).2 = r2
        rintro e u2 ⟨rfl, hb⟩
        have HDv := Lib.hid (HDu.out.below_ hb HDu.out.size_)
        have HBv := Lib.hid (HBu.out.below hb)
        have HRv := Lib.hid (HRu.out.below hb)
        obtain ⟨bc0, bc1, bc2, bz0, bz1, bz2, blt⟩ := HBv.out
        clear k0 k1 k2
        have k0 := HBv.out.c0
        have k1 := HBv.out.c1
        have k2 := HBv.out.c2
        clear hb
        go_wp2_with fail
        refine hK.out _ _ (fun _ => ?_) (fun hHeld => ?_)
        · ((try dsimp only); first | exact ⟨k0, k1, k2⟩ | (simp [go_sem, *]; done))
        replace hHeld := hHeld (by rfl)
        clear hK K
        (try simp only [Act.put, List.setIfInBounds_toArray, List.set_cons_zero, List.set_cons_succ])
        refine wpAnyG_ready (rs := [7]) (by kernel_rfl) (by simp) ?_
        refine (AllReadyG.cons (i := 7) (by simp only [List.getElem?_toArray, List.getElem?_cons_succ, List.getElem?_cons_zero]; rfl) (fun K hK => ?_) AllReadyG.nil)
        go_simp
        go_wp2_with fail
        refine hK.out _ _ (fun h => by cases h) (fun _ => ?_)
        clear hK K
        (try simp only [Act.put, List.setIfInBounds_toArray, List.set_cons_zero, List.set_cons_succ])
        refine wpAnyG_done (by kernel_rfl) ?_ _
        go_wp2
        go_roundw
        case rel => exact ⟨y - 1, r1, nx, r2, rfl, by omega, by omega, Lib.hid (HDv.out.up ((st3_chg u2 w2.heap.size r1 nx r2).mono (fun k _ hk => by omega))), Lib.hid (HBv.out.s0.s1.s2), Lib.hid (HRv.out.chg (st3_chg u2 w2.heap.size r1 nx r2) (by omega))⟩
        case measure => simp [intOf]; omega
    · have hy2 : y ≤ 0 := by omega
      have HRS : Hid (Bx3 (((wr.setCell ⟨w.heap.size, 0, none⟩ (.int .i64 st)).setCell ⟨w.heap.size, 1, none⟩ (.int .i64 nx)).setCell ⟨w.heap.size, 2, none⟩ (.int .i64 ak)) w.heap.size st nx ak) := Lib.hid (HR.out.s0.s1.s2)
      have HDS : Hid (Drew w g A n cap (((wr.setCell ⟨w.heap.size, 0, none⟩ (.int .i64 st)).setCell ⟨w.heap.size, 1, none⟩ (.int .i64 nx)).setCell ⟨w.heap.size, 2, none⟩ (.int .i64 ak))) := Lib.hid (HD.out.up ((st3_chg wr w.heap.size st nx ak).mono (fun k _ hk => by omega)))
      obtain ⟨bc0, bc1, bc2, bz0, bz1, bz2, blt⟩ := HB.out
      obtain ⟨rc0, rc1, rc2, rz0, rz1, rz2, rlt⟩ := HR.out
      go_simp
      repeat (first | go_skip | go_guarded | go_step | go_upon)
      refine bodyPost_ret (v := .agg #[.int .i64 st, .int .i64 nx, .int .i64 ak]) (by simp [results, Try.results53, go_sem, HRS.out.c0, HRS.out.c1, HRS.out.c2]) rfl ?_
      exact ⟨_, _, _, rfl, HDS.out⟩

set_option maxRecDepth 8000 in
set_option maxHeartbeats 4000000 in
theorem l21Any_any (g : Nat) (A : Option Addr) (n cap : Nat) (w : World) (hcu : Cuu w g A n cap) :
    Calls Try.prog 49 #[.pointer (some ⟨g, 0, none⟩)] w fun e w' => SomeS w g A n cap e w' := by
  have HCU := Lib.hid hcu
  have hgl := hcu.lt
  clear hcu
  go_enter Try.func49, Try.ntmps49
  go_wp2_with fail
  refine (l21Sender_any g A n cap _ (HCU.out.alloc _)).mono ?_
  rintro e w1 ⟨st, nx, ak, rfl, hd1⟩
  have hal : Below w.heap.size w (w.alloc (.cells #[.int .i64 0, .int .i64 0, .int .i64 0] 29)) := Below.alloc (Below.refl _ _) (Nat.le_refl _) _
  have HD1 := Lib.hid (Drew.trans hgl (HCU.out.drew_below hal) hd1)
  have HR1 : Hid (Bx3 w1 w.heap.size 0 0 0) := Lib.hid ((Bx3.new (t := 29) (World.heap_new w (.cells #[.int .i64 0, .int .i64 0, .int .i64 0] 29) _ rfl)).chg hd1.chg_ (by omega))
  have hr1 := HR1.out.lt
  clear hd1 hal
  go_wp2_with fail
  refine (belowC g A n cap _ 10 (by omega) ((HCU.out.next HD1.out).alloc _)).mono ?_
  rintro e w3 ⟨y, rfl, hy0, hy1, hy2, hd3⟩
  have hal : Below w1.heap.size w1 (w1.alloc (.cells #[.int .i64 st, .int .i64 nx, .int .i64 ak] 29)) := Below.alloc (Below.refl _ _) (Nat.le_refl _) _
  have HD3 := Lib.hid (Drew.trans hgl (HD1.out.below_ hal HD1.out.size_) hd3)
  have HR3 := Lib.hid ((HR1.out.below hal).chg hd3.chg_ (by omega))
  have HB3 : Hid (Bx3 w3 w1.heap.size st nx ak) := Lib.hid ((Bx3.new (World.heap_new _ _ _ rfl)).chg hd3.chg_ (by omega))
  clear hd3 hal hy2 HD1 HR1
  have hb3 := HB3.out.lt
  by_cases h0 : y = 0
  · subst h0
    obtain ⟨wq, hwq⟩ : ∃ v, v = w3.drew := ⟨_, rfl⟩
    have HDq : Hid (Drew w g A n cap wq) := Lib.hid (by rw [hwq]; exact HD3.out.below_ (Below.drew (Below.refl _ _)) HD3.out.size_)
    have HBq : Hid (Bx3 wq w1.heap.size st nx ak) := Lib.hid (by rw [hwq]; exact HB3.out.below (Below.drew (Below.refl _ _)))
    have HRq : Hid (Bx3 wq w.heap.size 0 0 0) := Lib.hid (by rw [hwq]; exact HR3.out.below (Below.drew (Below.refl _ _)))
    have k1 := HB3.out.c1
    go_wp2
    refine wp_region_G [9] (S := (fun w' => w'.cell? ⟨w1.heap.size, 1, none⟩ = some (.int .i64 nx))) (by kernel_rfl) ?_ (fun hHeld => ?_)
    · first | exact k1 | exact (World.cell?_alloc_lt _ _ _ (by simp only; omega)).trans k1 | (simp [go_sem, *]; done)
    refine wpAnyG_takeW [7, 8, 9] (i := 0) (d := some 10) (v := ?_) (by simp only [List.getElem?_toArray, List.getElem?_cons_succ, List.getElem?_cons_zero]; rfl) (by rfl) (by kernel_rfl) (by kernel_rfl) (by kernel_rfl) (by kernel_rfl) (by kernel_rfl) (by intro _ _ _ h; exact h) (by rfl) ?_ (by assumption) ?_
    rotate_left 1
    · (intro w hSw; (try dsimp only at hSw); go_simp; try (with_reducible rfl))
    (try simp only [Act.put, List.setIfInBounds_toArray, List.set_cons_zero, List.set_cons_succ])
    refine wpAnyG_takeW [2, 6, 7, 8, 9] (i := 1) (d := some 11) (v := ?_) (by simp only [List.getElem?_toArray, List.getElem?_cons_succ, List.getElem?_cons_zero]; rfl) (by rfl) (by kernel_rfl) (by kernel_rfl) (by kernel_rfl) (by kernel_rfl) (by kernel_rfl) (by intro _ _ _ h; exact h) (by rfl) ?_ (by assumption) ?_
    rotate_left 1
    · (intro w hSw; (try dsimp only at hSw); go_simp; try (with_reducible rfl))
    (try simp only [Act.put, List.setIfInBounds_toArray, List.set_cons_zero, List.set_cons_succ])
    refine wpAnyG_takeW [6, 7, 8, 9] (i := 2) (d := some 12) (v := ?_) (by simp only [List.getElem?_toArray, List.getElem?_cons_succ, List.getElem?_cons_zero]; rfl) (by rfl) (by kernel_rfl) (by kernel_rfl) (by kernel_rfl) (by kernel_rfl) (by kernel_rfl) (by intro _ _ _ h; exact h) (by rfl) ?_ (by assumption) ?_
    rotate_left 1
    · (intro w hSw; (try dsimp only at hSw); go_simp; try (with_reducible rfl))
    (try simp only [Act.put, List.setIfInBounds_toArray, List.set_cons_zero, List.set_cons_succ])
    refine wpAnyG_takeW [4, 5, 6, 7, 8, 9] (i := 3) (d := some 13) (v := ?_) (by simp only [List.getElem?_toArray, List.getElem?_cons_succ, List.getElem?_cons_zero]; rfl) (by rfl) (by kernel_rfl) (by kernel_rfl) (by kernel_rfl) (by kernel_rfl) (by kernel_rfl) (by intro _ _ _ h; exact h) (by rfl) ?_ (by assumption) ?_
    rotate_left 1
    · (intro w hSw; (try dsimp only at hSw); go_simp; try (with_reducible rfl))
    (try simp only [Act.put, List.setIfInBounds_toArray, List.set_cons_zero, List.set_cons_succ])
    refine wpAnyG_takeW [5, 6, 7, 8, 9] (i := 4) (d := some 14) (v := ?_) (by simp only [List.getElem?_toArray, List.getElem?_cons_succ, List.getElem?_cons_zero]; rfl) (by rfl) (by kernel_rfl) (by kernel_rfl) (by kernel_rfl) (by kernel_rfl) (by kernel_rfl) (by intro _ _ _ h; exact h) (by rfl) ?_ (by assumption) ?_
    rotate_left 1
    · (intro w hSw; (try dsimp only at hSw); go_simp; try (with_reducible rfl))
    (try simp only [Act.put, List.setIfInBounds_toArray, List.set_cons_zero, List.set_cons_succ])
    refine wpAnyG_ready (rs := [5]) (by kernel_rfl) (by simp) ?_
    refine (AllReadyG.cons (i := 5) (by simp only [List.getElem?_toArray, List.getElem?_cons_succ, List.getElem?_cons_zero]; rfl) (fun K hK => ?_) AllReadyG.nil)
    go_simp
    refine (specNext_any nx _).mono ?_
    rintro e w' ⟨rfl, rfl⟩
    go_wp2_with fail
    refine hK.out _ _ (fun _ => ?_) (fun hHeld => ?_)
    · ((try dsimp only); first | exact k1 | exact (World.cell?_alloc_lt _ _ _ (by simp only; omega)).trans k1 | (simp [go_sem, *]; done))
    replace hHeld := hHeld (by rfl)
    clear hK K
    (try simp only [Act.put, List.setIfInBounds_toArray, List.set_cons_zero, List.set_cons_succ])
    refine wpAnyG_ready (rs := [6]) (by kernel_rfl) (by simp) ?_
    refine (AllReadyG.cons (i := 6) (by simp only [List.getElem?_toArray, List.getElem?_cons_succ, List.getElem?_cons_zero]; rfl) (fun K hK => ?_) AllReadyG.nil)
    go_simp
    go_wp2_with fail
    refine hK.out _ _ (fun _ => ?_) (fun hHeld => ?_)
    · ((try dsimp only); first | exact k1 | exact (World.cell?_alloc_lt _ _ _ (by simp only; omega)).trans k1 | (simp [go_sem, *]; done))
    replace hHeld := hHeld (by rfl)
    clear hK K
    (try simp only [Act.put, List.setIfInBounds_toArray, List.set_cons_zero, List.set_cons_succ])
    refine wpAnyG_ready (rs := [7]) (by kernel_rfl) (by simp) ?_
    refine (AllReadyG.cons (i := 7) (by simp only [List.getElem?_toArray, List.getElem?_cons_succ, List.getElem?_cons_zero]; rfl) (fun K hK => ?_) AllReadyG.nil)
    go_simp
    show Calls _ _ _ ((World.drew w3).alloc (.cells #[.int .i64 (-1), .int .i64 4096, .int .i64 nx, .int .i64 (seqN nx)] 3)) _
    rw [← hwq]
    refine Calls.mono (intX (g := g) (A := A) (n := n) (cap := cap) ?i1 ?i2 ?i3) ?_
    case i1 => first | (simp; done) | (rw [hwq]; rfl)
    case i2 => exact HCU.out.next HDq.out
    case i3 => exact ⟨[_, _, _, _], rfl, rfl, by simp, by simp⟩
    rintro e u1 ⟨x, rfl, hd⟩
    have hal : Below wq.heap.size wq (wq.alloc (.cells #[.int .i64 (-1), .int .i64 4096, .int .i64 nx, .int .i64 (seqN nx)] 3)) := Below.alloc (Below.refl _ _) (Nat.le_refl _) _
    have HDu := Lib.hid (Drew.trans hgl (HDq.out.below_ hal HDq.out.size_) hd)
    have HBu := Lib.hid ((HBq.out.below hal).chg hd.chg_ (by omega))
    have HRu := Lib.hid ((HRq.out.below hal).chg hd.chg_ (by omega))
    obtain ⟨bc0, bc1, bc2, bz0, bz1, bz2, blt⟩ := HBu.out
    replace k1 := HBu.out.c1
    clear hd hal
    go_wp2_with fail
    refine hK.out _ _ (fun _ => ?_) (fun hHeld => ?_)
    · ((try dsimp only); first | exact k1 | exact (World.cell?_alloc_lt _ _ _ (by simp only; omega)).trans k1 | (simp [go_sem, *]; done))
    replace hHeld := hHeld (by rfl)
    clear hK K
    (try simp only [Act.put, List.setIfInBounds_toArray, List.set_cons_zero, List.set_cons_succ])
    refine wpAnyG_takeW [9] (i := 8) (d := some 18) (v := ?_) (by simp only [List.getElem?_toArray, List.getElem?_cons_succ, List.getElem?_cons_zero]; rfl) (by rfl) (by kernel_rfl) (by kernel_rfl) (by kernel_rfl) (by kernel_rfl) (by kernel_rfl) (by intro _ _ _ h; exact h) (by rfl) ?_ (by assumption) ?_
    rotate_left 1
    · (intro w hSw; (try dsimp only at hSw); go_simp; try (with_reducible rfl))
    (try simp only [Act.put, List.setIfInBounds_toArray, List.set_cons_zero, List.set_cons_succ])
    refine wpAnyG_ready (rs := [9]) (by kernel_rfl) (by simp) ?_
    refine (AllReadyG.cons (i := 9) (by simp only [List.getElem?_toArray, List.getElem?_cons_succ, List.getElem?_cons_zero]; rfl) (fun K hK => ?_) AllReadyG.nil)
    go_simp
    go_wp2_with fail
    refine hK.out _ _ (fun h => by cases h) (fun _ => ?_)
    clear hK K
    (try simp only [Act.put, List.setIfInBounds_toArray, List.set_cons_zero, List.set_cons_succ])
    refine wpAnyG_done (by kernel_rfl) ?_ _
    have HRS : Hid (Bx3 ((((u1.setCell ⟨w1.heap.size, 0, none⟩ (.int .i64 x)).setCell ⟨w.heap.size, 0, none⟩ (.int .i64 x)).setCell ⟨w.heap.size, 1, none⟩ (.int .i64 nx)).setCell ⟨w.heap.size, 2, none⟩ (.int .i64 ak)) w.heap.size x nx ak) := Lib.hid ((HRu.out.chg (one_chg u1 w1.heap.size 0 _) (by omega)).s0.s1.s2)
    have HDS : Hid (Drew w g A n cap ((((u1.setCell ⟨w1.heap.size, 0, none⟩ (.int .i64 x)).setCell ⟨w.heap.size, 0, none⟩ (.int .i64 x)).setCell ⟨w.heap.size, 1, none⟩ (.int .i64 nx)).setCell ⟨w.heap.size, 2, none⟩ (.int .i64 ak))) := Lib.hid ((HDu.out.up ((one_chg u1 w1.heap.size 0 _).mono (fun k _ hk => by omega))).up ((st3_chg (u1.setCell ⟨w1.heap.size, 0, none⟩ (.int .i64 x)) w.heap.size x nx ak).mono (fun k _ hk => by omega)))
    obtain ⟨rc0, rc1, rc2, rz0, rz1, rz2, rlt⟩ := HRu.out
    go_simp
    repeat (first | go_skip | go_guarded | go_step | go_upon)
    refine bodyPost_ret (v := .agg #[.int .i64 x, .int .i64 nx, .int .i64 ak]) (by simp [results, Try.results49, go_sem, HRS.out.c0, HRS.out.c1, HRS.out.c2]) rfl ?_
    exact ⟨_, _, _, rfl, HDS.out⟩
  · by_cases h1 : y = 1
    · subst h1
      obtain ⟨bc0, bc1, bc2, bz0, bz1, bz2, blt⟩ := HB3.out
      go_wp2_with fail
      refine Calls.mono (intX (g := g) (A := A) (n := n) (cap := cap) ?i1 ?i2 ?i3) ?_
      case i1 => first | (simp; done) | (rw [hwq]; rfl)
      case i2 => exact HCU.out.next HD3.out
      case i3 => exact ⟨[_, _], rfl, rfl, by simp, by simp⟩
      rintro e u1 ⟨x, rfl, hd⟩
      have hal : Below w3.heap.size w3 (w3.alloc (.cells #[.int .i64 (-1), .int .i64 4096] 3)) := Below.alloc (Below.refl _ _) (Nat.le_refl _) _
      have HDu := Lib.hid (Drew.trans hgl (HD3.out.below_ hal HD3.out.size_) hd)
      have HBu := Lib.hid ((HB3.out.below hal).chg hd.chg_ (by omega))
      have HRu := Lib.hid ((HR3.out.below hal).chg hd.chg_ (by omega))
      clear hd hal bc0 bc1 bc2 bz0 bz1 bz2
      obtain ⟨bc0, bc1, bc2, bz0, bz1, bz2, blt⟩ := HBu.out
      have HRS : Hid (Bx3 ((((u1.setCell ⟨w1.heap.size, 1, none⟩ (.int .i64 x)).setCell ⟨w.heap.size, 0, none⟩ (.int .i64 st)).setCell ⟨w.heap.size, 1, none⟩ (.int .i64 x)).setCell ⟨w.heap.size, 2, none⟩ (.int .i64 ak)) w.heap.size st x ak) := Lib.hid ((HRu.out.chg (one_chg u1 w1.heap.size 1 _) (by omega)).s0.s1.s2)
      have HDS : Hid (Drew w g A n cap ((((u1.setCell ⟨w1.heap.size, 1, none⟩ (.int .i64 x)).setCell ⟨w.heap.size, 0, none⟩ (.int .i64 st)).setCell ⟨w.heap.size, 1, none⟩ (.int .i64 x)).setCell ⟨w.heap.size, 2, none⟩ (.int .i64 ak))) := Lib.hid ((HDu.out.up ((one_chg u1 w1.heap.size 1 _).mono (fun k _ hk => by omega))).up ((st3_chg (u1.setCell ⟨w1.heap.size, 1, none⟩ (.int .i64 x)) w.heap.size st x ak).mono (fun k _ hk => by omega)))
      obtain ⟨rc0, rc1, rc2, rz0, rz1, rz2, rlt⟩ := HRu.out
      go_simp
      repeat (first | go_skip | go_guarded | go_step | go_upon)
      refine bodyPost_ret (v := .agg #[.int .i64 st, .int .i64 x, .int .i64 ak]) (by simp [results, Try.results49, go_sem, HRS.out.c0, HRS.out.c1, HRS.out.c2]) rfl ?_
      exact ⟨_, _, _, rfl, HDS.out⟩
    · by_cases h2 : y = 2
      · subst h2
        obtain ⟨bc0, bc1, bc2, bz0, bz1, bz2, blt⟩ := HB3.out
        go_wp2_with fail
        refine Calls.mono (intX (g := g) (A := A) (n := n) (cap := cap) ?i1 ?i2 ?i3) ?_
        case i1 => first | (simp; done) | (rw [hwq]; rfl)
        case i2 => exact HCU.out.next HD3.out
        case i3 => exact ⟨[_, _, _, _, _], rfl, rfl, by simp, by simp⟩
        rintro e u1 ⟨x, rfl, hd⟩
        have hal : Below w3.heap.size w3 (w3.alloc (.cells #[.int .i64 (-1), .int .i64 1, .int .i64 2, .int .i64 65536, .int .i64 131072] 3)) := Below.alloc (Below.refl _ _) (Nat.le_refl _) _
        have HDu := Lib.hid (Drew.trans hgl (HD3.out.below_ hal HD3.out.size_) hd)
        have HBu := Lib.hid ((HB3.out.below hal).chg hd.chg_ (by omega))
        have HRu := Lib.hid ((HR3.out.below hal).chg hd.chg_ (by omega))
        clear hd hal bc0 bc1 bc2 bz0 bz1 bz2
        obtain ⟨bc0, bc1, bc2, bz0, bz1, bz2, blt⟩ := HBu.out
        have HRS : Hid (Bx3 ((((u1.setCell ⟨w1.heap.size, 2, none⟩ (.int .i64 x)).setCell ⟨w.heap.size, 0, none⟩ (.int .i64 st)).setCell ⟨w.heap.size, 1, none⟩ (.int .i64 nx)).setCell ⟨w.heap.size, 2, none⟩ (.int .i64 x)) w.heap.size st nx x) := Lib.hid ((HRu.out.chg (one_chg u1 w1.heap.size 2 _) (by omega)).s0.s1.s2)
        have HDS : Hid (Drew w g A n cap ((((u1.setCell ⟨w1.heap.size, 2, none⟩ (.int .i64 x)).setCell ⟨w.heap.size, 0, none⟩ (.int .i64 st)).setCell ⟨w.heap.size, 1, none⟩ (.int .i64 nx)).setCell ⟨w.heap.size, 2, none⟩ (.int .i64 x))) := Lib.hid ((HDu.out.up ((one_chg u1 w1.heap.size 2 _).mono (fun k _ hk => by omega))).up ((st3_chg (u1.setCell ⟨w1.heap.size, 2, none⟩ (.int .i64 x)) w.heap.size st nx x).mono (fun k _ hk => by omega)))
        obtain ⟨rc0, rc1, rc2, rz0, rz1, rz2, rlt⟩ := HRu.out
        go_simp
        repeat (first | go_skip | go_guarded | go_step | go_upon)
        refine bodyPost_ret (v := .agg #[.int .i64 st, .int .i64 nx, .int .i64 x]) (by simp [results, Try.results49, go_sem, HRS.out.c0, HRS.out.c1, HRS.out.c2]) rfl ?_
        exact ⟨_, _, _, rfl, HDS.out⟩
      · have HD := HD3
        have HB := HB3
        have HR := HR3
        have h0b : (y == 0) = false := by simp [h0]
        have h1b : (y == 1) = false := by simp [h1]
        have h2b : (y == 2) = false := by simp [h2]
        have HRS : Hid (Bx3 (((w3.setCell ⟨w.heap.size, 0, none⟩ (.int .i64 st)).setCell ⟨w.heap.size, 1, none⟩ (.int .i64 nx)).setCell ⟨w.heap.size, 2, none⟩ (.int .i64 ak)) w.heap.size st nx ak) := Lib.hid (HR.out.s0.s1.s2)
        have HDS : Hid (Drew w g A n cap (((w3.setCell ⟨w.heap.size, 0, none⟩ (.int .i64 st)).setCell ⟨w.heap.size, 1, none⟩ (.int .i64 nx)).setCell ⟨w.heap.size, 2, none⟩ (.int .i64 ak))) := Lib.hid (HD.out.up ((st3_chg w3 w.heap.size st nx ak).mono (fun k _ hk => by omega)))
        obtain ⟨bc0, bc1, bc2, bz0, bz1, bz2, blt⟩ := HB.out
        obtain ⟨rc0, rc1, rc2, rz0, rz1, rz2, rlt⟩ := HR.out
        go_simp
        repeat (first | go_skip | go_guarded | go_step | go_upon)
        refine bodyPost_ret (v := .agg #[.int .i64 st, .int .i64 nx, .int .i64 ak]) (by simp [results, Try.results49, go_sem, HRS.out.c0, HRS.out.c1, HRS.out.c2]) rfl ?_
        exact ⟨_, _, _, rfl, HDS.out⟩
set_option maxRecDepth 8000 in
set_option maxHeartbeats 4000000 in
theorem l21Ack_any (g : Nat) (A : Option Addr) (n cap : Nat) (st nx ak : Int) (w : World) (hcu : Cuu w g A n cap) :
    Calls Try.prog 50 #[.pointer (some ⟨g, 0, none⟩), .agg #[.int .i64 st, .int .i64 nx, .int .i64 ak]] w fun e w' => SomeA w g A n cap e w' := by
  have HCU := Lib.hid hcu
  have hgl := hcu.lt
  clear hcu
  go_enter Try.func50, Try.ntmps50
  go_wp2
  obtain ⟨w0, hw0⟩ : ∃ v, v = ((w.alloc (.cells #[.int .i64 st, .int .i64 nx, .int .i64 ak] 29)).alloc (.cells #[.int .i64 0, .int .i64 0] 25)) := ⟨_, rfl⟩
  rw [← hw0]
  have hb0 : Below w.heap.size w w0 := by rw [hw0]; exact (by repeat (first | (with_reducible exact Below.refl _ _) | (with_reducible refine Below.ext ?_ (by go_size) _ _) | (with_reducible refine Below.alloc ?_ (by go_size) _) | (with_reducible refine Below.setCell ?_ (by go_size) _) | (with_reducible refine Below.drew ?_) | (with_reducible refine Below.drewN_ ?_ _)))
  have hs0 : w.heap.size + 1 < w0.heap.size := by rw [hw0]; simp
  have HS0 : Hid (Bx3 w0 w.heap.size st nx ak) := Lib.hid (by rw [hw0]; exact Bx3.new (t := 29) (((Below.alloc (Below.refl _ _) (Nat.le_refl _) _).block _ (by simp)).trans (World.heap_new _ _ _ rfl)))
  have HR0 : Hid (Bx2 w0 (w.heap.size + 1) 0 0) := Lib.hid (by rw [hw0]; exact Bx2.new (t := 25) (World.heap_new _ _ _ (by simp)))
  have HD0 := Lib.hid (HCU.out.drew_below hb0)
  clear hw0 hb0
  obtain ⟨wa, hwa⟩ : ∃ v, v = w0.drew := ⟨_, rfl⟩
  have hba : Below w0.heap.size w0 wa := by rw [hwa]; exact Below.drew (Below.refl _ _)
  have hsza := hba.size
  have HDwa := Lib.hid (HD0.out.below_ hba HD0.out.size_)
  have HSwa := Lib.hid (HS0.out.below hba)
  have HRwa := Lib.hid (HR0.out.below hba)
  have k0 := HS0.out.c0
  clear hba
  refine wp_region_G [11] (S := (fun w' => w'.cell? ⟨w.heap.size, 0, none⟩ = some (.int .i64 st))) (by kernel_rfl) ?_ (fun hHeld => ?_)
  · first | exact k0 | exact (World.cell?_alloc_lt _ _ _ (by simp only; omega)).trans k0 | (simp [go_sem, *]; done)
  refine wpAnyG_takeW [1, 4, 5, 6, 8, 9, 11] (i := 0) (d := some 6) (v := ?_) (by simp only [List.getElem?_toArray, List.getElem?_cons_succ, List.getElem?_cons_zero]; rfl) (by rfl) (by kernel_rfl) (by kernel_rfl) (by kernel_rfl) (by kernel_rfl) (by kernel_rfl) (by intro _ _ _ h; exact h) (by rfl) ?_ (by assumption) ?_
  rotate_left 1
  · (intro w hSw; (try dsimp only at hSw); go_simp; try (with_reducible rfl))
  (try simp only [Act.put, List.setIfInBounds_toArray, List.set_cons_zero, List.set_cons_succ])
  refine wpAnyG_takeW [4, 5, 6, 8, 9, 11] (i := 1) (d := some 7) (v := ?_) (by simp only [List.getElem?_toArray, List.getElem?_cons_succ, List.getElem?_cons_zero]; rfl) (by rfl) (by kernel_rfl) (by kernel_rfl) (by kernel_rfl) (by kernel_rfl) (by kernel_rfl) (by intro _ _ _ h; exact h) (by rfl) ?_ (by assumption) ?_
  rotate_left 1
  · (intro w hSw; (try dsimp only at hSw); go_simp; try (with_reducible rfl))
  (try simp only [Act.put, List.setIfInBounds_toArray, List.set_cons_zero, List.set_cons_succ])
  refine wpAnyG_takeW [3, 4, 5, 6, 8, 9, 11] (i := 2) (d := some 8) (v := ?_) (by simp only [List.getElem?_toArray, List.getElem?_cons_succ, List.getElem?_cons_zero]; rfl) (by rfl) (by kernel_rfl) (by kernel_rfl) (by kernel_rfl) (by kernel_rfl) (by kernel_rfl) (by intro _ _ _ h; exact h) (by rfl) ?_ (by assumption) ?_
  rotate_left 1
  · (intro w hSw; (try dsimp only at hSw); go_simp; try (with_reducible rfl))
  (try simp only [Act.put, List.setIfInBounds_toArray, List.set_cons_zero, List.set_cons_succ])
  refine wpAnyG_takeW [8, 9, 11] (i := 7) (d := some 13) (v := ?_) (by simp only [List.getElem?_toArray, List.getElem?_cons_succ, List.getElem?_cons_zero]; rfl) (by rfl) (by kernel_rfl) (by kernel_rfl) (by kernel_rfl) (by kernel_rfl) (by kernel_rfl) (by intro _ _ _ h; exact h) (by rfl) ?_ (by assumption) ?_
  rotate_left 1
  · (intro w hSw; (try dsimp only at hSw); go_simp; try (with_reducible rfl))
  (try simp only [Act.put, List.setIfInBounds_toArray, List.set_cons_zero, List.set_cons_succ])
  refine wpAnyG_ready (rs := [3, 10]) (by kernel_rfl) (by simp) ?_
  refine (AllReadyG.cons (i := 3) (by simp only [List.getElem?_toArray, List.getElem?_cons_succ, List.getElem?_cons_zero]; rfl) (fun K hK => ?_) (AllReadyG.cons (i := 10) (by simp only [List.getElem?_toArray, List.getElem?_cons_succ, List.getElem?_cons_zero]; rfl) (fun K hK => ?_) AllReadyG.nil))
  · go_simp
    rw [← hwa]
    refine (belowC g A n cap _ 5 (by omega) (HCU.out.next HDwa.out)).mono ?_
    rintro e v1 ⟨x, rfl, hx0, hx1, _, hd⟩
    have HDv1 := Lib.hid (Drew.trans hgl HDwa.out hd)
    have HSv1 := Lib.hid (HSwa.out.chg hd.chg_ (by omega))
    have HRv1 := Lib.hid (HRwa.out.chg hd.chg_ (by omega))
    have hszv1 := hd.size_
    replace k0 := HSv1.out.c0
    clear hd
    go_wp2_with fail
    refine hK.out _ _ (fun _ => ?_) (fun hHeld => ?_)
    · ((try dsimp only); first | exact k0 | exact (World.cell?_alloc_lt _ _ _ (by simp only; omega)).trans k0 | (simp [go_sem, *]; done))
    replace hHeld := hHeld (by rfl)
    clear hK K
    (try simp only [Act.put, List.setIfInBounds_toArray, List.set_cons_zero, List.set_cons_succ])
    refine wpAnyG_takeW [5, 6, 8, 9, 11] (i := 4) (d := some 10) (v := ?_) (by simp only [List.getElem?_toArray, List.getElem?_cons_succ, List.getElem?_cons_zero]; rfl) (by rfl) (by kernel_rfl) (by kernel_rfl) (by kernel_rfl) (by kernel_rfl) (by kernel_rfl) (by intro _ _ _ h; exact h) (by rfl) ?_ (by assumption) ?_
    rotate_left 1
    · (intro w hSw; (try dsimp only at hSw); go_simp; try (with_reducible rfl))
    (try simp only [Act.put, List.setIfInBounds_toArray, List.set_cons_zero, List.set_cons_succ])
    refine wpAnyG_takeW [6, 8, 9, 11] (i := 5) (d := some 11) (v := ?_) (by simp only [List.getElem?_toArray, List.getElem?_cons_succ, List.getElem?_cons_zero]; rfl) (by rfl) (by kernel_rfl) (by kernel_rfl) (by kernel_rfl) (by kernel_rfl) (by kernel_rfl) (by intro _ _ _ h; exact h) (by rfl) ?_ (by assumption) ?_
    rotate_left 1
    · (intro w hSw; (try dsimp only at hSw); go_simp; try (with_reducible rfl))
    (try simp only [Act.put, List.setIfInBounds_toArray, List.set_cons_zero, List.set_cons_succ])
    refine wpAnyG_ready (rs := [6, 10]) (by kernel_rfl) (by simp) ?_
    refine (AllReadyG.cons (i := 6) (by simp only [List.getElem?_toArray, List.getElem?_cons_succ, List.getElem?_cons_zero]; rfl) (fun K hK => ?_) (AllReadyG.cons (i := 10) (by simp only [List.getElem?_toArray, List.getElem?_cons_succ, List.getElem?_cons_zero]; rfl) (fun K hK => ?_) AllReadyG.nil))
    · go_simp
      refine (specMod_any _ 4096 (by unfold I64; rw [IntKind.wrap_i64]; omega) rfl _).mono ?_
      rintro e w' ⟨rfl, rfl⟩
      obtain ⟨v2, hvv⟩ : ∃ v, v = v1 := ⟨_, rfl⟩
      have hbv : Below v1.heap.size v1 v2 := by rw [hvv]; exact Below.refl _ _
      have HDv2 := Lib.hid (HDv1.out.below_ hbv HDv1.out.size_)
      have HSv2 := Lib.hid (HSv1.out.below hbv)
      have HRv2 := Lib.hid (HRv1.out.below hbv)
      have hszv2 := hbv.size
      replace k0 := HSv2.out.c0
      rw [← hvv]
      clear hvv hbv
      go_wp2_with fail
      refine hK.out _ _ (fun _ => ?_) (fun hHeld => ?_)
      · ((try dsimp only); first | exact k0 | exact (World.cell?_alloc_lt _ _ _ (by simp only; omega)).trans k0 | (simp [go_sem, *]; done))
      replace hHeld := hHeld (by rfl)
      clear hK K
      (try simp only [Act.put, List.setIfInBounds_toArray, List.set_cons_zero, List.set_cons_succ])
      refine wpAnyG_ready (rs := [8, 10]) (by kernel_rfl) (by simp) ?_
      refine (AllReadyG.cons (i := 8) (by simp only [List.getElem?_toArray, List.getElem?_cons_succ, List.getElem?_cons_zero]; rfl) (fun K hK => ?_) (AllReadyG.cons (i := 10) (by simp only [List.getElem?_toArray, List.getElem?_cons_succ, List.getElem?_cons_zero]; rfl) (fun K hK => ?_) AllReadyG.nil))
      · go_simp
        refine (belowC g A n cap _ 65536 (by omega) (HCU.out.next HDv2.out)).mono ?_
        rintro e v3 ⟨bm, rfl, hbm0, hbm1, _, hd⟩
        have HDv3 := Lib.hid (Drew.trans hgl HDv2.out hd)
        have HSv3 := Lib.hid (HSv2.out.chg hd.chg_ (by omega))
        have HRv3 := Lib.hid (HRv2.out.chg hd.chg_ (by omega))
        have hszv3 := hd.size_
        replace k0 := HSv3.out.c0
        clear hd
        go_wp2_with fail
        refine hK.out _ _ (fun _ => ?_) (fun hHeld => ?_)
        · ((try dsimp only); first | exact k0 | exact (World.cell?_alloc_lt _ _ _ (by simp only; omega)).trans k0 | (simp [go_sem, *]; done))
        replace hHeld := hHeld (by rfl)
        clear hK K
        (try simp only [Act.put, List.setIfInBounds_toArray, List.set_cons_zero, List.set_cons_succ])
        refine wpAnyG_takeW [11] (i := 9) (d := some 15) (v := ?_) (by simp only [List.getElem?_toArray, List.getElem?_cons_succ, List.getElem?_cons_zero]; rfl) (by rfl) (by kernel_rfl) (by kernel_rfl) (by kernel_rfl) (by kernel_rfl) (by kernel_rfl) (by intro _ _ _ h; exact h) (by rfl) ?_ (by assumption) ?_
        rotate_left 1
        · (intro w hSw; (try dsimp only at hSw); go_simp; try (with_reducible rfl))
        (try simp only [Act.put, List.setIfInBounds_toArray, List.set_cons_zero, List.set_cons_succ])
        refine wpAnyG_ready (rs := [10]) (by kernel_rfl) (by simp) ?_
        refine (AllReadyG.cons (i := 10) (by simp only [List.getElem?_toArray, List.getElem?_cons_succ, List.getElem?_cons_zero]; rfl) (fun K hK => ?_) AllReadyG.nil)
        go_simp
        go_wp2_with fail
        refine hK.out _ _ (fun _ => ?_) (fun hHeld => ?_)
        · ((try dsimp only); first | exact k0 | exact (World.cell?_alloc_lt _ _ _ (by simp only; omega)).trans k0 | (simp [go_sem, *]; done))
        replace hHeld := hHeld (by rfl)
        clear hK K
        (try simp only [Act.put, List.setIfInBounds_toArray, List.set_cons_zero, List.set_cons_succ])
        obtain ⟨v4, hv⟩ : ∃ v, v = v3.alloc (.cells #[.int .i64 0, .int .i64 0] 25) := ⟨_, rfl⟩
        rw [← hv] at hHeld ⊢
        have hbv : Below v3.heap.size v3 v4 := by rw [hv]; exact Below.alloc (Below.refl _ _) (Nat.le_refl _) _
        obtain ⟨gx, hgx⟩ : ∃ x, x = v3.heap.size := ⟨_, rfl⟩
        have HX : Hid (Bx2 v4 gx 0 0) := Lib.hid (Bx2.new (t := 25) (by rw [hv, hgx]; exact World.heap_new _ _ _ rfl))
        have HDv4 := Lib.hid (HDv3.out.below_ hbv HDv3.out.size_)
        have HSv4 := Lib.hid (HSv3.out.below hbv)
        have HRv4 := Lib.hid (HRv3.out.below hbv)
        have hszv4 := hbv.size
        replace k0 := HSv4.out.c0
        have hgx1 : v3.heap.size ≤ gx := Nat.le_of_eq hgx.symm
        clear hv hbv
        rw [← hgx]
        clear hgx
        refine wpAnyG_ready (rs := [11]) (by kernel_rfl) (by simp) ?_
        refine (AllReadyG.cons (i := 11) (by simp only [List.getElem?_toArray, List.getElem?_cons_succ, List.getElem?_cons_zero]; rfl) (fun K hK => ?_) AllReadyG.nil)
        obtain ⟨xc0, xc1, xz0, xz1, xlt⟩ := HX.out
        go_simp
        go_wp2_with fail
        refine hK.out _ _ (fun h => by cases h) (fun _ => ?_)
        clear hK K
        (try simp only [Act.put, List.setIfInBounds_toArray, List.set_cons_zero, List.set_cons_succ])
        refine wpAnyG_done (by kernel_rfl) ?_ _
        generalize IntKind.i64.wrap (IntKind.i64.wrap (st + x) - 1) % 4096 = xm
        obtain ⟨ws, hws⟩ : ∃ v, v = (v4.setCell ⟨gx, 0, none⟩ (.int .i64 xm)).setCell ⟨gx, 1, none⟩ (.int .i64 bm) := ⟨_, rfl⟩
        have HDs : Hid (Drew w g A n cap ws) := Lib.hid (by rw [hws]; exact HDv4.out.up ((st2_chg v4 gx xm bm).mono (fun k _ hk => by omega)))
        have HXs : Hid (Bx2 ws gx xm bm) := Lib.hid (by rw [hws]; exact HX.out.s0.s1)
        have HRs : Hid (Bx2 ws (w.heap.size + 1) 0 0) := Lib.hid (by rw [hws]; exact HRv4.out.chg (st2_chg v4 gx xm bm) (by omega))
        rw [← hws]
        clear hws xc0 xc1 xz0 xz1 k0
        go_wp2_with fail
        refine (belowC g A n cap _ 8 (by omega) (HCU.out.next HDs.out)).mono ?_
        rintro e wt ⟨y, rfl, _, _, _, hd⟩
        have HDt := Lib.hid (Drew.trans hgl HDs.out hd)
        have HXt := Lib.hid (HXs.out.chg hd.chg_ (by omega))
        have HRt := Lib.hid (HRs.out.chg hd.chg_ (by omega))
        clear hd
        by_cases h0 : y = 0
        · subst h0
          obtain ⟨xc0, xc1, xz0, xz1, xlt⟩ := HXt.out
          go_wp2_with fail
          refine Calls.mono (intX (g := g) (A := A) (n := n) (cap := cap) ?i1 ?i2 ?i3) ?_
          case i1 => first | (simp; done) | (rw [hwq]; rfl)
          case i2 => exact HCU.out.next HDt.out
          case i3 => exact ⟨[_, _, _, _], rfl, rfl, by simp, by simp⟩
          rintro e u1 ⟨z, rfl, hd⟩
          have hal : Below wt.heap.size wt (wt.alloc (.cells #[.int .i64 (-1), .int .i64 4096, .int .i64 0, .int .i64 2000] 3)) := Below.alloc (Below.refl _ _) (Nat.le_refl _) _
          have HDu := Lib.hid (Drew.trans hgl (HDt.out.below_ hal HDt.out.size_) hd)
          have HXu := Lib.hid ((HXt.out.below hal).chg hd.chg_ (by omega))
          have HRu := Lib.hid ((HRt.out.below hal).chg hd.chg_ (by omega))
          clear hd hal xc0 xc1 xz0 xz1
          obtain ⟨xc0, xc1, xz0, xz1, xlt⟩ := HXu.out
          have HRS : Hid (Bx2 (((u1.setCell ⟨gx, 0, none⟩ (.int .i64 z)).setCell ⟨w.heap.size + 1, 0, none⟩ (.int .i64 z)).setCell ⟨w.heap.size + 1, 1, none⟩ (.int .i64 bm)) (w.heap.size + 1) z bm) := Lib.hid ((HRu.out.chg (one_chg u1 gx 0 _) (by omega)).s0.s1)
          have HDS : Hid (Drew w g A n cap (((u1.setCell ⟨gx, 0, none⟩ (.int .i64 z)).setCell ⟨w.heap.size + 1, 0, none⟩ (.int .i64 z)).setCell ⟨w.heap.size + 1, 1, none⟩ (.int .i64 bm))) := Lib.hid ((HDu.out.up ((one_chg u1 gx 0 _).mono (fun k _ hk => by omega))).up ((st2_chg (u1.setCell ⟨gx, 0, none⟩ (.int .i64 z)) (w.heap.size + 1) z bm).mono (fun k _ hk => by omega)))
          obtain ⟨rc0, rc1, rz0, rz1, rlt⟩ := HRu.out
          go_simp
          repeat (first | go_skip | go_guarded | go_step | go_upon)
          refine bodyPost_ret (v := .agg #[.int .i64 z, .int .i64 bm]) (by simp [results, Try.results50, go_sem, HRS.out.c0, HRS.out.c1]) rfl ?_
          exact ⟨_, _, rfl, HDS.out⟩
        · by_cases h1 : y = 1
          · subst h1
            obtain ⟨xc0, xc1, xz0, xz1, xlt⟩ := HXt.out
            go_wp2_with fail
            refine Calls.mono (intX (g := g) (A := A) (n := n) (cap := cap) ?i1 ?i2 ?i3) ?_
            case i1 => first | (simp; done) | (rw [hwq]; rfl)
            case i2 => exact HCU.out.next HDt.out
            case i3 => exact ⟨[_, _, _], rfl, rfl, by simp, by simp⟩
            rintro e u1 ⟨z, rfl, hd⟩
            have hal : Below wt.heap.size wt (wt.alloc (.cells #[.int .i64 (-1), .int .i64 65535, .int .i64 65536] 3)) := Below.alloc (Below.refl _ _) (Nat.le_refl _) _
            have HDu := Lib.hid (Drew.trans hgl (HDt.out.below_ hal HDt.out.size_) hd)
            have HXu := Lib.hid ((HXt.out.below hal).chg hd.chg_ (by omega))
            have HRu := Lib.hid ((HRt.out.below hal).chg hd.chg_ (by omega))
            clear hd hal xc0 xc1 xz0 xz1
            obtain ⟨xc0, xc1, xz0, xz1, xlt⟩ := HXu.out
            have HRS : Hid (Bx2 (((u1.setCell ⟨gx, 1, none⟩ (.int .i64 z)).setCell ⟨w.heap.size + 1, 0, none⟩ (.int .i64 xm)).setCell ⟨w.heap.size + 1, 1, none⟩ (.int .i64 z)) (w.heap.size + 1) xm z) := Lib.hid ((HRu.out.chg (one_chg u1 gx 1 _) (by omega)).s0.s1)
            have HDS : Hid (Drew w g A n cap (((u1.setCell ⟨gx, 1, none⟩ (.int .i64 z)).setCell ⟨w.heap.size + 1, 0, none⟩ (.int .i64 xm)).setCell ⟨w.heap.size + 1, 1, none⟩ (.int .i64 z))) := Lib.hid ((HDu.out.up ((one_chg u1 gx 1 _).mono (fun k _ hk => by omega))).up ((st2_chg (u1.setCell ⟨gx, 1, none⟩ (.int .i64 z)) (w.heap.size + 1) xm z).mono (fun k _ hk => by omega)))
            obtain ⟨rc0, rc1, rz0, rz1, rlt⟩ := HRu.out
            go_simp
            repeat (first | go_skip | go_guarded | go_step | go_upon)
            refine bodyPost_ret (v := .agg #[.int .i64 xm, .int .i64 z]) (by simp [results, Try.results50, go_sem, HRS.out.c0, HRS.out.c1]) rfl ?_
            exact ⟨_, _, rfl, HDS.out⟩
          · have h0b : (y == 0) = false := by simp [h0]
            have h1b : (y == 1) = false := by simp [h1]
            have HRS : Hid (Bx2 ((wt.setCell ⟨w.heap.size + 1, 0, none⟩ (.int .i64 xm)).setCell ⟨w.heap.size + 1, 1, none⟩ (.int .i64 bm)) (w.heap.size + 1) xm bm) := Lib.hid (HRt.out.s0.s1)
            have HDS : Hid (Drew w g A n cap ((wt.setCell ⟨w.heap.size + 1, 0, none⟩ (.int .i64 xm)).setCell ⟨w.heap.size + 1, 1, none⟩ (.int .i64 bm))) := Lib.hid (HDt.out.up ((st2_chg wt (w.heap.size + 1) xm bm).mono (fun k _ hk => by omega)))
            obtain ⟨xc0, xc1, xz0, xz1, xlt⟩ := HXt.out
            obtain ⟨rc0, rc1, rz0, rz1, rlt⟩ := HRt.out
            go_simp
            repeat (first | go_skip | go_guarded | go_step | go_upon)
            refine bodyPost_ret (v := .agg #[.int .i64 xm, .int .i64 bm]) (by simp [results, Try.results50, go_sem, HRS.out.c0, HRS.out.c1]) rfl ?_
            exact ⟨_, _, rfl, HDS.out⟩
      · go_simp
        go_wp2_with fail
        refine hK.out _ _ (fun _ => ?_) (fun hHeld => ?_)
        · ((try dsimp only); first | exact k0 | exact (World.cell?_alloc_lt _ _ _ (by simp only; omega)).trans k0 | (simp [go_sem, *]; done))
        replace hHeld := hHeld (by rfl)
        clear hK K
        (try simp only [Act.put, List.setIfInBounds_toArray, List.set_cons_zero, List.set_cons_succ])
        obtain ⟨v3, hv⟩ : ∃ v, v = v2.alloc (.cells #[.int .i64 0, .int .i64 0] 25) := ⟨_, rfl⟩
        rw [← hv] at hHeld ⊢
        have hbv : Below v2.heap.size v2 v3 := by rw [hv]; exact Below.alloc (Below.refl _ _) (Nat.le_refl _) _
        obtain ⟨gx, hgx⟩ : ∃ x, x = v2.heap.size := ⟨_, rfl⟩
        have HX : Hid (Bx2 v3 gx 0 0) := Lib.hid (Bx2.new (t := 25) (by rw [hv, hgx]; exact World.heap_new _ _ _ rfl))
        have HDv3 := Lib.hid (HDv2.out.below_ hbv HDv2.out.size_)
        have HSv3 := Lib.hid (HSv2.out.below hbv)
        have HRv3 := Lib.hid (HRv2.out.below hbv)
        have hszv3 := hbv.size
        replace k0 := HSv3.out.c0
        have hgx1 : v2.heap.size ≤ gx := Nat.le_of_eq hgx.symm
        clear hv hbv
        rw [← hgx]
        clear hgx
        refine wpAnyG_ready (rs := [8]) (by kernel_rfl) (by simp) ?_
        refine (AllReadyG.cons (i := 8) (by simp only [List.getElem?_toArray, List.getElem?_cons_succ, List.getElem?_cons_zero]; rfl) (fun K hK => ?_) AllReadyG.nil)
        go_simp
        refine (belowC g A n cap _ 65536 (by omega) (HCU.out.next HDv3.out)).mono ?_
        rintro e v4 ⟨bm, rfl, hbm0, hbm1, _, hd⟩
        have HDv4 := Lib.hid (Drew.trans hgl HDv3.out hd)
        have HSv4 := Lib.hid (HSv3.out.chg hd.chg_ (by omega))
        have HRv4 := Lib.hid (HRv3.out.chg hd.chg_ (by omega))
        have hszv4 := hd.size_
        replace k0 := HSv4.out.c0
        replace HX := Lib.hid (HX.out.chg hd.chg_ (by omega))
        clear hd
        go_wp2_with fail
        refine hK.out _ _ (fun _ => ?_) (fun hHeld => ?_)
        · ((try dsimp only); first | exact k0 | exact (World.cell?_alloc_lt _ _ _ (by simp only; omega)).trans k0 | (simp [go_sem, *]; done))
        replace hHeld := hHeld (by rfl)
        clear hK K
        (try simp only [Act.put, List.setIfInBounds_toArray, List.set_cons_zero, List.set_cons_succ])
        refine wpAnyG_takeW [11] (i := 9) (d := some 15) (v := ?_) (by simp only [List.getElem?_toArray, List.getElem?_cons_succ, List.getElem?_cons_zero]; rfl) (by rfl) (by kernel_rfl) (by kernel_rfl) (by kernel_rfl) (by kernel_rfl) (by kernel_rfl) (by intro _ _ _ h; exact h) (by rfl) ?_ (by assumption) ?_
        rotate_left 1
        · (intro w hSw; (try dsimp only at hSw); go_simp; try (with_reducible rfl))
        (try simp only [Act.put, List.setIfInBounds_toArray, List.set_cons_zero, List.set_cons_succ])
        refine wpAnyG_ready (rs := [11]) (by kernel_rfl) (by simp) ?_
        refine (AllReadyG.cons (i := 11) (by simp only [List.getElem?_toArray, List.getElem?_cons_succ, List.getElem?_cons_zero]; rfl) (fun K hK => ?_) AllReadyG.nil)
        obtain ⟨xc0, xc1, xz0, xz1, xlt⟩ := HX.out
        go_simp
        go_wp2_with fail
        refine hK.out _ _ (fun h => by cases h) (fun _ => ?_)
        clear hK K
        (try simp only [Act.put, List.setIfInBounds_toArray, List.set_cons_zero, List.set_cons_succ])
        refine wpAnyG_done (by kernel_rfl) ?_ _
        generalize IntKind.i64.wrap (IntKind.i64.wrap (st + x) - 1) % 4096 = xm
        obtain ⟨ws, hws⟩ : ∃ v, v = (v4.setCell ⟨gx, 0, none⟩ (.int .i64 xm)).setCell ⟨gx, 1, none⟩ (.int .i64 bm) := ⟨_, rfl⟩
        have HDs : Hid (Drew w g A n cap ws) := Lib.hid (by rw [hws]; exact HDv4.out.up ((st2_chg v4 gx xm bm).mono (fun k _ hk => by omega)))
        have HXs : Hid (Bx2 ws gx xm bm) := Lib.hid (by rw [hws]; exact HX.out.s0.s1)
        have HRs : Hid (Bx2 ws (w.heap.size + 1) 0 0) := Lib.hid (by rw [hws]; exact HRv4.out.chg (st2_chg v4 gx xm bm) (by omega))
        rw [← hws]
        clear hws xc0 xc1 xz0 xz1 k0
        go_wp2_with fail
        refine (belowC g A n cap _ 8 (by omega) (HCU.out.next HDs.out)).mono ?_
        rintro e wt ⟨y, rfl, _, _, _, hd⟩
        have HDt := Lib.hid (Drew.trans hgl HDs.out hd)
        have HXt := Lib.hid (HXs.out.chg hd.chg_ (by omega))
        have HRt := Lib.hid (HRs.out.chg hd.chg_ (by omega))
        clear hd
        by_cases h0 : y = 0
        · subst h0
          obtain ⟨xc0, xc1, xz0, xz1, xlt⟩ := HXt.out
          go_wp2_with fail
          refine Calls.mono (intX (g := g) (A := A) (n := n) (cap := cap) ?i1 ?i2 ?i3) ?_
          case i1 => first | (simp; done) | (rw [hwq]; rfl)
          case i2 => exact HCU.out.next HDt.out
          case i3 => exact ⟨[_, _, _, _], rfl, rfl, by simp, by simp⟩
          rintro e u1 ⟨z, rfl, hd⟩
          have hal : Below wt.heap.size wt (wt.alloc (.cells #[.int .i64 (-1), .int .i64 4096, .int .i64 0, .int .i64 2000] 3)) := Below.alloc (Below.refl _ _) (Nat.le_refl _) _
          have HDu := Lib.hid (Drew.trans hgl (HDt.out.below_ hal HDt.out.size_) hd)
          have HXu := Lib.hid ((HXt.out.below hal).chg hd.chg_ (by omega))
          have HRu := Lib.hid ((HRt.out.below hal).chg hd.chg_ (by omega))
          clear hd hal xc0 xc1 xz0 xz1
          obtain ⟨xc0, xc1, xz0, xz1, xlt⟩ := HXu.out
          have HRS : Hid (Bx2 (((u1.setCell ⟨gx, 0, none⟩ (.int .i64 z)).setCell ⟨w.heap.size + 1, 0, none⟩ (.int .i64 z)).setCell ⟨w.heap.size + 1, 1, none⟩ (.int .i64 bm)) (w.heap.size + 1) z bm) := Lib.hid ((HRu.out.chg (one_chg u1 gx 0 _) (by omega)).s0.s1)
          have HDS : Hid (Drew w g A n cap (((u1.setCell ⟨gx, 0, none⟩ (.int .i64 z)).setCell ⟨w.heap.size + 1, 0, none⟩ (.int .i64 z)).setCell ⟨w.heap.size + 1, 1, none⟩ (.int .i64 bm))) := Lib.hid ((HDu.out.up ((one_chg u1 gx 0 _).mono (fun k _ hk => by omega))).up ((st2_chg (u1.setCell ⟨gx, 0, none⟩ (.int .i64 z)) (w.heap.size + 1) z bm).mono (fun k _ hk => by omega)))
          obtain ⟨rc0, rc1, rz0, rz1, rlt⟩ := HRu.out
          go_simp
          repeat (first | go_skip | go_guarded | go_step | go_upon)
          refine bodyPost_ret (v := .agg #[.int .i64 z, .int .i64 bm]) (by simp [results, Try.results50, go_sem, HRS.out.c0, HRS.out.c1]) rfl ?_
          exact ⟨_, _, rfl, HDS.out⟩
        · by_cases h1 : y = 1
          · subst h1
            obtain ⟨xc0, xc1, xz0, xz1, xlt⟩ := HXt.out
            go_wp2_with fail
            refine Calls.mono (intX (g := g) (A := A) (n := n) (cap := cap) ?i1 ?i2 ?i3) ?_
            case i1 => first | (simp; done) | (rw [hwq]; rfl)
            case i2 => exact HCU.out.next HDt.out
            case i3 => exact ⟨[_, _, _], rfl, rfl, by simp, by simp⟩
            rintro e u1 ⟨z, rfl, hd⟩
            have hal : Below wt.heap.size wt (wt.alloc (.cells #[.int .i64 (-1), .int .i64 65535, .int .i64 65536] 3)) := Below.alloc (Below.refl _ _) (Nat.le_refl _) _
            have HDu := Lib.hid (Drew.trans hgl (HDt.out.below_ hal HDt.out.size_) hd)
            have HXu := Lib.hid ((HXt.out.below hal).chg hd.chg_ (by omega))
            have HRu := Lib.hid ((HRt.out.below hal).chg hd.chg_ (by omega))
            clear hd hal xc0 xc1 xz0 xz1
            obtain ⟨xc0, xc1, xz0, xz1, xlt⟩ := HXu.out
            have HRS : Hid (Bx2 (((u1.setCell ⟨gx, 1, none⟩ (.int .i64 z)).setCell ⟨w.heap.size + 1, 0, none⟩ (.int .i64 xm)).setCell ⟨w.heap.size + 1, 1, none⟩ (.int .i64 z)) (w.heap.size + 1) xm z) := Lib.hid ((HRu.out.chg (one_chg u1 gx 1 _) (by omega)).s0.s1)
            have HDS : Hid (Drew w g A n cap (((u1.setCell ⟨gx, 1, none⟩ (.int .i64 z)).setCell ⟨w.heap.size + 1, 0, none⟩ (.int .i64 xm)).setCell ⟨w.heap.size + 1, 1, none⟩ (.int .i64 z))) := Lib.hid ((HDu.out.up ((one_chg u1 gx 1 _).mono (fun k _ hk => by omega))).up ((st2_chg (u1.setCell ⟨gx, 1, none⟩ (.int .i64 z)) (w.heap.size + 1) xm z).mono (fun k _ hk => by omega)))
            obtain ⟨rc0, rc1, rz0, rz1, rlt⟩ := HRu.out
            go_simp
            repeat (first | go_skip | go_guarded | go_step | go_upon)
            refine bodyPost_ret (v := .agg #[.int .i64 xm, .int .i64 z]) (by simp [results, Try.results50, go_sem, HRS.out.c0, HRS.out.c1]) rfl ?_
            exact ⟨_, _, rfl, HDS.out⟩
          · have h0b : (y == 0) = false := by simp [h0]
            have h1b : (y == 1) = false := by simp [h1]
            have HRS : Hid (Bx2 ((wt.setCell ⟨w.heap.size + 1, 0, none⟩ (.int .i64 xm)).setCell ⟨w.heap.size + 1, 1, none⟩ (.int .i64 bm)) (w.heap.size + 1) xm bm) := Lib.hid (HRt.out.s0.s1)
            have HDS : Hid (Drew w g A n cap ((wt.setCell ⟨w.heap.size + 1, 0, none⟩ (.int .i64 xm)).setCell ⟨w.heap.size + 1, 1, none⟩ (.int .i64 bm))) := Lib.hid (HDt.out.up ((st2_chg wt (w.heap.size + 1) xm bm).mono (fun k _ hk => by omega)))
            obtain ⟨xc0, xc1, xz0, xz1, xlt⟩ := HXt.out
            obtain ⟨rc0, rc1, rz0, rz1, rlt⟩ := HRt.out
            go_simp
            repeat (first | go_skip | go_guarded | go_step | go_upon)
            refine bodyPost_ret (v := .agg #[.int .i64 xm, .int .i64 bm]) (by simp [results, Try.results50, go_sem, HRS.out.c0, HRS.out.c1]) rfl ?_
            exact ⟨_, _, rfl, HDS.out⟩
    · go_simp
      go_wp2_with fail
      refine hK.out _ _ (fun _ => ?_) (fun hHeld => ?_)
      · ((try dsimp only); first | exact k0 | exact (World.cell?_alloc_lt _ _ _ (by simp only; omega)).trans k0 | (simp [go_sem, *]; done))
      replace hHeld := hHeld (by rfl)
      clear hK K
      (try simp only [Act.put, List.setIfInBounds_toArray, List.set_cons_zero, List.set_cons_succ])
      obtain ⟨v2, hv⟩ : ∃ v, v = v1.alloc (.cells #[.int .i64 0, .int .i64 0] 25) := ⟨_, rfl⟩
      rw [← hv] at hHeld ⊢
      have hbv : Below v1.heap.size v1 v2 := by rw [hv]; exact Below.alloc (Below.refl _ _) (Nat.le_refl _) _
      obtain ⟨gx, hgx⟩ : ∃ x, x = v1.heap.size := ⟨_, rfl⟩
      have HX : Hid (Bx2 v2 gx 0 0) := Lib.hid (Bx2.new (t := 25) (by rw [hv, hgx]; exact World.heap_new _ _ _ rfl))
      have HDv2 := Lib.hid (HDv1.out.below_ hbv HDv1.out.size_)
      have HSv2 := Lib.hid (HSv1.out.below hbv)
      have HRv2 := Lib.hid (HRv1.out.below hbv)
      have hszv2 := hbv.size
      replace k0 := HSv2.out.c0
      have hgx1 : v1.heap.size ≤ gx := Nat.le_of_eq hgx.symm
      clear hv hbv
      rw [← hgx]
      clear hgx
      refine wpAnyG_ready (rs := [6]) (by kernel_rfl) (by simp) ?_
      refine (AllReadyG.cons (i := 6) (by simp only [List.getElem?_toArray, List.getElem?_cons_succ, List.getElem?_cons_zero]; rfl) (fun K hK => ?_) AllReadyG.nil)
      go_simp
      refine (specMod_any _ 4096 (by unfold I64; rw [IntKind.wrap_i64]; omega) rfl _).mono ?_
      rintro e w' ⟨rfl, rfl⟩
      obtain ⟨v3, hvv⟩ : ∃ v, v = v2 := ⟨_, rfl⟩
      have hbv : Below v2.heap.size v2 v3 := by rw [hvv]; exact Below.refl _ _
      have HDv3 := Lib.hid (HDv2.out.below_ hbv HDv2.out.size_)
      have HSv3 := Lib.hid (HSv2.out.below hbv)
      have HRv3 := Lib.hid (HRv2.out.below hbv)
      have hszv3 := hbv.size
      replace k0 := HSv3.out.c0
      replace HX := Lib.hid (HX.out.below hbv)
      rw [← hvv]
      clear hvv hbv
      go_wp2_with fail
      refine hK.out _ _ (fun _ => ?_) (fun hHeld => ?_)
      · ((try dsimp only); first | exact k0 | exact (World.cell?_alloc_lt _ _ _ (by simp only; omega)).trans k0 | (simp [go_sem, *]; done))
      replace hHeld := hHeld (by rfl)
      clear hK K
      (try simp only [Act.put, List.setIfInBounds_toArray, List.set_cons_zero, List.set_cons_succ])
      refine wpAnyG_ready (rs := [8]) (by kernel_rfl) (by simp) ?_
      refine (AllReadyG.cons (i := 8) (by simp only [List.getElem?_toArray, List.getElem?_cons_succ, List.getElem?_cons_zero]; rfl) (fun K hK => ?_) AllReadyG.nil)
      go_simp
      refine (belowC g A n cap _ 65536 (by omega) (HCU.out.next HDv3.out)).mono ?_
      rintro e v4 ⟨bm, rfl, hbm0, hbm1, _, hd⟩
      have HDv4 := Lib.hid (Drew.trans hgl HDv3.out hd)
      have HSv4 := Lib.hid (HSv3.out.chg hd.chg_ (by omega))
      have HRv4 := Lib.hid (HRv3.out.chg hd.chg_ (by omega))
      have hszv4 := hd.size_
      replace k0 := HSv4.out.c0
      replace HX := Lib.hid (HX.out.chg hd.chg_ (by omega))
      clear hd
      go_wp2_with fail
      refine hK.out _ _ (fun _ => ?_) (fun hHeld => ?_)
      · ((try dsimp only); first | exact k0 | exact (World.cell?_alloc_lt _ _ _ (by simp only; omega)).trans k0 | (simp [go_sem, *]; done))
      replace hHeld := hHeld (by rfl)
      clear hK K
      (try simp only [Act.put, List.setIfInBounds_toArray, List.set_cons_zero, List.set_cons_succ])
      refine wpAnyG_takeW [11] (i := 9) (d := some 15) (v := ?_) (by simp only [List.getElem?_toArray, List.getElem?_cons_succ, List.getElem?_cons_zero]; rfl) (by rfl) (by kernel_rfl) (by kernel_rfl) (by kernel_rfl) (by kernel_rfl) (by kernel_rfl) (by intro _ _ _ h; exact h) (by rfl) ?_ (by assumption) ?_
      rotate_left 1
      · (intro w hSw; (try dsimp only at hSw); go_simp; try (with_reducible rfl))
      (try simp only [Act.put, List.setIfInBounds_toArray, List.set_cons_zero, List.set_cons_succ])
      refine wpAnyG_ready (rs := [11]) (by kernel_rfl) (by simp) ?_
      refine (AllReadyG.cons (i := 11) (by simp only [List.getElem?_toArray, List.getElem?_cons_succ, List.getElem?_cons_zero]; rfl) (fun K hK => ?_) AllReadyG.nil)
      obtain ⟨xc0, xc1, xz0, xz1, xlt⟩ := HX.out
      go_simp
      go_wp2_with fail
      refine hK.out _ _ (fun h => by cases h) (fun _ => ?_)
      clear hK K
      (try simp only [Act.put, List.setIfInBounds_toArray, List.set_cons_zero, List.set_cons_succ])
      refine wpAnyG_done (by kernel_rfl) ?_ _
      generalize IntKind.i64.wrap (IntKind.i64.wrap (st + x) - 1) % 4096 = xm
      obtain ⟨ws, hws⟩ : ∃ v, v = (v4.setCell ⟨gx, 0, none⟩ (.int .i64 xm)).setCell ⟨gx, 1, none⟩ (.int .i64 bm) := ⟨_, rfl⟩
      have HDs : Hid (Drew w g A n cap ws) := Lib.hid (by rw [hws]; exact HDv4.out.up ((st2_chg v4 gx xm bm).mono (fun k _ hk => by omega)))
      have HXs : Hid (Bx2 ws gx xm bm) := Lib.hid (by rw [hws]; exact HX.out.s0.s1)
      have HRs : Hid (Bx2 ws (w.heap.size + 1) 0 0) := Lib.hid (by rw [hws]; exact HRv4.out.chg (st2_chg v4 gx xm bm) (by omega))
      rw [← hws]
      clear hws xc0 xc1 xz0 xz1 k0
      go_wp2_with fail
      refine (belowC g A n cap _ 8 (by omega) (HCU.out.next HDs.out)).mono ?_
      rintro e wt ⟨y, rfl, _, _, _, hd⟩
      have HDt := Lib.hid (Drew.trans hgl HDs.out hd)
      have HXt := Lib.hid (HXs.out.chg hd.chg_ (by omega))
      have HRt := Lib.hid (HRs.out.chg hd.chg_ (by omega))
      clear hd
      by_cases h0 : y = 0
      · subst h0
        obtain ⟨xc0, xc1, xz0, xz1, xlt⟩ := HXt.out
        go_wp2_with fail
        refine Calls.mono (intX (g := g) (A := A) (n := n) (cap := cap) ?i1 ?i2 ?i3) ?_
        case i1 => first | (simp; done) | (rw [hwq]; rfl)
        case i2 => exact HCU.out.next HDt.out
        case i3 => exact ⟨[_, _, _, _], rfl, rfl, by simp, by simp⟩
        rintro e u1 ⟨z, rfl, hd⟩
        have hal : Below wt.heap.size wt (wt.alloc (.cells #[.int .i64 (-1), .int .i64 4096, .int .i64 0, .int .i64 2000] 3)) := Below.alloc (Below.refl _ _) (Nat.le_refl _) _
        have HDu := Lib.hid (Drew.trans hgl (HDt.out.below_ hal HDt.out.size_) hd)
        have HXu := Lib.hid ((HXt.out.below hal).chg hd.chg_ (by omega))
        have HRu := Lib.hid ((HRt.out.below hal).chg hd.chg_ (by omega))
        clear hd hal xc0 xc1 xz0 xz1
        obtain ⟨xc0, xc1, xz0, xz1, xlt⟩ := HXu.out
        have HRS : Hid (Bx2 (((u1.setCell ⟨gx, 0, none⟩ (.int .i64 z)).setCell ⟨w.heap.size + 1, 0, none⟩ (.int .i64 z)).setCell ⟨w.heap.size + 1, 1, none⟩ (.int .i64 bm)) (w.heap.size + 1) z bm) := Lib.hid ((HRu.out.chg (one_chg u1 gx 0 _) (by omega)).s0.s1)
        have HDS : Hid (Drew w g A n cap (((u1.setCell ⟨gx, 0, none⟩ (.int .i64 z)).setCell ⟨w.heap.size + 1, 0, none⟩ (.int .i64 z)).setCell ⟨w.heap.size + 1, 1, none⟩ (.int .i64 bm))) := Lib.hid ((HDu.out.up ((one_chg u1 gx 0 _).mono (fun k _ hk => by omega))).up ((st2_chg (u1.setCell ⟨gx, 0, none⟩ (.int .i64 z)) (w.heap.size + 1) z bm).mono (fun k _ hk => by omega)))
        obtain ⟨rc0, rc1, rz0, rz1, rlt⟩ := HRu.out
        go_simp
        repeat (first | go_skip | go_guarded | go_step | go_upon)
        refine bodyPost_ret (v := .agg #[.int .i64 z, .int .i64 bm]) (by simp [results, Try.results50, go_sem, HRS.out.c0, HRS.out.c1]) rfl ?_
        exact ⟨_, _, rfl, HDS.out⟩
      · by_cases h1 : y = 1
        · subst h1
          obtain ⟨xc0, xc1, xz0, xz1, xlt⟩ := HXt.out
          go_wp2_with fail
          refine Calls.mono (intX (g := g) (A := A) (n := n) (cap := cap) ?i1 ?i2 ?i3) ?_
          case i1 => first | (simp; done) | (rw [hwq]; rfl)
          case i2 => exact HCU.out.next HDt.out
          case i3 => exact ⟨[_, _, _], rfl, rfl, by simp, by simp⟩
          rintro e u1 ⟨z, rfl, hd⟩
          have hal : Below wt.heap.size wt (wt.alloc (.cells #[.int .i64 (-1), .int .i64 65535, .int .i64 65536] 3)) := Below.alloc (Below.refl _ _) (Nat.le_refl _) _
          have HDu := Lib.hid (Drew.trans hgl (HDt.out.below_ hal HDt.out.size_) hd)
          have HXu := Lib.hid ((HXt.out.below hal).chg hd.chg_ (by omega))
          have HRu := Lib.hid ((HRt.out.below hal).chg hd.chg_ (by omega))
          clear hd hal xc0 xc1 xz0 xz1
          obtain ⟨xc0, xc1, xz0, xz1, xlt⟩ := HXu.out
          have HRS : Hid (Bx2 (((u1.setCell ⟨gx, 1, none⟩ (.int .i64 z)).setCell ⟨w.heap.size + 1, 0, none⟩ (.int .i64 xm)).setCell ⟨w.heap.size + 1, 1, none⟩ (.int .i64 z)) (w.heap.size + 1) xm z) := Lib.hid ((HRu.out.chg (one_chg u1 gx 1 _) (by omega)).s0.s1)
          have HDS : Hid (Drew w g A n cap (((u1.setCell ⟨gx, 1, none⟩ (.int .i64 z)).setCell ⟨w.heap.size + 1, 0, none⟩ (.int .i64 xm)).setCell ⟨w.heap.size + 1, 1, none⟩ (.int .i64 z))) := Lib.hid ((HDu.out.up ((one_chg u1 gx 1 _).mono (fun k _ hk => by omega))).up ((st2_chg (u1.setCell ⟨gx, 1, none⟩ (.int .i64 z)) (w.heap.size + 1) xm z).mono (fun k _ hk => by omega)))
          obtain ⟨rc0, rc1, rz0, rz1, rlt⟩ := HRu.out
          go_simp
          repeat (first | go_skip | go_guarded | go_step | go_upon)
          refine bodyPost_ret (v := .agg #[.int .i64 xm, .int .i64 z]) (by simp [results, Try.results50, go_sem, HRS.out.c0, HRS.out.c1]) rfl ?_
          exact ⟨_, _, rfl, HDS.out⟩
        · have h0b : (y == 0) = false := by simp [h0]
          have h1b : (y == 1) = false := by simp [h1]
          have HRS : Hid (Bx2 ((wt.setCell ⟨w.heap.size + 1, 0, none⟩ (.int .i64 xm)).setCell ⟨w.heap.size + 1, 1, none⟩ (.int .i64 bm)) (w.heap.size + 1) xm bm) := Lib.hid (HRt.out.s0.s1)
          have HDS : Hid (Drew w g A n cap ((wt.setCell ⟨w.heap.size + 1, 0, none⟩ (.int .i64 xm)).setCell ⟨w.heap.size + 1, 1, none⟩ (.int .i64 bm))) := Lib.hid (HDt.out.up ((st2_chg wt (w.heap.size + 1) xm bm).mono (fun k _ hk => by omega)))
          obtain ⟨xc0, xc1, xz0, xz1, xlt⟩ := HXt.out
          obtain ⟨rc0, rc1, rz0, rz1, rlt⟩ := HRt.out
          go_simp
          repeat (first | go_skip | go_guarded | go_step | go_upon)
          refine bodyPost_ret (v := .agg #[.int .i64 xm, .int .i64 bm]) (by simp [results, Try.results50, go_sem, HRS.out.c0, HRS.out.c1]) rfl ?_
          exact ⟨_, _, rfl, HDS.out⟩
  · go_simp
    go_wp2_with fail
    refine hK.out _ _ (fun _ => ?_) (fun hHeld => ?_)
    · ((try dsimp only); first | exact k0 | exact (World.cell?_alloc_lt _ _ _ (by simp only; omega)).trans k0 | (simp [go_sem, *]; done))
    replace hHeld := hHeld (by rfl)
    clear hK K
    (try simp only [Act.put, List.setIfInBounds_toArray, List.set_cons_zero, List.set_cons_succ])
    obtain ⟨v1, hv⟩ : ∃ v, v = (w0.alloc (.cells #[.int .i64 0, .int .i64 0] 25)).drew := ⟨_, rfl⟩
    rw [← hv] at hHeld ⊢
    have hbv : Below wa.heap.size wa v1 := by rw [hv]; exact (by rw [hwa]; show Below _ _ ((World.drew w0).alloc (.cells #[.int .i64 0, .int .i64 0] 25)); exact Below.alloc (Below.refl _ _) (Nat.le_refl _) _)
    obtain ⟨gx, hgx⟩ : ∃ x, x = w0.heap.size := ⟨_, rfl⟩
    have HX : Hid (Bx2 v1 gx 0 0) := Lib.hid (Bx2.new (t := 25) (by rw [hv, hgx]; exact World.heap_new _ _ _ rfl))
    have HDv1 := Lib.hid (HDwa.out.below_ hbv HDwa.out.size_)
    have HSv1 := Lib.hid (HSwa.out.below hbv)
    have HRv1 := Lib.hid (HRwa.out.below hbv)
    have hszv1 := hbv.size
    replace k0 := HSv1.out.c0
    have hgx1 : w0.heap.size ≤ gx := Nat.le_of_eq hgx.symm
    clear hv hbv
    rw [← hgx]
    clear hgx
    refine wpAnyG_ready (rs := [3]) (by kernel_rfl) (by simp) ?_
    refine (AllReadyG.cons (i := 3) (by simp only [List.getElem?_toArray, List.getElem?_cons_succ, List.getElem?_cons_zero]; rfl) (fun K hK => ?_) AllReadyG.nil)
    go_simp
    refine (belowC g A n cap _ 5 (by omega) (HCU.out.next HDv1.out)).mono ?_
    rintro e v2 ⟨x, rfl, hx0, hx1, _, hd⟩
    have HDv2 := Lib.hid (Drew.trans hgl HDv1.out hd)
    have HSv2 := Lib.hid (HSv1.out.chg hd.chg_ (by omega))
    have HRv2 := Lib.hid (HRv1.out.chg hd.chg_ (by omega))
    have hszv2 := hd.size_
    replace k0 := HSv2.out.c0
    replace HX := Lib.hid (HX.out.chg hd.chg_ (by omega))
    clear hd
    go_wp2_with fail
    refine hK.out _ _ (fun _ => ?_) (fun hHeld => ?_)
    · ((try dsimp only); first | exact k0 | exact (World.cell?_alloc_lt _ _ _ (by simp only; omega)).trans k0 | (simp [go_sem, *]; done))
    replace hHeld := hHeld (by rfl)
    clear hK K
    (try simp only [Act.put, List.setIfInBounds_toArray, List.set_cons_zero, List.set_cons_succ])
    refine wpAnyG_takeW [5, 6, 8, 9, 11] (i := 4) (d := some 10) (v := ?_) (by simp only [List.getElem?_toArray, List.getElem?_cons_succ, List.getElem?_cons_zero]; rfl) (by rfl) (by kernel_rfl) (by kernel_rfl) (by kernel_rfl) (by kernel_rfl) (by kernel_rfl) (by intro _ _ _ h; exact h) (by rfl) ?_ (by assumption) ?_
    rotate_left 1
    · (intro w hSw; (try dsimp only at hSw); go_simp; try (with_reducible rfl))
    (try simp only [Act.put, List.setIfInBounds_toArray, List.set_cons_zero, List.set_cons_succ])
    refine wpAnyG_takeW [6, 8, 9, 11] (i := 5) (d := some 11) (v := ?_) (by simp only [List.getElem?_toArray, List.getElem?_cons_succ, List.getElem?_cons_zero]; rfl) (by rfl) (by kernel_rfl) (by kernel_rfl) (by kernel_rfl) (by kernel_rfl) (by kernel_rfl) (by intro _ _ _ h; exact h) (by rfl) ?_ (by assumption) ?_
    rotate_left 1
    · (intro w hSw; (try dsimp only at hSw); go_simp; try (with_reducible rfl))
    (try simp only [Act.put, List.setIfInBounds_toArray, List.set_cons_zero, List.set_cons_succ])
    refine wpAnyG_ready (rs := [6]) (by kernel_rfl) (by simp) ?_
    refine (AllReadyG.cons (i := 6) (by simp only [List.getElem?_toArray, List.getElem?_cons_succ, List.getElem?_cons_zero]; rfl) (fun K hK => ?_) AllReadyG.nil)
    go_simp
    refine (specMod_any _ 4096 (by unfold I64; rw [IntKind.wrap_i64]; omega) rfl _).mono ?_
    rintro e w' ⟨rfl, rfl⟩
    obtain ⟨v3, hvv⟩ : ∃ v, v = v2 := ⟨_, rfl⟩
    have hbv : Below v2.heap.size v2 v3 := by rw [hvv]; exact Below.refl _ _
    have HDv3 := Lib.hid (HDv2.out.below_ hbv HDv2.out.size_)
    have HSv3 := Lib.hid (HSv2.out.below hbv)
    have HRv3 := Lib.hid (HRv2.out.below hbv)
    have hszv3 := hbv.size
    replace k0 := HSv3.out.c0
    replace HX := Lib.hid (HX.out.below hbv)
    rw [← hvv]
    clear hvv hbv
    go_wp2_with fail
    refine hK.out _ _ (fun _ => ?_) (fun hHeld => ?_)
    · ((try dsimp only); first | exact k0 | exact (World.cell?_alloc_lt _ _ _ (by simp only; omega)).trans k0 | (simp [go_sem, *]; done))
    replace hHeld := hHeld (by rfl)
    clear hK K
    (try simp only [Act.put, List.setIfInBounds_toArray, List.set_cons_zero, List.set_cons_succ])
    refine wpAnyG_ready (rs := [8]) (by kernel_rfl) (by simp) ?_
    refine (AllReadyG.cons (i := 8) (by simp only [List.getElem?_toArray, List.getElem?_cons_succ, List.getElem?_cons_zero]; rfl) (fun K hK => ?_) AllReadyG.nil)
    go_simp
    refine (belowC g A n cap _ 65536 (by omega) (HCU.out.next HDv3.out)).mono ?_
    rintro e v4 ⟨bm, rfl, hbm0, hbm1, _, hd⟩
    have HDv4 := Lib.hid (Drew.trans hgl HDv3.out hd)
    have HSv4 := Lib.hid (HSv3.out.chg hd.chg_ (by omega))
    have HRv4 := Lib.hid (HRv3.out.chg hd.chg_ (by omega))
    have hszv4 := hd.size_
    replace k0 := HSv4.out.c0
    replace HX := Lib.hid (HX.out.chg hd.chg_ (by omega))
    clear hd
    go_wp2_with fail
    refine hK.out _ _ (fun _ => ?_) (fun hHeld => ?_)
    · ((try dsimp only); first | exact k0 | exact (World.cell?_alloc_lt _ _ _ (by simp only; omega)).trans k0 | (simp [go_sem, *]; done))
    replace hHeld := hHeld (by rfl)
    clear hK K
    (try simp only [Act.put, List.setIfInBounds_toArray, List.set_cons_zero, List.set_cons_succ])
    refine wpAnyG_takeW [11] (i := 9) (d := some 15) (v := ?_) (by simp only [List.getElem?_toArray, List.getElem?_cons_succ, List.getElem?_cons_zero]; rfl) (by rfl) (by kernel_rfl) (by kernel_rfl) (by kernel_rfl) (by kernel_rfl) (by kernel_rfl) (by intro _ _ _ h; exact h) (by rfl) ?_ (by assumption) ?_
    rotate_left 1
    · (intro w hSw; (try dsimp only at hSw); go_simp; try (with_reducible rfl))
    (try simp only [Act.put, List.setIfInBounds_toArray, List.set_cons_zero, List.set_cons_succ])
    refine wpAnyG_ready (rs := [11]) (by kernel_rfl) (by simp) ?_
    refine (AllReadyG.cons (i := 11) (by simp only [List.getElem?_toArray, List.getElem?_cons_succ, List.getElem?_cons_zero]; rfl) (fun K hK => ?_) AllReadyG.nil)
    obtain ⟨xc0, xc1, xz0, xz1, xlt⟩ := HX.out
    go_simp
    go_wp2_with fail
    refine hK.out _ _ (fun h => by cases h) (fun _ => ?_)
    clear hK K
    (try simp only [Act.put, List.setIfInBounds_toArray, List.set_cons_zero, List.set_cons_succ])
    refine wpAnyG_done (by kernel_rfl) ?_ _
    generalize IntKind.i64.wrap (IntKind.i64.wrap (st + x) - 1) % 4096 = xm
    obtain ⟨ws, hws⟩ : ∃ v, v = (v4.setCell ⟨gx, 0, none⟩ (.int .i64 xm)).setCell ⟨gx, 1, none⟩ (.int .i64 bm) := ⟨_, rfl⟩
    have HDs : Hid (Drew w g A n cap ws) := Lib.hid (by rw [hws]; exact HDv4.out.up ((st2_chg v4 gx xm bm).mono (fun k _ hk => by omega)))
    have HXs : Hid (Bx2 ws gx xm bm) := Lib.hid (by rw [hws]; exact HX.out.s0.s1)
    have HRs : Hid (Bx2 ws (w.heap.size + 1) 0 0) := Lib.hid (by rw [hws]; exact HRv4.out.chg (st2_chg v4 gx xm bm) (by omega))
    rw [← hws]
    clear hws xc0 xc1 xz0 xz1 k0
    go_wp2_with fail
    refine (belowC g A n cap _ 8 (by omega) (HCU.out.next HDs.out)).mono ?_
    rintro e wt ⟨y, rfl, _, _, _, hd⟩
    have HDt := Lib.hid (Drew.trans hgl HDs.out hd)
    have HXt := Lib.hid (HXs.out.chg hd.chg_ (by omega))
    have HRt := Lib.hid (HRs.out.chg hd.chg_ (by omega))
    clear hd
    by_cases h0 : y = 0
    · subst h0
      obtain ⟨xc0, xc1, xz0, xz1, xlt⟩ := HXt.out
      go_wp2_with fail
      refine Calls.mono (intX (g := g) (A := A) (n := n) (cap := cap) ?i1 ?i2 ?i3) ?_
      case i1 => first | (simp; done) | (rw [hwq]; rfl)
      case i2 => exact HCU.out.next HDt.out
      case i3 => exact ⟨[_, _, _, _], rfl, rfl, by simp, by simp⟩
      rintro e u1 ⟨z, rfl, hd⟩
      have hal : Below wt.heap.size wt (wt.alloc (.cells #[.int .i64 (-1), .int .i64 4096, .int .i64 0, .int .i64 2000] 3)) := Below.alloc (Below.refl _ _) (Nat.le_refl _) _
      have HDu := Lib.hid (Drew.trans hgl (HDt.out.below_ hal HDt.out.size_) hd)
      have HXu := Lib.hid ((HXt.out.below hal).chg hd.chg_ (by omega))
      have HRu := Lib.hid ((HRt.out.below hal).chg hd.chg_ (by omega))
      clear hd hal xc0 xc1 xz0 xz1
      obtain ⟨xc0, xc1, xz0, xz1, xlt⟩ := HXu.out
      have HRS : Hid (Bx2 (((u1.setCell ⟨gx, 0, none⟩ (.int .i64 z)).setCell ⟨w.heap.size + 1, 0, none⟩ (.int .i64 z)).setCell ⟨w.heap.size + 1, 1, none⟩ (.int .i64 bm)) (w.heap.size + 1) z bm) := Lib.hid ((HRu.out.chg (one_chg u1 gx 0 _) (by omega)).s0.s1)
      have HDS : Hid (Drew w g A n cap (((u1.setCell ⟨gx, 0, none⟩ (.int .i64 z)).setCell ⟨w.heap.size + 1, 0, none⟩ (.int .i64 z)).setCell ⟨w.heap.size + 1, 1, none⟩ (.int .i64 bm))) := Lib.hid ((HDu.out.up ((one_chg u1 gx 0 _).mono (fun k _ hk => by omega))).up ((st2_chg (u1.setCell ⟨gx, 0, none⟩ (.int .i64 z)) (w.heap.size + 1) z bm).mono (fun k _ hk => by omega)))
      obtain ⟨rc0, rc1, rz0, rz1, rlt⟩ := HRu.out
      go_simp
      repeat (first | go_skip | go_guarded | go_step | go_upon)
      refine bodyPost_ret (v := .agg #[.int .i64 z, .int .i64 bm]) (by simp [results, Try.results50, go_sem, HRS.out.c0, HRS.out.c1]) rfl ?_
      exact ⟨_, _, rfl, HDS.out⟩
    · by_cases h1 : y = 1
      · subst h1
        obtain ⟨xc0, xc1, xz0, xz1, xlt⟩ := HXt.out
        go_wp2_with fail
        refine Calls.mono (intX (g := g) (A := A) (n := n) (cap := cap) ?i1 ?i2 ?i3) ?_
        case i1 => first | (simp; done) | (rw [hwq]; rfl)
        case i2 => exact HCU.out.next HDt.out
        case i3 => exact ⟨[_, _, _], rfl, rfl, by simp, by simp⟩
        rintro e u1 ⟨z, rfl, hd⟩
        have hal : Below wt.heap.size wt (wt.alloc (.cells #[.int .i64 (-1), .int .i64 65535, .int .i64 65536] 3)) := Below.alloc (Below.refl _ _) (Nat.le_refl _) _
        have HDu := Lib.hid (Drew.trans hgl (HDt.out.below_ hal HDt.out.size_) hd)
        have HXu := Lib.hid ((HXt.out.below hal).chg hd.chg_ (by omega))
        have HRu := Lib.hid ((HRt.out.below hal).chg hd.chg_ (by omega))
        clear hd hal xc0 xc1 xz0 xz1
        obtain ⟨xc0, xc1, xz0, xz1, xlt⟩ := HXu.out
        have HRS : Hid (Bx2 (((u1.setCell ⟨gx, 1, none⟩ (.int .i64 z)).setCell ⟨w.heap.size + 1, 0, none⟩ (.int .i64 xm)).setCell ⟨w.heap.size + 1, 1, none⟩ (.int .i64 z)) (w.heap.size + 1) xm z) := Lib.hid ((HRu.out.chg (one_chg u1 gx 1 _) (by omega)).s0.s1)
        have HDS : Hid (Drew w g A n cap (((u1.setCell ⟨gx, 1, none⟩ (.int .i64 z)).setCell ⟨w.heap.size + 1, 0, none⟩ (.int .i64 xm)).setCell ⟨w.heap.size + 1, 1, none⟩ (.int .i64 z))) := Lib.hid ((HDu.out.up ((one_chg u1 gx 1 _).mono (fun k _ hk => by omega))).up ((st2_chg (u1.setCell ⟨gx, 1, none⟩ (.int .i64 z)) (w.heap.size + 1) xm z).mono (fun k _ hk => by omega)))
        obtain ⟨rc0, rc1, rz0, rz1, rlt⟩ := HRu.out
        go_simp
        repeat (first | go_skip | go_guarded | go_step | go_upon)
        refine bodyPost_ret (v := .agg #[.int .i64 xm, .int .i64 z]) (by simp [results, Try.results50, go_sem, HRS.out.c0, HRS.out.c1]) rfl ?_
        exact ⟨_, _, rfl, HDS.out⟩
      · have h0b : (y == 0) = false := by simp [h0]
        have h1b : (y == 1) = false := by simp [h1]
        have HRS : Hid (Bx2 ((wt.setCell ⟨w.heap.size + 1, 0, none⟩ (.int .i64 xm)).setCell ⟨w.heap.size + 1, 1, none⟩ (.int .i64 bm)) (w.heap.size + 1) xm bm) := Lib.hid (HRt.out.s0.s1)
        have HDS : Hid (Drew w g A n cap ((wt.setCell ⟨w.heap.size + 1, 0, none⟩ (.int .i64 xm)).setCell ⟨w.heap.size + 1, 1, none⟩ (.int .i64 bm))) := Lib.hid (HDt.out.up ((st2_chg wt (w.heap.size + 1) xm bm).mono (fun k _ hk => by omega)))
        obtain ⟨xc0, xc1, xz0, xz1, xlt⟩ := HXt.out
        obtain ⟨rc0, rc1, rz0, rz1, rlt⟩ := HRt.out
        go_simp
        repeat (first | go_skip | go_guarded | go_step | go_upon)
        refine bodyPost_ret (v := .agg #[.int .i64 xm, .int .i64 bm]) (by simp [results, Try.results50, go_sem, HRS.out.c0, HRS.out.c1]) rfl ?_
        exact ⟨_, _, rfl, HDS.out⟩

end Go.Proofs.Ytipcjbmfogijeaa
