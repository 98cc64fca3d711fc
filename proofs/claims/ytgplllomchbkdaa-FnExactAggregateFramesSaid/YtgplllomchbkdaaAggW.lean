/- The walk of FnExactAggregateFrames. -/
import Derived.Test.YtgplllomchbkdaaAggF
import Derived.Test.YtgplllomchbkdaaSSe
import Derived.Test.YtgplllomchbkdaaSSm
import Derived.Test.YtgplllomchbkdaaSSt
namespace Go.Proofs.Ytgplllomchbkdaa
open Go.RowKit
set_option linter.unusedVariables false
set_option linter.unusedSimpArgs false

theorem implAgg_o {T : Nat → Prop} (A : Option Addr) (c : Nat) (fs : List (List Int)) (w : World) (hx : Sl false 1 (EB false) w T A fs) (hm : fs.length ≤ 1000000000000) (hmx : ∀ x ∈ fs, x.length ≤ 1000000000000) :
    Calls Try.prog 14 #[.slice A fs.length c] w fun e w' => ∃ g c, e = .returned (.slice (some ⟨g, 0, none⟩) (agg fs).length c) ∧ Below w.heap.size w w' ∧ OwR (Value.int .u8) 5 w' w.heap.size g c (agg fs) :=
  (implAgg_any A c fs w hx hm hmx).mono fun _ _ h => h.owr
theorem specAgg_o {T : Nat → Prop} (A : Option Addr) (c : Nat) (fs : List (List Int)) (w : World) (hx : Sl false 1 (EB false) w T A fs) (hm : fs.length ≤ 1000000000000) (hmx : ∀ x ∈ fs, x.length ≤ 1000000000000) :
    Calls Try.prog 19 #[.slice A fs.length c] w fun e w' => ∃ g c, e = .returned (.slice (some ⟨g, 0, none⟩) (agg fs).length c) ∧ Below w.heap.size w w' ∧ OwR (Value.int .u8) 5 w' w.heap.size g c (agg fs) :=
  (specAgg_any A c fs w hx hm hmx).mono fun _ _ h => h.owr
theorem eqByteSS_any {T1 T2 : Nat → Prop} (A B : Option Addr) (c1 c2 : Nat) (xs ys : List (List Int)) (w : World) (hx : Sl false 1 (EB false) w T1 A xs) (hy : Sl false 1 (EB false) w T2 B ys) (hm : xs.length ≤ 1000000000000) (hm2 : ys.length ≤ 1000000000000)
    (hmx : ∀ x ∈ xs, x.length ≤ 1000000000000) (hmy : ∀ x ∈ ys, x.length ≤ 1000000000000) :
    Calls Try.prog 21 #[.slice A xs.length c1, .slice B ys.length c2] w fun e w' => e = .returned (.bool (xs == ys)) ∧ Below w.heap.size w w' :=
  (eqByteSS_q A B c1 c2 xs ys w hx hy hm hm2 hmx hmy).mono fun _ _ ⟨h1, h2⟩ => ⟨h1, h2.below⟩

set_option maxHeartbeats 4000000 in
theorem aggregateFrames_walk (A : Option Addr) (c : Nat) (fs : List (List Int)) (w : World) (hx : Sl false 1 (EB false) w (fun g => g < w.heap.size) A fs) (hlen : fs.length ≤ 9223372036854775807) (hb : ∀ x ∈ fs, x.length ≤ 9223372036854775807 ∧ ∀ y ∈ x, 0 ≤ y ∧ y ≤ 255) :
    Calls Try.prog 5 #[.slice A fs.length c] w fun e w' => e = .returned (.bool true) ∧ Below w.heap.size w w' := by
  have X := Lib.hid hx
  have HZ := Lib.hid (fun x h => (hb x h).1)
  clear hx hb
  by_cases hbig : 1048576 < szSS fs
  · have hz : Hid (szO (szSS fs) 1048576 = -1) := Lib.hid (if_neg (by omega))
    go_enter Try.func5, Try.ntmps5
    go_wp2_with fail
    refine (szByteSS_any A c fs 1048576 _ X.out hlen HZ.out (by omega) (by omega)).mono ?_
    rw [hz.out]
    rintro e w' ⟨rfl, rfl⟩
    go_wp2
    go_ret
    exact ⟨rfl, Below.refl _ _⟩
  have hz : Hid (szO (szSS fs) 1048576 = 1048576 - (szSS fs : Int)) := Lib.hid (if_pos (by omega))
  have hz0 : ¬ 1048576 - (szSS fs : Int) < 0 := by omega
  have hz1 : fs.length ≤ 1048576 := by unfold szSS at hbig; omega
  have HM : Hid (∀ x ∈ fs, x.length ≤ 1000000000000) := Lib.hid (fun x h => by have := sumL_mem h; unfold szSS at hbig; omega)
  have HSL : Hid (sumL fs ≤ 1000000000000) := Lib.hid (by unfold szSS at hbig; omega)
  have HSL2 : Hid (sumL fs ≤ 1048576) := Lib.hid (by unfold szSS at hbig; omega)
  have HAL : Hid ((agg fs).length ≤ 1000000000000) := Lib.hid (by have := agg_len fs; omega)
  clear hbig
  go_enter Try.func5, Try.ntmps5
  go_wp2_with fail
  refine (szByteSS_any A c fs 1048576 _ X.out hlen HZ.out (by omega) (by omega)).mono ?_
  rw [hz.out]
  rintro e w' ⟨rfl, rfl⟩
  have HBw : Hid (Below w.heap.size w w) := Lib.hid (Below.refl _ _)
  go_wp2_with fail
  refine (toByteSS_any A c fs _ X.out (by omega) HM.out).mono ?_
  rintro e w1 ⟨rfl, hb, hl, x0⟩
  have hsw1 := hb.size
  replace X := Lib.hid (Sl.below (R := EB false) EB.framed X.out hb)
  have HBw1 : Hid (Below w.heap.size w w1) := Lib.hid (HBw.out.trans (hb.mono HBw.out.size))
  clear hb HBw
  have Y0 := Lib.hid x0
  clear x0
  go_wp2_with fail
  refine (specAgg_o _ _ fs _ (SlB.read Y0.out) (by omega) HM.out).mono ?_
  rintro e w2 ⟨gw, cw, rfl, hb, ow⟩
  have hsw2 := hb.size
  replace X := Lib.hid (Sl.below (R := EB false) EB.framed X.out hb)
  replace Y0 := Lib.hid (Sl.below (R := EB true) EB.framed Y0.out hb)
  have HBw2 : Hid (Below w.heap.size w w2) := Lib.hid (HBw1.out.trans (hb.mono HBw1.out.size))
  clear hb HBw1
  have W0 := Lib.hid ow.rwF.rw
  have hgw := ow.lt
  clear ow hl
  clear Y0
  go_wp2_with fail
  refine (toByteSS_any A c fs _ X.out (by omega) HM.out).mono ?_
  rintro e w3 ⟨rfl, hb, hl, x0⟩
  have hsw3 := hb.size
  replace X := Lib.hid (Sl.below (R := EB false) EB.framed X.out hb)
  replace W0 := Lib.hid (W0.out.below hb)
  have HBw3 : Hid (Below w.heap.size w w3) := Lib.hid (HBw2.out.trans (hb.mono HBw2.out.size))
  clear hb HBw2
  have Y1 := Lib.hid x0
  clear x0 hl
  go_wp2_with fail
  refine (implAgg_o _ _ fs _ (SlB.read Y1.out) (by omega) HM.out).mono ?_
  rintro e w4 ⟨g0, c0, rfl, hb, og⟩
  have hsw4 := hb.size
  replace X := Lib.hid (Sl.below (R := EB false) EB.framed X.out hb)
  replace W0 := Lib.hid (W0.out.below hb)
  replace Y1 := Lib.hid (Sl.below (R := EB true) EB.framed Y1.out hb)
  have HBw4 : Hid (Below w.heap.size w w4) := Lib.hid (HBw3.out.trans (hb.mono HBw3.out.size))
  clear hb HBw3
  have G0 := Lib.hid og.rwF.rw
  have hg0 := og.lt
  have hg0b := og.ge
  clear og
  go_wp2_with fail
  refine (eqByteS_any _ _ _ _ (agg fs) (agg fs) _ G0.out W0.out HAL.out HAL.out).mono ?_
  rintro e w5 ⟨rfl, hb⟩
  have hsw5 := hb.size
  replace X := Lib.hid (Sl.below (R := EB false) EB.framed X.out hb)
  replace W0 := Lib.hid (W0.out.below hb)
  replace Y1 := Lib.hid (Sl.below (R := EB true) EB.framed Y1.out hb)
  replace G0 := Lib.hid (G0.out.below hb)
  have HBw5 : Hid (Below w.heap.size w w5) := Lib.hid (HBw4.out.trans (hb.mono HBw4.out.size))
  clear hb HBw4
  go_wp2_with fail
  refine (toByteSS_any A c fs _ X.out (by omega) HM.out).mono ?_
  rintro e w6 ⟨rfl, hb, hl, x2⟩
  have hsw6 := hb.size
  replace X := Lib.hid (Sl.below (R := EB false) EB.framed X.out hb)
  replace W0 := Lib.hid (W0.out.below hb)
  replace Y1 := Lib.hid (Sl.below (R := EB true) EB.framed Y1.out hb)
  replace G0 := Lib.hid (G0.out.below hb)
  have HBw6 : Hid (Below w.heap.size w w6) := Lib.hid (HBw5.out.trans (hb.mono HBw5.out.size))
  clear hb HBw5
  have Y2 := Lib.hid x2
  clear x2 hl
  go_wp2_with fail
  refine (eqByteSS_any _ _ _ _ fs fs _ (SlB.read Y1.out) (SlB.read Y2.out) (by omega) (by omega) HM.out HM.out).mono ?_
  rintro e w7 ⟨rfl, hb⟩
  have hsw7 := hb.size
  replace X := Lib.hid (Sl.below (R := EB false) EB.framed X.out hb)
  replace W0 := Lib.hid (W0.out.below hb)
  replace Y1 := Lib.hid (Sl.below (R := EB true) EB.framed Y1.out hb)
  replace G0 := Lib.hid (G0.out.below hb)
  replace Y2 := Lib.hid (Sl.below (R := EB true) EB.framed Y2.out hb)
  have HBw7 : Hid (Below w.heap.size w w7) := Lib.hid (HBw6.out.trans (hb.mono HBw6.out.size))
  clear hb HBw6
  go_wp2_with fail
  refine (markByteSS_any _ _ fs 1 _ Y1.out (by omega) HSL.out (by omega) (by omega) (by have := HSL2.out; omega)).mono ?_
  rintro e w8 ⟨rfl, hc, _⟩
  have hsw8 := hc.size
  replace X := Lib.hid (Sl.frame (R := EB false) EB.framed X.out hc (fun b h1 h2 => by omega))
  replace W0 := Lib.hid (W0.out.frame hc (fun b h1 h2 => by omega))
  clear Y1
  replace G0 := Lib.hid (G0.out.frame hc (fun b h1 h2 => by omega))
  clear Y2
  have HBw8 : Hid (Below w.heap.size w w8) := Lib.hid (HBw7.out.trans (hc.below HBw7.out.size (fun b h => by omega)))
  clear hc HBw7
  have hk0 : ¬ (1 : Int) + (sumL fs : Int) < 0 := by omega
  go_wp2_with fail
  refine (eqByteS_any _ _ _ _ (agg fs) (agg fs) _ G0.out W0.out HAL.out HAL.out).mono ?_
  rintro e w9 ⟨rfl, hb⟩
  have hsw9 := hb.size
  replace X := Lib.hid (Sl.below (R := EB false) EB.framed X.out hb)
  replace W0 := Lib.hid (W0.out.below hb)
  replace G0 := Lib.hid (G0.out.below hb)
  have HBw9 : Hid (Below w.heap.size w w9) := Lib.hid (HBw8.out.trans (hb.mono HBw8.out.size))
  clear hb HBw8
  go_wp2_with fail
  refine (markByteS_any _ _ (agg fs) 1 _ G0.out HAL.out (by omega) (by omega)).mono ?_
  rintro e w10 ⟨rfl, hc, gm⟩
  have hsw10 := hc.size
  replace X := Lib.hid (Sl.frame (R := EB false) EB.framed X.out hc (fun b h1 h2 => by omega))
  replace W0 := Lib.hid (W0.out.frame hc (fun b h1 h2 => by omega))
  clear G0
  have HBw10 : Hid (Below w.heap.size w w10) := Lib.hid (HBw9.out.trans (hc.below HBw9.out.size (fun b h => by omega)))
  clear hc HBw9
  have GM := Lib.hid gm
  clear gm
  go_wp2_with fail
  refine (heldByteS_any _ (agg fs).length _ 1 _ GM.out HAL.out (by omega) (by omega)).mono ?_
  rintro e w11 ⟨rfl, hb⟩
  have hsw11 := hb.size
  replace X := Lib.hid (Sl.below (R := EB false) EB.framed X.out hb)
  replace W0 := Lib.hid (W0.out.below hb)
  replace GM := Lib.hid (GM.out.below hb)
  have HBw11 : Hid (Below w.heap.size w w11) := Lib.hid (HBw10.out.trans (hb.mono HBw10.out.size))
  clear hb HBw10
  go_wp2_with fail
  refine (toByteSS_any A c fs _ X.out (by omega) HM.out).mono ?_
  rintro e w12 ⟨rfl, hb, hl, x3⟩
  have hsw12 := hb.size
  replace X := Lib.hid (Sl.below (R := EB false) EB.framed X.out hb)
  replace W0 := Lib.hid (W0.out.below hb)
  replace GM := Lib.hid (GM.out.below hb)
  have HBw12 : Hid (Below w.heap.size w w12) := Lib.hid (HBw11.out.trans (hb.mono HBw11.out.size))
  clear hb HBw11
  have Y3 := Lib.hid x3
  clear x3 hl
  go_wp2_with fail
  refine (implAgg_o _ _ fs _ (SlB.read Y3.out) (by omega) HM.out).mono ?_
  rintro e w13 ⟨g3, c3, rfl, hb, og⟩
  have hsw13 := hb.size
  replace X := Lib.hid (Sl.below (R := EB false) EB.framed X.out hb)
  replace W0 := Lib.hid (W0.out.below hb)
  replace GM := Lib.hid (GM.out.below hb)
  replace Y3 := Lib.hid (Sl.below (R := EB true) EB.framed Y3.out hb)
  have HBw13 : Hid (Below w.heap.size w w13) := Lib.hid (HBw12.out.trans (hb.mono HBw12.out.size))
  clear hb HBw12
  have G3 := Lib.hid og.rwF.rw
  clear og
  go_wp2_with fail
  refine (eqByteS_any _ _ _ _ (agg fs) (agg fs) _ G3.out W0.out HAL.out HAL.out).mono ?_
  rintro e w14 ⟨rfl, hb⟩
  have hsw14 := hb.size
  replace X := Lib.hid (Sl.below (R := EB false) EB.framed X.out hb)
  replace W0 := Lib.hid (W0.out.below hb)
  replace GM := Lib.hid (GM.out.below hb)
  replace Y3 := Lib.hid (Sl.below (R := EB true) EB.framed Y3.out hb)
  replace G3 := Lib.hid (G3.out.below hb)
  have HBw14 : Hid (Below w.heap.size w w14) := Lib.hid (HBw13.out.trans (hb.mono HBw13.out.size))
  clear hb HBw13
  go_wp2_with fail
  refine (heldByteS_any _ (agg fs).length _ 1 _ GM.out HAL.out (by omega) (by omega)).mono ?_
  rintro e w15 ⟨rfl, hb⟩
  have hsw15 := hb.size
  replace X := Lib.hid (Sl.below (R := EB false) EB.framed X.out hb)
  replace W0 := Lib.hid (W0.out.below hb)
  replace GM := Lib.hid (GM.out.below hb)
  replace Y3 := Lib.hid (Sl.below (R := EB true) EB.framed Y3.out hb)
  replace G3 := Lib.hid (G3.out.below hb)
  have HBw15 : Hid (Below w.heap.size w w15) := Lib.hid (HBw14.out.trans (hb.mono HBw14.out.size))
  clear hb HBw14
  go_wp2
  go_ret
  exact ⟨rfl, HBw15.out⟩

end Go.Proofs.Ytgplllomchbkdaa
