/- The walk of FnExactSplitAggregate. -/
import Derived.Test.YtgplllomchbkdaaSpl
import Derived.Test.YtgplllomchbkdaaSSe
import Derived.Test.YtgplllomchbkdaaSSm
import Derived.Test.YtgplllomchbkdaaToByteS
namespace Go.Proofs.Ytgplllomchbkdaa
open Go.RowKit
set_option linter.unusedVariables false
set_option linter.unusedSimpArgs false

theorem toByteS_o {u : Bool} {T : Nat → Prop} (A : Option Addr) (c : Nat) (xs : List Int) (w : World) (hx : Rw u .u8 w T A xs) (hm : xs.length ≤ 1000000000000) :
    Calls Try.prog 9 #[.slice A xs.length c] w fun e w' => e = .returned (.slice (some ⟨w.heap.size, 0, none⟩) xs.length xs.length) ∧ Below w.heap.size w w' ∧ Rw true .u8 w' (fun g => g = w.heap.size ∧ g < w'.heap.size) (some ⟨w.heap.size, 0, none⟩) xs :=
  (toByteS_any A c xs w hx.rwF hm).mono fun _ _ ⟨X, d, h1, h2, h3⟩ => ⟨h1, by rw [h2]; exact Below.ext (Below.refl _ _) (Nat.le_refl _) X d, h3.rw.inW⟩
theorem eqByteSS_any {T1 T2 : Nat → Prop} (A B : Option Addr) (c1 c2 : Nat) (xs ys : List (List Int)) (w : World) (hx : Sl false 1 (EB false) w T1 A xs) (hy : Sl false 1 (EB false) w T2 B ys) (hm : xs.length ≤ 1000000000000) (hm2 : ys.length ≤ 1000000000000)
    (hmx : ∀ x ∈ xs, x.length ≤ 1000000000000) (hmy : ∀ x ∈ ys, x.length ≤ 1000000000000) :
    Calls Try.prog 21 #[.slice A xs.length c1, .slice B ys.length c2] w fun e w' => e = .returned (.bool (xs == ys)) ∧ Below w.heap.size w w' :=
  (eqByteSS_q A B c1 c2 xs ys w hx hy hm hm2 hmx hmy).mono fun _ _ ⟨h1, h2⟩ => ⟨h1, h2.below⟩
theorem heldByteSS_any {T : Nat → Prop} (A : Option Addr) (n c : Nat) (xs : List (List Int)) (k : Int) (w : World) (hn : n = xs.length) (hx : Sl false 1 (EB false) w T A (marksSS k xs)) (hm : xs.length ≤ 1000000000000) (hs : sumL xs ≤ 1000000000000) (hk0 : 0 ≤ k) (hk1 : k ≤ 1000000000000) (hks : k + (sumL xs : Int) ≤ 1000000000000) :
    Calls Try.prog 30 #[.slice A n c, .int .i64 k] w fun e w' => e = .returned (.int .i64 (k + (sumL xs : Int))) ∧ Below w.heap.size w w' :=
  (heldByteSS_q A n c xs k w hn hx hm hs hk0 hk1 hks).mono fun _ _ ⟨h1, h2⟩ => ⟨h1, h2.below⟩

set_option maxHeartbeats 4000000 in
theorem splitAggregate_walk (A : Option Addr) (c : Nat) (xs : List Int) (w : World) (hx : Rw false .u8 w (fun g => g < w.heap.size) A xs) (hlen : xs.length ≤ 9223372036854775807) (hb : ∀ x ∈ xs, 0 ≤ x ∧ x ≤ 255) :
    Calls Try.prog 7 #[.slice A xs.length c] w fun e w' => e = .returned (.bool true) ∧ Below w.heap.size w w' := by
  by_cases hbig : 1048576 < xs.length
  · have hbig2 : (1048576 : Int) < (xs.length : Int) := by omega
    clear hx hb
    go_enter Try.func7, Try.ntmps7
    go_wp2
    go_ret
    exact ⟨rfl, Below.refl _ _⟩
  have hbig2 : ¬ (1048576 : Int) < (xs.length : Int) := by omega
  have X := Lib.hid hx
  have HB := Lib.hid hb
  have HL8 : Hid ((split xs).length ≤ 1000000000000) := Lib.hid (by have := split_len xs; omega)
  have HLM : Hid (∀ x ∈ split xs, x.length ≤ 1000000000000) := Lib.hid (fun x h => by have := split_mem xs x h; omega)
  have HSL : Hid (sumL (split xs) ≤ 1000000000000) := Lib.hid (by have := split_sum xs; omega)
  have HSL2 : Hid (sumL (split xs) ≤ 1600) := Lib.hid (split_sum xs)
  clear hx hb
  go_enter Try.func7, Try.ntmps7
  have HBw : Hid (Below w.heap.size w w) := Lib.hid (Below.refl _ _)
  go_wp2_with fail
  refine (toByteS_o A c xs _ X.out (by omega)).mono ?_
  rintro e w1 ⟨rfl, hb, y0⟩
  have hsw1 := hb.size
  replace X := Lib.hid (X.out.below hb)
  have HBw1 : Hid (Below w.heap.size w w1) := Lib.hid (HBw.out.trans (hb.mono HBw.out.size))
  clear hb HBw
  have Y0 := Lib.hid y0
  clear y0
  go_wp2_with fail
  refine (specSpl_any _ _ xs _ Y0.out (by omega) (Nat.le_refl _) HB.out).mono ?_
  rintro e w2 ⟨gw, cw, rfl, hb, ow⟩
  have hsw2 := hb.size
  replace X := Lib.hid (X.out.below hb)
  replace Y0 := Lib.hid (Y0.out.below hb)
  have HBw2 : Hid (Below w.heap.size w w2) := Lib.hid (HBw1.out.trans (hb.mono HBw1.out.size))
  clear hb HBw1
  have W0 := Lib.hid ow.sl
  clear ow Y0
  go_wp2_with fail
  refine (toByteS_o A c xs _ X.out (by omega)).mono ?_
  rintro e w3 ⟨rfl, hb, y0⟩
  have hsw3 := hb.size
  replace X := Lib.hid (X.out.below hb)
  replace W0 := Lib.hid (Sl.below (R := EB true) EB.framed W0.out hb)
  have HBw3 : Hid (Below w.heap.size w w3) := Lib.hid (HBw2.out.trans (hb.mono HBw2.out.size))
  clear hb HBw2
  have Y1 := Lib.hid y0
  clear y0
  go_wp2_with fail
  refine (implSpl_any _ _ xs _ Y1.out (by omega) (Nat.le_refl _) HB.out).mono ?_
  rintro e w4 ⟨g0, c0, rfl, hb, og⟩
  have hsw4 := hb.size
  replace X := Lib.hid (X.out.below hb)
  replace W0 := Lib.hid (Sl.below (R := EB true) EB.framed W0.out hb)
  replace Y1 := Lib.hid (Y1.out.below hb)
  have HBw4 : Hid (Below w.heap.size w w4) := Lib.hid (HBw3.out.trans (hb.mono HBw3.out.size))
  clear hb HBw3
  have G0 := Lib.hid og.sl
  clear og
  go_wp2_with fail
  refine (eqByteSS_any _ _ _ _ (split xs) (split xs) _ (SlB.read G0.out) (SlB.read W0.out) HL8.out HL8.out HLM.out HLM.out).mono ?_
  rintro e w5 ⟨rfl, hb⟩
  have hsw5 := hb.size
  replace X := Lib.hid (X.out.below hb)
  replace W0 := Lib.hid (Sl.below (R := EB true) EB.framed W0.out hb)
  replace Y1 := Lib.hid (Y1.out.below hb)
  replace G0 := Lib.hid (Sl.below (R := EB true) EB.framed G0.out hb)
  have HBw5 : Hid (Below w.heap.size w w5) := Lib.hid (HBw4.out.trans (hb.mono HBw4.out.size))
  clear hb HBw4
  go_wp2_with fail
  refine (toByteS_o A c xs _ X.out (by omega)).mono ?_
  rintro e w6 ⟨rfl, hb, y0⟩
  have hsw6 := hb.size
  replace X := Lib.hid (X.out.below hb)
  replace W0 := Lib.hid (Sl.below (R := EB true) EB.framed W0.out hb)
  replace Y1 := Lib.hid (Y1.out.below hb)
  replace G0 := Lib.hid (Sl.below (R := EB true) EB.framed G0.out hb)
  have HBw6 : Hid (Below w.heap.size w w6) := Lib.hid (HBw5.out.trans (hb.mono HBw5.out.size))
  clear hb HBw5
  have Y2 := Lib.hid y0
  clear y0
  go_wp2_with fail
  refine (eqByteS_any _ _ _ _ xs xs _ Y1.out Y2.out (by omega) (by omega)).mono ?_
  rintro e w7 ⟨rfl, hb⟩
  have hsw7 := hb.size
  replace X := Lib.hid (X.out.below hb)
  replace W0 := Lib.hid (Sl.below (R := EB true) EB.framed W0.out hb)
  replace Y1 := Lib.hid (Y1.out.below hb)
  replace G0 := Lib.hid (Sl.below (R := EB true) EB.framed G0.out hb)
  replace Y2 := Lib.hid (Y2.out.below hb)
  have HBw7 : Hid (Below w.heap.size w w7) := Lib.hid (HBw6.out.trans (hb.mono HBw6.out.size))
  clear hb HBw6
  clear Y2
  go_wp2_with fail
  refine (markByteS_any _ _ xs 1 _ Y1.out (by omega) (by omega) (by omega)).mono ?_
  rintro e w8 ⟨rfl, hc, _⟩
  have hsw8 := hc.size
  replace X := Lib.hid (X.out.frame hc (fun b h1 h2 => by omega))
  replace W0 := Lib.hid (Sl.frame (R := EB true) EB.framed W0.out hc (fun b h1 h2 => by omega))
  clear Y1
  replace G0 := Lib.hid (Sl.frame (R := EB true) EB.framed G0.out hc (fun b h1 h2 => by omega))
  have HBw8 : Hid (Below w.heap.size w w8) := Lib.hid (HBw7.out.trans (hc.below HBw7.out.size (fun b h => by omega)))
  clear hc HBw7
  have hk0 : ¬ (1 : Int) + (xs.length : Int) < 0 := by omega
  go_wp2_with fail
  refine (eqByteSS_any _ _ _ _ (split xs) (split xs) _ (SlB.read G0.out) (SlB.read W0.out) HL8.out HL8.out HLM.out HLM.out).mono ?_
  rintro e w9 ⟨rfl, hb⟩
  have hsw9 := hb.size
  replace X := Lib.hid (X.out.below hb)
  replace W0 := Lib.hid (Sl.below (R := EB true) EB.framed W0.out hb)
  replace G0 := Lib.hid (Sl.below (R := EB true) EB.framed G0.out hb)
  have HBw9 : Hid (Below w.heap.size w w9) := Lib.hid (HBw8.out.trans (hb.mono HBw8.out.size))
  clear hb HBw8
  go_wp2_with fail
  refine (markByteSS_any _ _ (split xs) 1 _ G0.out HL8.out HSL.out (by omega) (by omega) (by have := HSL2.out; omega)).mono ?_
  rintro e w10 ⟨rfl, hc, gm⟩
  have hsw10 := hc.size
  replace X := Lib.hid (X.out.frame hc (fun b h1 h2 => by omega))
  replace W0 := Lib.hid (Sl.frame (R := EB true) EB.framed W0.out hc (fun b h1 h2 => by omega))
  clear G0
  have HBw10 : Hid (Below w.heap.size w w10) := Lib.hid (HBw9.out.trans (hc.below HBw9.out.size (fun b h => by omega)))
  clear hc HBw9
  have GM := Lib.hid gm
  clear gm
  have hk1 : ¬ (1 : Int) + (sumL (split xs) : Int) < 0 := by omega
  go_wp2_with fail
  refine (heldByteSS_any _ _ _ (split xs) 1 _ rfl (SlB.read GM.out) HL8.out HSL.out (by omega) (by omega) (by have := HSL2.out; omega)).mono ?_
  rintro e w11 ⟨rfl, hb⟩
  have hsw11 := hb.size
  replace X := Lib.hid (X.out.below hb)
  replace W0 := Lib.hid (Sl.below (R := EB true) EB.framed W0.out hb)
  replace GM := Lib.hid (Sl.below (R := EB true) EB.framed GM.out hb)
  have HBw11 : Hid (Below w.heap.size w w11) := Lib.hid (HBw10.out.trans (hb.mono HBw10.out.size))
  clear hb HBw10
  go_wp2_with fail
  refine (toByteS_o A c xs _ X.out (by omega)).mono ?_
  rintro e w12 ⟨rfl, hb, y0⟩
  have hsw12 := hb.size
  replace X := Lib.hid (X.out.below hb)
  replace W0 := Lib.hid (Sl.below (R := EB true) EB.framed W0.out hb)
  replace GM := Lib.hid (Sl.below (R := EB true) EB.framed GM.out hb)
  have HBw12 : Hid (Below w.heap.size w w12) := Lib.hid (HBw11.out.trans (hb.mono HBw11.out.size))
  clear hb HBw11
  have Y3 := Lib.hid y0
  clear y0
  go_wp2_with fail
  refine (implSpl_any _ _ xs _ Y3.out (by omega) (Nat.le_refl _) HB.out).mono ?_
  rintro e w13 ⟨g3, c3, rfl, hb, og⟩
  have hsw13 := hb.size
  replace X := Lib.hid (X.out.below hb)
  replace W0 := Lib.hid (Sl.below (R := EB true) EB.framed W0.out hb)
  replace GM := Lib.hid (Sl.below (R := EB true) EB.framed GM.out hb)
  replace Y3 := Lib.hid (Y3.out.below hb)
  have HBw13 : Hid (Below w.heap.size w w13) := Lib.hid (HBw12.out.trans (hb.mono HBw12.out.size))
  clear hb HBw12
  have G3 := Lib.hid og.sl
  clear og
  go_wp2_with fail
  refine (eqByteSS_any _ _ _ _ (split xs) (split xs) _ (SlB.read G3.out) (SlB.read W0.out) HL8.out HL8.out HLM.out HLM.out).mono ?_
  rintro e w14 ⟨rfl, hb⟩
  have hsw14 := hb.size
  replace X := Lib.hid (X.out.below hb)
  replace W0 := Lib.hid (Sl.below (R := EB true) EB.framed W0.out hb)
  replace GM := Lib.hid (Sl.below (R := EB true) EB.framed GM.out hb)
  replace Y3 := Lib.hid (Y3.out.below hb)
  replace G3 := Lib.hid (Sl.below (R := EB true) EB.framed G3.out hb)
  have HBw14 : Hid (Below w.heap.size w w14) := Lib.hid (HBw13.out.trans (hb.mono HBw13.out.size))
  clear hb HBw13
  go_wp2_with fail
  refine (heldByteSS_any _ _ _ (split xs) 1 _ rfl (SlB.read GM.out) HL8.out HSL.out (by omega) (by omega) (by have := HSL2.out; omega)).mono ?_
  rintro e w15 ⟨rfl, hb⟩
  have hsw15 := hb.size
  replace X := Lib.hid (X.out.below hb)
  replace W0 := Lib.hid (Sl.below (R := EB true) EB.framed W0.out hb)
  replace GM := Lib.hid (Sl.below (R := EB true) EB.framed GM.out hb)
  replace Y3 := Lib.hid (Y3.out.below hb)
  replace G3 := Lib.hid (Sl.below (R := EB true) EB.framed G3.out hb)
  have HBw15 : Hid (Below w.heap.size w w15) := Lib.hid (HBw14.out.trans (hb.mono HBw14.out.size))
  clear hb HBw14
  go_wp2
  go_ret
  exact ⟨rfl, HBw15.out⟩

end Go.Proofs.Ytgplllomchbkdaa
