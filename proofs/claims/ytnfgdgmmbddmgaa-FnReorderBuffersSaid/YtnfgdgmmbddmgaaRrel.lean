/- deliverReady of the program, l22Release of the reference: what stands at the start is handed over. -/
import Derived.Test.YtnfgdgmmbddmgaaOwV
import Derived.Test.YtnfgdgmmbddmgaaSeqA
import Derived.Test.YtnfgdgmmbddmgaaNFl
import Derived.Test.YtnfgdgmmbddmgaaHeld
namespace Go.Proofs.Ytnfgdgmmbddmgaa
open Go.RowKit
set_option linter.unusedVariables false
set_option linter.unusedSimpArgs false

def relR : Int → List NF → List (List Int) → Int × List NF × List (List Int)
  | st, [], bs => (st, [], bs)
  | st, x :: xs, bs => if x.1 = st then relR (seqN st) xs (bs ++ [x.2]) else (st, x :: xs, bs)
def lenOf : Value → Nat
  | .slice _ n _ => n
  | _ => 0
theorem sizeNF : ∀ w : World, (Go.sizeOf 75).run Try.prog w = .ok 2 w := fun _ => by kernel_rfl
theorem infoBSS : (Try.prog.info? 38).map (fun i => (i.zero, i.size, i.bytes)) = some (some (.slice none 0 0), 1, 24) := by kernel_rfl
def RelC (w : World) (r : Int × List NF × List (List Int)) (T1 T2 : Nat → Prop) (base gb : Nat) (e : Ending) (w' : World) : Prop := ∃ A' c' gb' cb' T1' T2', e = .returned (.tuple #[.agg #[.int .i64 r.1, .slice A' r.2.1.length c'], .slice (some ⟨gb', 0, none⟩) r.2.2.length cb']) ∧ Chg (fun b => b = gb) w w' ∧ r.2.1.length ≤ c' ∧
  (∀ b, T1' b → T1 b ∧ ¬ T2' b) ∧ (∀ b, T2' b → T2 b ∨ T1 b) ∧ Sl true 2 (EN true) w' T1' A' r.2.1 ∧ OwS true 1 (EB true) 38 w' T2' base (some ⟨gb', 0, none⟩) cb' r.2.2 ∧ (gb' = gb ∨ w.heap.size ≤ gb')

set_option maxRecDepth 10000 in
set_option maxHeartbeats 8000000 in
theorem implRel_any {T1 T2 : Nat → Prop} (st : Int) (A : Option Addr) (c : Nat) (ys : List NF) (gb cb : Nat) (bs : List (List Int)) (base : Nat) (w : World) (hy : Sl true 2 (EN true) w T1 A ys) (hcap : ys.length ≤ c) (hn : bs.length + ys.length ≤ 1000000000) (ho : OwS true 1 (EB true) 38 w T2 base (some ⟨gb, 0, none⟩) cb bs)
    (h1 : ∀ b, T1 b → b < w.heap.size ∧ ¬ T2 b ∧ b ≠ gb) (h2 : ∀ b, T2 b → b < w.heap.size) (hbase : base ≤ w.heap.size) :
    Calls Try.prog 61 #[.agg #[.int .i64 st, .slice A ys.length c], .slice (some ⟨gb, 0, none⟩) bs.length cb] w fun e w' => RelC w (relR st ys bs) T1 T2 base gb e w' := by
  obtain ⟨i0, hI0, hz0, hz1, hz2⟩ := info_parts infoBSS
  have HY := Lib.hid hy
  have HOw := Lib.hid ho
  have HT1 := Lib.hid h1
  have HT2 := Lib.hid h2
  have hgbl := ho.lt
  clear hy ho h1 h2
  go_enter Try.func61, Try.ntmps61
  go_wp2
  go_loopw [1] (fun v wr => ∃ (st' : Int) (A' : Option Addr) (c' : Nat) (ys' : List NF) (g : Nat) (l : List (List Int)) (cl : Nat) (T1' T2' : Nat → Prop), v = .slice (some ⟨g, 0, none⟩) l.length cl ∧ Hid (relR st ys bs = relR st' ys' l) ∧ Hid (l.length + ys'.length = bs.length + ys.length) ∧ Hid (Chg (fun b => b = gb) w wr) ∧
      wr.cell? ⟨w.heap.size, 0, none⟩ = some (.int .i64 st') ∧ wr.cell? ⟨w.heap.size, 1, none⟩ = some (.slice A' ys'.length c') ∧ wr.cell? ⟨w.heap.size + 1, 0, none⟩ = some (.int .i64 0) ∧ wr.cell? ⟨w.heap.size + 1, 1, none⟩ = some (.slice none 0 0) ∧ wr.frozen? ⟨w.heap.size, 0, none⟩ = false ∧ wr.frozen? ⟨w.heap.size, 1, none⟩ = false ∧ wr.frozen? ⟨w.heap.size + 1, 0, none⟩ = false ∧ wr.frozen? ⟨w.heap.size + 1, 1, none⟩ = false ∧
      Hid (Sl true 2 (EN true) wr T1' A' ys') ∧ ys'.length ≤ c' ∧ Hid (OwS true 1 (EB true) 38 wr T2' base (some ⟨g, 0, none⟩) cl l) ∧ Hid (∀ b, T1' b → T1 b ∧ ¬ T2' b) ∧ Hid (∀ b, T2' b → T2 b ∨ T1 b) ∧ (g = gb ∨ w.heap.size + 2 ≤ g) ∧ w.heap.size + 1 < wr.heap.size) (fun v _ => bs.length + ys.length - lenOf v)
  case atStart =>
    refine ⟨st, A, c, ys, gb, bs, cb, T1, T2, rfl, Lib.hid rfl, Lib.hid rfl, Lib.hid (Chg.of_below (by repeat (first | (with_reducible exact Below.refl _ _) | (with_reducible refine Below.ext ?_ (by go_size) _ _) | (with_reducible refine Below.alloc ?_ (by go_size) _) | (with_reducible refine Below.setCell ?_ (by go_size) _) | (with_reducible refine Below.drew ?_) | (with_reducible refine Below.drewN_ ?_ _)))), ?_, ?_, ?_, ?_, ?_, ?_, ?_, ?_, Lib.hid (Sl.below (R := EN true) EN.framed HY.out (by repeat (first | (with_reducible exact Below.refl _ _) | (with_reducible refine Below.ext ?_ (by go_size) _ _) | (with_reducible refine Below.alloc ?_ (by go_size) _) | (with_reducible refine Below.setCell ?_ (by go_size) _) | (with_reducible refine Below.drew ?_) | (with_reducible refine Below.drewN_ ?_ _)))), hcap, Lib.hid (OwS.below (R := EB true) EB.framed HOw.out (by repeat (first | (with_reducible exact Below.refl _ _) | (with_reducible refine Below.ext ?_ (by go_size) _ _) | (with_reducible refine Below.alloc ?_ (by go_size) _) | (with_reducible refine Below.setCell ?_ (by go_size) _) | (with_reducible refine Below.drew ?_) | (with_reducible refine Below.drewN_ ?_ _)))), Lib.hid (fun b h => ⟨h, (HT1.out b h).2.1⟩), Lib.hid (fun b h => .inl h), .inl rfl, by simp⟩
    all_goals (simp [go_sem]; try done)
  case round =>
    obtain ⟨st', A', c', ys', g, l, cl, T1', T2', rfl, HR, HN, HC, k0, k1, r0, r1, z0, z1, y0, y1, HS, hcap', HO, HD1, HD2, hgg, hws⟩ := hrel
    have hgl := HO.out.lt
    have hgw0 : ¬ g = w.heap.size := by omega
    have hgw1 : ¬ g = w.heap.size + 1 := by omega
    by_cases hys : ys' = []
    · subst hys
      have HRE : Hid (relR st ys bs = (st', [], l)) := Lib.hid (by rw [HR.out]; rfl)
      simp only [List.length_nil] at k1 hcap'
      go_wp2
      refine wp_region_held_drew (S := (fun w' => w'.cell? ⟨w.heap.size, 0, none⟩ = some (.int .i64 st') ∧ w'.cell? ⟨w.heap.size, 1, none⟩ = some (.slice A' 0 c'))) (by kernel_rfl) ?_ (fun hHeld => ?_)
      · first | exact ⟨k0, k1⟩ | (simp [go_sem, *]; done)
      refine wpAnyH_takeW (i := 0) (d := some 6) (v := ?_) (by simp only [List.getElem?_toArray, List.getElem?_cons_succ, List.getElem?_cons_zero]; rfl) (by rfl) (by kernel_rfl) (by kernel_rfl) (by kernel_rfl) (by intro _ _ _ h; exact h) (by rfl) ?_ (by assumption) ?_
      rotate_left 1
      · (intro w hSw; (try dsimp only at hSw); go_simp; try (with_reducible rfl))
      (try simp only [Act.put, List.setIfInBounds_toArray, List.set_cons_zero, List.set_cons_succ])
      refine wpAnyH_takeW (i := 1) (d := some 7) (v := ?_) (by simp only [List.getElem?_toArray, List.getElem?_cons_succ, List.getElem?_cons_zero]; rfl) (by rfl) (by kernel_rfl) (by kernel_rfl) (by kernel_rfl) (by intro _ _ _ h; exact h) (by rfl) ?_ (by assumption) ?_
      rotate_left 1
      · (intro w hSw; (try dsimp only at hSw); go_simp; try (with_reducible rfl))
      (try simp only [Act.put, List.setIfInBounds_toArray, List.set_cons_zero, List.set_cons_succ])
      refine wpAnyH_takeW (i := 2) (d := some 8) (v := ?_) (by simp only [List.getElem?_toArray, List.getElem?_cons_succ, List.getElem?_cons_zero]; rfl) (by rfl) (by kernel_rfl) (by kernel_rfl) (by kernel_rfl) (by intro _ _ _ h; exact h) (by rfl) ?_ (by assumption) ?_
      rotate_left 1
      · (intro w hSw; (try dsimp only at hSw); go_simp; try (with_reducible rfl))
      (try simp only [Act.put, List.setIfInBounds_toArray, List.set_cons_zero, List.set_cons_succ])
      refine wpAnyH_takeW (i := 3) (d := some 9) (v := ?_) (by simp only [List.getElem?_toArray, List.getElem?_cons_succ, List.getElem?_cons_zero]; rfl) (by rfl) (by kernel_rfl) (by kernel_rfl) (by kernel_rfl) (by intro _ _ _ h; exact h) (by rfl) ?_ (by assumption) ?_
      rotate_left 1
      · (intro w hSw; (try dsimp only at hSw); go_simp; try (with_reducible rfl))
      (try simp only [Act.put, List.setIfInBounds_toArray, List.set_cons_zero, List.set_cons_succ])
      refine wpAnyH_takeW (i := 4) (d := some 10) (v := ?_) (by simp only [List.getElem?_toArray, List.getElem?_cons_succ, List.getElem?_cons_zero]; rfl) (by rfl) (by kernel_rfl) (by kernel_rfl) (by kernel_rfl) (by intro _ _ _ h; exact h) (by rfl) ?_ (by assumption) ?_
      rotate_left 1
      · (intro w hSw; (try dsimp only at hSw); go_simp; try (with_reducible rfl))
      (try simp only [Act.put, List.setIfInBounds_toArray, List.set_cons_zero, List.set_cons_succ])
      refine wpAnyH_takeU (i := 5) (d := some 11) (by simp only [List.getElem?_toArray, List.getElem?_cons_succ, List.getElem?_cons_zero]; rfl) (by rfl) (by kernel_rfl) (by kernel_rfl) (by kernel_rfl) (by intro _ _ _ h; exact h) (by rfl) (by assumption) ?_
      (try simp only [Act.put, List.setIfInBounds_toArray, List.set_cons_zero, List.set_cons_succ])
      refine wpAnyH_takeU (i := 6) (d := some 12) (by simp only [List.getElem?_toArray, List.getElem?_cons_succ, List.getElem?_cons_zero]; rfl) (by rfl) (by kernel_rfl) (by kernel_rfl) (by kernel_rfl) (by intro _ _ _ h; exact h) (by rfl) (by assumption) ?_
      (try simp only [Act.put, List.setIfInBounds_toArray, List.set_cons_zero, List.set_cons_succ])
      refine wpAnyH_takeU (i := 7) (d := some 13) (by simp only [List.getElem?_toArray, List.getElem?_cons_succ, List.getElem?_cons_zero]; rfl) (by rfl) (by kernel_rfl) (by kernel_rfl) (by kernel_rfl) (by intro _ _ _ h; exact h) (by rfl) (by assumption) ?_
      (try simp only [Act.put, List.setIfInBounds_toArray, List.set_cons_zero, List.set_cons_succ])
      refine wpAnyH_takeU (i := 8) (d := some 14) (by simp only [List.getElem?_toArray, List.getElem?_cons_succ, List.getElem?_cons_zero]; rfl) (by rfl) (by kernel_rfl) (by kernel_rfl) (by kernel_rfl) (by intro _ _ _ h; exact h) (by rfl) (by assumption) ?_
      (try simp only [Act.put, List.setIfInBounds_toArray, List.set_cons_zero, List.set_cons_succ])
      refine wpAnyH_takeU (i := 9) (d := some 15) (by simp only [List.getElem?_toArray, List.getElem?_cons_succ, List.getElem?_cons_zero]; rfl) (by rfl) (by kernel_rfl) (by kernel_rfl) (by kernel_rfl) (by intro _ _ _ h; exact h) (by rfl) (by assumption) ?_
      (try simp only [Act.put, List.setIfInBounds_toArray, List.set_cons_zero, List.set_cons_succ])
      refine wpAnyH_takeU (i := 10) (d := some 16) (by simp only [List.getElem?_toArray, List.getElem?_cons_succ, List.getElem?_cons_zero]; rfl) (by rfl) (by kernel_rfl) (by kernel_rfl) (by kernel_rfl) (by intro _ _ _ h; exact h) (by rfl) (by assumption) ?_
      (try simp only [Act.put, List.setIfInBounds_toArray, List.set_cons_zero, List.set_cons_succ])
      refine wpAnyH_takeU (i := 11) (d := some 17) (by simp only [List.getElem?_toArray, List.getElem?_cons_succ, List.getElem?_cons_zero]; rfl) (by rfl) (by kernel_rfl) (by kernel_rfl) (by kernel_rfl) (by intro _ _ _ h; exact h) (by rfl) (by assumption) ?_
      (try simp only [Act.put, List.setIfInBounds_toArray, List.set_cons_zero, List.set_cons_succ])
      refine wpAnyH_takeU (i := 12) (d := some 18) (by simp only [List.getElem?_toArray, List.getElem?_cons_succ, List.getElem?_cons_zero]; rfl) (by rfl) (by kernel_rfl) (by kernel_rfl) (by kernel_rfl) (by intro _ _ _ h; exact h) (by rfl) (by assumption) ?_
      (try simp only [Act.put, List.setIfInBounds_toArray, List.set_cons_zero, List.set_cons_succ])
      refine wpAnyH_takeW (i := 13) (d := some 19) (v := ?_) (by simp only [List.getElem?_toArray, List.getElem?_cons_succ, List.getElem?_cons_zero]; rfl) (by rfl) (by kernel_rfl) (by kernel_rfl) (by kernel_rfl) (by intro _ _ _ h; exact h) (by rfl) ?_ (by assumption) ?_
      rotate_left 1
      · (intro w hSw; (try dsimp only at hSw); go_simp; try (with_reducible rfl))
      (try simp only [Act.put, List.setIfInBounds_toArray, List.set_cons_zero, List.set_cons_succ])
      refine wpAnyH_done (by kernel_rfl) ?_ _
      obtain ⟨wd, hwd⟩ : ∃ wd, wd = wr.drew := ⟨_, rfl⟩
      rw [← hwd]
      have hbd : Below wr.heap.size wr wd := by rw [hwd]; exact Below.drew (Below.refl _ _)
      have hsd := hbd.size
      clear hwd
      replace k0 := (hbd.cell (p := ⟨w.heap.size, 0, none⟩) (by simp only; omega)).trans k0
      replace k1 := (hbd.cell (p := ⟨w.heap.size, 1, none⟩) (by simp only; omega)).trans k1
      replace r0 := (hbd.cell (p := ⟨w.heap.size + 1, 0, none⟩) (by simp only; omega)).trans r0
      replace r1 := (hbd.cell (p := ⟨w.heap.size + 1, 1, none⟩) (by simp only; omega)).trans r1
      replace z0 := (hbd.frozen (p := ⟨w.heap.size, 0, none⟩) (by simp only; omega)).trans z0
      replace z1 := (hbd.frozen (p := ⟨w.heap.size, 1, none⟩) (by simp only; omega)).trans z1
      replace y0 := (hbd.frozen (p := ⟨w.heap.size + 1, 0, none⟩) (by simp only; omega)).trans y0
      replace y1 := (hbd.frozen (p := ⟨w.heap.size + 1, 1, none⟩) (by simp only; omega)).trans y1
      have HSd := Lib.hid (Sl.below (R := EN true) EN.framed HS.out hbd)
      have HOd := Lib.hid (OwS.below (R := EB true) EB.framed HO.out hbd)
      have HCd := Lib.hid (HC.out.trans (Chg.of_below hbd))
      have hfin : Chg (fun b => b = w.heap.size + 1) wd ((wd.setCell ⟨w.heap.size + 1, 0, none⟩ (.int .i64 st')).setCell ⟨w.heap.size + 1, 1, none⟩ (.slice A' 0 c')) := Chg.setCell_ (S := fun b => b = w.heap.size + 1) (Chg.setCell_ (S := fun b => b = w.heap.size + 1) (Chg.refl _ _) (p := ⟨w.heap.size + 1, 0, none⟩) rfl _) (p := ⟨w.heap.size + 1, 1, none⟩) rfl _
      have hv0 : ((wd.setCell ⟨w.heap.size + 1, 0, none⟩ (.int .i64 st')).setCell ⟨w.heap.size + 1, 1, none⟩ (.slice A' 0 c')).cell? ⟨w.heap.size + 1, 0, none⟩ = some (.int .i64 st') := by rw [World.cell?_setCell_other _ _ _ _ (fun e => by injection e with _ e2; omega)]; exact World.cell?_setCell_same _ _ _ r0
      have hv1 : ((wd.setCell ⟨w.heap.size + 1, 0, none⟩ (.int .i64 st')).setCell ⟨w.heap.size + 1, 1, none⟩ (.slice A' 0 c')).cell? ⟨w.heap.size + 1, 1, none⟩ = some (.slice A' 0 c') := World.cell?_setCell_same (u := .slice none 0 0) _ _ _ (by rw [World.cell?_setCell_other _ _ _ _ (fun e => by injection e with _ e2; omega)]; exact r1)
      have HF := Lib.hid hfin
      have HV0 := Lib.hid hv0
      have HV1 := Lib.hid hv1
      clear hfin hv0 hv1
      go_wp2
      refine bodyPost_ret (v := .tuple #[.agg #[.int .i64 st', .slice A' 0 c'], .slice (some ⟨g, 0, none⟩) l.length cl]) (by simp [results, Try.results61, go_sem, HV0.out, HV1.out]) rfl ?_
      rw [HRE.out]
      refine ⟨A', c', g, cl, T1', T2', rfl, ?_, hcap', HD1.out, HD2.out, Sl.frame (R := EN true) EN.framed HSd.out HF.out (fun b h1 h2 => by have := HT1.out b (HD1.out b h1).1; omega), OwS.frame (R := EB true) EB.framed HOd.out HF.out (fun b h1 h2 => by have h3 := HD2.out b h1; have h4 := HT2.out b; have h5 := HT1.out b; rcases h3 with h3 | h3; have := h4 h3; omega; have := h5 h3; omega) (fun a' ha' h2 => by injection ha' with ha'; subst ha'; exact hgw1 h2), by omega⟩
      exact ⟨HF.out.os.trans HCd.out.os, HF.out.tape.trans HCd.out.tape, HF.out.output.trans HCd.out.output, Nat.le_trans HCd.out.size HF.out.size, fun k hk hn => (HF.out.block k (by have := HCd.out.size; omega) (by omega)).trans (HCd.out.block k hk hn)⟩
    · obtain ⟨x, rest, hxr⟩ := List.exists_cons_of_ne_nil hys
      have hlp : 0 < ys'.length := by rw [hxr]; simp
      have hll : l.length ≤ 1000000000 := by have := HN.out; omega
      obtain ⟨g1, o1, F0, rfl, hg1, hg1T, hnF, hF0, ⟨e0, _, ⟨Bx, dx, e1, _, hrx⟩⟩, htl⟩ := Sl.uncons (by have := HS.out; rw [hxr] at this; exact this)
      obtain ⟨x1, x2⟩ := x
      simp only at e0 e1 hrx
      have HXR := Lib.hid hxr
      obtain ⟨Ar, hsl, hAr⟩ := run_tailN (P := Try.prog) (t := 26) (e := 75) Try.underlying26 sizeNF g1 o1 ys'.length rest.length c' (by rw [hxr]; rfl) hcap'
      have HAR := Lib.hid hAr
      have hrl : ys'.length = rest.length + 1 := by rw [hxr]; rfl
      have HRC : Hid (rest.length ≤ c' - 1) := Lib.hid (by omega)
      clear hrl
      have HTL := Lib.hid htl
      have HRX0 := Lib.hid hrx
      have HF0 := Lib.hid hF0
      have hg1w : g1 < w.heap.size := (HT1.out g1 (HD1.out g1 hg1T).1).1
      have hg1g : ¬ g1 = g := by have := (HT1.out g1 (HD1.out g1 hg1T).1).2.2; omega
      have hg1w0 : ¬ g1 = w.heap.size := by omega
      clear htl hrx hF0 hAr hys hxr
      by_cases hst : x1 = st'
      · subst hst
        go_wp2
        refine wp_region_held_drew (S := (fun w' => w'.cell? ⟨w.heap.size, 0, none⟩ = some (.int .i64 x1) ∧ w'.cell? ⟨w.heap.size, 1, none⟩ = some (.slice (some ⟨g1, o1, none⟩) ys'.length c') ∧ w'.cell? ⟨g1, o1, none⟩ = some (.int .i64 x1))) (by kernel_rfl) ?_ (fun hHeld => ?_)
        · first | exact ⟨k0, k1, e0⟩ | (simp [go_sem, *]; done)
        refine wpAnyH_takeW (i := 0) (d := some 6) (v := ?_) (by simp only [List.getElem?_toArray, List.getElem?_cons_succ, List.getElem?_cons_zero]; rfl) (by rfl) (by kernel_rfl) (by kernel_rfl) (by kernel_rfl) (by intro _ _ _ h; exact h) (by rfl) ?_ (by assumption) ?_
        rotate_left 1
        · (intro w hSw; (try dsimp only at hSw); go_simp; try (with_reducible rfl))
        (try simp only [Act.put, List.setIfInBounds_toArray, List.set_cons_zero, List.set_cons_succ])
        refine wpAnyH_takeW (i := 1) (d := some 7) (v := ?_) (by simp only [List.getElem?_toArray, List.getElem?_cons_succ, List.getElem?_cons_zero]; rfl) (by rfl) (by kernel_rfl) (by kernel_rfl) (by kernel_rfl) (by intro _ _ _ h; exact h) (by rfl) ?_ (by assumption) ?_
        rotate_left 1
        · (intro w hSw; (try dsimp only at hSw); go_simp; try (with_reducible rfl))
        (try simp only [Act.put, List.setIfInBounds_toArray, List.set_cons_zero, List.set_cons_succ])
        refine wpAnyH_takeW (i := 2) (d := some 8) (v := ?_) (by simp only [List.getElem?_toArray, List.getElem?_cons_succ, List.getElem?_cons_zero]; rfl) (by rfl) (by kernel_rfl) (by kernel_rfl) (by kernel_rfl) (by intro _ _ _ h; exact h) (by rfl) ?_ (by assumption) ?_
        rotate_left 1
        · (intro w hSw; (try dsimp only at hSw); go_simp; try (with_reducible rfl))
        (try simp only [Act.put, List.setIfInBounds_toArray, List.set_cons_zero, List.set_cons_succ])
        refine wpAnyH_takeW (i := 3) (d := some 9) (v := ?_) (by simp only [List.getElem?_toArray, List.getElem?_cons_succ, List.getElem?_cons_zero]; rfl) (by rfl) (by kernel_rfl) (by kernel_rfl) (by kernel_rfl) (by intro _ _ _ h; exact h) (by rfl) ?_ (by assumption) ?_
        rotate_left 1
        · (intro w hSw; (try dsimp only at hSw); go_simp; try (with_reducible rfl))
        (try simp only [Act.put, List.setIfInBounds_toArray, List.set_cons_zero, List.set_cons_succ])
        refine wpAnyH_takeW (i := 4) (d := some 10) (v := ?_) (by simp only [List.getElem?_toArray, List.getElem?_cons_succ, List.getElem?_cons_zero]; rfl) (by rfl) (by kernel_rfl) (by kernel_rfl) (by kernel_rfl) (by intro _ _ _ h; exact h) (by rfl) ?_ (by assumption) ?_
        rotate_left 1
        · (intro w hSw; (try dsimp only at hSw); go_simp; try (with_reducible rfl))
        (try simp only [Act.put, List.setIfInBounds_toArray, List.set_cons_zero, List.set_cons_succ])
        refine wpAnyH_takeW (i := 5) (d := some 11) (v := ?_) (by simp only [List.getElem?_toArray, List.getElem?_cons_succ, List.getElem?_cons_zero]; rfl) (by rfl) (by kernel_rfl) (by kernel_rfl) (by kernel_rfl) (by intro _ _ _ h; exact h) (by rfl) ?_ (by assumption) ?_
        rotate_left 1
        · (intro w hSw; (try dsimp only at hSw); go_simp; try (with_reducible rfl))
        (try simp only [Act.put, List.setIfInBounds_toArray, List.set_cons_zero, List.set_cons_succ])
        refine wpAnyH_takeW (i := 6) (d := some 12) (v := ?_) (by simp only [List.getElem?_toArray, List.getElem?_cons_succ, List.getElem?_cons_zero]; rfl) (by rfl) (by kernel_rfl) (by kernel_rfl) (by kernel_rfl) (by intro _ _ _ h; exact h) (by rfl) ?_ (by assumption) ?_
        rotate_left 1
        · (intro w hSw; (try dsimp only at hSw); go_simp; try (with_reducible rfl))
        (try simp only [Act.put, List.setIfInBounds_toArray, List.set_cons_zero, List.set_cons_succ])
        refine wpAnyH_takeW (i := 7) (d := some 13) (v := ?_) (by simp only [List.getElem?_toArray, List.getElem?_cons_succ, List.getElem?_cons_zero]; rfl) (by rfl) (by kernel_rfl) (by kernel_rfl) (by kernel_rfl) (by intro _ _ _ h; exact h) (by rfl) ?_ (by assumption) ?_
        rotate_left 1
        · (intro w hSw; (try dsimp only at hSw); go_simp; try (with_reducible rfl))
        (try simp only [Act.put, List.setIfInBounds_toArray, List.set_cons_zero, List.set_cons_succ])
        refine wpAnyH_takeW (i := 8) (d := some 14) (v := ?_) (by simp only [List.getElem?_toArray, List.getElem?_cons_succ, List.getElem?_cons_zero]; rfl) (by rfl) (by kernel_rfl) (by kernel_rfl) (by kernel_rfl) (by intro _ _ _ h; exact h) (by rfl) ?_ (by assumption) ?_
        rotate_left 1
        · (intro w hSw; (try dsimp only at hSw); go_simp; try (with_reducible rfl))
        (try simp only [Act.put, List.setIfInBounds_toArray, List.set_cons_zero, List.set_cons_succ])
        refine wpAnyH_takeW (i := 9) (d := some 15) (v := ?_) (by simp only [List.getElem?_toArray, List.getElem?_cons_succ, List.getElem?_cons_zero]; rfl) (by rfl) (by kernel_rfl) (by kernel_rfl) (by kernel_rfl) (by intro _ _ _ h; exact h) (by rfl) ?_ (by assumption) ?_
        rotate_left 1
        · (intro w hSw; (try dsimp only at hSw); go_simp; try (with_reducible rfl))
        (try simp only [Act.put, List.setIfInBounds_toArray, List.set_cons_zero, List.set_cons_succ])
        refine wpAnyH_takeW (i := 10) (d := some 16) (v := ?_) (by simp only [List.getElem?_toArray, List.getElem?_cons_succ, List.getElem?_cons_zero]; rfl) (by rfl) (by kernel_rfl) (by kernel_rfl) (by kernel_rfl) (by intro _ _ _ h; exact h) (by rfl) ?_ (by assumption) ?_
        rotate_left 1
        · (intro w hSw; (try dsimp only at hSw); go_simp; try (with_reducible rfl))
        (try simp only [Act.put, List.setIfInBounds_toArray, List.set_cons_zero, List.set_cons_succ])
        refine wpAnyH_takeW (i := 11) (d := some 17) (v := ?_) (by simp only [List.getElem?_toArray, List.getElem?_cons_succ, List.getElem?_cons_zero]; rfl) (by rfl) (by kernel_rfl) (by kernel_rfl) (by kernel_rfl) (by intro _ _ _ h; exact h) (by rfl) ?_ (by assumption) ?_
        rotate_left 1
        · (intro w hSw; (try dsimp only at hSw); go_simp; try (with_reducible rfl))
        (try simp only [Act.put, List.setIfInBounds_toArray, List.set_cons_zero, List.set_cons_succ])
        refine wpAnyH_takeW (i := 12) (d := some 18) (v := ?_) (by simp only [List.getElem?_toArray, List.getElem?_cons_succ, List.getElem?_cons_zero]; rfl) (by rfl) (by kernel_rfl) (by kernel_rfl) (by kernel_rfl) (by intro _ _ _ h; exact h) (by rfl) ?_ (by assumption) ?_
        rotate_left 1
        · (intro w hSw; (try dsimp only at hSw); go_simp; try (with_reducible rfl))
        (try simp only [Act.put, List.setIfInBounds_toArray, List.set_cons_zero, List.set_cons_succ])
        refine wpAnyH_takeW (i := 13) (d := some 19) (v := ?_) (by simp only [List.getElem?_toArray, List.getElem?_cons_succ, List.getElem?_cons_zero]; rfl) (by rfl) (by kernel_rfl) (by kernel_rfl) (by kernel_rfl) (by intro _ _ _ h; exact h) (by rfl) ?_ (by assumption) ?_
        rotate_left 1
        · (intro w hSw; (try dsimp only at hSw); go_simp; try (with_reducible rfl))
        (try simp only [Act.put, List.setIfInBounds_toArray, List.set_cons_zero, List.set_cons_succ])
        refine wpAnyH_done (by kernel_rfl) ?_ _
        obtain ⟨wd, hwd⟩ : ∃ wd, wd = wr.drew := ⟨_, rfl⟩
        rw [← hwd]
        have hbd : Below wr.heap.size wr wd := by rw [hwd]; exact Below.drew (Below.refl _ _)
        have hsd := hbd.size
        clear hwd
        replace k0 := (hbd.cell (p := ⟨w.heap.size, 0, none⟩) (by simp only; omega)).trans k0
        replace k1 := (hbd.cell (p := ⟨w.heap.size, 1, none⟩) (by simp only; omega)).trans k1
        replace r0 := (hbd.cell (p := ⟨w.heap.size + 1, 0, none⟩) (by simp only; omega)).trans r0
        replace r1 := (hbd.cell (p := ⟨w.heap.size + 1, 1, none⟩) (by simp only; omega)).trans r1
        replace z0 := (hbd.frozen (p := ⟨w.heap.size, 0, none⟩) (by simp only; omega)).trans z0
        replace z1 := (hbd.frozen (p := ⟨w.heap.size, 1, none⟩) (by simp only; omega)).trans z1
        replace y0 := (hbd.frozen (p := ⟨w.heap.size + 1, 0, none⟩) (by simp only; omega)).trans y0
        replace y1 := (hbd.frozen (p := ⟨w.heap.size + 1, 1, none⟩) (by simp only; omega)).trans y1
        have HSd := Lib.hid (Sl.below (R := EN true) EN.framed HS.out hbd)
        have HOd := Lib.hid (OwS.below (R := EB true) EB.framed HO.out hbd)
        have HCd := Lib.hid (HC.out.trans (Chg.of_below hbd))
        have HTLd := Lib.hid (Sl.below (R := EN true) EN.framed HTL.out hbd)
        have HRX := Lib.hid (HRX0.out.below hbd)
        replace e1 := (hbd.cell (p := ⟨g1, o1 + 1, none⟩) hg1).trans e1
        have hg1d : g1 < wd.heap.size := by omega
        have hal : Below wd.heap.size wd (wd.alloc (.cells #[.slice Bx x2.length dx] 38)) := Below.alloc (Below.refl _ _) (Nat.le_refl _) _
        have HBW := Lib.hid hal
        have HBK : Hid ((wd.alloc (.cells #[.slice Bx x2.length dx] 38)).heap[wd.heap.size]? = some (.cells #[.slice Bx x2.length dx] 38)) := Lib.hid (World.heap_new _ _ _ rfl)
        have HBA : Hid (base ≤ (wd.alloc (.cells #[.slice Bx x2.length dx] 38)).heap.size) := Lib.hid (by simp; omega)
        have HFC : Hid (EB true (wd.alloc (.cells #[.slice Bx x2.length dx] 38)) F0 wd.heap.size 0 x2) := Lib.hid (by
          have e := block_cell HBK.out 0
          exact ⟨_, _, e.1, fun _ => e.2, HRX.out.below hal⟩)
        have HFF : Hid (∀ b, F0 b → b < (wd.alloc (.cells #[.slice Bx x2.length dx] 38)).heap.size ∧ Off (some ⟨g, 0, none⟩) b ∧ ¬ T2' b) := Lib.hid (by
          intro b hb
          have h1 := HD1.out b (HF0.out b hb)
          have h2 := HT1.out b h1.1
          refine ⟨by simp; omega, fun a' ha' => ?_, h1.2⟩
          injection ha' with ha'
          subst ha'
          simp only
          omega)
        clear hal hbd
        go_wp2_with (at_builtin; refine wpList_appV (R := EB true) (u := true) (w0 := wd) (xs := l) (y := x2) (Fn := F0) (T := T2') (gb := wd.heap.size) rfl EB.mov (.tmp 20) (.tmp 26) 29 rfl 38 i0 (.slice none 0 0) 24 Try.underlying29 hI0 hz0 hz1 hz2 rfl (by decide) rfl HOd.out HBW.out #[.slice Bx x2.length dx] 38 HBK.out rfl (by simp [Value.oneCell']) rfl HFC.out HFF.out (by omega) (by decide) HBA.out ?_)
        intro g4 c4 w4 l4 HQ4 HO4 HG4 HC4 HB4
        have hsW : (wd.alloc (.cells #[.slice Bx x2.length dx] 38)).heap.size = wd.heap.size + 1 := by simp
        have hs4 := HC4.out.size
        have hgl4 := HO4.out.lt
        have row : ∀ p : Addr, p.block < wd.heap.size → p.block ≠ g → w4.cell? p = wd.cell? p ∧ w4.frozen? p = wd.frozen? p := fun p hp hne => ⟨(HC4.out.cell (by omega) (fun ⟨a', ha', hb'⟩ => by injection ha' with ha'; subst ha'; exact hne hb')).trans (HBW.out.cell hp), (HC4.out.frozen (by omega) (fun ⟨a', ha', hb'⟩ => by injection ha' with ha'; subst ha'; exact hne hb')).trans (HBW.out.frozen hp)⟩
        have t0 := (row ⟨w.heap.size, 0, none⟩ (by simp only; omega) (by simp only; omega)).1.trans k0
        have t1 := (row ⟨w.heap.size, 1, none⟩ (by simp only; omega) (by simp only; omega)).1.trans k1
        have t2 := (row ⟨w.heap.size + 1, 0, none⟩ (by simp only; omega) (by simp only; omega)).1.trans r0
        have t3 := (row ⟨w.heap.size + 1, 1, none⟩ (by simp only; omega) (by simp only; omega)).1.trans r1
        have u0 := (row ⟨w.heap.size, 0, none⟩ (by simp only; omega) (by simp only; omega)).2.trans z0
        have u1 := (row ⟨w.heap.size, 1, none⟩ (by simp only; omega) (by simp only; omega)).2.trans z1
        have u2 := (row ⟨w.heap.size + 1, 0, none⟩ (by simp only; omega) (by simp only; omega)).2.trans y0
        have u3 := (row ⟨w.heap.size + 1, 1, none⟩ (by simp only; omega) (by simp only; omega)).2.trans y1
        have HT2_ := Lib.hid t2
        have HT3_ := Lib.hid t3
        have HU0 := Lib.hid u0
        have HU1 := Lib.hid u1
        have HU2 := Lib.hid u2
        have HU3 := Lib.hid u3
        have hg4 : g4 = g ∨ g4 = wd.heap.size + 1 := by
          rcases HG4.out with h | h
          · left; injection h with h; injection h with h; exact h.symm
          · right; omega
        have HG4n := Lib.hid hg4
        clear row t2 t3 k0 k1 r0 r1 u2 u3 y0 y1 hg4 z0 z1
        go_wp2_with (go_at_call 73; refine (implNext_any _ _).mono ?_; rintro e w' ⟨rfl, rfl⟩)
        go_roundw
        case rel =>
          have hg4 := HG4n.out
          have hfin : Chg (fun b => b = w.heap.size) w4 ((w4.setCell ⟨w.heap.size, 1, none⟩ (.slice Ar rest.length (c' - 1))).setCell ⟨w.heap.size, 0, none⟩ (.int .i64 (seqN x1))) := Chg.setCell_ (S := fun b => b = w.heap.size) (Chg.setCell_ (S := fun b => b = w.heap.size) (Chg.refl _ _) (p := ⟨w.heap.size, 1, none⟩) rfl _) (p := ⟨w.heap.size, 0, none⟩) rfl _
          have hsz : ((w4.setCell ⟨w.heap.size, 1, none⟩ (.slice Ar rest.length (c' - 1))).setCell ⟨w.heap.size, 0, none⟩ (.int .i64 (seqN x1))).heap.size = w4.heap.size := by simp [World.setCell]
          have hrow : Chg (fun b => b = g) wd w4 := (Chg.of_below HBW.out).trans (HC4.out.mono (fun b _ hb => by obtain ⟨a', ha', hb⟩ := hb; injection ha' with ha'; subst ha'; exact hb))
          have htl := Sl.frame (R := EN true) EN.framed (Sl.frame (R := EN true) EN.framed HTLd.out hrow (fun b h1 h2 => by have h3 := HT1.out b (HD1.out b h1.1).1; omega)) hfin (fun b h1 h2 => by have h3 := HT1.out b (HD1.out b h1.1).1; omega)
          refine ⟨seqN x1, Ar, c' - 1, rest, g4, l4, c4, (fun b => T1' b ∧ ¬ F0 b), (fun b => T2' b ∨ F0 b), rfl, Lib.hid (by rw [HR.out, HXR.out, HQ4.out, relR, if_pos rfl]), Lib.hid (by have := HN.out; rw [HXR.out] at this; rw [HQ4.out]; simp at this ⊢; omega), Lib.hid ?_, ?_, ?_, ?_, ?_, ?_, ?_, ?_, ?_, Lib.hid ?_, HRC.out, Lib.hid ?_, Lib.hid ?_, Lib.hid ?_, by omega, by rw [hsz]; omega⟩
          · exact ⟨hfin.os.trans (hrow.os.trans HCd.out.os), hfin.tape.trans (hrow.tape.trans HCd.out.tape), hfin.output.trans (hrow.output.trans HCd.out.output), by rw [hsz]; have := HCd.out.size; omega, fun k hk hn => (hfin.block k (by omega) (by omega)).trans ((hrow.block k (by have := HCd.out.size; omega) (by omega)).trans (HCd.out.block k hk hn))⟩
          · exact World.cell?_setCell_same _ _ _ (by rw [World.cell?_setCell_other _ _ _ _ (fun e => by injection e with _ e2; omega)]; exact t0)
          · rw [World.cell?_setCell_other _ _ _ _ (fun e => by injection e with _ e2; omega)]; exact World.cell?_setCell_same _ _ _ t1
          · exact (hfin.cell (p := ⟨w.heap.size + 1, 0, none⟩) (by simp only; omega) (by simp only; omega)).trans HT2_.out
          · exact (hfin.cell (p := ⟨w.heap.size + 1, 1, none⟩) (by simp only; omega) (by simp only; omega)).trans HT3_.out
          · exact (World.frozen?_setCell _ _ _ _).trans ((World.frozen?_setCell _ _ _ _).trans HU0.out)
          · exact (World.frozen?_setCell _ _ _ _).trans ((World.frozen?_setCell _ _ _ _).trans HU1.out)
          · exact (World.frozen?_setCell _ _ _ _).trans ((World.frozen?_setCell _ _ _ _).trans HU2.out)
          · exact (World.frozen?_setCell _ _ _ _).trans ((World.frozen?_setCell _ _ _ _).trans HU3.out)
          · intro hne
            have hA := HAR.out (by cases rest with | nil => exact absurd rfl hne | cons _ _ => simp)
            obtain ⟨gz, oz, Fz, q1, q2⟩ := htl hne
            exact ⟨gz, oz, Fz, hA.trans q1, q2⟩
          · exact OwS.frame (R := EB true) EB.framed HO4.out hfin (fun b h1 h2 => by
              rcases h1 with h1 | h1
              · have h3 := HD2.out b h1; have h4 := HT2.out b; have h5 := HT1.out b; rcases h3 with h3 | h3; have := h4 h3; omega; have := h5 h3; omega
              · have h3 := HT1.out b (HD1.out b (HF0.out b h1)).1; omega) (fun a' ha' h2 => by injection ha' with ha'; subst ha'; simp only at h2; omega)
          · intro b hb
            have h3 := HD1.out b hb.1
            exact ⟨h3.1, fun h => by rcases h with h | h; exact h3.2 h; exact hb.2 h⟩
          · intro b hb
            rcases hb with hb | hb
            · exact HD2.out b hb
            · exact .inr (HD1.out b (HF0.out b hb)).1
        case measure =>
          have h1 := HN.out
          have h2 : l4.length = l.length + 1 := by rw [HQ4.out]; simp
          have h3 := hlp
          simp only [lenOf, Array.getD]
          simp [lenOf]
          omega
      · have HRE : Hid (relR st ys bs = (st', ys', l)) := Lib.hid (by rw [HR.out, HXR.out, relR, if_neg hst])
        have hst2 : (x1 == st') = false := by simp [hst]
        go_wp2
        refine wp_region_held_drew (S := (fun w' => w'.cell? ⟨w.heap.size, 0, none⟩ = some (.int .i64 st') ∧ w'.cell? ⟨w.heap.size, 1, none⟩ = some (.slice (some ⟨g1, o1, none⟩) ys'.length c') ∧ w'.cell? ⟨g1, o1, none⟩ = some (.int .i64 x1))) (by kernel_rfl) ?_ (fun hHeld => ?_)
        · first | exact ⟨k0, k1, e0⟩ | (simp [go_sem, *]; done)
        refine wpAnyH_takeW (i := 0) (d := some 6) (v := ?_) (by simp only [List.getElem?_toArray, List.getElem?_cons_succ, List.getElem?_cons_zero]; rfl) (by rfl) (by kernel_rfl) (by kernel_rfl) (by kernel_rfl) (by intro _ _ _ h; exact h) (by rfl) ?_ (by assumption) ?_
        rotate_left 1
        · (intro w hSw; (try dsimp only at hSw); go_simp; try (with_reducible rfl))
        (try simp only [Act.put, List.setIfInBounds_toArray, List.set_cons_zero, List.set_cons_succ])
        refine wpAnyH_takeW (i := 1) (d := some 7) (v := ?_) (by simp only [List.getElem?_toArray, List.getElem?_cons_succ, List.getElem?_cons_zero]; rfl) (by rfl) (by kernel_rfl) (by kernel_rfl) (by kernel_rfl) (by intro _ _ _ h; exact h) (by rfl) ?_ (by assumption) ?_
        rotate_left 1
        · (intro w hSw; (try dsimp only at hSw); go_simp; try (with_reducible rfl))
        (try simp only [Act.put, List.setIfInBounds_toArray, List.set_cons_zero, List.set_cons_succ])
        refine wpAnyH_takeW (i := 2) (d := some 8) (v := ?_) (by simp only [List.getElem?_toArray, List.getElem?_cons_succ, List.getElem?_cons_zero]; rfl) (by rfl) (by kernel_rfl) (by kernel_rfl) (by kernel_rfl) (by intro _ _ _ h; exact h) (by rfl) ?_ (by assumption) ?_
        rotate_left 1
        · (intro w hSw; (try dsimp only at hSw); go_simp; try (with_reducible rfl))
        (try simp only [Act.put, List.setIfInBounds_toArray, List.set_cons_zero, List.set_cons_succ])
        refine wpAnyH_takeW (i := 3) (d := some 9) (v := ?_) (by simp only [List.getElem?_toArray, List.getElem?_cons_succ, List.getElem?_cons_zero]; rfl) (by rfl) (by kernel_rfl) (by kernel_rfl) (by kernel_rfl) (by intro _ _ _ h; exact h) (by rfl) ?_ (by assumption) ?_
        rotate_left 1
        · (intro w hSw; (try dsimp only at hSw); go_simp; try (with_reducible rfl))
        (try simp only [Act.put, List.setIfInBounds_toArray, List.set_cons_zero, List.set_cons_succ])
        refine wpAnyH_takeW (i := 4) (d := some 10) (v := ?_) (by simp only [List.getElem?_toArray, List.getElem?_cons_succ, List.getElem?_cons_zero]; rfl) (by rfl) (by kernel_rfl) (by kernel_rfl) (by kernel_rfl) (by intro _ _ _ h; exact h) (by rfl) ?_ (by assumption) ?_
        rotate_left 1
        · (intro w hSw; (try dsimp only at hSw); go_simp; try (with_reducible rfl))
        (try simp only [Act.put, List.setIfInBounds_toArray, List.set_cons_zero, List.set_cons_succ])
        refine wpAnyH_takeW (i := 5) (d := some 11) (v := ?_) (by simp only [List.getElem?_toArray, List.getElem?_cons_succ, List.getElem?_cons_zero]; rfl) (by rfl) (by kernel_rfl) (by kernel_rfl) (by kernel_rfl) (by intro _ _ _ h; exact h) (by rfl) ?_ (by assumption) ?_
        rotate_left 1
        · (intro w hSw; (try dsimp only at hSw); go_simp; try (with_reducible rfl))
        (try simp only [Act.put, List.setIfInBounds_toArray, List.set_cons_zero, List.set_cons_succ])
        refine wpAnyH_takeW (i := 6) (d := some 12) (v := ?_) (by simp only [List.getElem?_toArray, List.getElem?_cons_succ, List.getElem?_cons_zero]; rfl) (by rfl) (by kernel_rfl) (by kernel_rfl) (by kernel_rfl) (by intro _ _ _ h; exact h) (by rfl) ?_ (by assumption) ?_
        rotate_left 1
        · (intro w hSw; (try dsimp only at hSw); go_simp; try (with_reducible rfl))
        (try simp only [Act.put, List.setIfInBounds_toArray, List.set_cons_zero, List.set_cons_succ])
        refine wpAnyH_takeW (i := 7) (d := some 13) (v := ?_) (by simp only [List.getElem?_toArray, List.getElem?_cons_succ, List.getElem?_cons_zero]; rfl) (by rfl) (by kernel_rfl) (by kernel_rfl) (by kernel_rfl) (by intro _ _ _ h; exact h) (by rfl) ?_ (by assumption) ?_
        rotate_left 1
        · (intro w hSw; (try dsimp only at hSw); go_simp; try (with_reducible rfl))
        (try simp only [Act.put, List.setIfInBounds_toArray, List.set_cons_zero, List.set_cons_succ])
        refine wpAnyH_takeW (i := 8) (d := some 14) (v := ?_) (by simp only [List.getElem?_toArray, List.getElem?_cons_succ, List.getElem?_cons_zero]; rfl) (by rfl) (by kernel_rfl) (by kernel_rfl) (by kernel_rfl) (by intro _ _ _ h; exact h) (by rfl) ?_ (by assumption) ?_
        rotate_left 1
        · (intro w hSw; (try dsimp only at hSw); go_simp; try (with_reducible rfl))
        (try simp only [Act.put, List.setIfInBounds_toArray, List.set_cons_zero, List.set_cons_succ])
        refine wpAnyH_takeW (i := 9) (d := some 15) (v := ?_) (by simp only [List.getElem?_toArray, List.getElem?_cons_succ, List.getElem?_cons_zero]; rfl) (by rfl) (by kernel_rfl) (by kernel_rfl) (by kernel_rfl) (by intro _ _ _ h; exact h) (by rfl) ?_ (by assumption) ?_
        rotate_left 1
        · (intro w hSw; (try dsimp only at hSw); go_simp; try (with_reducible rfl))
        (try simp only [Act.put, List.setIfInBounds_toArray, List.set_cons_zero, List.set_cons_succ])
        refine wpAnyH_takeW (i := 10) (d := some 16) (v := ?_) (by simp only [List.getElem?_toArray, List.getElem?_cons_succ, List.getElem?_cons_zero]; rfl) (by rfl) (by kernel_rfl) (by kernel_rfl) (by kernel_rfl) (by intro _ _ _ h; exact h) (by rfl) ?_ (by assumption) ?_
        rotate_left 1
        · (intro w hSw; (try dsimp only at hSw); go_simp; try (with_reducible rfl))
        (try simp only [Act.put, List.setIfInBounds_toArray, List.set_cons_zero, List.set_cons_succ])
        refine wpAnyH_takeW (i := 11) (d := some 17) (v := ?_) (by simp only [List.getElem?_toArray, List.getElem?_cons_succ, List.getElem?_cons_zero]; rfl) (by rfl) (by kernel_rfl) (by kernel_rfl) (by kernel_rfl) (by intro _ _ _ h; exact h) (by rfl) ?_ (by assumption) ?_
        rotate_left 1
        · (intro w hSw; (try dsimp only at hSw); go_simp; try (with_reducible rfl))
        (try simp only [Act.put, List.setIfInBounds_toArray, List.set_cons_zero, List.set_cons_succ])
        refine wpAnyH_takeW (i := 12) (d := some 18) (v := ?_) (by simp only [List.getElem?_toArray, List.getElem?_cons_succ, List.getElem?_cons_zero]; rfl) (by rfl) (by kernel_rfl) (by kernel_rfl) (by kernel_rfl) (by intro _ _ _ h; exact h) (by rfl) ?_ (by assumption) ?_
        rotate_left 1
        · (intro w hSw; (try dsimp only at hSw); go_simp; try (with_reducible rfl))
        (try simp only [Act.put, List.setIfInBounds_toArray, List.set_cons_zero, List.set_cons_succ])
        refine wpAnyH_takeW (i := 13) (d := some 19) (v := ?_) (by simp only [List.getElem?_toArray, List.getElem?_cons_succ, List.getElem?_cons_zero]; rfl) (by rfl) (by kernel_rfl) (by kernel_rfl) (by kernel_rfl) (by intro _ _ _ h; exact h) (by rfl) ?_ (by assumption) ?_
        rotate_left 1
        · (intro w hSw; (try dsimp only at hSw); go_simp; try (with_reducible rfl))
        (try simp only [Act.put, List.setIfInBounds_toArray, List.set_cons_zero, List.set_cons_succ])
        refine wpAnyH_done (by kernel_rfl) ?_ _
        obtain ⟨wd, hwd⟩ : ∃ wd, wd = wr.drew := ⟨_, rfl⟩
        rw [← hwd]
        have hbd : Below wr.heap.size wr wd := by rw [hwd]; exact Below.drew (Below.refl _ _)
        have hsd := hbd.size
        clear hwd
        replace k0 := (hbd.cell (p := ⟨w.heap.size, 0, none⟩) (by simp only; omega)).trans k0
        replace k1 := (hbd.cell (p := ⟨w.heap.size, 1, none⟩) (by simp only; omega)).trans k1
        replace r0 := (hbd.cell (p := ⟨w.heap.size + 1, 0, none⟩) (by simp only; omega)).trans r0
        replace r1 := (hbd.cell (p := ⟨w.heap.size + 1, 1, none⟩) (by simp only; omega)).trans r1
        replace z0 := (hbd.frozen (p := ⟨w.heap.size, 0, none⟩) (by simp only; omega)).trans z0
        replace z1 := (hbd.frozen (p := ⟨w.heap.size, 1, none⟩) (by simp only; omega)).trans z1
        replace y0 := (hbd.frozen (p := ⟨w.heap.size + 1, 0, none⟩) (by simp only; omega)).trans y0
        replace y1 := (hbd.frozen (p := ⟨w.heap.size + 1, 1, none⟩) (by simp only; omega)).trans y1
        have HSd := Lib.hid (Sl.below (R := EN true) EN.framed HS.out hbd)
        have HOd := Lib.hid (OwS.below (R := EB true) EB.framed HO.out hbd)
        have HCd := Lib.hid (HC.out.trans (Chg.of_below hbd))
        have hfin : Chg (fun b => b = w.heap.size + 1) wd ((wd.setCell ⟨w.heap.size + 1, 0, none⟩ (.int .i64 st')).setCell ⟨w.heap.size + 1, 1, none⟩ (.slice (some ⟨g1, o1, none⟩) ys'.length c')) := Chg.setCell_ (S := fun b => b = w.heap.size + 1) (Chg.setCell_ (S := fun b => b = w.heap.size + 1) (Chg.refl _ _) (p := ⟨w.heap.size + 1, 0, none⟩) rfl _) (p := ⟨w.heap.size + 1, 1, none⟩) rfl _
        have hv0 : ((wd.setCell ⟨w.heap.size + 1, 0, none⟩ (.int .i64 st')).setCell ⟨w.heap.size + 1, 1, none⟩ (.slice (some ⟨g1, o1, none⟩) ys'.length c')).cell? ⟨w.heap.size + 1, 0, none⟩ = some (.int .i64 st') := by rw [World.cell?_setCell_other _ _ _ _ (fun e => by injection e with _ e2; omega)]; exact World.cell?_setCell_same _ _ _ r0
        have hv1 : ((wd.setCell ⟨w.heap.size + 1, 0, none⟩ (.int .i64 st')).setCell ⟨w.heap.size + 1, 1, none⟩ (.slice (some ⟨g1, o1, none⟩) ys'.length c')).cell? ⟨w.heap.size + 1, 1, none⟩ = some (.slice (some ⟨g1, o1, none⟩) ys'.length c') := World.cell?_setCell_same (u := .slice none 0 0) _ _ _ (by rw [World.cell?_setCell_other _ _ _ _ (fun e => by injection e with _ e2; omega)]; exact r1)
        have HF := Lib.hid hfin
        have HV0 := Lib.hid hv0
        have HV1 := Lib.hid hv1
        clear hfin hv0 hv1
        go_wp2
        refine bodyPost_ret (v := .tuple #[.agg #[.int .i64 st', .slice (some ⟨g1, o1, none⟩) ys'.length c'], .slice (some ⟨g, 0, none⟩) l.length cl]) (by simp [results, Try.results61, go_sem, HV0.out, HV1.out]) rfl ?_
        rw [HRE.out]
        refine ⟨some ⟨g1, o1, none⟩, c', g, cl, T1', T2', rfl, ?_, hcap', HD1.out, HD2.out, Sl.frame (R := EN true) EN.framed HSd.out HF.out (fun b h1 h2 => by have := HT1.out b (HD1.out b h1).1; omega), OwS.frame (R := EB true) EB.framed HOd.out HF.out (fun b h1 h2 => by have h3 := HD2.out b h1; have h4 := HT2.out b; have h5 := HT1.out b; rcases h3 with h3 | h3; have := h4 h3; omega; have := h5 h3; omega) (fun a' ha' h2 => by injection ha' with ha'; subst ha'; exact hgw1 h2), by omega⟩
        exact ⟨HF.out.os.trans HCd.out.os, HF.out.tape.trans HCd.out.tape, HF.out.output.trans HCd.out.output, Nat.le_trans HCd.out.size HF.out.size, fun k hk hn => (HF.out.block k (by have := HCd.out.size; omega) (by omega)).trans (HCd.out.block k hk hn)⟩

set_option maxRecDepth 10000 in
set_option maxHeartbeats 8000000 in
theorem specRel_any {T1 T2 : Nat → Prop} (st : Int) (A : Option Addr) (c : Nat) (ys : List NF) (gb cb : Nat) (bs : List (List Int)) (base : Nat) (w : World) (hy : Sl true 2 (EN true) w T1 A ys) (hcap : ys.length ≤ c) (hn : bs.length + ys.length ≤ 1000000000) (ho : OwS true 1 (EB true) 38 w T2 base (some ⟨gb, 0, none⟩) cb bs)
    (h1 : ∀ b, T1 b → b < w.heap.size ∧ ¬ T2 b ∧ b ≠ gb) (h2 : ∀ b, T2 b → b < w.heap.size) (hbase : base ≤ w.heap.size) :
    Calls Try.prog 56 #[.agg #[.int .i64 st, .slice A ys.length c], .slice (some ⟨gb, 0, none⟩) bs.length cb] w fun e w' => RelC w (relR st ys bs) T1 T2 base gb e w' := by
  obtain ⟨i0, hI0, hz0, hz1, hz2⟩ := info_parts infoBSS
  have HY := Lib.hid hy
  have HOw := Lib.hid ho
  have HT1 := Lib.hid h1
  have HT2 := Lib.hid h2
  have hgbl := ho.lt
  clear hy ho h1 h2
  go_enter Try.func56, Try.ntmps56
  go_wp2
  go_loopw [1] (fun v wr => ∃ (st' : Int) (A' : Option Addr) (c' : Nat) (ys' : List NF) (g : Nat) (l : List (List Int)) (cl : Nat) (T1' T2' : Nat → Prop), v = .slice (some ⟨g, 0, none⟩) l.length cl ∧ Hid (relR st ys bs = relR st' ys' l) ∧ Hid (l.length + ys'.length = bs.length + ys.length) ∧ Hid (Chg (fun b => b = gb) w wr) ∧
      wr.cell? ⟨w.heap.size, 0, none⟩ = some (.int .i64 st') ∧ wr.cell? ⟨w.heap.size, 1, none⟩ = some (.slice A' ys'.length c') ∧ wr.cell? ⟨w.heap.size + 1, 0, none⟩ = some (.int .i64 0) ∧ wr.cell? ⟨w.heap.size + 1, 1, none⟩ = some (.slice none 0 0) ∧ wr.frozen? ⟨w.heap.size, 0, none⟩ = false ∧ wr.frozen? ⟨w.heap.size, 1, none⟩ = false ∧ wr.frozen? ⟨w.heap.size + 1, 0, none⟩ = false ∧ wr.frozen? ⟨w.heap.size + 1, 1, none⟩ = false ∧
      Hid (Sl true 2 (EN true) wr T1' A' ys') ∧ ys'.length ≤ c' ∧ Hid (OwS true 1 (EB true) 38 wr T2' base (some ⟨g, 0, none⟩) cl l) ∧ Hid (∀ b, T1' b → T1 b ∧ ¬ T2' b) ∧ Hid (∀ b, T2' b → T2 b ∨ T1 b) ∧ (g = gb ∨ w.heap.size + 2 ≤ g) ∧ w.heap.size + 1 < wr.heap.size) (fun v _ => bs.length + ys.length - lenOf v)
  case atStart =>
    refine ⟨st, A, c, ys, gb, bs, cb, T1, T2, rfl, Lib.hid rfl, Lib.hid rfl, Lib.hid (Chg.of_below (by repeat (first | (with_reducible exact Below.refl _ _) | (with_reducible refine Below.ext ?_ (by go_size) _ _) | (with_reducible refine Below.alloc ?_ (by go_size) _) | (with_reducible refine Below.setCell ?_ (by go_size) _) | (with_reducible refine Below.drew ?_) | (with_reducible refine Below.drewN_ ?_ _)))), ?_, ?_, ?_, ?_, ?_, ?_, ?_, ?_, Lib.hid (Sl.below (R := EN true) EN.framed HY.out (by repeat (first | (with_reducible exact Below.refl _ _) | (with_reducible refine Below.ext ?_ (by go_size) _ _) | (with_reducible refine Below.alloc ?_ (by go_size) _) | (with_reducible refine Below.setCell ?_ (by go_size) _) | (with_reducible refine Below.drew ?_) | (with_reducible refine Below.drewN_ ?_ _)))), hcap, Lib.hid (OwS.below (R := EB true) EB.framed HOw.out (by repeat (first | (with_reducible exact Below.refl _ _) | (with_reducible refine Below.ext ?_ (by go_size) _ _) | (with_reducible refine Below.alloc ?_ (by go_size) _) | (with_reducible refine Below.setCell ?_ (by go_size) _) | (with_reducible refine Below.drew ?_) | (with_reducible refine Below.drewN_ ?_ _)))), Lib.hid (fun b h => ⟨h, (HT1.out b h).2.1⟩), Lib.hid (fun b h => .inl h), .inl rfl, by simp⟩
    all_goals (simp [go_sem]; try done)
  case round =>
    obtain ⟨st', A', c', ys', g, l, cl, T1', T2', rfl, HR, HN, HC, k0, k1, r0, r1, z0, z1, y0, y1, HS, hcap', HO, HD1, HD2, hgg, hws⟩ := hrel
    have hgl := HO.out.lt
    have hgw0 : ¬ g = w.heap.size := by omega
    have hgw1 : ¬ g = w.heap.size + 1 := by omega
    by_cases hys : ys' = []
    · subst hys
      have HRE : Hid (relR st ys bs = (st', [], l)) := Lib.hid (by rw [HR.out]; rfl)
      simp only [List.length_nil] at k1 hcap'
      go_wp2
      refine wp_region_held_drew (S := (fun w' => w'.cell? ⟨w.heap.size, 0, none⟩ = some (.int .i64 st') ∧ w'.cell? ⟨w.heap.size, 1, none⟩ = some (.slice A' 0 c'))) (by kernel_rfl) ?_ (fun hHeld => ?_)
      · first | exact ⟨k0, k1⟩ | (simp [go_sem, *]; done)
      refine wpAnyH_takeW (i := 0) (d := some 6) (v := ?_) (by simp only [List.getElem?_toArray, List.getElem?_cons_succ, List.getElem?_cons_zero]; rfl) (by rfl) (by kernel_rfl) (by kernel_rfl) (by kernel_rfl) (by intro _ _ _ h; exact h) (by rfl) ?_ (by assumption) ?_
      rotate_left 1
      · (intro w hSw; (try dsimp only at hSw); go_simp; try (with_reducible rfl))
      (try simp only [Act.put, List.setIfInBounds_toArray, List.set_cons_zero, List.set_cons_succ])
      refine wpAnyH_takeW (i := 1) (d := some 7) (v := ?_) (by simp only [List.getElem?_toArray, List.getElem?_cons_succ, List.getElem?_cons_zero]; rfl) (by rfl) (by kernel_rfl) (by kernel_rfl) (by kernel_rfl) (by intro _ _ _ h; exact h) (by rfl) ?_ (by assumption) ?_
      rotate_left 1
      · (intro w hSw; (try dsimp only at hSw); go_simp; try (with_reducible rfl))
      (try simp only [Act.put, List.setIfInBounds_toArray, List.set_cons_zero, List.set_cons_succ])
      refine wpAnyH_takeW (i := 2) (d := some 8) (v := ?_) (by simp only [List.getElem?_toArray, List.getElem?_cons_succ, List.getElem?_cons_zero]; rfl) (by rfl) (by kernel_rfl) (by kernel_rfl) (by kernel_rfl) (by intro _ _ _ h; exact h) (by rfl) ?_ (by assumption) ?_
      rotate_left 1
      · (intro w hSw; (try dsimp only at hSw); go_simp; try (with_reducible rfl))
      (try simp only [Act.put, List.setIfInBounds_toArray, List.set_cons_zero, List.set_cons_succ])
      refine wpAnyH_takeW (i := 3) (d := some 9) (v := ?_) (by simp only [List.getElem?_toArray, List.getElem?_cons_succ, List.getElem?_cons_zero]; rfl) (by rfl) (by kernel_rfl) (by kernel_rfl) (by kernel_rfl) (by intro _ _ _ h; exact h) (by rfl) ?_ (by assumption) ?_
      rotate_left 1
      · (intro w hSw; (try dsimp only at hSw); go_simp; try (with_reducible rfl))
      (try simp only [Act.put, List.setIfInBounds_toArray, List.set_cons_zero, List.set_cons_succ])
      refine wpAnyH_takeW (i := 4) (d := some 10) (v := ?_) (by simp only [List.getElem?_toArray, List.getElem?_cons_succ, List.getElem?_cons_zero]; rfl) (by rfl) (by kernel_rfl) (by kernel_rfl) (by kernel_rfl) (by intro _ _ _ h; exact h) (by rfl) ?_ (by assumption) ?_
      rotate_left 1
      · (intro w hSw; (try dsimp only at hSw); go_simp; try (with_reducible rfl))
      (try simp only [Act.put, List.setIfInBounds_toArray, List.set_cons_zero, List.set_cons_succ])
      refine wpAnyH_takeU (i := 5) (d := some 11) (by simp only [List.getElem?_toArray, List.getElem?_cons_succ, List.getElem?_cons_zero]; rfl) (by rfl) (by kernel_rfl) (by kernel_rfl) (by kernel_rfl) (by intro _ _ _ h; exact h) (by rfl) (by assumption) ?_
      (try simp only [Act.put, List.setIfInBounds_toArray, List.set_cons_zero, List.set_cons_succ])
      refine wpAnyH_takeU (i := 6) (d := some 12) (by simp only [List.getElem?_toArray, List.getElem?_cons_succ, List.getElem?_cons_zero]; rfl) (by rfl) (by kernel_rfl) (by kernel_rfl) (by kernel_rfl) (by intro _ _ _ h; exact h) (by rfl) (by assumption) ?_
      (try simp only [Act.put, List.setIfInBounds_toArray, List.set_cons_zero, List.set_cons_succ])
      refine wpAnyH_takeU (i := 7) (d := some 13) (by simp only [List.getElem?_toArray, List.getElem?_cons_succ, List.getElem?_cons_zero]; rfl) (by rfl) (by kernel_rfl) (by kernel_rfl) (by kernel_rfl) (by intro _ _ _ h; exact h) (by rfl) (by assumption) ?_
      (try simp only [Act.put, List.setIfInBounds_toArray, List.set_cons_zero, List.set_cons_succ])
      refine wpAnyH_takeU (i := 8) (d := some 14) (by simp only [List.getElem?_toArray, List.getElem?_cons_succ, List.getElem?_cons_zero]; rfl) (by rfl) (by kernel_rfl) (by kernel_rfl) (by kernel_rfl) (by intro _ _ _ h; exact h) (by rfl) (by assumption) ?_
      (try simp only [Act.put, List.setIfInBounds_toArray, List.set_cons_zero, List.set_cons_succ])
      refine wpAnyH_takeU (i := 9) (d := some 15) (by simp only [List.getElem?_toArray, List.getElem?_cons_succ, List.getElem?_cons_zero]; rfl) (by rfl) (by kernel_rfl) (by kernel_rfl) (by kernel_rfl) (by intro _ _ _ h; exact h) (by rfl) (by assumption) ?_
      (try simp only [Act.put, List.setIfInBounds_toArray, List.set_cons_zero, List.set_cons_succ])
      refine wpAnyH_takeU (i := 10) (d := some 16) (by simp only [List.getElem?_toArray, List.getElem?_cons_succ, List.getElem?_cons_zero]; rfl) (by rfl) (by kernel_rfl) (by kernel_rfl) (by kernel_rfl) (by intro _ _ _ h; exact h) (by rfl) (by assumption) ?_
      (try simp only [Act.put, List.setIfInBounds_toArray, List.set_cons_zero, List.set_cons_succ])
      refine wpAnyH_takeU (i := 11) (d := some 17) (by simp only [List.getElem?_toArray, List.getElem?_cons_succ, List.getElem?_cons_zero]; rfl) (by rfl) (by kernel_rfl) (by kernel_rfl) (by kernel_rfl) (by intro _ _ _ h; exact h) (by rfl) (by assumption) ?_
      (try simp only [Act.put, List.setIfInBounds_toArray, List.set_cons_zero, List.set_cons_succ])
      refine wpAnyH_takeU (i := 12) (d := some 18) (by simp only [List.getElem?_toArray, List.getElem?_cons_succ, List.getElem?_cons_zero]; rfl) (by rfl) (by kernel_rfl) (by kernel_rfl) (by kernel_rfl) (by intro _ _ _ h; exact h) (by rfl) (by assumption) ?_
      (try simp only [Act.put, List.setIfInBounds_toArray, List.set_cons_zero, List.set_cons_succ])
      refine wpAnyH_takeW (i := 13) (d := some 19) (v := ?_) (by simp only [List.getElem?_toArray, List.getElem?_cons_succ, List.getElem?_cons_zero]; rfl) (by rfl) (by kernel_rfl) (by kernel_rfl) (by kernel_rfl) (by intro _ _ _ h; exact h) (by rfl) ?_ (by assumption) ?_
      rotate_left 1
      · (intro w hSw; (try dsimp only at hSw); go_simp; try (with_reducible rfl))
      (try simp only [Act.put, List.setIfInBounds_toArray, List.set_cons_zero, List.set_cons_succ])
      refine wpAnyH_done (by kernel_rfl) ?_ _
      obtain ⟨wd, hwd⟩ : ∃ wd, wd = wr.drew := ⟨_, rfl⟩
      rw [← hwd]
      have hbd : Below wr.heap.size wr wd := by rw [hwd]; exact Below.drew (Below.refl _ _)
      have hsd := hbd.size
      clear hwd
      replace k0 := (hbd.cell (p := ⟨w.heap.size, 0, none⟩) (by simp only; omega)).trans k0
      replace k1 := (hbd.cell (p := ⟨w.heap.size, 1, none⟩) (by simp only; omega)).trans k1
      replace r0 := (hbd.cell (p := ⟨w.heap.size + 1, 0, none⟩) (by simp only; omega)).trans r0
      replace r1 := (hbd.cell (p := ⟨w.heap.size + 1, 1, none⟩) (by simp only; omega)).trans r1
      replace z0 := (hbd.frozen (p := ⟨w.heap.size, 0, none⟩) (by simp only; omega)).trans z0
      replace z1 := (hbd.frozen (p := ⟨w.heap.size, 1, none⟩) (by simp only; omega)).trans z1
      replace y0 := (hbd.frozen (p := ⟨w.heap.size + 1, 0, none⟩) (by simp only; omega)).trans y0
      replace y1 := (hbd.frozen (p := ⟨w.heap.size + 1, 1, none⟩) (by simp only; omega)).trans y1
      have HSd := Lib.hid (Sl.below (R := EN true) EN.framed HS.out hbd)
      have HOd := Lib.hid (OwS.below (R := EB true) EB.framed HO.out hbd)
      have HCd := Lib.hid (HC.out.trans (Chg.of_below hbd))
      have hfin : Chg (fun b => b = w.heap.size + 1) wd ((wd.setCell ⟨w.heap.size + 1, 0, none⟩ (.int .i64 st')).setCell ⟨w.heap.size + 1, 1, none⟩ (.slice A' 0 c')) := Chg.setCell_ (S := fun b => b = w.heap.size + 1) (Chg.setCell_ (S := fun b => b = w.heap.size + 1) (Chg.refl _ _) (p := ⟨w.heap.size + 1, 0, none⟩) rfl _) (p := ⟨w.heap.size + 1, 1, none⟩) rfl _
      have hv0 : ((wd.setCell ⟨w.heap.size + 1, 0, none⟩ (.int .i64 st')).setCell ⟨w.heap.size + 1, 1, none⟩ (.slice A' 0 c')).cell? ⟨w.heap.size + 1, 0, none⟩ = some (.int .i64 st') := by rw [World.cell?_setCell_other _ _ _ _ (fun e => by injection e with _ e2; omega)]; exact World.cell?_setCell_same _ _ _ r0
      have hv1 : ((wd.setCell ⟨w.heap.size + 1, 0, none⟩ (.int .i64 st')).setCell ⟨w.heap.size + 1, 1, none⟩ (.slice A' 0 c')).cell? ⟨w.heap.size + 1, 1, none⟩ = some (.slice A' 0 c') := World.cell?_setCell_same (u := .slice none 0 0) _ _ _ (by rw [World.cell?_setCell_other _ _ _ _ (fun e => by injection e with _ e2; omega)]; exact r1)
      have HF := Lib.hid hfin
      have HV0 := Lib.hid hv0
      have HV1 := Lib.hid hv1
      clear hfin hv0 hv1
      go_wp2
      refine bodyPost_ret (v := .tuple #[.agg #[.int .i64 st', .slice A' 0 c'], .slice (some ⟨g, 0, none⟩) l.length cl]) (by simp [results, Try.results56, go_sem, HV0.out, HV1.out]) rfl ?_
      rw [HRE.out]
      refine ⟨A', c', g, cl, T1', T2', rfl, ?_, hcap', HD1.out, HD2.out, Sl.frame (R := EN true) EN.framed HSd.out HF.out (fun b h1 h2 => by have := HT1.out b (HD1.out b h1).1; omega), OwS.frame (R := EB true) EB.framed HOd.out HF.out (fun b h1 h2 => by have h3 := HD2.out b h1; have h4 := HT2.out b; have h5 := HT1.out b; rcases h3 with h3 | h3; have := h4 h3; omega; have := h5 h3; omega) (fun a' ha' h2 => by injection ha' with ha'; subst ha'; exact hgw1 h2), by omega⟩
      exact ⟨HF.out.os.trans HCd.out.os, HF.out.tape.trans HCd.out.tape, HF.out.output.trans HCd.out.output, Nat.le_trans HCd.out.size HF.out.size, fun k hk hn => (HF.out.block k (by have := HCd.out.size; omega) (by omega)).trans (HCd.out.block k hk hn)⟩
    · obtain ⟨x, rest, hxr⟩ := List.exists_cons_of_ne_nil hys
      have hlp : 0 < ys'.length := by rw [hxr]; simp
      have hll : l.length ≤ 1000000000 := by have := HN.out; omega
      obtain ⟨g1, o1, F0, rfl, hg1, hg1T, hnF, hF0, ⟨e0, _, ⟨Bx, dx, e1, _, hrx⟩⟩, htl⟩ := Sl.uncons (by have := HS.out; rw [hxr] at this; exact this)
      obtain ⟨x1, x2⟩ := x
      simp only at e0 e1 hrx
      have HXR := Lib.hid hxr
      obtain ⟨Ar, hsl, hAr⟩ := run_tailN (P := Try.prog) (t := 26) (e := 75) Try.underlying26 sizeNF g1 o1 ys'.length rest.length c' (by rw [hxr]; rfl) hcap'
      have HAR := Lib.hid hAr
      have hrl : ys'.length = rest.length + 1 := by rw [hxr]; rfl
      have HRC : Hid (rest.length ≤ c' - 1) := Lib.hid (by omega)
      clear hrl
      have HTL := Lib.hid htl
      have HRX0 := Lib.hid hrx
      have HF0 := Lib.hid hF0
      have hg1w : g1 < w.heap.size := (HT1.out g1 (HD1.out g1 hg1T).1).1
      have hg1g : ¬ g1 = g := by have := (HT1.out g1 (HD1.out g1 hg1T).1).2.2; omega
      have hg1w0 : ¬ g1 = w.heap.size := by omega
      clear htl hrx hF0 hAr hys hxr
      by_cases hst : x1 = st'
      · subst hst
        go_wp2
        refine wp_region_held_drew (S := (fun w' => w'.cell? ⟨w.heap.size, 0, none⟩ = some (.int .i64 x1) ∧ w'.cell? ⟨w.heap.size, 1, none⟩ = some (.slice (some ⟨g1, o1, none⟩) ys'.length c') ∧ w'.cell? ⟨g1, o1, none⟩ = some (.int .i64 x1))) (by kernel_rfl) ?_ (fun hHeld => ?_)
        · first | exact ⟨k0, k1, e0⟩ | (simp [go_sem, *]; done)
        refine wpAnyH_takeW (i := 0) (d := some 6) (v := ?_) (by simp only [List.getElem?_toArray, List.getElem?_cons_succ, List.getElem?_cons_zero]; rfl) (by rfl) (by kernel_rfl) (by kernel_rfl) (by kernel_rfl) (by intro _ _ _ h; exact h) (by rfl) ?_ (by assumption) ?_
        rotate_left 1
        · (intro w hSw; (try dsimp only at hSw); go_simp; try (with_reducible rfl))
        (try simp only [Act.put, List.setIfInBounds_toArray, List.set_cons_zero, List.set_cons_succ])
        refine wpAnyH_takeW (i := 1) (d := some 7) (v := ?_) (by simp only [List.getElem?_toArray, List.getElem?_cons_succ, List.getElem?_cons_zero]; rfl) (by rfl) (by kernel_rfl) (by kernel_rfl) (by kernel_rfl) (by intro _ _ _ h; exact h) (by rfl) ?_ (by assumption) ?_
        rotate_left 1
        · (intro w hSw; (try dsimp only at hSw); go_simp; try (with_reducible rfl))
        (try simp only [Act.put, List.setIfInBounds_toArray, List.set_cons_zero, List.set_cons_succ])
        refine wpAnyH_takeW (i := 2) (d := some 8) (v := ?_) (by simp only [List.getElem?_toArray, List.getElem?_cons_succ, List.getElem?_cons_zero]; rfl) (by rfl) (by kernel_rfl) (by kernel_rfl) (by kernel_rfl) (by intro _ _ _ h; exact h) (by rfl) ?_ (by assumption) ?_
        rotate_left 1
        · (intro w hSw; (try dsimp only at hSw); go_simp; try (with_reducible rfl))
        (try simp only [Act.put, List.setIfInBounds_toArray, List.set_cons_zero, List.set_cons_succ])
        refine wpAnyH_takeW (i := 3) (d := some 9) (v := ?_) (by simp only [List.getElem?_toArray, List.getElem?_cons_succ, List.getElem?_cons_zero]; rfl) (by rfl) (by kernel_rfl) (by kernel_rfl) (by kernel_rfl) (by intro _ _ _ h; exact h) (by rfl) ?_ (by assumption) ?_
        rotate_left 1
        · (intro w hSw; (try dsimp only at hSw); go_simp; try (with_reducible rfl))
        (try simp only [Act.put, List.setIfInBounds_toArray, List.set_cons_zero, List.set_cons_succ])
        refine wpAnyH_takeW (i := 4) (d := some 10) (v := ?_) (by simp only [List.getElem?_toArray, List.getElem?_cons_succ, List.getElem?_cons_zero]; rfl) (by rfl) (by kernel_rfl) (by kernel_rfl) (by kernel_rfl) (by intro _ _ _ h; exact h) (by rfl) ?_ (by assumption) ?_
        rotate_left 1
        · (intro w hSw; (try dsimp only at hSw); go_simp; try (with_reducible rfl))
        (try simp only [Act.put, List.setIfInBounds_toArray, List.set_cons_zero, List.set_cons_succ])
        refine wpAnyH_takeW (i := 5) (d := some 11) (v := ?_) (by simp only [List.getElem?_toArray, List.getElem?_cons_succ, List.getElem?_cons_zero]; rfl) (by rfl) (by kernel_rfl) (by kernel_rfl) (by kernel_rfl) (by intro _ _ _ h; exact h) (by rfl) ?_ (by assumption) ?_
        rotate_left 1
        · (intro w hSw; (try dsimp only at hSw); go_simp; try (with_reducible rfl))
        (try simp only [Act.put, List.setIfInBounds_toArray, List.set_cons_zero, List.set_cons_succ])
        refine wpAnyH_takeW (i := 6) (d := some 12) (v := ?_) (by simp only [List.getElem?_toArray, List.getElem?_cons_succ, List.getElem?_cons_zero]; rfl) (by rfl) (by kernel_rfl) (by kernel_rfl) (by kernel_rfl) (by intro _ _ _ h; exact h) (by rfl) ?_ (by assumption) ?_
        rotate_left 1
        · (intro w hSw; (try dsimp only at hSw); go_simp; try (with_reducible rfl))
        (try simp only [Act.put, List.setIfInBounds_toArray, List.set_cons_zero, List.set_cons_succ])
        refine wpAnyH_takeW (i := 7) (d := some 13) (v := ?_) (by simp only [List.getElem?_toArray, List.getElem?_cons_succ, List.getElem?_cons_zero]; rfl) (by rfl) (by kernel_rfl) (by kernel_rfl) (by kernel_rfl) (by intro _ _ _ h; exact h) (by rfl) ?_ (by assumption) ?_
        rotate_left 1
        · (intro w hSw; (try dsimp only at hSw); go_simp; try (with_reducible rfl))
        (try simp only [Act.put, List.setIfInBounds_toArray, List.set_cons_zero, List.set_cons_succ])
        refine wpAnyH_takeW (i := 8) (d := some 14) (v := ?_) (by simp only [List.getElem?_toArray, List.getElem?_cons_succ, List.getElem?_cons_zero]; rfl) (by rfl) (by kernel_rfl) (by kernel_rfl) (by kernel_rfl) (by intro _ _ _ h; exact h) (by rfl) ?_ (by assumption) ?_
        rotate_left 1
        · (intro w hSw; (try dsimp only at hSw); go_simp; try (with_reducible rfl))
        (try simp only [Act.put, List.setIfInBounds_toArray, List.set_cons_zero, List.set_cons_succ])
        refine wpAnyH_takeW (i := 9) (d := some 15) (v := ?_) (by simp only [List.getElem?_toArray, List.getElem?_cons_succ, List.getElem?_cons_zero]; rfl) (by rfl) (by kernel_rfl) (by kernel_rfl) (by kernel_rfl) (by intro _ _ _ h; exact h) (by rfl) ?_ (by assumption) ?_
        rotate_left 1
        · (intro w hSw; (try dsimp only at hSw); go_simp; try (with_reducible rfl))
        (try simp only [Act.put, List.setIfInBounds_toArray, List.set_cons_zero, List.set_cons_succ])
        refine wpAnyH_takeW (i := 10) (d := some 16) (v := ?_) (by simp only [List.getElem?_toArray, List.getElem?_cons_succ, List.getElem?_cons_zero]; rfl) (by rfl) (by kernel_rfl) (by kernel_rfl) (by kernel_rfl) (by intro _ _ _ h; exact h) (by rfl) ?_ (by assumption) ?_
        rotate_left 1
        · (intro w hSw; (try dsimp only at hSw); go_simp; try (with_reducible rfl))
        (try simp only [Act.put, List.setIfInBounds_toArray, List.set_cons_zero, List.set_cons_succ])
        refine wpAnyH_takeW (i := 11) (d := some 17) (v := ?_) (by simp only [List.getElem?_toArray, List.getElem?_cons_succ, List.getElem?_cons_zero]; rfl) (by rfl) (by kernel_rfl) (by kernel_rfl) (by kernel_rfl) (by intro _ _ _ h; exact h) (by rfl) ?_ (by assumption) ?_
        rotate_left 1
        · (intro w hSw; (try dsimp only at hSw); go_simp; try (with_reducible rfl))
        (try simp only [Act.put, List.setIfInBounds_toArray, List.set_cons_zero, List.set_cons_succ])
        refine wpAnyH_takeW (i := 12) (d := some 18) (v := ?_) (by simp only [List.getElem?_toArray, List.getElem?_cons_succ, List.getElem?_cons_zero]; rfl) (by rfl) (by kernel_rfl) (by kernel_rfl) (by kernel_rfl) (by intro _ _ _ h; exact h) (by rfl) ?_ (by assumption) ?_
        rotate_left 1
        · (intro w hSw; (try dsimp only at hSw); go_simp; try (with_reducible rfl))
        (try simp only [Act.put, List.setIfInBounds_toArray, List.set_cons_zero, List.set_cons_succ])
        refine wpAnyH_takeW (i := 13) (d := some 19) (v := ?_) (by simp only [List.getElem?_toArray, List.getElem?_cons_succ, List.getElem?_cons_zero]; rfl) (by rfl) (by kernel_rfl) (by kernel_rfl) (by kernel_rfl) (by intro _ _ _ h; exact h) (by rfl) ?_ (by assumption) ?_
        rotate_left 1
        · (intro w hSw; (try dsimp only at hSw); go_simp; try (with_reducible rfl))
        (try simp only [Act.put, List.setIfInBounds_toArray, List.set_cons_zero, List.set_cons_succ])
        refine wpAnyH_done (by kernel_rfl) ?_ _
        obtain ⟨wd, hwd⟩ : ∃ wd, wd = wr.drew := ⟨_, rfl⟩
        rw [← hwd]
        have hbd : Below wr.heap.size wr wd := by rw [hwd]; exact Below.drew (Below.refl _ _)
        have hsd := hbd.size
        clear hwd
        replace k0 := (hbd.cell (p := ⟨w.heap.size, 0, none⟩) (by simp only; omega)).trans k0
        replace k1 := (hbd.cell (p := ⟨w.heap.size, 1, none⟩) (by simp only; omega)).trans k1
        replace r0 := (hbd.cell (p := ⟨w.heap.size + 1, 0, none⟩) (by simp only; omega)).trans r0
        replace r1 := (hbd.cell (p := ⟨w.heap.size + 1, 1, none⟩) (by simp only; omega)).trans r1
        replace z0 := (hbd.frozen (p := ⟨w.heap.size, 0, none⟩) (by simp only; omega)).trans z0
        replace z1 := (hbd.frozen (p := ⟨w.heap.size, 1, none⟩) (by simp only; omega)).trans z1
        replace y0 := (hbd.frozen (p := ⟨w.heap.size + 1, 0, none⟩) (by simp only; omega)).trans y0
        replace y1 := (hbd.frozen (p := ⟨w.heap.size + 1, 1, none⟩) (by simp only; omega)).trans y1
        have HSd := Lib.hid (Sl.below (R := EN true) EN.framed HS.out hbd)
        have HOd := Lib.hid (OwS.below (R := EB true) EB.framed HO.out hbd)
        have HCd := Lib.hid (HC.out.trans (Chg.of_below hbd))
        have HTLd := Lib.hid (Sl.below (R := EN true) EN.framed HTL.out hbd)
        have HRX := Lib.hid (HRX0.out.below hbd)
        replace e1 := (hbd.cell (p := ⟨g1, o1 + 1, none⟩) hg1).trans e1
        have hg1d : g1 < wd.heap.size := by omega
        have hal : Below wd.heap.size wd (wd.alloc (.cells #[.slice Bx x2.length dx] 38)) := Below.alloc (Below.refl _ _) (Nat.le_refl _) _
        have HBW := Lib.hid hal
        have HBK : Hid ((wd.alloc (.cells #[.slice Bx x2.length dx] 38)).heap[wd.heap.size]? = some (.cells #[.slice Bx x2.length dx] 38)) := Lib.hid (World.heap_new _ _ _ rfl)
        have HBA : Hid (base ≤ (wd.alloc (.cells #[.slice Bx x2.length dx] 38)).heap.size) := Lib.hid (by simp; omega)
        have HFC : Hid (EB true (wd.alloc (.cells #[.slice Bx x2.length dx] 38)) F0 wd.heap.size 0 x2) := Lib.hid (by
          have e := block_cell HBK.out 0
          exact ⟨_, _, e.1, fun _ => e.2, HRX.out.below hal⟩)
        have HFF : Hid (∀ b, F0 b → b < (wd.alloc (.cells #[.slice Bx x2.length dx] 38)).heap.size ∧ Off (some ⟨g, 0, none⟩) b ∧ ¬ T2' b) := Lib.hid (by
          intro b hb
          have h1 := HD1.out b (HF0.out b hb)
          have h2 := HT1.out b h1.1
          refine ⟨by simp; omega, fun a' ha' => ?_, h1.2⟩
          injection ha' with ha'
          subst ha'
          simp only
          omega)
        clear hal hbd
        go_wp2_with (at_builtin; refine wpList_appV (R := EB true) (u := true) (w0 := wd) (xs := l) (y := x2) (Fn := F0) (T := T2') (gb := wd.heap.size) rfl EB.mov (.tmp 20) (.tmp 26) 29 rfl 38 i0 (.slice none 0 0) 24 Try.underlying29 hI0 hz0 hz1 hz2 rfl (by decide) rfl HOd.out HBW.out #[.slice Bx x2.length dx] 38 HBK.out rfl (by simp [Value.oneCell']) rfl HFC.out HFF.out (by omega) (by decide) HBA.out ?_)
        intro g4 c4 w4 l4 HQ4 HO4 HG4 HC4 HB4
        have hsW : (wd.alloc (.cells #[.slice Bx x2.length dx] 38)).heap.size = wd.heap.size + 1 := by simp
        have hs4 := HC4.out.size
        have hgl4 := HO4.out.lt
        have row : ∀ p : Addr, p.block < wd.heap.size → p.block ≠ g → w4.cell? p = wd.cell? p ∧ w4.frozen? p = wd.frozen? p := fun p hp hne => ⟨(HC4.out.cell (by omega) (fun ⟨a', ha', hb'⟩ => by injection ha' with ha'; subst ha'; exact hne hb')).trans (HBW.out.cell hp), (HC4.out.frozen (by omega) (fun ⟨a', ha', hb'⟩ => by injection ha' with ha'; subst ha'; exact hne hb')).trans (HBW.out.frozen hp)⟩
        have t0 := (row ⟨w.heap.size, 0, none⟩ (by simp only; omega) (by simp only; omega)).1.trans k0
        have t1 := (row ⟨w.heap.size, 1, none⟩ (by simp only; omega) (by simp only; omega)).1.trans k1
        have t2 := (row ⟨w.heap.size + 1, 0, none⟩ (by simp only; omega) (by simp only; omega)).1.trans r0
        have t3 := (row ⟨w.heap.size + 1, 1, none⟩ (by simp only; omega) (by simp only; omega)).1.trans r1
        have u0 := (row ⟨w.heap.size, 0, none⟩ (by simp only; omega) (by simp only; omega)).2.trans z0
        have u1 := (row ⟨w.heap.size, 1, none⟩ (by simp only; omega) (by simp only; omega)).2.trans z1
        have u2 := (row ⟨w.heap.size + 1, 0, none⟩ (by simp only; omega) (by simp only; omega)).2.trans y0
        have u3 := (row ⟨w.heap.size + 1, 1, none⟩ (by simp only; omega) (by simp only; omega)).2.trans y1
        have HT2_ := Lib.hid t2
        have HT3_ := Lib.hid t3
        have HU0 := Lib.hid u0
        have HU1 := Lib.hid u1
        have HU2 := Lib.hid u2
        have HU3 := Lib.hid u3
        have hg4 : g4 = g ∨ g4 = wd.heap.size + 1 := by
          rcases HG4.out with h | h
          · left; injection h with h; injection h with h; exact h.symm
          · right; omega
        have HG4n := Lib.hid hg4
        clear row t2 t3 k0 k1 r0 r1 u2 u3 y0 y1 hg4 z0 z1
        go_wp2_with (go_at_call 77; refine (specNext_any _ _).mono ?_; rintro e w' ⟨rfl, rfl⟩)
        go_roundw
        case rel =>
          have hg4 := HG4n.out
          have hfin : Chg (fun b => b = w.heap.size) w4 ((w4.setCell ⟨w.heap.size, 1, none⟩ (.slice Ar rest.length (c' - 1))).setCell ⟨w.heap.size, 0, none⟩ (.int .i64 (seqN x1))) := Chg.setCell_ (S := fun b => b = w.heap.size) (Chg.setCell_ (S := fun b => b = w.heap.size) (Chg.refl _ _) (p := ⟨w.heap.size, 1, none⟩) rfl _) (p := ⟨w.heap.size, 0, none⟩) rfl _
          have hsz : ((w4.setCell ⟨w.heap.size, 1, none⟩ (.slice Ar rest.length (c' - 1))).setCell ⟨w.heap.size, 0, none⟩ (.int .i64 (seqN x1))).heap.size = w4.heap.size := by simp [World.setCell]
          have hrow : Chg (fun b => b = g) wd w4 := (Chg.of_below HBW.out).trans (HC4.out.mono (fun b _ hb => by obtain ⟨a', ha', hb⟩ := hb; injection ha' with ha'; subst ha'; exact hb))
          have htl := Sl.frame (R := EN true) EN.framed (Sl.frame (R := EN true) EN.framed HTLd.out hrow (fun b h1 h2 => by have h3 := HT1.out b (HD1.out b h1.1).1; omega)) hfin (fun b h1 h2 => by have h3 := HT1.out b (HD1.out b h1.1).1; omega)
          refine ⟨seqN x1, Ar, c' - 1, rest, g4, l4, c4, (fun b => T1' b ∧ ¬ F0 b), (fun b => T2' b ∨ F0 b), rfl, Lib.hid (by rw [HR.out, HXR.out, HQ4.out, relR, if_pos rfl]), Lib.hid (by have := HN.out; rw [HXR.out] at this; rw [HQ4.out]; simp at this ⊢; omega), Lib.hid ?_, ?_, ?_, ?_, ?_, ?_, ?_, ?_, ?_, Lib.hid ?_, HRC.out, Lib.hid ?_, Lib.hid ?_, Lib.hid ?_, by omega, by rw [hsz]; omega⟩
          · exact ⟨hfin.os.trans (hrow.os.trans HCd.out.os), hfin.tape.trans (hrow.tape.trans HCd.out.tape), hfin.output.trans (hrow.output.trans HCd.out.output), by rw [hsz]; have := HCd.out.size; omega, fun k hk hn => (hfin.block k (by omega) (by omega)).trans ((hrow.block k (by have := HCd.out.size; omega) (by omega)).trans (HCd.out.block k hk hn))⟩
          · exact World.cell?_setCell_same _ _ _ (by rw [World.cell?_setCell_other _ _ _ _ (fun e => by injection e with _ e2; omega)]; exact t0)
          · rw [World.cell?_setCell_other _ _ _ _ (fun e => by injection e with _ e2; omega)]; exact World.cell?_setCell_same _ _ _ t1
          · exact (hfin.cell (p := ⟨w.heap.size + 1, 0, none⟩) (by simp only; omega) (by simp only; omega)).trans HT2_.out
          · exact (hfin.cell (p := ⟨w.heap.size + 1, 1, none⟩) (by simp only; omega) (by simp only; omega)).trans HT3_.out
          · exact (World.frozen?_setCell _ _ _ _).trans ((World.frozen?_setCell _ _ _ _).trans HU0.out)
          · exact (World.frozen?_setCell _ _ _ _).trans ((World.frozen?_setCell _ _ _ _).trans HU1.out)
          · exact (World.frozen?_setCell _ _ _ _).trans ((World.frozen?_setCell _ _ _ _).trans HU2.out)
          · exact (World.frozen?_setCell _ _ _ _).trans ((World.frozen?_setCell _ _ _ _).trans HU3.out)
          · intro hne
            have hA := HAR.out (by cases rest with | nil => exact absurd rfl hne | cons _ _ => simp)
            obtain ⟨gz, oz, Fz, q1, q2⟩ := htl hne
            exact ⟨gz, oz, Fz, hA.trans q1, q2⟩
          · exact OwS.frame (R := EB true) EB.framed HO4.out hfin (fun b h1 h2 => by
              rcases h1 with h1 | h1
              · have h3 := HD2.out b h1; have h4 := HT2.out b; have h5 := HT1.out b; rcases h3 with h3 | h3; have := h4 h3; omega; have := h5 h3; omega
              · have h3 := HT1.out b (HD1.out b (HF0.out b h1)).1; omega) (fun a' ha' h2 => by injection ha' with ha'; subst ha'; simp only at h2; omega)
          · intro b hb
            have h3 := HD1.out b hb.1
            exact ⟨h3.1, fun h => by rcases h with h | h; exact h3.2 h; exact hb.2 h⟩
          · intro b hb
            rcases hb with hb | hb
            · exact HD2.out b hb
            · exact .inr (HD1.out b (HF0.out b hb)).1
        case measure =>
          have h1 := HN.out
          have h2 : l4.length = l.length + 1 := by rw [HQ4.out]; simp
          have h3 := hlp
          simp only [lenOf, Array.getD]
          simp [lenOf]
          omega
      · have HRE : Hid (relR st ys bs = (st', ys', l)) := Lib.hid (by rw [HR.out, HXR.out, relR, if_neg hst])
        have hst2 : (x1 == st') = false := by simp [hst]
        go_wp2
        refine wp_region_held_drew (S := (fun w' => w'.cell? ⟨w.heap.size, 0, none⟩ = some (.int .i64 st') ∧ w'.cell? ⟨w.heap.size, 1, none⟩ = some (.slice (some ⟨g1, o1, none⟩) ys'.length c') ∧ w'.cell? ⟨g1, o1, none⟩ = some (.int .i64 x1))) (by kernel_rfl) ?_ (fun hHeld => ?_)
        · first | exact ⟨k0, k1, e0⟩ | (simp [go_sem, *]; done)
        refine wpAnyH_takeW (i := 0) (d := some 6) (v := ?_) (by simp only [List.getElem?_toArray, List.getElem?_cons_succ, List.getElem?_cons_zero]; rfl) (by rfl) (by kernel_rfl) (by kernel_rfl) (by kernel_rfl) (by intro _ _ _ h; exact h) (by rfl) ?_ (by assumption) ?_
        rotate_left 1
        · (intro w hSw; (try dsimp only at hSw); go_simp; try (with_reducible rfl))
        (try simp only [Act.put, List.setIfInBounds_toArray, List.set_cons_zero, List.set_cons_succ])
        refine wpAnyH_takeW (i := 1) (d := some 7) (v := ?_) (by simp only [List.getElem?_toArray, List.getElem?_cons_succ, List.getElem?_cons_zero]; rfl) (by rfl) (by kernel_rfl) (by kernel_rfl) (by kernel_rfl) (by intro _ _ _ h; exact h) (by rfl) ?_ (by assumption) ?_
        rotate_left 1
        · (intro w hSw; (try dsimp only at hSw); go_simp; try (with_reducible rfl))
        (try simp only [Act.put, List.setIfInBounds_toArray, List.set_cons_zero, List.set_cons_succ])
        refine wpAnyH_takeW (i := 2) (d := some 8) (v := ?_) (by simp only [List.getElem?_toArray, List.getElem?_cons_succ, List.getElem?_cons_zero]; rfl) (by rfl) (by kernel_rfl) (by kernel_rfl) (by kernel_rfl) (by intro _ _ _ h; exact h) (by rfl) ?_ (by assumption) ?_
        rotate_left 1
        · (intro w hSw; (try dsimp only at hSw); go_simp; try (with_reducible rfl))
        (try simp only [Act.put, List.setIfInBounds_toArray, List.set_cons_zero, List.set_cons_succ])
        refine wpAnyH_takeW (i := 3) (d := some 9) (v := ?_) (by simp only [List.getElem?_toArray, List.getElem?_cons_succ, List.getElem?_cons_zero]; rfl) (by rfl) (by kernel_rfl) (by kernel_rfl) (by kernel_rfl) (by intro _ _ _ h; exact h) (by rfl) ?_ (by assumption) ?_
        rotate_left 1
        · (intro w hSw; (try dsimp only at hSw); go_simp; try (with_reducible rfl))
        (try simp only [Act.put, List.setIfInBounds_toArray, List.set_cons_zero, List.set_cons_succ])
        refine wpAnyH_takeW (i := 4) (d := some 10) (v := ?_) (by simp only [List.getElem?_toArray, List.getElem?_cons_succ, List.getElem?_cons_zero]; rfl) (by rfl) (by kernel_rfl) (by kernel_rfl) (by kernel_rfl) (by intro _ _ _ h; exact h) (by rfl) ?_ (by assumption) ?_
        rotate_left 1
        · (intro w hSw; (try dsimp only at hSw); go_simp; try (with_reducible rfl))
        (try simp only [Act.put, List.setIfInBounds_toArray, List.set_cons_zero, List.set_cons_succ])
        refine wpAnyH_takeW (i := 5) (d := some 11) (v := ?_) (by simp only [List.getElem?_toArray, List.getElem?_cons_succ, List.getElem?_cons_zero]; rfl) (by rfl) (by kernel_rfl) (by kernel_rfl) (by kernel_rfl) (by intro _ _ _ h; exact h) (by rfl) ?_ (by assumption) ?_
        rotate_left 1
        · (intro w hSw; (try dsimp only at hSw); go_simp; try (with_reducible rfl))
        (try simp only [Act.put, List.setIfInBounds_toArray, List.set_cons_zero, List.set_cons_succ])
        refine wpAnyH_takeW (i := 6) (d := some 12) (v := ?_) (by simp only [List.getElem?_toArray, List.getElem?_cons_succ, List.getElem?_cons_zero]; rfl) (by rfl) (by kernel_rfl) (by kernel_rfl) (by kernel_rfl) (by intro _ _ _ h; exact h) (by rfl) ?_ (by assumption) ?_
        rotate_left 1
        · (intro w hSw; (try dsimp only at hSw); go_simp; try (with_reducible rfl))
        (try simp only [Act.put, List.setIfInBounds_toArray, List.set_cons_zero, List.set_cons_succ])
        refine wpAnyH_takeW (i := 7) (d := some 13) (v := ?_) (by simp only [List.getElem?_toArray, List.getElem?_cons_succ, List.getElem?_cons_zero]; rfl) (by rfl) (by kernel_rfl) (by kernel_rfl) (by kernel_rfl) (by intro _ _ _ h; exact h) (by rfl) ?_ (by assumption) ?_
        rotate_left 1
        · (intro w hSw; (try dsimp only at hSw); go_simp; try (with_reducible rfl))
        (try simp only [Act.put, List.setIfInBounds_toArray, List.set_cons_zero, List.set_cons_succ])
        refine wpAnyH_takeW (i := 8) (d := some 14) (v := ?_) (by simp only [List.getElem?_toArray, List.getElem?_cons_succ, List.getElem?_cons_zero]; rfl) (by rfl) (by kernel_rfl) (by kernel_rfl) (by kernel_rfl) (by intro _ _ _ h; exact h) (by rfl) ?_ (by assumption) ?_
        rotate_left 1
        · (intro w hSw; (try dsimp only at hSw); go_simp; try (with_reducible rfl))
        (try simp only [Act.put, List.setIfInBounds_toArray, List.set_cons_zero, List.set_cons_succ])
        refine wpAnyH_takeW (i := 9) (d := some 15) (v := ?_) (by simp only [List.getElem?_toArray, List.getElem?_cons_succ, List.getElem?_cons_zero]; rfl) (by rfl) (by kernel_rfl) (by kernel_rfl) (by kernel_rfl) (by intro _ _ _ h; exact h) (by rfl) ?_ (by assumption) ?_
        rotate_left 1
        · (intro w hSw; (try dsimp only at hSw); go_simp; try (with_reducible rfl))
        (try simp only [Act.put, List.setIfInBounds_toArray, List.set_cons_zero, List.set_cons_succ])
        refine wpAnyH_takeW (i := 10) (d := some 16) (v := ?_) (by simp only [List.getElem?_toArray, List.getElem?_cons_succ, List.getElem?_cons_zero]; rfl) (by rfl) (by kernel_rfl) (by kernel_rfl) (by kernel_rfl) (by intro _ _ _ h; exact h) (by rfl) ?_ (by assumption) ?_
        rotate_left 1
        · (intro w hSw; (try dsimp only at hSw); go_simp; try (with_reducible rfl))
        (try simp only [Act.put, List.setIfInBounds_toArray, List.set_cons_zero, List.set_cons_succ])
        refine wpAnyH_takeW (i := 11) (d := some 17) (v := ?_) (by simp only [List.getElem?_toArray, List.getElem?_cons_succ, List.getElem?_cons_zero]; rfl) (by rfl) (by kernel_rfl) (by kernel_rfl) (by kernel_rfl) (by intro _ _ _ h; exact h) (by rfl) ?_ (by assumption) ?_
        rotate_left 1
        · (intro w hSw; (try dsimp only at hSw); go_simp; try (with_reducible rfl))
        (try simp only [Act.put, List.setIfInBounds_toArray, List.set_cons_zero, List.set_cons_succ])
        refine wpAnyH_takeW (i := 12) (d := some 18) (v := ?_) (by simp only [List.getElem?_toArray, List.getElem?_cons_succ, List.getElem?_cons_zero]; rfl) (by rfl) (by kernel_rfl) (by kernel_rfl) (by kernel_rfl) (by intro _ _ _ h; exact h) (by rfl) ?_ (by assumption) ?_
        rotate_left 1
        · (intro w hSw; (try dsimp only at hSw); go_simp; try (with_reducible rfl))
        (try simp only [Act.put, List.setIfInBounds_toArray, List.set_cons_zero, List.set_cons_succ])
        refine wpAnyH_takeW (i := 13) (d := some 19) (v := ?_) (by simp only [List.getElem?_toArray, List.getElem?_cons_succ, List.getElem?_cons_zero]; rfl) (by rfl) (by kernel_rfl) (by kernel_rfl) (by kernel_rfl) (by intro _ _ _ h; exact h) (by rfl) ?_ (by assumption) ?_
        rotate_left 1
        · (intro w hSw; (try dsimp only at hSw); go_simp; try (with_reducible rfl))
        (try simp only [Act.put, List.setIfInBounds_toArray, List.set_cons_zero, List.set_cons_succ])
        refine wpAnyH_done (by kernel_rfl) ?_ _
        obtain ⟨wd, hwd⟩ : ∃ wd, wd = wr.drew := ⟨_, rfl⟩
        rw [← hwd]
        have hbd : Below wr.heap.size wr wd := by rw [hwd]; exact Below.drew (Below.refl _ _)
        have hsd := hbd.size
        clear hwd
        replace k0 := (hbd.cell (p := ⟨w.heap.size, 0, none⟩) (by simp only; omega)).trans k0
        replace k1 := (hbd.cell (p := ⟨w.heap.size, 1, none⟩) (by simp only; omega)).trans k1
        replace r0 := (hbd.cell (p := ⟨w.heap.size + 1, 0, none⟩) (by simp only; omega)).trans r0
        replace r1 := (hbd.cell (p := ⟨w.heap.size + 1, 1, none⟩) (by simp only; omega)).trans r1
        replace z0 := (hbd.frozen (p := ⟨w.heap.size, 0, none⟩) (by simp only; omega)).trans z0
        replace z1 := (hbd.frozen (p := ⟨w.heap.size, 1, none⟩) (by simp only; omega)).trans z1
        replace y0 := (hbd.frozen (p := ⟨w.heap.size + 1, 0, none⟩) (by simp only; omega)).trans y0
        replace y1 := (hbd.frozen (p := ⟨w.heap.size + 1, 1, none⟩) (by simp only; omega)).trans y1
        have HSd := Lib.hid (Sl.below (R := EN true) EN.framed HS.out hbd)
        have HOd := Lib.hid (OwS.below (R := EB true) EB.framed HO.out hbd)
        have HCd := Lib.hid (HC.out.trans (Chg.of_below hbd))
        have hfin : Chg (fun b => b = w.heap.size + 1) wd ((wd.setCell ⟨w.heap.size + 1, 0, none⟩ (.int .i64 st')).setCell ⟨w.heap.size + 1, 1, none⟩ (.slice (some ⟨g1, o1, none⟩) ys'.length c')) := Chg.setCell_ (S := fun b => b = w.heap.size + 1) (Chg.setCell_ (S := fun b => b = w.heap.size + 1) (Chg.refl _ _) (p := ⟨w.heap.size + 1, 0, none⟩) rfl _) (p := ⟨w.heap.size + 1, 1, none⟩) rfl _
        have hv0 : ((wd.setCell ⟨w.heap.size + 1, 0, none⟩ (.int .i64 st')).setCell ⟨w.heap.size + 1, 1, none⟩ (.slice (some ⟨g1, o1, none⟩) ys'.length c')).cell? ⟨w.heap.size + 1, 0, none⟩ = some (.int .i64 st') := by rw [World.cell?_setCell_other _ _ _ _ (fun e => by injection e with _ e2; omega)]; exact World.cell?_setCell_same _ _ _ r0
        have hv1 : ((wd.setCell ⟨w.heap.size + 1, 0, none⟩ (.int .i64 st')).setCell ⟨w.heap.size + 1, 1, none⟩ (.slice (some ⟨g1, o1, none⟩) ys'.length c')).cell? ⟨w.heap.size + 1, 1, none⟩ = some (.slice (some ⟨g1, o1, none⟩) ys'.length c') := World.cell?_setCell_same (u := .slice none 0 0) _ _ _ (by rw [World.cell?_setCell_other _ _ _ _ (fun e => by injection e with _ e2; omega)]; exact r1)
        have HF := Lib.hid hfin
        have HV0 := Lib.hid hv0
        have HV1 := Lib.hid hv1
        clear hfin hv0 hv1
        go_wp2
        refine bodyPost_ret (v := .tuple #[.agg #[.int .i64 st', .slice (some ⟨g1, o1, none⟩) ys'.length c'], .slice (some ⟨g, 0, none⟩) l.length cl]) (by simp [results, Try.results56, go_sem, HV0.out, HV1.out]) rfl ?_
        rw [HRE.out]
        refine ⟨some ⟨g1, o1, none⟩, c', g, cl, T1', T2', rfl, ?_, hcap', HD1.out, HD2.out, Sl.frame (R := EN true) EN.framed HSd.out HF.out (fun b h1 h2 => by have := HT1.out b (HD1.out b h1).1; omega), OwS.frame (R := EB true) EB.framed HOd.out HF.out (fun b h1 h2 => by have h3 := HD2.out b h1; have h4 := HT2.out b; have h5 := HT1.out b; rcases h3 with h3 | h3; have := h4 h3; omega; have := h5 h3; omega) (fun a' ha' h2 => by injection ha' with ha'; subst ha'; exact hgw1 h2), by omega⟩
        exact ⟨HF.out.os.trans HCd.out.os, HF.out.tape.trans HCd.out.tape, HF.out.output.trans HCd.out.output, Nat.le_trans HCd.out.size HF.out.size, fun k hk hn => (HF.out.block k (by have := HCd.out.size; omega) (by omega)).trans (HCd.out.block k hk hn)⟩

end Go.Proofs.Ytnfgdgmmbddmgaa
