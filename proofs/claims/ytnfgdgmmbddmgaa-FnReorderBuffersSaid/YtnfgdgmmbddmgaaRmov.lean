/- l22Move of the reference: what lies before a number is given up. -/
import Derived.Test.YtnfgdgmmbddmgaaRrel
namespace Go.Proofs.Ytnfgdgmmbddmgaa
open Go.RowKit
set_option linter.unusedVariables false
set_option linter.unusedSimpArgs false

def movR (st d : Int) : List NF → List (List Int) → List NF × List (List Int)
  | [], bs => ([], bs)
  | x :: xs, bs => if seqD st x.1 < d then movR st d xs (bs ++ [x.2]) else (x :: xs, bs)
theorem movR_len (st d : Int) : ∀ (ys : List NF) (bs : List (List Int)), (movR st d ys bs).2.length + (movR st d ys bs).1.length = bs.length + ys.length
  | [], bs => rfl
  | x :: xs, bs => by
    unfold movR
    split
    · rw [movR_len st d xs]; simp; omega
    · rfl
def MovC (w : World) (q : Int) (r : List NF × List (List Int)) (T1 : Nat → Prop) (e : Ending) (w' : World) : Prop := ∃ A' c' gb' cb' T1' T2', e = .returned (.tuple #[.agg #[.int .i64 q, .slice A' r.1.length c'], .slice (some ⟨gb', 0, none⟩) r.2.length cb']) ∧ Below w.heap.size w w' ∧ r.1.length ≤ c' ∧
  (∀ b, T1' b → T1 b ∧ ¬ T2' b) ∧ (∀ b, T2' b → T1 b) ∧ Sl true 2 (EN true) w' T1' A' r.1 ∧ OwS true 1 (EB true) 38 w' T2' (w.heap.size + 2) (some ⟨gb', 0, none⟩) cb' r.2

set_option maxRecDepth 10000 in
set_option maxHeartbeats 8000000 in
theorem specMov_any {T1 : Nat → Prop} (st : Int) (A : Option Addr) (c : Nat) (ys : List NF) (q : Int) (w : World) (hy : Sl true 2 (EN true) w T1 A ys) (hcap : ys.length ≤ c) (hn : ys.length ≤ 1000000000) (h1 : ∀ b, T1 b → b < w.heap.size) :
    Calls Try.prog 55 #[.agg #[.int .i64 st, .slice A ys.length c], .int .i64 q] w fun e w' => MovC w q (movR st (seqD st q) ys []) T1 e w' := by
  obtain ⟨i0, hI0, hz0, hz1, hz2⟩ := info_parts infoBSS
  have HY := Lib.hid hy
  have HT1 := Lib.hid h1
  clear hy h1
  go_enter Try.func55, Try.ntmps55
  go_wp2_with (go_at_call 51; refine (specDist_any st q _).mono ?_; rintro e w' ⟨rfl, rfl⟩)
  go_loopw [6] (fun v wr => ∃ (A' : Option Addr) (c' : Nat) (ys' : List NF) (g : Nat) (l : List (List Int)) (cl : Nat) (T1' T2' : Nat → Prop), v = .slice (some ⟨g, 0, none⟩) l.length cl ∧ Hid (movR st (seqD st q) ys [] = movR st (seqD st q) ys' l) ∧ Hid (l.length + ys'.length = ys.length) ∧ Hid (Below w.heap.size w wr) ∧
      wr.cell? ⟨w.heap.size, 0, none⟩ = some (.int .i64 st) ∧ wr.cell? ⟨w.heap.size, 1, none⟩ = some (.slice A' ys'.length c') ∧ wr.cell? ⟨w.heap.size + 1, 0, none⟩ = some (.int .i64 0) ∧ wr.cell? ⟨w.heap.size + 1, 1, none⟩ = some (.slice none 0 0) ∧ wr.frozen? ⟨w.heap.size, 0, none⟩ = false ∧ wr.frozen? ⟨w.heap.size, 1, none⟩ = false ∧ wr.frozen? ⟨w.heap.size + 1, 0, none⟩ = false ∧ wr.frozen? ⟨w.heap.size + 1, 1, none⟩ = false ∧
      Hid (Sl true 2 (EN true) wr T1' A' ys') ∧ ys'.length ≤ c' ∧ Hid (OwS true 1 (EB true) 38 wr T2' (w.heap.size + 2) (some ⟨g, 0, none⟩) cl l) ∧ Hid (∀ b, T1' b → T1 b ∧ ¬ T2' b) ∧ Hid (∀ b, T2' b → T1 b) ∧ w.heap.size + 2 ≤ g ∧ w.heap.size + 2 ≤ wr.heap.size) (fun v _ => ys.length - lenOf v)
  case atStart =>
    refine ⟨A, c, ys, w.heap.size + 2, [], 0, T1, (fun _ => False), rfl, Lib.hid rfl, Lib.hid (by simp), Lib.hid (by repeat (first | (with_reducible exact Below.refl _ _) | (with_reducible refine Below.ext ?_ (by go_size) _ _) | (with_reducible refine Below.alloc ?_ (by go_size) _) | (with_reducible refine Below.setCell ?_ (by go_size) _) | (with_reducible refine Below.drew ?_) | (with_reducible refine Below.drewN_ ?_ _))), ?_, ?_, ?_, ?_, ?_, ?_, ?_, ?_, Lib.hid (Sl.below (R := EN true) EN.framed HY.out (by repeat (first | (with_reducible exact Below.refl _ _) | (with_reducible refine Below.ext ?_ (by go_size) _ _) | (with_reducible refine Below.alloc ?_ (by go_size) _) | (with_reducible refine Below.setCell ?_ (by go_size) _) | (with_reducible refine Below.drew ?_) | (with_reducible refine Below.drewN_ ?_ _)))), hcap, Lib.hid ?_, Lib.hid (fun b h => ⟨h, fun h => h⟩), Lib.hid (fun b h => h.elim), Nat.le_refl _, by simp⟩
    all_goals first | exact OwS.new (Nat.le_refl _) (World.heap_new _ _ _ (by simp)) | (simp [go_sem]; done)
  case round =>
    obtain ⟨A', c', ys', g, l, cl, T1', T2', rfl, HR, HN, HB, k0, k1, r0, r1, z0, z1, y0, y1, HS, hcap', HO, HD1, HD2, hgg, hws⟩ := hrel
    have hgl := HO.out.lt
    have hgw0 : ¬ g = w.heap.size := by omega
    have hgw1 : ¬ g = w.heap.size + 1 := by omega
    by_cases hys : ys' = []
    · subst hys
      have HRE : Hid (movR st (seqD st q) ys [] = ([], l)) := Lib.hid (by rw [HR.out]; rfl)
      simp only [List.length_nil] at k1 hcap'
      go_wp2
      refine wp_region_held_drew (S := (fun w' => w'.cell? ⟨w.heap.size, 0, none⟩ = some (.int .i64 st) ∧ w'.cell? ⟨w.heap.size, 1, none⟩ = some (.slice A' 0 c'))) (by kernel_rfl) ?_ (fun hHeld => ?_)
      · first | exact ⟨k0, k1⟩ | (simp [go_sem, *]; done)
      refine wpAnyH_takeW (i := 0) (d := some 13) (v := ?_) (by simp only [List.getElem?_toArray, List.getElem?_cons_succ, List.getElem?_cons_zero]; rfl) (by rfl) (by kernel_rfl) (by kernel_rfl) (by kernel_rfl) (by intro _ _ _ h; exact h) (by rfl) ?_ (by assumption) ?_
      rotate_left 1
      · (intro w hSw; (try dsimp only at hSw); go_simp; try (with_reducible rfl))
      (try simp only [Act.put, List.setIfInBounds_toArray, List.set_cons_zero, List.set_cons_succ])
      refine wpAnyH_takeW (i := 1) (d := some 14) (v := ?_) (by simp only [List.getElem?_toArray, List.getElem?_cons_succ, List.getElem?_cons_zero]; rfl) (by rfl) (by kernel_rfl) (by kernel_rfl) (by kernel_rfl) (by intro _ _ _ h; exact h) (by rfl) ?_ (by assumption) ?_
      rotate_left 1
      · (intro w hSw; (try dsimp only at hSw); go_simp; try (with_reducible rfl))
      (try simp only [Act.put, List.setIfInBounds_toArray, List.set_cons_zero, List.set_cons_succ])
      refine wpAnyH_takeW (i := 2) (d := some 15) (v := ?_) (by simp only [List.getElem?_toArray, List.getElem?_cons_succ, List.getElem?_cons_zero]; rfl) (by rfl) (by kernel_rfl) (by kernel_rfl) (by kernel_rfl) (by intro _ _ _ h; exact h) (by rfl) ?_ (by assumption) ?_
      rotate_left 1
      · (intro w hSw; (try dsimp only at hSw); go_simp; try (with_reducible rfl))
      (try simp only [Act.put, List.setIfInBounds_toArray, List.set_cons_zero, List.set_cons_succ])
      refine wpAnyH_takeW (i := 3) (d := some 16) (v := ?_) (by simp only [List.getElem?_toArray, List.getElem?_cons_succ, List.getElem?_cons_zero]; rfl) (by rfl) (by kernel_rfl) (by kernel_rfl) (by kernel_rfl) (by intro _ _ _ h; exact h) (by rfl) ?_ (by assumption) ?_
      rotate_left 1
      · (intro w hSw; (try dsimp only at hSw); go_simp; try (with_reducible rfl))
      (try simp only [Act.put, List.setIfInBounds_toArray, List.set_cons_zero, List.set_cons_succ])
      refine wpAnyH_takeW (i := 4) (d := some 17) (v := ?_) (by simp only [List.getElem?_toArray, List.getElem?_cons_succ, List.getElem?_cons_zero]; rfl) (by rfl) (by kernel_rfl) (by kernel_rfl) (by kernel_rfl) (by intro _ _ _ h; exact h) (by rfl) ?_ (by assumption) ?_
      rotate_left 1
      · (intro w hSw; (try dsimp only at hSw); go_simp; try (with_reducible rfl))
      (try simp only [Act.put, List.setIfInBounds_toArray, List.set_cons_zero, List.set_cons_succ])
      refine wpAnyH_takeU (i := 5) (d := some 18) (by simp only [List.getElem?_toArray, List.getElem?_cons_succ, List.getElem?_cons_zero]; rfl) (by rfl) (by kernel_rfl) (by kernel_rfl) (by kernel_rfl) (by intro _ _ _ h; exact h) (by rfl) (by assumption) ?_
      (try simp only [Act.put, List.setIfInBounds_toArray, List.set_cons_zero, List.set_cons_succ])
      refine wpAnyH_takeU (i := 6) (d := some 19) (by simp only [List.getElem?_toArray, List.getElem?_cons_succ, List.getElem?_cons_zero]; rfl) (by rfl) (by kernel_rfl) (by kernel_rfl) (by kernel_rfl) (by intro _ _ _ h; exact h) (by rfl) (by assumption) ?_
      (try simp only [Act.put, List.setIfInBounds_toArray, List.set_cons_zero, List.set_cons_succ])
      refine wpAnyH_takeU (i := 7) (d := some 20) (by simp only [List.getElem?_toArray, List.getElem?_cons_succ, List.getElem?_cons_zero]; rfl) (by rfl) (by kernel_rfl) (by kernel_rfl) (by kernel_rfl) (by intro _ _ _ h; exact h) (by rfl) (by assumption) ?_
      (try simp only [Act.put, List.setIfInBounds_toArray, List.set_cons_zero, List.set_cons_succ])
      refine wpAnyH_takeU (i := 8) (d := some 21) (by simp only [List.getElem?_toArray, List.getElem?_cons_succ, List.getElem?_cons_zero]; rfl) (by rfl) (by kernel_rfl) (by kernel_rfl) (by kernel_rfl) (by intro _ _ _ h; exact h) (by rfl) (by assumption) ?_
      (try simp only [Act.put, List.setIfInBounds_toArray, List.set_cons_zero, List.set_cons_succ])
      refine wpAnyH_takeU (i := 9) (d := some 22) (by simp only [List.getElem?_toArray, List.getElem?_cons_succ, List.getElem?_cons_zero]; rfl) (by rfl) (by kernel_rfl) (by kernel_rfl) (by kernel_rfl) (by intro _ _ _ h; exact h) (by rfl) (by assumption) ?_
      (try simp only [Act.put, List.setIfInBounds_toArray, List.set_cons_zero, List.set_cons_succ])
      refine wpAnyH_takeU (i := 10) (d := some 23) (by simp only [List.getElem?_toArray, List.getElem?_cons_succ, List.getElem?_cons_zero]; rfl) (by rfl) (by kernel_rfl) (by kernel_rfl) (by kernel_rfl) (by intro _ _ _ h; exact h) (by rfl) (by assumption) ?_
      (try simp only [Act.put, List.setIfInBounds_toArray, List.set_cons_zero, List.set_cons_succ])
      refine wpAnyH_takeU (i := 11) (d := some 24) (by simp only [List.getElem?_toArray, List.getElem?_cons_succ, List.getElem?_cons_zero]; rfl) (by rfl) (by kernel_rfl) (by kernel_rfl) (by kernel_rfl) (by intro _ _ _ h; exact h) (by rfl) (by assumption) ?_
      (try simp only [Act.put, List.setIfInBounds_toArray, List.set_cons_zero, List.set_cons_succ])
      refine wpAnyH_takeU (i := 12) (d := some 25) (by simp only [List.getElem?_toArray, List.getElem?_cons_succ, List.getElem?_cons_zero]; rfl) (by rfl) (by kernel_rfl) (by kernel_rfl) (by kernel_rfl) (by intro _ _ _ h; exact h) (by rfl) (by assumption) ?_
      (try simp only [Act.put, List.setIfInBounds_toArray, List.set_cons_zero, List.set_cons_succ])
      refine wpAnyH_takeU (i := 13) (d := some 26) (by simp only [List.getElem?_toArray, List.getElem?_cons_succ, List.getElem?_cons_zero]; rfl) (by rfl) (by kernel_rfl) (by kernel_rfl) (by kernel_rfl) (by intro _ _ _ h; exact h) (by rfl) (by assumption) ?_
      (try simp only [Act.put, List.setIfInBounds_toArray, List.set_cons_zero, List.set_cons_succ])
      refine wpAnyH_takeU (i := 14) (d := some 27) (by simp only [List.getElem?_toArray, List.getElem?_cons_succ, List.getElem?_cons_zero]; rfl) (by rfl) (by kernel_rfl) (by kernel_rfl) (by kernel_rfl) (by intro _ _ _ h; exact h) (by rfl) (by assumption) ?_
      (try simp only [Act.put, List.setIfInBounds_toArray, List.set_cons_zero, List.set_cons_succ])
      refine wpAnyH_takeW (i := 15) (d := some 28) (v := ?_) (by simp only [List.getElem?_toArray, List.getElem?_cons_succ, List.getElem?_cons_zero]; rfl) (by rfl) (by kernel_rfl) (by kernel_rfl) (by kernel_rfl) (by intro _ _ _ h; exact h) (by rfl) ?_ (by assumption) ?_
      rotate_left 1
      · (intro w hSw; (try dsimp only at hSw); go_simp; try (with_reducible rfl))
      (try simp only [Act.put, List.setIfInBounds_toArray, List.set_cons_zero, List.set_cons_succ])
      refine wpAnyH_done (by kernel_rfl) ?_ _
      obtain ⟨wd, hwd⟩ : ∃ wd, wd = wr.drew := ⟨_, rfl⟩
      rw [← hwd]
      have hbd : Below wr.heap.size wr wd := by rw [hwd]; exact Below.drew (Below.refl _ _)
      have hsd := hbd.size
      clear hwd
      replace k0 := (hbd.cell (p := ⟨w.heap.size, 0, none⟩) (by simp only; omega)).trans k0
      replace k1 := (hbd.cell (p := ⟨w.heap.size, 1, none⟩) (by simp only; omega)).trans k1
      replace r0 := (hbd.cell (p := ⟨w.heap.size + 1, 0, none⟩) (by simp only; omega)).trans r0
      replace r1 := (hbd.cell (p := ⟨w.heap.size + 1, 1, none⟩) (by simp only; omega)).trans r1
      replace z0 := (hbd.frozen (p := ⟨w.heap.size, 0, none⟩) (by simp only; omega)).trans z0
      replace z1 := (hbd.frozen (p := ⟨w.heap.size, 1, none⟩) (by simp only; omega)).trans z1
      replace y0 := (hbd.frozen (p := ⟨w.heap.size + 1, 0, none⟩) (by simp only; omega)).trans y0
      replace y1 := (hbd.frozen (p := ⟨w.heap.size + 1, 1, none⟩) (by simp only; omega)).trans y1
      have HSd := Lib.hid (Sl.below (R := EN true) EN.framed HS.out hbd)
      have HOd := Lib.hid (OwS.below (R := EB true) EB.framed HO.out hbd)
      have HBd := Lib.hid (HB.out.trans (hbd.mono HB.out.size))
      have hst0 : Chg (fun b => b = w.heap.size) wd (wd.setCell ⟨w.heap.size, 0, none⟩ (.int .i64 q)) := Chg.setCell_ (S := fun b => b = w.heap.size) (Chg.refl _ _) (p := ⟨w.heap.size, 0, none⟩) rfl _
      have hfin : Chg (fun b => b = w.heap.size + 1) (wd.setCell ⟨w.heap.size, 0, none⟩ (.int .i64 q)) (((wd.setCell ⟨w.heap.size, 0, none⟩ (.int .i64 q)).setCell ⟨w.heap.size + 1, 0, none⟩ (.int .i64 q)).setCell ⟨w.heap.size + 1, 1, none⟩ (.slice A' 0 c')) := Chg.setCell_ (S := fun b => b = w.heap.size + 1) (Chg.setCell_ (S := fun b => b = w.heap.size + 1) (Chg.refl _ _) (p := ⟨w.heap.size + 1, 0, none⟩) rfl _) (p := ⟨w.heap.size + 1, 1, none⟩) rfl _
      have hsz1 : w.heap.size + 1 < wd.heap.size := by omega
      have s0 := (hst0.cell (p := ⟨w.heap.size + 1, 0, none⟩) hsz1 (by simp only; omega)).trans r0
      have s1 := (hst0.cell (p := ⟨w.heap.size + 1, 1, none⟩) hsz1 (by simp only; omega)).trans r1
      have hv0 : (((wd.setCell ⟨w.heap.size, 0, none⟩ (.int .i64 q)).setCell ⟨w.heap.size + 1, 0, none⟩ (.int .i64 q)).setCell ⟨w.heap.size + 1, 1, none⟩ (.slice A' 0 c')).cell? ⟨w.heap.size + 1, 0, none⟩ = some (.int .i64 q) := by rw [World.cell?_setCell_other _ _ _ _ (fun e => by injection e with _ e2; omega)]; exact World.cell?_setCell_same _ _ _ s0
      have hv1 : (((wd.setCell ⟨w.heap.size, 0, none⟩ (.int .i64 q)).setCell ⟨w.heap.size + 1, 0, none⟩ (.int .i64 q)).setCell ⟨w.heap.size + 1, 1, none⟩ (.slice A' 0 c')).cell? ⟨w.heap.size + 1, 1, none⟩ = some (.slice A' 0 c') := World.cell?_setCell_same (u := .slice none 0 0) _ _ _ (by rw [World.cell?_setCell_other _ _ _ _ (fun e => by injection e with _ e2; omega)]; exact s1)
      have HF0_ := Lib.hid hst0
      have HF := Lib.hid hfin
      have HV0 := Lib.hid hv0
      have HV1 := Lib.hid hv1
      have hw0 : ¬ w.heap.size = w.heap.size + 1 := by omega
      clear hst0 hfin hv0 hv1 s0 s1
      go_wp2
      refine bodyPost_ret (v := .tuple #[.agg #[.int .i64 q, .slice A' 0 c'], .slice (some ⟨g, 0, none⟩) l.length cl]) (by simp [results, Try.results55, go_sem, HV0.out, HV1.out]) rfl ?_
      rw [HRE.out]
      have hsa := HF0_.out.size
      refine ⟨A', c', g, cl, T1', T2', rfl, (HBd.out.trans (HF0_.out.below (by omega) (fun k hk => by omega))).trans (HF.out.below (by omega) (fun k hk => by omega)), hcap', HD1.out, HD2.out, Sl.frame (R := EN true) EN.framed (Sl.frame (R := EN true) EN.framed HSd.out HF0_.out (fun b h1 h2 => by have := HT1.out b (HD1.out b h1).1; omega)) HF.out (fun b h1 h2 => by have := HT1.out b (HD1.out b h1).1; omega), OwS.frame (R := EB true) EB.framed (OwS.frame (R := EB true) EB.framed HOd.out HF0_.out (fun b h1 h2 => by have := HT1.out b (HD2.out b h1); omega) (fun a' ha' h2 => by injection ha' with ha'; subst ha'; exact hgw0 h2)) HF.out (fun b h1 h2 => by have := HT1.out b (HD2.out b h1); omega) (fun a' ha' h2 => by injection ha' with ha'; subst ha'; exact hgw1 h2)⟩
    · obtain ⟨x, rest, hxr⟩ := List.exists_cons_of_ne_nil hys
      have hlp : 0 < ys'.length := by rw [hxr]; simp
      have hll : l.length ≤ 1000000000 := by have := HN.out; omega
      obtain ⟨g1, o1, F0, rfl, hg1, hg1T, hnF, hF0, ⟨e0, _, ⟨Bx, dx, e1, _, hrx⟩⟩, htl⟩ := Sl.uncons (by have := HS.out; rw [hxr] at this; exact this)
      obtain ⟨x1, x2⟩ := x
      simp only at e0 e1 hrx
      have HXR := Lib.hid hxr
      obtain ⟨Ar, hsl, hAr⟩ := run_tailN (P := Try.prog) (t := 26) (e := 75) Try.underlying26 sizeNF g1 o1 ys'.length rest.length c' (by rw [hxr]; rfl) hcap'
      have HAR := Lib.hid hAr
      have hrl : ys'.length = rest.length + 1 := by rw [hxr]; rfl
      have HRC : Hid (rest.length ≤ c' - 1) := Lib.hid (by omega)
      clear hrl
      have HTL := Lib.hid htl
      have HRX0 := Lib.hid hrx
      have HF0 := Lib.hid hF0
      have hg1w := HT1.out g1 (HD1.out g1 hg1T).1
      have hg1g : ¬ g1 = g := by omega
      have hg1w0 : ¬ g1 = w.heap.size := by omega
      clear htl hrx hF0 hAr hys hxr
      by_cases hst : seqD st x1 < seqD st q
      ·
        go_wp2
        refine wp_region_held_drew (S := (fun w' => w'.cell? ⟨w.heap.size, 0, none⟩ = some (.int .i64 st) ∧ w'.cell? ⟨w.heap.size, 1, none⟩ = some (.slice (some ⟨g1, o1, none⟩) ys'.length c') ∧ w'.cell? ⟨g1, o1, none⟩ = some (.int .i64 x1))) (by kernel_rfl) ?_ (fun hHeld => ?_)
        · first | exact ⟨k0, k1, e0⟩ | (simp [go_sem, *]; done)
        refine wpAnyH_takeW (i := 0) (d := some 13) (v := ?_) (by simp only [List.getElem?_toArray, List.getElem?_cons_succ, List.getElem?_cons_zero]; rfl) (by rfl) (by kernel_rfl) (by kernel_rfl) (by kernel_rfl) (by intro _ _ _ h; exact h) (by rfl) ?_ (by assumption) ?_
        rotate_left 1
        · (intro w hSw; (try dsimp only at hSw); go_simp; try (with_reducible rfl))
        (try simp only [Act.put, List.setIfInBounds_toArray, List.set_cons_zero, List.set_cons_succ])
        refine wpAnyH_takeW (i := 1) (d := some 14) (v := ?_) (by simp only [List.getElem?_toArray, List.getElem?_cons_succ, List.getElem?_cons_zero]; rfl) (by rfl) (by kernel_rfl) (by kernel_rfl) (by kernel_rfl) (by intro _ _ _ h; exact h) (by rfl) ?_ (by assumption) ?_
        rotate_left 1
        · (intro w hSw; (try dsimp only at hSw); go_simp; try (with_reducible rfl))
        (try simp only [Act.put, List.setIfInBounds_toArray, List.set_cons_zero, List.set_cons_succ])
        refine wpAnyH_takeW (i := 2) (d := some 15) (v := ?_) (by simp only [List.getElem?_toArray, List.getElem?_cons_succ, List.getElem?_cons_zero]; rfl) (by rfl) (by kernel_rfl) (by kernel_rfl) (by kernel_rfl) (by intro _ _ _ h; exact h) (by rfl) ?_ (by assumption) ?_
        rotate_left 1
        · (intro w hSw; (try dsimp only at hSw); go_simp; try (with_reducible rfl))
        (try simp only [Act.put, List.setIfInBounds_toArray, List.set_cons_zero, List.set_cons_succ])
        refine wpAnyH_takeW (i := 3) (d := some 16) (v := ?_) (by simp only [List.getElem?_toArray, List.getElem?_cons_succ, List.getElem?_cons_zero]; rfl) (by rfl) (by kernel_rfl) (by kernel_rfl) (by kernel_rfl) (by intro _ _ _ h; exact h) (by rfl) ?_ (by assumption) ?_
        rotate_left 1
        · (intro w hSw; (try dsimp only at hSw); go_simp; try (with_reducible rfl))
        (try simp only [Act.put, List.setIfInBounds_toArray, List.set_cons_zero, List.set_cons_succ])
        refine wpAnyH_takeW (i := 4) (d := some 17) (v := ?_) (by simp only [List.getElem?_toArray, List.getElem?_cons_succ, List.getElem?_cons_zero]; rfl) (by rfl) (by kernel_rfl) (by kernel_rfl) (by kernel_rfl) (by intro _ _ _ h; exact h) (by rfl) ?_ (by assumption) ?_
        rotate_left 1
        · (intro w hSw; (try dsimp only at hSw); go_simp; try (with_reducible rfl))
        (try simp only [Act.put, List.setIfInBounds_toArray, List.set_cons_zero, List.set_cons_succ])
        refine wpAnyH_takeW (i := 5) (d := some 18) (v := ?_) (by simp only [List.getElem?_toArray, List.getElem?_cons_succ, List.getElem?_cons_zero]; rfl) (by rfl) (by kernel_rfl) (by kernel_rfl) (by kernel_rfl) (by intro _ _ _ h; exact h) (by rfl) ?_ (by assumption) ?_
        rotate_left 1
        · (intro w hSw; (try dsimp only at hSw); go_simp; try (with_reducible rfl))
        (try simp only [Act.put, List.setIfInBounds_toArray, List.set_cons_zero, List.set_cons_succ])
        refine wpAnyH_takeW (i := 6) (d := some 19) (v := ?_) (by simp only [List.getElem?_toArray, List.getElem?_cons_succ, List.getElem?_cons_zero]; rfl) (by rfl) (by kernel_rfl) (by kernel_rfl) (by kernel_rfl) (by intro _ _ _ h; exact h) (by rfl) ?_ (by assumption) ?_
        rotate_left 1
        · (intro w hSw; (try dsimp only at hSw); go_simp; try (with_reducible rfl))
        (try simp only [Act.put, List.setIfInBounds_toArray, List.set_cons_zero, List.set_cons_succ])
        refine wpAnyH_takeW (i := 7) (d := some 20) (v := ?_) (by simp only [List.getElem?_toArray, List.getElem?_cons_succ, List.getElem?_cons_zero]; rfl) (by rfl) (by kernel_rfl) (by kernel_rfl) (by kernel_rfl) (by intro _ _ _ h; exact h) (by rfl) ?_ (by assumption) ?_
        rotate_left 1
        · (intro w hSw; (try dsimp only at hSw); go_simp; try (with_reducible rfl))
        (try simp only [Act.put, List.setIfInBounds_toArray, List.set_cons_zero, List.set_cons_succ])
        refine wpAnyH_takeW (i := 8) (d := some 21) (v := ?_) (by simp only [List.getElem?_toArray, List.getElem?_cons_succ, List.getElem?_cons_zero]; rfl) (by rfl) (by kernel_rfl) (by kernel_rfl) (by kernel_rfl) (by intro _ _ _ h; exact h) (by rfl) ?_ (by assumption) ?_
        rotate_left 1
        · (intro w hSw; (try dsimp only at hSw); go_simp; try (with_reducible rfl))
        (try simp only [Act.put, List.setIfInBounds_toArray, List.set_cons_zero, List.set_cons_succ])
        refine wpAnyH_takeW (i := 9) (d := some 22) (v := ?_) (by simp only [List.getElem?_toArray, List.getElem?_cons_succ, List.getElem?_cons_zero]; rfl) (by rfl) (by kernel_rfl) (by kernel_rfl) (by kernel_rfl) (by intro _ _ _ h; exact h) (by rfl) ?_ (by assumption) ?_
        rotate_left 1
        · (intro w hSw; (try dsimp only at hSw); go_simp; try (with_reducible rfl))
        (try simp only [Act.put, List.setIfInBounds_toArray, List.set_cons_zero, List.set_cons_succ])
        refine wpAnyH_takeW (i := 10) (d := some 23) (v := ?_) (by simp only [List.getElem?_toArray, List.getElem?_cons_succ, List.getElem?_cons_zero]; rfl) (by rfl) (by kernel_rfl) (by kernel_rfl) (by kernel_rfl) (by intro _ _ _ h; exact h) (by rfl) ?_ (by assumption) ?_
        rotate_left 1
        · (intro w hSw; (try dsimp only at hSw); go_simp; try (with_reducible rfl))
        (try simp only [Act.put, List.setIfInBounds_toArray, List.set_cons_zero, List.set_cons_succ])
        refine wpAnyH_takeW (i := 11) (d := some 24) (v := ?_) (by simp only [List.getElem?_toArray, List.getElem?_cons_succ, List.getElem?_cons_zero]; rfl) (by rfl) (by kernel_rfl) (by kernel_rfl) (by kernel_rfl) (by intro _ _ _ h; exact h) (by rfl) ?_ (by assumption) ?_
        rotate_left 1
        · (intro w hSw; (try dsimp only at hSw); go_simp; try (with_reducible rfl))
        (try simp only [Act.put, List.setIfInBounds_toArray, List.set_cons_zero, List.set_cons_succ])
        refine wpAnyH_takeW (i := 13) (d := some 26) (v := ?_) (by simp only [List.getElem?_toArray, List.getElem?_cons_succ, List.getElem?_cons_zero]; rfl) (by rfl) (by kernel_rfl) (by kernel_rfl) (by kernel_rfl) (by intro _ _ _ h; exact h) (by rfl) ?_ (by assumption) ?_
        rotate_left 1
        · (intro w hSw; (try dsimp only at hSw); go_simp; try (with_reducible rfl))
        (try simp only [Act.put, List.setIfInBounds_toArray, List.set_cons_zero, List.set_cons_succ])
        refine wpAnyH_ready (rs := [12]) (by kernel_rfl) (by simp) ?_
        refine AllReadyH.cons (i := 12) (by simp only [List.getElem?_toArray, List.getElem?_cons_succ, List.getElem?_cons_zero]; rfl) (fun K hK => ?_) AllReadyH.nil
        go_simp
        (go_at_call 51; refine (specDist_any st x1 _).mono ?_; rintro e w' ⟨rfl, rfl⟩)
        go_wp2_with fail
        refine hK.out _ _ ?_ (fun hHeld => ?_)
        · ((try dsimp only); first | exact ⟨k0, k1, e0⟩ | (simp [go_sem, *]; done))
        clear hK K
        (try simp only [Act.put, List.setIfInBounds_toArray, List.set_cons_zero, List.set_cons_succ])
        refine wpAnyH_takeW (i := 14) (d := some 27) (v := ?_) (by simp only [List.getElem?_toArray, List.getElem?_cons_succ, List.getElem?_cons_zero]; rfl) (by rfl) (by kernel_rfl) (by kernel_rfl) (by kernel_rfl) (by intro _ _ _ h; exact h) (by rfl) ?_ (by assumption) ?_
        rotate_left 1
        · (intro w hSw; (try dsimp only at hSw); go_simp; try (with_reducible rfl))
        (try simp only [Act.put, List.setIfInBounds_toArray, List.set_cons_zero, List.set_cons_succ])
        refine wpAnyH_takeW (i := 15) (d := some 28) (v := ?_) (by simp only [List.getElem?_toArray, List.getElem?_cons_succ, List.getElem?_cons_zero]; rfl) (by rfl) (by kernel_rfl) (by kernel_rfl) (by kernel_rfl) (by intro _ _ _ h; exact h) (by rfl) ?_ (by assumption) ?_
        rotate_left 1
        · (intro w hSw; (try dsimp only at hSw); go_simp; try (with_reducible rfl))
        (try simp only [Act.put, List.setIfInBounds_toArray, List.set_cons_zero, List.set_cons_succ])
        refine wpAnyH_done (by kernel_rfl) ?_ _
        obtain ⟨wd, hwd⟩ : ∃ wd, wd = wr.drew := ⟨_, rfl⟩
        rw [← hwd]
        have hbd : Below wr.heap.size wr wd := by rw [hwd]; exact Below.drew (Below.refl _ _)
        have hsd := hbd.size
        clear hwd
        replace k0 := (hbd.cell (p := ⟨w.heap.size, 0, none⟩) (by simp only; omega)).trans k0
        replace k1 := (hbd.cell (p := ⟨w.heap.size, 1, none⟩) (by simp only; omega)).trans k1
        replace r0 := (hbd.cell (p := ⟨w.heap.size + 1, 0, none⟩) (by simp only; omega)).trans r0
        replace r1 := (hbd.cell (p := ⟨w.heap.size + 1, 1, none⟩) (by simp only; omega)).trans r1
        replace z0 := (hbd.frozen (p := ⟨w.heap.size, 0, none⟩) (by simp only; omega)).trans z0
        replace z1 := (hbd.frozen (p := ⟨w.heap.size, 1, none⟩) (by simp only; omega)).trans z1
        replace y0 := (hbd.frozen (p := ⟨w.heap.size + 1, 0, none⟩) (by simp only; omega)).trans y0
        replace y1 := (hbd.frozen (p := ⟨w.heap.size + 1, 1, none⟩) (by simp only; omega)).trans y1
        have HSd := Lib.hid (Sl.below (R := EN true) EN.framed HS.out hbd)
        have HOd := Lib.hid (OwS.below (R := EB true) EB.framed HO.out hbd)
        have HBd := Lib.hid (HB.out.trans (hbd.mono HB.out.size))
        have HTLd := Lib.hid (Sl.below (R := EN true) EN.framed HTL.out hbd)
        have HRX := Lib.hid (HRX0.out.below hbd)
        replace e1 := (hbd.cell (p := ⟨g1, o1 + 1, none⟩) hg1).trans e1
        have hg1d : g1 < wd.heap.size := by omega
        have hal : Below wd.heap.size wd (wd.alloc (.cells #[.slice Bx x2.length dx] 38)) := Below.alloc (Below.refl _ _) (Nat.le_refl _) _
        have HBW := Lib.hid hal
        have HBK : Hid ((wd.alloc (.cells #[.slice Bx x2.length dx] 38)).heap[wd.heap.size]? = some (.cells #[.slice Bx x2.length dx] 38)) := Lib.hid (World.heap_new _ _ _ rfl)
        have HBA : Hid (w.heap.size + 2 ≤ (wd.alloc (.cells #[.slice Bx x2.length dx] 38)).heap.size) := Lib.hid (by simp; omega)
        have HFC : Hid (EB true (wd.alloc (.cells #[.slice Bx x2.length dx] 38)) F0 wd.heap.size 0 x2) := Lib.hid (by
          have e := block_cell HBK.out 0
          exact ⟨_, _, e.1, fun _ => e.2, HRX.out.below hal⟩)
        have HFF : Hid (∀ b, F0 b → b < (wd.alloc (.cells #[.slice Bx x2.length dx] 38)).heap.size ∧ Off (some ⟨g, 0, none⟩) b ∧ ¬ T2' b) := Lib.hid (by
          intro b hb
          have h1 := HD1.out b (HF0.out b hb)
          have h2 := HT1.out b h1.1
          refine ⟨by simp; omega, fun a' ha' => ?_, h1.2⟩
          injection ha' with ha'
          subst ha'
          simp only
          omega)
        clear hal hbd
        go_wp2_with (at_builtin; refine wpList_appV (R := EB true) (u := true) (w0 := wd) (xs := l) (y := x2) (Fn := F0) (T := T2') (gb := wd.heap.size) rfl EB.mov (.tmp 29) (.tmp 35) 29 rfl 38 i0 (.slice none 0 0) 24 Try.underlying29 hI0 hz0 hz1 hz2 rfl (by decide) rfl HOd.out HBW.out #[.slice Bx x2.length dx] 38 HBK.out rfl (by simp [Value.oneCell']) rfl HFC.out HFF.out (by omega) (by decide) HBA.out ?_)
        intro g4 c4 w4 l4 HQ4 HO4 HG4 HC4 HB4
        have hsW : (wd.alloc (.cells #[.slice Bx x2.length dx] 38)).heap.size = wd.heap.size + 1 := by simp
        have hs4 := HC4.out.size
        have hgl4 := HO4.out.lt
        have row : ∀ p : Addr, p.block < wd.heap.size → p.block ≠ g → w4.cell? p = wd.cell? p ∧ w4.frozen? p = wd.frozen? p := fun p hp hne => ⟨(HC4.out.cell (by omega) (fun ⟨a', ha', hb'⟩ => by injection ha' with ha'; subst ha'; exact hne hb')).trans (HBW.out.cell hp), (HC4.out.frozen (by omega) (fun ⟨a', ha', hb'⟩ => by injection ha' with ha'; subst ha'; exact hne hb')).trans (HBW.out.frozen hp)⟩
        have t0 := (row ⟨w.heap.size, 0, none⟩ (by simp only; omega) (by simp only; omega)).1.trans k0
        have t1 := (row ⟨w.heap.size, 1, none⟩ (by simp only; omega) (by simp only; omega)).1.trans k1
        have t2 := (row ⟨w.heap.size + 1, 0, none⟩ (by simp only; omega) (by simp only; omega)).1.trans r0
        have t3 := (row ⟨w.heap.size + 1, 1, none⟩ (by simp only; omega) (by simp only; omega)).1.trans r1
        have u0 := (row ⟨w.heap.size, 0, none⟩ (by simp only; omega) (by simp only; omega)).2.trans z0
        have u1 := (row ⟨w.heap.size, 1, none⟩ (by simp only; omega) (by simp only; omega)).2.trans z1
        have u2 := (row ⟨w.heap.size + 1, 0, none⟩ (by simp only; omega) (by simp only; omega)).2.trans y0
        have u3 := (row ⟨w.heap.size + 1, 1, none⟩ (by simp only; omega) (by simp only; omega)).2.trans y1
        have HT0_ := Lib.hid t0
        have HT2_ := Lib.hid t2
        have HT3_ := Lib.hid t3
        have HU0 := Lib.hid u0
        have HU1 := Lib.hid u1
        have HU2 := Lib.hid u2
        have HU3 := Lib.hid u3
        have hg4 : g4 = g ∨ g4 = wd.heap.size + 1 := by
          rcases HG4.out with h | h
          · left; injection h with h; injection h with h; exact h.symm
          · right; omega
        have HG4n := Lib.hid hg4
        have HSW := Lib.hid hsW
        clear row t2 t3 k0 k1 r0 r1 u2 u3 y0 y1 hg4 z0 z1 hsW
        go_wp2
        go_roundw
        case rel =>
          have hg4 := HG4n.out
          have hsW := HSW.out
          have hfin : Chg (fun b => b = w.heap.size) w4 (w4.setCell ⟨w.heap.size, 1, none⟩ (.slice Ar rest.length (c' - 1))) := Chg.setCell_ (S := fun b => b = w.heap.size) (Chg.refl _ _) (p := ⟨w.heap.size, 1, none⟩) rfl _
          have hsz : (w4.setCell ⟨w.heap.size, 1, none⟩ (.slice Ar rest.length (c' - 1))).heap.size = w4.heap.size := by simp [World.setCell]
          have hrow : Chg (fun b => b = g) wd w4 := (Chg.of_below HBW.out).trans (HC4.out.mono (fun b _ hb => by obtain ⟨a', ha', hb⟩ := hb; injection ha' with ha'; subst ha'; exact hb))
          have htl := Sl.frame (R := EN true) EN.framed (Sl.frame (R := EN true) EN.framed HTLd.out hrow (fun b h1 h2 => by have h3 := HT1.out b (HD1.out b h1.1).1; omega)) hfin (fun b h1 h2 => by have h3 := HT1.out b (HD1.out b h1.1).1; omega)
          refine ⟨Ar, c' - 1, rest, g4, l4, c4, (fun b => T1' b ∧ ¬ F0 b), (fun b => T2' b ∨ F0 b), rfl, Lib.hid (by rw [HR.out, HXR.out, HQ4.out, movR, if_pos hst]), Lib.hid (by have := HN.out; rw [HXR.out] at this; rw [HQ4.out]; simp at this ⊢; omega), Lib.hid (HBd.out.trans ((hrow.below (by omega) (fun k hk => by omega)).trans (hfin.below (by omega) (fun k hk => by omega)))), ?_, ?_, ?_, ?_, ?_, ?_, ?_, ?_, Lib.hid ?_, HRC.out, Lib.hid ?_, Lib.hid ?_, Lib.hid ?_, by omega, by rw [hsz]; omega⟩
          · rw [World.cell?_setCell_other _ _ _ _ (fun e => by injection e with _ e2; omega)]; exact HT0_.out
          · exact World.cell?_setCell_same _ _ _ t1
          · exact (hfin.cell (p := ⟨w.heap.size + 1, 0, none⟩) (by simp only; omega) (by simp only; omega)).trans HT2_.out
          · exact (hfin.cell (p := ⟨w.heap.size + 1, 1, none⟩) (by simp only; omega) (by simp only; omega)).trans HT3_.out
          · exact (World.frozen?_setCell _ _ _ _).trans HU0.out
          · exact (World.frozen?_setCell _ _ _ _).trans HU1.out
          · exact (World.frozen?_setCell _ _ _ _).trans HU2.out
          · exact (World.frozen?_setCell _ _ _ _).trans HU3.out
          · intro hne
            have hA := HAR.out (by cases rest with | nil => exact absurd rfl hne | cons _ _ => simp)
            obtain ⟨gz, oz, Fz, q1, q2⟩ := htl hne
            exact ⟨gz, oz, Fz, hA.trans q1, q2⟩
          · exact OwS.frame (R := EB true) EB.framed HO4.out hfin (fun b h1 h2 => by
              rcases h1 with h1 | h1
              · have h3 := HT1.out b (HD2.out b h1); omega
              · have h3 := HT1.out b (HD1.out b (HF0.out b h1)).1; omega) (fun a' ha' h2 => by injection ha' with ha'; subst ha'; simp only at h2; omega)
          · intro b hb
            have h3 := HD1.out b hb.1
            exact ⟨h3.1, fun h => by rcases h with h | h; exact h3.2 h; exact hb.2 h⟩
          · intro b hb
            rcases hb with hb | hb
            · exact HD2.out b hb
            · exact (HD1.out b (HF0.out b hb)).1
        case measure =>
          have h1 := HN.out
          have h2 : l4.length = l.length + 1 := by rw [HQ4.out]; simp
          have h3 := hlp
          simp only [lenOf, Array.getD]
          simp [lenOf]
          omega
      · have HRE : Hid (movR st (seqD st q) ys [] = (ys', l)) := Lib.hid (by rw [HR.out, HXR.out, movR, if_neg hst])
        go_wp2
        refine wp_region_held_drew (S := (fun w' => w'.cell? ⟨w.heap.size, 0, none⟩ = some (.int .i64 st) ∧ w'.cell? ⟨w.heap.size, 1, none⟩ = some (.slice (some ⟨g1, o1, none⟩) ys'.length c') ∧ w'.cell? ⟨g1, o1, none⟩ = some (.int .i64 x1))) (by kernel_rfl) ?_ (fun hHeld => ?_)
        · first | exact ⟨k0, k1, e0⟩ | (simp [go_sem, *]; done)
        refine wpAnyH_takeW (i := 0) (d := some 13) (v := ?_) (by simp only [List.getElem?_toArray, List.getElem?_cons_succ, List.getElem?_cons_zero]; rfl) (by rfl) (by kernel_rfl) (by kernel_rfl) (by kernel_rfl) (by intro _ _ _ h; exact h) (by rfl) ?_ (by assumption) ?_
        rotate_left 1
        · (intro w hSw; (try dsimp only at hSw); go_simp; try (with_reducible rfl))
        (try simp only [Act.put, List.setIfInBounds_toArray, List.set_cons_zero, List.set_cons_succ])
        refine wpAnyH_takeW (i := 1) (d := some 14) (v := ?_) (by simp only [List.getElem?_toArray, List.getElem?_cons_succ, List.getElem?_cons_zero]; rfl) (by rfl) (by kernel_rfl) (by kernel_rfl) (by kernel_rfl) (by intro _ _ _ h; exact h) (by rfl) ?_ (by assumption) ?_
        rotate_left 1
        · (intro w hSw; (try dsimp only at hSw); go_simp; try (with_reducible rfl))
        (try simp only [Act.put, List.setIfInBounds_toArray, List.set_cons_zero, List.set_cons_succ])
        refine wpAnyH_takeW (i := 2) (d := some 15) (v := ?_) (by simp only [List.getElem?_toArray, List.getElem?_cons_succ, List.getElem?_cons_zero]; rfl) (by rfl) (by kernel_rfl) (by kernel_rfl) (by kernel_rfl) (by intro _ _ _ h; exact h) (by rfl) ?_ (by assumption) ?_
        rotate_left 1
        · (intro w hSw; (try dsimp only at hSw); go_simp; try (with_reducible rfl))
        (try simp only [Act.put, List.setIfInBounds_toArray, List.set_cons_zero, List.set_cons_succ])
        refine wpAnyH_takeW (i := 3) (d := some 16) (v := ?_) (by simp only [List.getElem?_toArray, List.getElem?_cons_succ, List.getElem?_cons_zero]; rfl) (by rfl) (by kernel_rfl) (by kernel_rfl) (by kernel_rfl) (by intro _ _ _ h; exact h) (by rfl) ?_ (by assumption) ?_
        rotate_left 1
        · (intro w hSw; (try dsimp only at hSw); go_simp; try (with_reducible rfl))
        (try simp only [Act.put, List.setIfInBounds_toArray, List.set_cons_zero, List.set_cons_succ])
        refine wpAnyH_takeW (i := 4) (d := some 17) (v := ?_) (by simp only [List.getElem?_toArray, List.getElem?_cons_succ, List.getElem?_cons_zero]; rfl) (by rfl) (by kernel_rfl) (by kernel_rfl) (by kernel_rfl) (by intro _ _ _ h; exact h) (by rfl) ?_ (by assumption) ?_
        rotate_left 1
        · (intro w hSw; (try dsimp only at hSw); go_simp; try (with_reducible rfl))
        (try simp only [Act.put, List.setIfInBounds_toArray, List.set_cons_zero, List.set_cons_succ])
        refine wpAnyH_takeW (i := 5) (d := some 18) (v := ?_) (by simp only [List.getElem?_toArray, List.getElem?_cons_succ, List.getElem?_cons_zero]; rfl) (by rfl) (by kernel_rfl) (by kernel_rfl) (by kernel_rfl) (by intro _ _ _ h; exact h) (by rfl) ?_ (by assumption) ?_
        rotate_left 1
        · (intro w hSw; (try dsimp only at hSw); go_simp; try (with_reducible rfl))
        (try simp only [Act.put, List.setIfInBounds_toArray, List.set_cons_zero, List.set_cons_succ])
        refine wpAnyH_takeW (i := 6) (d := some 19) (v := ?_) (by simp only [List.getElem?_toArray, List.getElem?_cons_succ, List.getElem?_cons_zero]; rfl) (by rfl) (by kernel_rfl) (by kernel_rfl) (by kernel_rfl) (by intro _ _ _ h; exact h) (by rfl) ?_ (by assumption) ?_
        rotate_left 1
        · (intro w hSw; (try dsimp only at hSw); go_simp; try (with_reducible rfl))
        (try simp only [Act.put, List.setIfInBounds_toArray, List.set_cons_zero, List.set_cons_succ])
        refine wpAnyH_takeW (i := 7) (d := some 20) (v := ?_) (by simp only [List.getElem?_toArray, List.getElem?_cons_succ, List.getElem?_cons_zero]; rfl) (by rfl) (by kernel_rfl) (by kernel_rfl) (by kernel_rfl) (by intro _ _ _ h; exact h) (by rfl) ?_ (by assumption) ?_
        rotate_left 1
        · (intro w hSw; (try dsimp only at hSw); go_simp; try (with_reducible rfl))
        (try simp only [Act.put, List.setIfInBounds_toArray, List.set_cons_zero, List.set_cons_succ])
        refine wpAnyH_takeW (i := 8) (d := some 21) (v := ?_) (by simp only [List.getElem?_toArray, List.getElem?_cons_succ, List.getElem?_cons_zero]; rfl) (by rfl) (by kernel_rfl) (by kernel_rfl) (by kernel_rfl) (by intro _ _ _ h; exact h) (by rfl) ?_ (by assumption) ?_
        rotate_left 1
        · (intro w hSw; (try dsimp only at hSw); go_simp; try (with_reducible rfl))
        (try simp only [Act.put, List.setIfInBounds_toArray, List.set_cons_zero, List.set_cons_succ])
        refine wpAnyH_takeW (i := 9) (d := some 22) (v := ?_) (by simp only [List.getElem?_toArray, List.getElem?_cons_succ, List.getElem?_cons_zero]; rfl) (by rfl) (by kernel_rfl) (by kernel_rfl) (by kernel_rfl) (by intro _ _ _ h; exact h) (by rfl) ?_ (by assumption) ?_
        rotate_left 1
        · (intro w hSw; (try dsimp only at hSw); go_simp; try (with_reducible rfl))
        (try simp only [Act.put, List.setIfInBounds_toArray, List.set_cons_zero, List.set_cons_succ])
        refine wpAnyH_takeW (i := 10) (d := some 23) (v := ?_) (by simp only [List.getElem?_toArray, List.getElem?_cons_succ, List.getElem?_cons_zero]; rfl) (by rfl) (by kernel_rfl) (by kernel_rfl) (by kernel_rfl) (by intro _ _ _ h; exact h) (by rfl) ?_ (by assumption) ?_
        rotate_left 1
        · (intro w hSw; (try dsimp only at hSw); go_simp; try (with_reducible rfl))
        (try simp only [Act.put, List.setIfInBounds_toArray, List.set_cons_zero, List.set_cons_succ])
        refine wpAnyH_takeW (i := 11) (d := some 24) (v := ?_) (by simp only [List.getElem?_toArray, List.getElem?_cons_succ, List.getElem?_cons_zero]; rfl) (by rfl) (by kernel_rfl) (by kernel_rfl) (by kernel_rfl) (by intro _ _ _ h; exact h) (by rfl) ?_ (by assumption) ?_
        rotate_left 1
        · (intro w hSw; (try dsimp only at hSw); go_simp; try (with_reducible rfl))
        (try simp only [Act.put, List.setIfInBounds_toArray, List.set_cons_zero, List.set_cons_succ])
        refine wpAnyH_takeW (i := 13) (d := some 26) (v := ?_) (by simp only [List.getElem?_toArray, List.getElem?_cons_succ, List.getElem?_cons_zero]; rfl) (by rfl) (by kernel_rfl) (by kernel_rfl) (by kernel_rfl) (by intro _ _ _ h; exact h) (by rfl) ?_ (by assumption) ?_
        rotate_left 1
        · (intro w hSw; (try dsimp only at hSw); go_simp; try (with_reducible rfl))
        (try simp only [Act.put, List.setIfInBounds_toArray, List.set_cons_zero, List.set_cons_succ])
        refine wpAnyH_ready (rs := [12]) (by kernel_rfl) (by simp) ?_
        refine AllReadyH.cons (i := 12) (by simp only [List.getElem?_toArray, List.getElem?_cons_succ, List.getElem?_cons_zero]; rfl) (fun K hK => ?_) AllReadyH.nil
        go_simp
        (go_at_call 51; refine (specDist_any st x1 _).mono ?_; rintro e w' ⟨rfl, rfl⟩)
        go_wp2_with fail
        refine hK.out _ _ ?_ (fun hHeld => ?_)
        · ((try dsimp only); first | exact ⟨k0, k1, e0⟩ | (simp [go_sem, *]; done))
        clear hK K
        (try simp only [Act.put, List.setIfInBounds_toArray, List.set_cons_zero, List.set_cons_succ])
        refine wpAnyH_takeW (i := 14) (d := some 27) (v := ?_) (by simp only [List.getElem?_toArray, List.getElem?_cons_succ, List.getElem?_cons_zero]; rfl) (by rfl) (by kernel_rfl) (by kernel_rfl) (by kernel_rfl) (by intro _ _ _ h; exact h) (by rfl) ?_ (by assumption) ?_
        rotate_left 1
        · (intro w hSw; (try dsimp only at hSw); go_simp; try (with_reducible rfl))
        (try simp only [Act.put, List.setIfInBounds_toArray, List.set_cons_zero, List.set_cons_succ])
        refine wpAnyH_takeW (i := 15) (d := some 28) (v := ?_) (by simp only [List.getElem?_toArray, List.getElem?_cons_succ, List.getElem?_cons_zero]; rfl) (by rfl) (by kernel_rfl) (by kernel_rfl) (by kernel_rfl) (by intro _ _ _ h; exact h) (by rfl) ?_ (by assumption) ?_
        rotate_left 1
        · (intro w hSw; (try dsimp only at hSw); go_simp; try (with_reducible rfl))
        (try simp only [Act.put, List.setIfInBounds_toArray, List.set_cons_zero, List.set_cons_succ])
        refine wpAnyH_done (by kernel_rfl) ?_ _
        obtain ⟨wd, hwd⟩ : ∃ wd, wd = wr.drew := ⟨_, rfl⟩
        rw [← hwd]
        have hbd : Below wr.heap.size wr wd := by rw [hwd]; exact Below.drew (Below.refl _ _)
        have hsd := hbd.size
        clear hwd
        replace k0 := (hbd.cell (p := ⟨w.heap.size, 0, none⟩) (by simp only; omega)).trans k0
        replace k1 := (hbd.cell (p := ⟨w.heap.size, 1, none⟩) (by simp only; omega)).trans k1
        replace r0 := (hbd.cell (p := ⟨w.heap.size + 1, 0, none⟩) (by simp only; omega)).trans r0
        replace r1 := (hbd.cell (p := ⟨w.heap.size + 1, 1, none⟩) (by simp only; omega)).trans r1
        replace z0 := (hbd.frozen (p := ⟨w.heap.size, 0, none⟩) (by simp only; omega)).trans z0
        replace z1 := (hbd.frozen (p := ⟨w.heap.size, 1, none⟩) (by simp only; omega)).trans z1
        replace y0 := (hbd.frozen (p := ⟨w.heap.size + 1, 0, none⟩) (by simp only; omega)).trans y0
        replace y1 := (hbd.frozen (p := ⟨w.heap.size + 1, 1, none⟩) (by simp only; omega)).trans y1
        have HSd := Lib.hid (Sl.below (R := EN true) EN.framed HS.out hbd)
        have HOd := Lib.hid (OwS.below (R := EB true) EB.framed HO.out hbd)
        have HBd := Lib.hid (HB.out.trans (hbd.mono HB.out.size))
        have hst0 : Chg (fun b => b = w.heap.size) wd (wd.setCell ⟨w.heap.size, 0, none⟩ (.int .i64 q)) := Chg.setCell_ (S := fun b => b = w.heap.size) (Chg.refl _ _) (p := ⟨w.heap.size, 0, none⟩) rfl _
        have hfin : Chg (fun b => b = w.heap.size + 1) (wd.setCell ⟨w.heap.size, 0, none⟩ (.int .i64 q)) (((wd.setCell ⟨w.heap.size, 0, none⟩ (.int .i64 q)).setCell ⟨w.heap.size + 1, 0, none⟩ (.int .i64 q)).setCell ⟨w.heap.size + 1, 1, none⟩ (.slice (some ⟨g1, o1, none⟩) ys'.length c')) := Chg.setCell_ (S := fun b => b = w.heap.size + 1) (Chg.setCell_ (S := fun b => b = w.heap.size + 1) (Chg.refl _ _) (p := ⟨w.heap.size + 1, 0, none⟩) rfl _) (p := ⟨w.heap.size + 1, 1, none⟩) rfl _
        have hsz1 : w.heap.size + 1 < wd.heap.size := by omega
        have s0 := (hst0.cell (p := ⟨w.heap.size + 1, 0, none⟩) hsz1 (by simp only; omega)).trans r0
        have s1 := (hst0.cell (p := ⟨w.heap.size + 1, 1, none⟩) hsz1 (by simp only; omega)).trans r1
        have hv0 : (((wd.setCell ⟨w.heap.size, 0, none⟩ (.int .i64 q)).setCell ⟨w.heap.size + 1, 0, none⟩ (.int .i64 q)).setCell ⟨w.heap.size + 1, 1, none⟩ (.slice (some ⟨g1, o1, none⟩) ys'.length c')).cell? ⟨w.heap.size + 1, 0, none⟩ = some (.int .i64 q) := by rw [World.cell?_setCell_other _ _ _ _ (fun e => by injection e with _ e2; omega)]; exact World.cell?_setCell_same _ _ _ s0
        have hv1 : (((wd.setCell ⟨w.heap.size, 0, none⟩ (.int .i64 q)).setCell ⟨w.heap.size + 1, 0, none⟩ (.int .i64 q)).setCell ⟨w.heap.size + 1, 1, none⟩ (.slice (some ⟨g1, o1, none⟩) ys'.length c')).cell? ⟨w.heap.size + 1, 1, none⟩ = some (.slice (some ⟨g1, o1, none⟩) ys'.length c') := World.cell?_setCell_same (u := .slice none 0 0) _ _ _ (by rw [World.cell?_setCell_other _ _ _ _ (fun e => by injection e with _ e2; omega)]; exact s1)
        have HF0_ := Lib.hid hst0
        have HF := Lib.hid hfin
        have HV0 := Lib.hid hv0
        have HV1 := Lib.hid hv1
        have hw0 : ¬ w.heap.size = w.heap.size + 1 := by omega
        clear hst0 hfin hv0 hv1 s0 s1
        go_wp2
        refine bodyPost_ret (v := .tuple #[.agg #[.int .i64 q, .slice (some ⟨g1, o1, none⟩) ys'.length c'], .slice (some ⟨g, 0, none⟩) l.length cl]) (by simp [results, Try.results55, go_sem, HV0.out, HV1.out]) rfl ?_
        rw [HRE.out]
        have hsa := HF0_.out.size
        refine ⟨(some ⟨g1, o1, none⟩), c', g, cl, T1', T2', rfl, (HBd.out.trans (HF0_.out.below (by omega) (fun k hk => by omega))).trans (HF.out.below (by omega) (fun k hk => by omega)), hcap', HD1.out, HD2.out, Sl.frame (R := EN true) EN.framed (Sl.frame (R := EN true) EN.framed HSd.out HF0_.out (fun b h1 h2 => by have := HT1.out b (HD1.out b h1).1; omega)) HF.out (fun b h1 h2 => by have := HT1.out b (HD1.out b h1).1; omega), OwS.frame (R := EB true) EB.framed (OwS.frame (R := EB true) EB.framed HOd.out HF0_.out (fun b h1 h2 => by have := HT1.out b (HD2.out b h1); omega) (fun a' ha' h2 => by injection ha' with ha'; subst ha'; exact hgw0 h2)) HF.out (fun b h1 h2 => by have := HT1.out b (HD2.out b h1); omega) (fun a' ha' h2 => by injection ha' with ha'; subst ha'; exact hgw1 h2)⟩

end Go.Proofs.Ytnfgdgmmbddmgaa
