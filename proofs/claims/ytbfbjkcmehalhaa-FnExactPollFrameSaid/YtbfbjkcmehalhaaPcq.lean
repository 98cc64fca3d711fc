/- Kept traffic appended in loops: l26Copy of the reference, DropStation of the program. -/
import Derived.Test.YtbfbjkcmehalhaaPcp
namespace Go.Proofs.Ytbfbjkcmehalhaa
open Go.RowKit
set_option linter.unusedVariables false
set_option linter.unusedSimpArgs false

def CpPB (w : World) (xs : List KT) (e : Ending) (w' : World) : Prop := ∃ A c, e = .returned (.agg #[.slice A xs.length c]) ∧ Below w.heap.size w w' ∧ Sl true 4 EKO w' (fun b => w.heap.size ≤ b ∧ b < w'.heap.size) A xs
theorem OwS.off_new {A : Option Addr} {g' n k : Nat} (h : A = some ⟨g', 0, none⟩ ∨ g' = n) (hA : Off A k) (hk : k < n) : Off (some ⟨g', 0, none⟩) k := by
  intro a ha
  injection ha with ha
  subst ha
  rcases h with h | h
  · exact hA _ h
  · simp only; omega
theorem Chg.row_cell {A : Option Addr} {w w' : World} (h : Chg (fun b => ∃ a, A = some a ∧ b = a.block) w w') {p : Addr} (hp : p.block < w.heap.size) (hA : Off A p.block) : w'.cell? p = w.cell? p ∧ w'.frozen? p = w.frozen? p :=
  ⟨h.cell hp (fun ⟨a, ha, hb⟩ => hA a ha hb), h.frozen hp (fun ⟨a, ha, hb⟩ => hA a ha hb)⟩

set_option maxHeartbeats 2000000 in
theorem l26Copy_any {T : Nat → Prop} (A : Option Addr) (c : Nat) (xs : List KT) (w : World) (hx : Sl false 4 (EK false) w T A xs) (hm : xs.length ≤ 1000000000) (hlx : ∀ x ∈ xs, x.fr.length ≤ 1000000000 ∧ ∀ f ∈ x.fr, f.length ≤ 1000000000) :
    Calls Try.prog 42 #[.agg #[.slice A xs.length c]] w fun e w' => CpPB w xs e w' := by
  obtain ⟨i0, hI0, hz0, hz1, hz2⟩ := info_parts infoKT
  have HX := Lib.hid hx
  have HLX := Lib.hid hlx
  clear hx hlx
  go_enter Try.func42, Try.ntmps42
  go_wp2
  go_loopw [4] (fun p wr => ∃ (i : Nat) (A' : Option Addr) (c' : Nat) (q : List KT), i ≤ xs.length ∧ p = .int .i64 (i : Int) ∧ Hid (q = (xs.take i)) ∧ Hid (Below w.heap.size w wr) ∧ Hid (OwS true 4 EKO 51 wr (fun b => w.heap.size + 2 ≤ b ∧ b ≠ w.heap.size + 2) (w.heap.size + 2) A' c' q) ∧ Hid (Off A' w.heap.size) ∧ Hid (Off A' (w.heap.size + 1)) ∧ Hid (Off A' (w.heap.size + 2)) ∧ w.heap.size + 2 < wr.heap.size ∧
      wr.cell? ⟨w.heap.size, 0, none⟩ = some (.slice A xs.length c) ∧ wr.cell? ⟨w.heap.size + 1, 0, none⟩ = some (.slice none 0 0) ∧ wr.cell? ⟨w.heap.size + 2, 0, none⟩ = some (.slice A' q.length c') ∧ wr.frozen? ⟨w.heap.size + 1, 0, none⟩ = false ∧ wr.frozen? ⟨w.heap.size + 2, 0, none⟩ = false)
    (fun p _ => xs.length - (intOf p).toNat)
  case atStart =>
    refine ⟨0, none, 0, [], Nat.zero_le _, rfl, Lib.hid (by simp), Lib.hid (by repeat (first | (with_reducible exact Below.refl _ _) | (with_reducible refine Below.ext ?_ (by go_size) _ _) | (with_reducible refine Below.alloc ?_ (by go_size) _) | (with_reducible refine Below.setCell ?_ (by go_size) _) | (with_reducible refine Below.drew ?_) | (with_reducible refine Below.drewN_ ?_ _))), Lib.hid OwS.nil, Lib.hid (by intro a ha; cases ha), Lib.hid (by intro a ha; cases ha), Lib.hid (by intro a ha; cases ha), by simp, ?_, ?_, ?_, ?_, ?_⟩
    all_goals (simp [go_sem]; try done)
  case round =>
    obtain ⟨i, A', c', q, hi, rfl, HQ, HB, HO, HA0, HA1, HA2, hws, hx0, hx1, hx2, hy1, hy2⟩ := hrel
    have hqi : q.length ≤ 1000000000 := by rw [HQ.out]; refine Nat.le_trans ?_ hm; rw [List.length_take]; omega
    by_cases hlt : i < xs.length
    · obtain ⟨g, o, F, rfl, hg, ⟨hc0, hc1, hc3, _, ⟨B1, d1, hc2, _, hr1⟩⟩, _, _⟩ := HX.out.at_ i hlt
      replace hc0 := (HB.out.cell (p := ⟨g, o + i * 4, none⟩) hg).trans hc0
      replace hc1 := (HB.out.cell (p := ⟨g, o + i * 4 + 1, none⟩) hg).trans hc1
      replace hc2 := (HB.out.cell (p := ⟨g, o + i * 4 + 2, none⟩) hg).trans hc2
      replace hc3 := (HB.out.cell (p := ⟨g, o + i * 4 + 3, none⟩) hg).trans hc3
      have R1 := Lib.hid (Sl.below (R := EB false) EB.framed hr1 HB.out)
      have hfl := (HLX.out _ (List.getElem_mem hlt)).1
      have HXL := Lib.hid (HLX.out _ (List.getElem_mem hlt)).2
      have htk : xs.take (i + 1) = xs.take i ++ [xs[i]] := by rw [List.take_add_one, List.getElem?_eq_getElem hlt]; rfl
      have HTK := Lib.hid htk
      have hlt2 : (i : Int) < (xs.length : Int) := by omega
      have hgw : g < wr.heap.size := by omega
      have HAL : Hid (∀ a, A' = some a → a.block < wr.heap.size) := Lib.hid (by
        intro a' ha'
        obtain ⟨vs, F, h1, _⟩ := HO.out
        rcases h1.2 with ⟨h0, _⟩ | ⟨g', cap', cur, hv, _, hgg, _⟩
        · rw [ha'] at h0; cases h0
        · rw [ha'] at hv
          injection hv with hv
          injection hv with hv
          subst hv
          rcases Nat.lt_or_ge g' wr.heap.size with h | h
          · exact h
          · rw [Array.getElem?_eq_none h] at hgg; cases hgg)
      clear hr1 htk
      generalize xs[i] = x at *
      obtain ⟨s, a, f, l⟩ := x
      simp only at hc0 hc1 hc2 hc3 R1 HXL hfl
      have HEL : Hid (Below wr.heap.size wr (wr.alloc (.cells #[.int .i64 s, .bool a, .slice B1 f.length d1, .int .i64 l] 51))) := Lib.hid (Below.alloc (Below.refl _ _) (Nat.le_refl _) _)
      go_wp2_with fail
      refine (l26Frames_any B1 d1 f _ (Sl.below (R := EB false) EB.framed R1.out HEL.out) hfl HXL.out).mono ?_
      rintro e w2 ⟨g3, c3, rfl, hb2, hcap3, hg3, hg3l, hr2, ho2⟩
      have HO2 := Lib.hid ho2
      clear ho2
      have hs2 := hb2.size
      have hlast : wr.heap.size < (wr.alloc (.cells #[.int .i64 s, .bool a, .slice B1 f.length d1, .int .i64 l] 51)).heap.size := by simp
      have hblk : w2.heap[wr.heap.size]? = some (.cells #[.int .i64 s, .bool a, .slice B1 f.length d1, .int .i64 l] 51) := (hb2.block _ hlast).trans (World.heap_new _ _ _ rfl)
      have e0 := block_cell hblk 0
      have e1 := block_cell hblk 1
      have e2 := block_cell hblk 2
      have e3 := block_cell hblk 3
      simp only [World.size_alloc] at hs2 hg3
      have HB2 : Hid (Below wr.heap.size wr w2) := Lib.hid (HEL.out.trans (hb2.mono (by simp)))
      have k0 : w2.cell? ⟨wr.heap.size, 0, none⟩ = some (.int .i64 s) := e0.1
      have k1 : w2.cell? ⟨wr.heap.size, 1, none⟩ = some (.bool a) := e1.1
      have k2 : w2.cell? ⟨wr.heap.size, 2, none⟩ = some (.slice B1 f.length d1) := e2.1
      have k3 : w2.cell? ⟨wr.heap.size, 3, none⟩ = some (.int .i64 l) := e3.1
      have kf : w2.frozen? ⟨wr.heap.size, 2, none⟩ = false := e2.2
      have x0 := (HB2.out.cell (p := ⟨w.heap.size, 0, none⟩) (by simp only; omega)).trans hx0
      have x1 := (HB2.out.cell (p := ⟨w.heap.size + 1, 0, none⟩) (by simp only; omega)).trans hx1
      have x2 := (HB2.out.cell (p := ⟨w.heap.size + 2, 0, none⟩) (by simp only; omega)).trans hx2
      have y1 := (HB2.out.frozen (p := ⟨w.heap.size + 1, 0, none⟩) (by simp only; omega)).trans hy1
      have y2 := (HB2.out.frozen (p := ⟨w.heap.size + 2, 0, none⟩) (by simp only; omega)).trans hy2
      have HR2 := Lib.hid hr2
      have hne0 : ¬ wr.heap.size = w.heap.size := by omega
      have hne1 : ¬ wr.heap.size = w.heap.size + 1 := by omega
      have hne2 : ¬ wr.heap.size = w.heap.size + 2 := by omega
      have hne0' : ¬ w.heap.size = wr.heap.size := by omega
      have hne1' : ¬ w.heap.size + 1 = wr.heap.size := by omega
      have hne2' : ¬ w.heap.size + 2 = wr.heap.size := by omega
      have hW3 : Chg (fun b => b = wr.heap.size) w2 (w2.setCell ⟨wr.heap.size, 2, none⟩ (.slice (some ⟨g3, 0, none⟩) f.length c3)) := Chg.setCell_ (S := fun b => b = wr.heap.size) (Chg.refl _ _) (p := ⟨wr.heap.size, 2, none⟩) rfl _
      have hW4 : Chg (fun b => b = wr.heap.size) w2 ((w2.setCell ⟨wr.heap.size, 2, none⟩ (.slice (some ⟨g3, 0, none⟩) f.length c3)).alloc (.cells #[.int .i64 s, .bool a, .slice (some ⟨g3, 0, none⟩) f.length c3, .int .i64 l] 51)) := hW3.trans (Chg.of_below (Below.alloc (Below.refl _ _) (Nat.le_refl _) _))
      have hsz3 : (w2.setCell ⟨wr.heap.size, 2, none⟩ (.slice (some ⟨g3, 0, none⟩) f.length c3)).heap.size = w2.heap.size := by simp [World.setCell]
      have hsz4 : ((w2.setCell ⟨wr.heap.size, 2, none⟩ (.slice (some ⟨g3, 0, none⟩) f.length c3)).alloc (.cells #[.int .i64 s, .bool a, .slice (some ⟨g3, 0, none⟩) f.length c3, .int .i64 l] 51)).heap.size = w2.heap.size + 1 := by simp [World.setCell]
      have HBW : Hid (Below wr.heap.size wr ((w2.setCell ⟨wr.heap.size, 2, none⟩ (.slice (some ⟨g3, 0, none⟩) f.length c3)).alloc (.cells #[.int .i64 s, .bool a, .slice (some ⟨g3, 0, none⟩) f.length c3, .int .i64 l] 51))) := Lib.hid (HB2.out.trans (hW4.below (by omega) (fun k hk => by omega)))
      have HBK : Hid (((w2.setCell ⟨wr.heap.size, 2, none⟩ (.slice (some ⟨g3, 0, none⟩) f.length c3)).alloc (.cells #[.int .i64 s, .bool a, .slice (some ⟨g3, 0, none⟩) f.length c3, .int .i64 l] 51)).heap[w2.heap.size]? = some (.cells #[.int .i64 s, .bool a, .slice (some ⟨g3, 0, none⟩) f.length c3, .int .i64 l] 51)) := Lib.hid (World.heap_new _ _ _ hsz3.symm)
      have HBA : Hid (w.heap.size + 2 ≤ ((w2.setCell ⟨wr.heap.size, 2, none⟩ (.slice (some ⟨g3, 0, none⟩) f.length c3)).alloc (.cells #[.int .i64 s, .bool a, .slice (some ⟨g3, 0, none⟩) f.length c3, .int .i64 l] 51)).heap.size) := Lib.hid (by omega)
      have HFC : Hid (EKO ((w2.setCell ⟨wr.heap.size, 2, none⟩ (.slice (some ⟨g3, 0, none⟩) f.length c3)).alloc (.cells #[.int .i64 s, .bool a, .slice (some ⟨g3, 0, none⟩) f.length c3, .int .i64 l] 51)) (fun b => w.heap.size + 2 ≤ b ∧ b ≠ w.heap.size + 2 ∧ wr.heap.size + 1 ≤ b ∧ b < w2.heap.size) w2.heap.size 0 ⟨s, a, f, l⟩) := Lib.hid (by
        have e0 := block_cell HBK.out 0
        have e1 := block_cell HBK.out 1
        have e2 := block_cell HBK.out 2
        have e3 := block_cell HBK.out 3
        refine ⟨e0.1, e1.1, e3.1, e0.2, e1.2, e3.2, e2.2, g3, c3, e2.1, by omega, ?_⟩
        have hr := HO2.out.widerT (T' := fun b => w.heap.size + 2 ≤ b ∧ b ≠ w.heap.size + 2 ∧ wr.heap.size + 1 ≤ b ∧ b < w2.heap.size) (fun b hb _ => by simp only [World.size_alloc] at hb; omega)
        exact OwS.frame (R := EB true) EB.framed hr hW4 (fun b h1 h2 => by omega) (fun a' ha' h2 => by injection ha' with ha'; subst ha'; simp only at h2; omega))
      have HFF : Hid (∀ b, (w.heap.size + 2 ≤ b ∧ b ≠ w.heap.size + 2 ∧ wr.heap.size + 1 ≤ b ∧ b < w2.heap.size) → (fun b => w.heap.size + 2 ≤ b ∧ b ≠ w.heap.size + 2) b ∧ b < ((w2.setCell ⟨wr.heap.size, 2, none⟩ (.slice (some ⟨g3, 0, none⟩) f.length c3)).alloc (.cells #[.int .i64 s, .bool a, .slice (some ⟨g3, 0, none⟩) f.length c3, .int .i64 l] 51)).heap.size ∧ Off A' b ∧ wr.heap.size ≤ b) := Lib.hid (by
        intro b hb
        refine ⟨⟨hb.1, hb.2.1⟩, by omega, fun a' ha' => ?_, by omega⟩
        have := HAL.out a' ha'
        omega)
      have z0 : ((w2.setCell ⟨wr.heap.size, 2, none⟩ (.slice (some ⟨g3, 0, none⟩) f.length c3)).alloc (.cells #[.int .i64 s, .bool a, .slice (some ⟨g3, 0, none⟩) f.length c3, .int .i64 l] 51)).cell? ⟨w.heap.size, 0, none⟩ = some (.slice (some ⟨g, o, none⟩) xs.length c) := (hW4.cell (p := ⟨w.heap.size, 0, none⟩) (by simp only; omega) (by simp only; omega)).trans x0
      have z1 : ((w2.setCell ⟨wr.heap.size, 2, none⟩ (.slice (some ⟨g3, 0, none⟩) f.length c3)).alloc (.cells #[.int .i64 s, .bool a, .slice (some ⟨g3, 0, none⟩) f.length c3, .int .i64 l] 51)).cell? ⟨w.heap.size + 1, 0, none⟩ = some (.slice none 0 0) := (hW4.cell (p := ⟨w.heap.size + 1, 0, none⟩) (by simp only; omega) (by simp only; omega)).trans x1
      have z2 : ((w2.setCell ⟨wr.heap.size, 2, none⟩ (.slice (some ⟨g3, 0, none⟩) f.length c3)).alloc (.cells #[.int .i64 s, .bool a, .slice (some ⟨g3, 0, none⟩) f.length c3, .int .i64 l] 51)).cell? ⟨w.heap.size + 2, 0, none⟩ = some (.slice A' q.length c') := (hW4.cell (p := ⟨w.heap.size + 2, 0, none⟩) (by simp only; omega) (by simp only; omega)).trans x2
      have v1 : ((w2.setCell ⟨wr.heap.size, 2, none⟩ (.slice (some ⟨g3, 0, none⟩) f.length c3)).alloc (.cells #[.int .i64 s, .bool a, .slice (some ⟨g3, 0, none⟩) f.length c3, .int .i64 l] 51)).frozen? ⟨w.heap.size + 1, 0, none⟩ = false := (hW4.frozen (p := ⟨w.heap.size + 1, 0, none⟩) (by simp only; omega) (by simp only; omega)).trans y1
      have v2 : ((w2.setCell ⟨wr.heap.size, 2, none⟩ (.slice (some ⟨g3, 0, none⟩) f.length c3)).alloc (.cells #[.int .i64 s, .bool a, .slice (some ⟨g3, 0, none⟩) f.length c3, .int .i64 l] 51)).frozen? ⟨w.heap.size + 2, 0, none⟩ = false := (hW4.frozen (p := ⟨w.heap.size + 2, 0, none⟩) (by simp only; omega) (by simp only; omega)).trans y2
      have Z0 := Lib.hid z0
      have Z1 := Lib.hid z1
      have Z2 := Lib.hid z2
      have V1 := Lib.hid v1
      have V2 := Lib.hid v2
      have HW := Lib.hid hsz4
      clear e0 e1 e2 e3 hb2 hblk hlast hr2 hx0 hx1 hx2 hy1 hy2 hW3 hW4 hsz3 hsz4 z0 z1 z2 v1 v2
      go_wp2_with (at_builtin; refine wpList_appS (R := EKO) (u := true) (w0 := wr) (xs := q) (y := ⟨s, a, f, l⟩) (Fn := fun b => w.heap.size + 2 ≤ b ∧ b ≠ w.heap.size + 2 ∧ wr.heap.size + 1 ≤ b ∧ b < w2.heap.size) (T := (fun b => w.heap.size + 2 ≤ b ∧ b ≠ w.heap.size + 2)) (gb := w2.heap.size) rfl EKO.mov (.tmp 24) (.tmp 26) 27 rfl 51 i0 (.agg #[.int .i64 0, .bool false, .slice none 0 0, .int .i64 0]) 48 Try.underlying27 hI0 hz0 hz1 hz2 (by simp [Value.cells]) (by decide) rfl HO.out HBW.out #[.int .i64 s, .bool a, .slice (some ⟨g3, 0, none⟩) f.length c3, .int .i64 l] 51 HBK.out rfl (by simp [Value.oneCell']) rfl HFC.out (fun b hb => ⟨(HFF.out b hb).1, (HFF.out b hb).2.1, (HFF.out b hb).2.2.1, fun _ => (HFF.out b hb).2.2.2⟩) hqi (by decide) HBA.out ?_)
      intro g4 c4 w4 q4 HQ4 HO4 HG4 HC4 HB4
      have hlt0 : w.heap.size + 2 < ((w2.setCell ⟨wr.heap.size, 2, none⟩ (.slice (some ⟨g3, 0, none⟩) f.length c3)).alloc (.cells #[.int .i64 s, .bool a, .slice (some ⟨g3, 0, none⟩) f.length c3, .int .i64 l] 51)).heap.size := by have := HW.out; omega
      have t0 := (HC4.out.row_cell (p := ⟨w.heap.size, 0, none⟩) (by simp only; omega) HA0.out).1.trans Z0.out
      have t1 := (HC4.out.row_cell (p := ⟨w.heap.size + 1, 0, none⟩) (by simp only; omega) HA1.out).1.trans Z1.out
      have t2 := (HC4.out.row_cell (p := ⟨w.heap.size + 2, 0, none⟩) (by simp only; omega) HA2.out).1.trans Z2.out
      have u1 := (HC4.out.row_cell (p := ⟨w.heap.size + 1, 0, none⟩) (by simp only; omega) HA1.out).2.trans V1.out
      have u2 := (HC4.out.row_cell (p := ⟨w.heap.size + 2, 0, none⟩) (by simp only; omega) HA2.out).2.trans V2.out
      have HB5 := Lib.hid ((HB.out.trans (HBW.out.mono (by omega))).trans (HB4.out.mono (by omega)))
      have hs4 := HB4.out.size
      have hs4' := HW.out
      have HN0 := Lib.hid (OwS.off_new (k := w.heap.size) HG4.out HA0.out (by omega))
      have HN1 := Lib.hid (OwS.off_new (k := w.heap.size + 1) HG4.out HA1.out (by omega))
      have HN2 := Lib.hid (OwS.off_new (k := w.heap.size + 2) HG4.out HA2.out (by omega))
      have ht0 := Lib.hid t0
      have ht1 := Lib.hid t1
      have hu1 := Lib.hid u1
      have hu2 := Lib.hid u2
      have hg4 := HO4.out.lt
      clear k0 k1 k2 k3 kf x0 x1 x2 y1 y2 t0 t1 u1 hc0 hc1 hc2 hc3
      go_wp2
      go_roundw
      case rel =>
        have hfin : Chg (fun b => b = w.heap.size + 2) w4 (w4.setCell ⟨w.heap.size + 2, 0, none⟩ (.slice (some ⟨g4, 0, none⟩) q4.length c4)) := Chg.setCell_ (S := fun b => b = w.heap.size + 2) (Chg.refl _ _) (p := ⟨w.heap.size + 2, 0, none⟩) rfl _
        refine ⟨i + 1, some ⟨g4, 0, none⟩, c4, q4, by omega, by go_num, Lib.hid (by rw [HQ4.out, HQ.out, HTK.out]), Lib.hid (HB5.out.trans (hfin.below (by omega) (fun k hk => by omega))), Lib.hid (OwS.frame (R := EKO) EKO.framed HO4.out hfin (fun b hb h2 => hb.2 h2) (fun a' ha' h2 => HN2.out a' ha' h2.symm)), HN0, HN1, HN2, by simp [World.setCell]; omega, ?_, ?_, ?_, ?_, ?_⟩
        · exact (hfin.cell (p := ⟨w.heap.size, 0, none⟩) (by simp only; omega) (by simp only; omega)).trans ht0.out
        · exact (hfin.cell (p := ⟨w.heap.size + 1, 0, none⟩) (by simp only; omega) (by simp only; omega)).trans ht1.out
        · exact World.cell?_setCell_same _ _ _ t2
        · exact (World.frozen?_setCell _ _ _ _).trans hu1.out
        · exact (World.frozen?_setCell _ _ _ _).trans hu2.out
      case measure => simp [intOf]; omega
    · obtain rfl : i = xs.length := by omega
      have hqe : q = xs := by rw [HQ.out, List.take_length]
      have HS2 := Lib.hid HO.out.sl
      have hfin : Chg (fun b => b = w.heap.size + 1) wr (wr.setCell ⟨w.heap.size + 1, 0, none⟩ (.slice A' q.length c')) := Chg.setCell_ (S := fun b => b = w.heap.size + 1) (Chg.refl _ _) (p := ⟨w.heap.size + 1, 0, none⟩) rfl _
      have HF := Lib.hid hfin
      have HQE := Lib.hid hqe
      clear hfin hqe
      go_wp2
      refine bodyPost_ret (v := .agg #[.slice A' q.length c']) (by simp [results, Try.results42, go_sem, World.cell?_setCell_same _ _ _ hx1]) rfl ?_
      rw [← HQE.out]
      refine ⟨A', c', rfl, HB.out.trans (HF.out.below (by omega) (fun k hk => by omega)), ?_⟩
      refine (Sl.frame (R := EKO) EKO.framed HS2.out HF.out (fun b hb h2 => by omega)).wider (fun b hb => ?_)
      have := HF.out.size
      omega

set_option maxHeartbeats 2000000 in
theorem implDrop_any {T : Nat → Prop} (st0 : Int) (A : Option Addr) (c : Nat) (xs : List KT) (w : World) (hx : Sl false 4 (EK false) w T A xs) (hm : xs.length ≤ 1000000000) (hlx : ∀ x ∈ xs, x.fr.length ≤ 1000000000 ∧ ∀ f ∈ x.fr, f.length ≤ 1000000000) :
    Calls Try.prog 22 #[.agg #[.slice A xs.length c], .int .i64 st0] w fun e w' => CpPB w (xs.filter fun x => x.st != st0) e w' := by
  obtain ⟨i0, hI0, hz0, hz1, hz2⟩ := info_parts infoKT
  have HX := Lib.hid hx
  have HLX := Lib.hid hlx
  clear hx hlx
  go_enter Try.func22, Try.ntmps22
  go_wp2
  go_loopw [13] (fun p wr => ∃ (i : Nat) (A' : Option Addr) (c' : Nat) (q : List KT), i ≤ xs.length ∧ p = .int .i64 (i : Int) ∧ Hid (q = ((xs.take i).filter fun x => x.st != st0)) ∧ Hid (Below w.heap.size w wr) ∧ Hid (OwS true 4 EKO 51 wr (fun b => w.heap.size + 2 ≤ b ∧ b ≠ w.heap.size + 3) (w.heap.size + 2) A' c' q) ∧ Hid (Off A' w.heap.size) ∧ Hid (Off A' (w.heap.size + 1)) ∧ Hid (Off A' (w.heap.size + 3)) ∧ w.heap.size + 3 < wr.heap.size ∧
      wr.cell? ⟨w.heap.size, 0, none⟩ = some (.slice A xs.length c) ∧ wr.cell? ⟨w.heap.size + 1, 0, none⟩ = some (.slice none 0 0) ∧ wr.cell? ⟨w.heap.size + 3, 0, none⟩ = some (.slice A' q.length c') ∧ wr.frozen? ⟨w.heap.size + 1, 0, none⟩ = false ∧ wr.frozen? ⟨w.heap.size + 3, 0, none⟩ = false)
    (fun p _ => xs.length - (intOf p).toNat)
  case atStart =>
    refine ⟨0, some ⟨w.heap.size + 2, 0, none⟩, 0, [], Nat.zero_le _, rfl, Lib.hid (by simp), Lib.hid (by repeat (first | (with_reducible exact Below.refl _ _) | (with_reducible refine Below.ext ?_ (by go_size) _ _) | (with_reducible refine Below.alloc ?_ (by go_size) _) | (with_reducible refine Below.setCell ?_ (by go_size) _) | (with_reducible refine Below.drew ?_) | (with_reducible refine Below.drewN_ ?_ _))), Lib.hid (OwS.new (by omega) (((Below.alloc (Below.refl _ _) (Nat.le_refl _) _).block _ (by simp)).trans (World.heap_new _ _ _ (by simp)))), Lib.hid (by intro a ha; injection ha with ha; subst ha; simp only; omega), Lib.hid (by intro a ha; injection ha with ha; subst ha; simp only; omega), Lib.hid (by intro a ha; injection ha with ha; subst ha; simp only; omega), by simp, ?_, ?_, ?_, ?_, ?_⟩
    all_goals (simp [go_sem]; try done)
  case round =>
    obtain ⟨i, A', c', q, hi, rfl, HQ, HB, HO, HA0, HA1, HA2, hws, hx0, hx1, hx2, hy1, hy2⟩ := hrel
    have hqi : q.length ≤ 1000000000 := by rw [HQ.out]; refine Nat.le_trans ?_ hm; exact Nat.le_trans (List.length_filter_le _ _) (by rw [List.length_take]; omega)
    by_cases hlt : i < xs.length
    · obtain ⟨g, o, F, rfl, hg, ⟨hc0, hc1, hc3, _, ⟨B1, d1, hc2, _, hr1⟩⟩, _, _⟩ := HX.out.at_ i hlt
      replace hc0 := (HB.out.cell (p := ⟨g, o + i * 4, none⟩) hg).trans hc0
      replace hc1 := (HB.out.cell (p := ⟨g, o + i * 4 + 1, none⟩) hg).trans hc1
      replace hc2 := (HB.out.cell (p := ⟨g, o + i * 4 + 2, none⟩) hg).trans hc2
      replace hc3 := (HB.out.cell (p := ⟨g, o + i * 4 + 3, none⟩) hg).trans hc3
      have R1 := Lib.hid (Sl.below (R := EB false) EB.framed hr1 HB.out)
      have hfl := (HLX.out _ (List.getElem_mem hlt)).1
      have HXL := Lib.hid (HLX.out _ (List.getElem_mem hlt)).2
      have htk : xs.take (i + 1) = xs.take i ++ [xs[i]] := by rw [List.take_add_one, List.getElem?_eq_getElem hlt]; rfl
      have HTK := Lib.hid htk
      have hlt2 : (i : Int) < (xs.length : Int) := by omega
      have hgw : g < wr.heap.size := by omega
      have HAL : Hid (∀ a, A' = some a → a.block < wr.heap.size) := Lib.hid (by
        intro a' ha'
        obtain ⟨vs, F, h1, _⟩ := HO.out
        rcases h1.2 with ⟨h0, _⟩ | ⟨g', cap', cur, hv, _, hgg, _⟩
        · rw [ha'] at h0; cases h0
        · rw [ha'] at hv
          injection hv with hv
          injection hv with hv
          subst hv
          rcases Nat.lt_or_ge g' wr.heap.size with h | h
          · exact h
          · rw [Array.getElem?_eq_none h] at hgg; cases hgg)
      clear hr1 htk
      generalize xs[i] = x at *
      obtain ⟨s, a, f, l⟩ := x
      simp only at hc0 hc1 hc2 hc3 R1 HXL hfl
      by_cases hst : s = st0
      · subst hst
        have HSN : Hid ((s != s) = false) := Lib.hid (by simp)
        go_wp2
        go_roundw
        case rel =>
          have hal : Below wr.heap.size wr (wr.alloc (.cells #[.int .i64 s, .bool a, .slice B1 f.length d1, .int .i64 l] 51)) := Below.alloc (Below.refl _ _) (Nat.le_refl _) _
          refine ⟨i + 1, A', c', q, by omega, by go_num, Lib.hid (by rw [HQ.out, HTK.out, List.filter_append]; simp [HSN.out]), Lib.hid (HB.out.trans (hal.mono (by omega))), Lib.hid (OwS.below (R := EKO) EKO.framed HO.out hal), HA0, HA1, HA2, by simp; omega, ?_, ?_, ?_, ?_, ?_⟩
          · exact (hal.cell (p := ⟨w.heap.size, 0, none⟩) (by simp only; omega)).trans hx0
          · exact (hal.cell (p := ⟨w.heap.size + 1, 0, none⟩) (by simp only; omega)).trans hx1
          · exact (hal.cell (p := ⟨w.heap.size + 3, 0, none⟩) (by simp only; omega)).trans hx2
          · exact (hal.frozen (p := ⟨w.heap.size + 1, 0, none⟩) (by simp only; omega)).trans hy1
          · exact (hal.frozen (p := ⟨w.heap.size + 3, 0, none⟩) (by simp only; omega)).trans hy2
        case measure => simp [intOf]; omega
      · have HSN : Hid ((s != st0) = true) := Lib.hid (by simp [hst])
        have hst' : (s == st0) = false := by simp [hst]
        have HEL : Hid (Below wr.heap.size wr (wr.alloc (.cells #[.int .i64 s, .bool a, .slice B1 f.length d1, .int .i64 l] 51))) := Lib.hid (Below.alloc (Below.refl _ _) (Nat.le_refl _) _)
        go_wp2_with fail
        refine (copyFrames_any B1 d1 f _ (Sl.below (R := EB false) EB.framed R1.out HEL.out) hfl HXL.out).mono ?_
        rintro e w2 ⟨g3, c3, rfl, hb2, hcap3, hg3, hg3l, hr2, ho2⟩
        have HO2 := Lib.hid ho2
        clear ho2
        have hs2 := hb2.size
        have hlast : wr.heap.size < (wr.alloc (.cells #[.int .i64 s, .bool a, .slice B1 f.length d1, .int .i64 l] 51)).heap.size := by simp
        have hblk : w2.heap[wr.heap.size]? = some (.cells #[.int .i64 s, .bool a, .slice B1 f.length d1, .int .i64 l] 51) := (hb2.block _ hlast).trans (World.heap_new _ _ _ rfl)
        have e0 := block_cell hblk 0
        have e1 := block_cell hblk 1
        have e2 := block_cell hblk 2
        have e3 := block_cell hblk 3
        simp only [World.size_alloc] at hs2 hg3
        have HB2 : Hid (Below wr.heap.size wr w2) := Lib.hid (HEL.out.trans (hb2.mono (by simp)))
        have k0 : w2.cell? ⟨wr.heap.size, 0, none⟩ = some (.int .i64 s) := e0.1
        have k1 : w2.cell? ⟨wr.heap.size, 1, none⟩ = some (.bool a) := e1.1
        have k2 : w2.cell? ⟨wr.heap.size, 2, none⟩ = some (.slice B1 f.length d1) := e2.1
        have k3 : w2.cell? ⟨wr.heap.size, 3, none⟩ = some (.int .i64 l) := e3.1
        have kf : w2.frozen? ⟨wr.heap.size, 2, none⟩ = false := e2.2
        have x0 := (HB2.out.cell (p := ⟨w.heap.size, 0, none⟩) (by simp only; omega)).trans hx0
        have x1 := (HB2.out.cell (p := ⟨w.heap.size + 1, 0, none⟩) (by simp only; omega)).trans hx1
        have x2 := (HB2.out.cell (p := ⟨w.heap.size + 3, 0, none⟩) (by simp only; omega)).trans hx2
        have y1 := (HB2.out.frozen (p := ⟨w.heap.size + 1, 0, none⟩) (by simp only; omega)).trans hy1
        have y2 := (HB2.out.frozen (p := ⟨w.heap.size + 3, 0, none⟩) (by simp only; omega)).trans hy2
        have HR2 := Lib.hid hr2
        have hne0 : ¬ wr.heap.size = w.heap.size := by omega
        have hne1 : ¬ wr.heap.size = w.heap.size + 1 := by omega
        have hne2 : ¬ wr.heap.size = w.heap.size + 3 := by omega
        have hne0' : ¬ w.heap.size = wr.heap.size := by omega
        have hne1' : ¬ w.heap.size + 1 = wr.heap.size := by omega
        have hne2' : ¬ w.heap.size + 3 = wr.heap.size := by omega
        have hW3 : Chg (fun b => b = wr.heap.size) w2 (w2.setCell ⟨wr.heap.size, 2, none⟩ (.slice (some ⟨g3, 0, none⟩) f.length c3)) := Chg.setCell_ (S := fun b => b = wr.heap.size) (Chg.refl _ _) (p := ⟨wr.heap.size, 2, none⟩) rfl _
        have hW4 : Chg (fun b => b = wr.heap.size) w2 ((w2.setCell ⟨wr.heap.size, 2, none⟩ (.slice (some ⟨g3, 0, none⟩) f.length c3)).alloc (.cells #[.int .i64 s, .bool a, .slice (some ⟨g3, 0, none⟩) f.length c3, .int .i64 l] 51)) := hW3.trans (Chg.of_below (Below.alloc (Below.refl _ _) (Nat.le_refl _) _))
        have hsz3 : (w2.setCell ⟨wr.heap.size, 2, none⟩ (.slice (some ⟨g3, 0, none⟩) f.length c3)).heap.size = w2.heap.size := by simp [World.setCell]
        have hsz4 : ((w2.setCell ⟨wr.heap.size, 2, none⟩ (.slice (some ⟨g3, 0, none⟩) f.length c3)).alloc (.cells #[.int .i64 s, .bool a, .slice (some ⟨g3, 0, none⟩) f.length c3, .int .i64 l] 51)).heap.size = w2.heap.size + 1 := by simp [World.setCell]
        have HBW : Hid (Below wr.heap.size wr ((w2.setCell ⟨wr.heap.size, 2, none⟩ (.slice (some ⟨g3, 0, none⟩) f.length c3)).alloc (.cells #[.int .i64 s, .bool a, .slice (some ⟨g3, 0, none⟩) f.length c3, .int .i64 l] 51))) := Lib.hid (HB2.out.trans (hW4.below (by omega) (fun k hk => by omega)))
        have HBK : Hid (((w2.setCell ⟨wr.heap.size, 2, none⟩ (.slice (some ⟨g3, 0, none⟩) f.length c3)).alloc (.cells #[.int .i64 s, .bool a, .slice (some ⟨g3, 0, none⟩) f.length c3, .int .i64 l] 51)).heap[w2.heap.size]? = some (.cells #[.int .i64 s, .bool a, .slice (some ⟨g3, 0, none⟩) f.length c3, .int .i64 l] 51)) := Lib.hid (World.heap_new _ _ _ hsz3.symm)
        have HBA : Hid (w.heap.size + 2 ≤ ((w2.setCell ⟨wr.heap.size, 2, none⟩ (.slice (some ⟨g3, 0, none⟩) f.length c3)).alloc (.cells #[.int .i64 s, .bool a, .slice (some ⟨g3, 0, none⟩) f.length c3, .int .i64 l] 51)).heap.size) := Lib.hid (by omega)
        have HFC : Hid (EKO ((w2.setCell ⟨wr.heap.size, 2, none⟩ (.slice (some ⟨g3, 0, none⟩) f.length c3)).alloc (.cells #[.int .i64 s, .bool a, .slice (some ⟨g3, 0, none⟩) f.length c3, .int .i64 l] 51)) (fun b => w.heap.size + 2 ≤ b ∧ b ≠ w.heap.size + 3 ∧ wr.heap.size + 1 ≤ b ∧ b < w2.heap.size) w2.heap.size 0 ⟨s, a, f, l⟩) := Lib.hid (by
          have e0 := block_cell HBK.out 0
          have e1 := block_cell HBK.out 1
          have e2 := block_cell HBK.out 2
          have e3 := block_cell HBK.out 3
          refine ⟨e0.1, e1.1, e3.1, e0.2, e1.2, e3.2, e2.2, g3, c3, e2.1, by omega, ?_⟩
          have hr := HO2.out.widerT (T' := fun b => w.heap.size + 2 ≤ b ∧ b ≠ w.heap.size + 3 ∧ wr.heap.size + 1 ≤ b ∧ b < w2.heap.size) (fun b hb _ => by simp only [World.size_alloc] at hb; omega)
          exact OwS.frame (R := EB true) EB.framed hr hW4 (fun b h1 h2 => by omega) (fun a' ha' h2 => by injection ha' with ha'; subst ha'; simp only at h2; omega))
        have HFF : Hid (∀ b, (w.heap.size + 2 ≤ b ∧ b ≠ w.heap.size + 3 ∧ wr.heap.size + 1 ≤ b ∧ b < w2.heap.size) → (fun b => w.heap.size + 2 ≤ b ∧ b ≠ w.heap.size + 3) b ∧ b < ((w2.setCell ⟨wr.heap.size, 2, none⟩ (.slice (some ⟨g3, 0, none⟩) f.length c3)).alloc (.cells #[.int .i64 s, .bool a, .slice (some ⟨g3, 0, none⟩) f.length c3, .int .i64 l] 51)).heap.size ∧ Off A' b ∧ wr.heap.size ≤ b) := Lib.hid (by
          intro b hb
          refine ⟨⟨hb.1, hb.2.1⟩, by omega, fun a' ha' => ?_, by omega⟩
          have := HAL.out a' ha'
          omega)
        have z0 : ((w2.setCell ⟨wr.heap.size, 2, none⟩ (.slice (some ⟨g3, 0, none⟩) f.length c3)).alloc (.cells #[.int .i64 s, .bool a, .slice (some ⟨g3, 0, none⟩) f.length c3, .int .i64 l] 51)).cell? ⟨w.heap.size, 0, none⟩ = some (.slice (some ⟨g, o, none⟩) xs.length c) := (hW4.cell (p := ⟨w.heap.size, 0, none⟩) (by simp only; omega) (by simp only; omega)).trans x0
        have z1 : ((w2.setCell ⟨wr.heap.size, 2, none⟩ (.slice (some ⟨g3, 0, none⟩) f.length c3)).alloc (.cells #[.int .i64 s, .bool a, .slice (some ⟨g3, 0, none⟩) f.length c3, .int .i64 l] 51)).cell? ⟨w.heap.size + 1, 0, none⟩ = some (.slice none 0 0) := (hW4.cell (p := ⟨w.heap.size + 1, 0, none⟩) (by simp only; omega) (by simp only; omega)).trans x1
        have z2 : ((w2.setCell ⟨wr.heap.size, 2, none⟩ (.slice (some ⟨g3, 0, none⟩) f.length c3)).alloc (.cells #[.int .i64 s, .bool a, .slice (some ⟨g3, 0, none⟩) f.length c3, .int .i64 l] 51)).cell? ⟨w.heap.size + 3, 0, none⟩ = some (.slice A' q.length c') := (hW4.cell (p := ⟨w.heap.size + 3, 0, none⟩) (by simp only; omega) (by simp only; omega)).trans x2
        have v1 : ((w2.setCell ⟨wr.heap.size, 2, none⟩ (.slice (some ⟨g3, 0, none⟩) f.length c3)).alloc (.cells #[.int .i64 s, .bool a, .slice (some ⟨g3, 0, none⟩) f.length c3, .int .i64 l] 51)).frozen? ⟨w.heap.size + 1, 0, none⟩ = false := (hW4.frozen (p := ⟨w.heap.size + 1, 0, none⟩) (by simp only; omega) (by simp only; omega)).trans y1
        have v2 : ((w2.setCell ⟨wr.heap.size, 2, none⟩ (.slice (some ⟨g3, 0, none⟩) f.length c3)).alloc (.cells #[.int .i64 s, .bool a, .slice (some ⟨g3, 0, none⟩) f.length c3, .int .i64 l] 51)).frozen? ⟨w.heap.size + 3, 0, none⟩ = false := (hW4.frozen (p := ⟨w.heap.size + 3, 0, none⟩) (by simp only; omega) (by simp only; omega)).trans y2
        have Z0 := Lib.hid z0
        have Z1 := Lib.hid z1
        have Z2 := Lib.hid z2
        have V1 := Lib.hid v1
        have V2 := Lib.hid v2
        have HW := Lib.hid hsz4
        clear e0 e1 e2 e3 hb2 hblk hlast hr2 hx0 hx1 hx2 hy1 hy2 hW3 hW4 hsz3 hsz4 z0 z1 z2 v1 v2
        go_wp2_with (at_builtin; refine wpList_appS (R := EKO) (u := true) (w0 := wr) (xs := q) (y := ⟨s, a, f, l⟩) (Fn := fun b => w.heap.size + 2 ≤ b ∧ b ≠ w.heap.size + 3 ∧ wr.heap.size + 1 ≤ b ∧ b < w2.heap.size) (T := (fun b => w.heap.size + 2 ≤ b ∧ b ≠ w.heap.size + 3)) (gb := w2.heap.size) rfl EKO.mov (.tmp 26) (.tmp 28) 27 rfl 51 i0 (.agg #[.int .i64 0, .bool false, .slice none 0 0, .int .i64 0]) 48 Try.underlying27 hI0 hz0 hz1 hz2 (by simp [Value.cells]) (by decide) rfl HO.out HBW.out #[.int .i64 s, .bool a, .slice (some ⟨g3, 0, none⟩) f.length c3, .int .i64 l] 51 HBK.out rfl (by simp [Value.oneCell']) rfl HFC.out (fun b hb => ⟨(HFF.out b hb).1, (HFF.out b hb).2.1, (HFF.out b hb).2.2.1, fun _ => (HFF.out b hb).2.2.2⟩) hqi (by decide) HBA.out ?_)
        intro g4 c4 w4 q4 HQ4 HO4 HG4 HC4 HB4
        have hlt0 : w.heap.size + 3 < ((w2.setCell ⟨wr.heap.size, 2, none⟩ (.slice (some ⟨g3, 0, none⟩) f.length c3)).alloc (.cells #[.int .i64 s, .bool a, .slice (some ⟨g3, 0, none⟩) f.length c3, .int .i64 l] 51)).heap.size := by have := HW.out; omega
        have t0 := (HC4.out.row_cell (p := ⟨w.heap.size, 0, none⟩) (by simp only; omega) HA0.out).1.trans Z0.out
        have t1 := (HC4.out.row_cell (p := ⟨w.heap.size + 1, 0, none⟩) (by simp only; omega) HA1.out).1.trans Z1.out
        have t2 := (HC4.out.row_cell (p := ⟨w.heap.size + 3, 0, none⟩) (by simp only; omega) HA2.out).1.trans Z2.out
        have u1 := (HC4.out.row_cell (p := ⟨w.heap.size + 1, 0, none⟩) (by simp only; omega) HA1.out).2.trans V1.out
        have u2 := (HC4.out.row_cell (p := ⟨w.heap.size + 3, 0, none⟩) (by simp only; omega) HA2.out).2.trans V2.out
        have HB5 := Lib.hid ((HB.out.trans (HBW.out.mono (by omega))).trans (HB4.out.mono (by omega)))
        have hs4 := HB4.out.size
        have hs4' := HW.out
        have HN0 := Lib.hid (OwS.off_new (k := w.heap.size) HG4.out HA0.out (by omega))
        have HN1 := Lib.hid (OwS.off_new (k := w.heap.size + 1) HG4.out HA1.out (by omega))
        have HN2 := Lib.hid (OwS.off_new (k := w.heap.size + 3) HG4.out HA2.out (by omega))
        have ht0 := Lib.hid t0
        have ht1 := Lib.hid t1
        have hu1 := Lib.hid u1
        have hu2 := Lib.hid u2
        have hg4 := HO4.out.lt
        clear k0 k1 k2 k3 kf x0 x1 x2 y1 y2 t0 t1 u1 hc0 hc1 hc2 hc3
        go_wp2
        go_roundw
        case rel =>
          have hfin : Chg (fun b => b = w.heap.size + 3) w4 (w4.setCell ⟨w.heap.size + 3, 0, none⟩ (.slice (some ⟨g4, 0, none⟩) q4.length c4)) := Chg.setCell_ (S := fun b => b = w.heap.size + 3) (Chg.refl _ _) (p := ⟨w.heap.size + 3, 0, none⟩) rfl _
          refine ⟨i + 1, some ⟨g4, 0, none⟩, c4, q4, by omega, by go_num, Lib.hid (by rw [HQ4.out, HQ.out, HTK.out]; rw [List.filter_append]; simp [HSN.out]), Lib.hid (HB5.out.trans (hfin.below (by omega) (fun k hk => by omega))), Lib.hid (OwS.frame (R := EKO) EKO.framed HO4.out hfin (fun b hb h2 => hb.2 h2) (fun a' ha' h2 => HN2.out a' ha' h2.symm)), HN0, HN1, HN2, by simp [World.setCell]; omega, ?_, ?_, ?_, ?_, ?_⟩
          · exact (hfin.cell (p := ⟨w.heap.size, 0, none⟩) (by simp only; omega) (by simp only; omega)).trans ht0.out
          · exact (hfin.cell (p := ⟨w.heap.size + 1, 0, none⟩) (by simp only; omega) (by simp only; omega)).trans ht1.out
          · exact World.cell?_setCell_same _ _ _ t2
          · exact (World.frozen?_setCell _ _ _ _).trans hu1.out
          · exact (World.frozen?_setCell _ _ _ _).trans hu2.out
        case measure => simp [intOf]; omega
    · obtain rfl : i = xs.length := by omega
      have hqe : q = (xs.filter fun x => x.st != st0) := by rw [HQ.out, List.take_length]
      have HS2 := Lib.hid HO.out.sl
      have hfin : Chg (fun b => b = w.heap.size + 1) wr (wr.setCell ⟨w.heap.size + 1, 0, none⟩ (.slice A' q.length c')) := Chg.setCell_ (S := fun b => b = w.heap.size + 1) (Chg.refl _ _) (p := ⟨w.heap.size + 1, 0, none⟩) rfl _
      have HF := Lib.hid hfin
      have HQE := Lib.hid hqe
      clear hfin hqe
      go_wp2
      refine bodyPost_ret (v := .agg #[.slice A' q.length c']) (by simp [results, Try.results22, go_sem, World.cell?_setCell_same _ _ _ hx1]) rfl ?_
      rw [← HQE.out]
      refine ⟨A', c', rfl, HB.out.trans (HF.out.below (by omega) (fun k hk => by omega)), ?_⟩
      refine (Sl.frame (R := EKO) EKO.framed HS2.out HF.out (fun b hb h2 => by omega)).wider (fun b hb => ?_)
      have := HF.out.size
      omega

end Go.Proofs.Ytbfbjkcmehalhaa
