/- insertNumbered of the program. -/
import Derived.Test.YtnfgdgmmbddmgaaRrel
namespace Go.Proofs.Ytnfgdgmmbddmgaa
open Go.RowKit
set_option linter.unusedVariables false
set_option linter.unusedSimpArgs false

def insI (st : Int) (f : NF) : List NF → List NF
  | [] => [f]
  | x :: xs => if seqD st f.1 < seqD st x.1 then f :: x :: xs else x :: insI st f xs
theorem insI_len (st : Int) (f : NF) : ∀ xs, (insI st f xs).length = xs.length + 1
  | [] => rfl
  | x :: xs => by
    unfold insI; split
    · simp
    · simp [insI_len st f xs]
def InsC (w : World) (st : Int) (zs : List NF) (T1 Tf : Nat → Prop) (e : Ending) (w' : World) : Prop := ∃ gb cb T', e = .returned (.agg #[.int .i64 st, .slice (some ⟨gb, 0, none⟩) zs.length cb]) ∧ Below w.heap.size w w' ∧ (∀ b, T' b → T1 b ∨ Tf b) ∧ OwS true 2 (EN true) 75 w' T' (w.heap.size + 3) (some ⟨gb, 0, none⟩) cb zs
theorem OwS.made {α : Type} {R : Rel α} {u : Bool} {sz : Nat} {e : TypeId} {w : World} {T : Nat → Prop} {base g c : Nat} {cur : Array Value} (hg : base ≤ g) (h : w.heap[g]? = some (.cells cur e (0, 0))) (hc : cur.size = c * sz) (hm : c ≤ maxLen) : OwS u sz R e w T base (some ⟨g, 0, none⟩) c ([] : List α) :=
  ⟨[], fun _ _ => False, ⟨by simp, .inr ⟨g, c, cur, rfl, hg, h, Nat.zero_le _, hm, hc, by simp⟩⟩, fun _ _ h => h.elim, fun _ _ _ _ h => h.elim, fun k hk => absurd hk (by simp)⟩
def Bx6 (w : World) (st : Int) (A : Option Addr) (n c : Nat) (q : Int) (B : Option Addr) (m cb : Nat) (wr : World) : Prop :=
  wr.cell? ⟨w.heap.size, 0, none⟩ = some (.int .i64 st) ∧ wr.cell? ⟨w.heap.size, 1, none⟩ = some (.slice A n c) ∧ wr.cell? ⟨w.heap.size + 1, 0, none⟩ = some (.int .i64 q) ∧ wr.cell? ⟨w.heap.size + 1, 1, none⟩ = some (.slice B m cb) ∧ wr.cell? ⟨w.heap.size + 2, 0, none⟩ = some (.int .i64 0) ∧ wr.cell? ⟨w.heap.size + 2, 1, none⟩ = some (.slice none 0 0) ∧
  wr.frozen? ⟨w.heap.size, 1, none⟩ = false ∧ wr.frozen? ⟨w.heap.size + 2, 0, none⟩ = false ∧ wr.frozen? ⟨w.heap.size + 2, 1, none⟩ = false
theorem Bx6.chg {w : World} {st : Int} {A : Option Addr} {n c : Nat} {q : Int} {B : Option Addr} {m cb : Nat} {wr w' : World} {S : Nat → Prop} (h : Bx6 w st A n c q B m cb wr) (hc : Chg S wr w') (hS : ∀ b, S b → w.heap.size + 3 ≤ b) (hl : w.heap.size + 3 ≤ wr.heap.size) : Bx6 w st A n c q B m cb w' := by
  obtain ⟨h1, h2, h3, h4, h5, h6, z1, z2, z3⟩ := h
  have cl : ∀ p : Addr, p.block < w.heap.size + 3 → w'.cell? p = wr.cell? p := fun p hp => hc.cell (by omega) (fun hs => by have := hS _ hs; omega)
  have fz : ∀ p : Addr, p.block < w.heap.size + 3 → w'.frozen? p = wr.frozen? p := fun p hp => hc.frozen (by omega) (fun hs => by have := hS _ hs; omega)
  exact ⟨(cl ⟨w.heap.size, 0, none⟩ (by simp only; omega)).trans h1, (cl ⟨w.heap.size, 1, none⟩ (by simp only; omega)).trans h2, (cl ⟨w.heap.size + 1, 0, none⟩ (by simp only; omega)).trans h3, (cl ⟨w.heap.size + 1, 1, none⟩ (by simp only; omega)).trans h4, (cl ⟨w.heap.size + 2, 0, none⟩ (by simp only; omega)).trans h5, (cl ⟨w.heap.size + 2, 1, none⟩ (by simp only; omega)).trans h6,
    (fz ⟨w.heap.size, 1, none⟩ (by simp only; omega)).trans z1, (fz ⟨w.heap.size + 2, 0, none⟩ (by simp only; omega)).trans z2, (fz ⟨w.heap.size + 2, 1, none⟩ (by simp only; omega)).trans z3⟩

set_option maxRecDepth 10000 in
set_option maxHeartbeats 8000000 in
theorem implIns_any {T1 Tf : Nat → Prop} (st : Int) (A : Option Addr) (c : Nat) (ys : List NF) (q : Int) (B : Option Addr) (cb : Nat) (body : List Int) (w : World) (hy : Sl true 2 (EN true) w T1 A ys) (hm : ys.length ≤ 100000000) (hf : Rw true .u8 w Tf B body)
    (h1 : ∀ b, T1 b → b < w.heap.size) (h2 : ∀ b, Tf b → b < w.heap.size) (h3 : ∀ b, Tf b → ¬ T1 b) :
    Calls Try.prog 68 #[.agg #[.int .i64 st, .slice A ys.length c], .agg #[.int .i64 q, .slice B body.length cb]] w fun e w' => InsC w st (insI st (q, body) ys) T1 Tf e w' := by
  obtain ⟨i0, hI0, hz0, hz1, hz2⟩ := info_parts infoNF
  obtain ⟨ga, oa, F, hA, hgl, hgT, hFT, hSEP, hFg, hEL⟩ : ∃ ga oa F, (ys ≠ [] → A = some ⟨ga, oa, none⟩) ∧ (ys ≠ [] → ga < w.heap.size) ∧ (ys ≠ [] → T1 ga) ∧ (∀ k b, F k b → T1 b) ∧ (∀ j k b, F j b → F k b → j = k) ∧ (ys ≠ [] → ∀ k, ¬ F k ga) ∧ Els 2 (EN true) w ga oa F ys := by
    by_cases hn : ys = []
    · subst hn
      exact ⟨0, 0, fun _ _ => False, fun h => absurd rfl h, fun h => absurd rfl h, fun h => absurd rfl h, fun _ _ h => h.elim, fun _ _ _ h => h.elim, fun h => absurd rfl h, fun k hk => absurd hk (by simp)⟩
    · obtain ⟨g, o, F, hA, hg, hsep, he⟩ := hy hn
      exact ⟨g, o, F, fun _ => hA, fun _ => hg, fun _ => hsep.1, hsep.2.1, (hsep.2.2 rfl).2, fun _ => (hsep.2.2 rfl).1, he⟩
  have HEL0 := Lib.hid hEL
  have HFT := Lib.hid hFT
  have HSEP := Lib.hid hSEP
  have HT1 := Lib.hid h1
  have HTF := Lib.hid h2
  have HDF := Lib.hid h3
  have HRF := Lib.hid hf
  have HA := Lib.hid hA
  have HGL := Lib.hid hgl
  clear hy hEL hFT hSEP h1 h2 h3 hf hA hgl
  have hmk : ∀ W : World, (Instr.makeSlice 26 (.int .i64 0) (.int .i64 ((ys.length : Int) + 1))).run Try.prog W = .ok (.slice (some ⟨W.heap.size, 0, none⟩) 0 (ys.length + 1)) (W.alloc (.cells (madeCells #[.int .i64 0, .slice none 0 0] ((ys.length + 1) * 2)) 75)) := by
    intro W
    have h1 := run_make (P := Try.prog) W 26 75 i0 (.agg #[.int .i64 0, .slice none 0 0]) Try.underlying26 hI0 hz0 .i64 .i64 0 ((ys.length : Int) + 1) (by omega) (by omega) (by rw [hz2]; omega) (by omega)
    rw [hz1] at h1
    have e1 : ((ys.length : Int) + 1).toNat = ys.length + 1 := by omega
    rw [e1] at h1
    simpa [Value.cells] using h1
  have HMS : Hid ((madeCells #[.int .i64 0, .slice none 0 0] ((ys.length + 1) * 2)).size = (ys.length + 1) * 2) := Lib.hid (by rw [size_madeCells])
  generalize madeCells #[.int .i64 0, .slice none 0 0] ((ys.length + 1) * 2) = cur0 at *
  go_enter Try.func68, Try.ntmps68
  go_wp2_with (go_at_call 59; refine (implDist_any st q _).mono ?_; rintro e w' ⟨rfl, rfl⟩)
  go_loopw [6, 7, 23] (fun v vp p wr => ∃ (i : Nat) (pl : Bool) (g : Nat) (l : List NF) (cl : Nat) (Tq : Nat → Prop), i ≤ ys.length ∧ p = .int .i64 (i : Int) ∧ v = .slice (some ⟨g, 0, none⟩) l.length cl ∧ vp = .bool pl ∧ Hid (insI st (q, body) ys = l ++ (if pl = true then ys.drop i else insI st (q, body) (ys.drop i))) ∧ Hid (l.length ≤ i + pl.toNat) ∧ Hid (Below w.heap.size w wr) ∧ Hid (Bx6 w st A ys.length c q B body.length cb wr) ∧
      Hid (Els 2 (EN true) wr ga oa F ys) ∧ Hid (OwS true 2 (EN true) 75 wr Tq (w.heap.size + 3) (some ⟨g, 0, none⟩) cl l) ∧ Hid (∀ b, Tq b → (∃ j, j < i ∧ F j b) ∨ (pl = true ∧ Tf b)) ∧ w.heap.size + 3 ≤ wr.heap.size) (fun _ _ p _ => ys.length - (intOf p).toNat)
  case atStart =>
    refine ⟨0, false, w.heap.size + 3, [], ys.length + 1, (fun _ => False), Nat.zero_le _, rfl, by simp, rfl, Lib.hid (by simp), Lib.hid (by simp), Lib.hid (by repeat (first | (with_reducible exact Below.refl _ _) | (with_reducible refine Below.ext ?_ (by go_size) _ _) | (with_reducible refine Below.alloc ?_ (by go_size) _) | (with_reducible refine Below.setCell ?_ (by go_size) _) | (with_reducible refine Below.drew ?_) | (with_reducible refine Below.drewN_ ?_ _))), Lib.hid ?_, Lib.hid ?_, Lib.hid (OwS.made (Nat.le_refl _) (World.heap_new _ _ _ (by simp)) HMS.out (by unfold maxLen; omega)), Lib.hid (fun b h => h.elim), by simp⟩
    · refine ⟨?_, ?_, ?_, ?_, ?_, ?_, ?_, ?_, ?_⟩
      all_goals (simp [go_sem]; try done)
    · intro k hk
      exact EN.framed (S := fun _ => False) (HEL0.out k hk) (HGL.out (by intro h; subst h; simp at hk)) (Chg.of_below (by repeat (first | (with_reducible exact Below.refl _ _) | (with_reducible refine Below.ext ?_ (by go_size) _ _) | (with_reducible refine Below.alloc ?_ (by go_size) _) | (with_reducible refine Below.setCell ?_ (by go_size) _) | (with_reducible refine Below.drew ?_) | (with_reducible refine Below.drewN_ ?_ _)))) (fun h => h) (fun _ _ h => h)
  case round =>
    obtain ⟨i, pl, g, l, cl, Tq, hi, rfl, rfl, rfl, HIN, HLN, HB, HX6, HEL, HO, HTQ, hws⟩ := hrel
    have hgl := HO.out.lt
    have hgge := HO.out.ge
    have hbs := HB.out.size
    have hll : l.length ≤ 1000000000 := by have := HLN.out; have := Bool.toNat_le pl; omega
    have hw1 : w.heap.size < wr.heap.size := by omega
    have hw2 : w.heap.size + 1 < wr.heap.size := by omega
    have hw3 : w.heap.size + 1 + 1 < wr.heap.size := by omega
    have hw4 : w.heap.size + 2 < wr.heap.size := by omega
    by_cases hlt : i < ys.length
    · have hne : ys ≠ [] := by intro h; subst h; simp at hlt
      obtain rfl := HA.out hne
      have hgaw := HGL.out hne
      have hgag : ¬ ga = g := by omega
      obtain ⟨e0, _, ⟨Bx, dx, e1, _, hrx⟩⟩ := HEL.out i hlt
      have hdr : ys.drop i = ys[i] :: ys.drop (i + 1) := List.drop_eq_getElem_cons hlt
      have HDR := Lib.hid hdr
      have hlt2 : (i : Int) < (ys.length : Int) := by omega
      clear hdr
      generalize ys[i] = x at *
      obtain ⟨x1, x2⟩ := x
      simp only at e0 e1 hrx
      have hel : Below wr.heap.size wr (wr.alloc (.cells #[.int .i64 x1, .slice Bx x2.length dx] 75)) := Below.alloc (Below.refl _ _) (Nat.le_refl _) _
      have hesz : wr.heap.size < (wr.alloc (.cells #[.int .i64 x1, .slice Bx x2.length dx] 75)).heap.size := by simp
      have HU0 := Lib.hid (block_cell (World.heap_new wr (.cells #[.int .i64 x1, .slice Bx x2.length dx] 75) _ rfl) 0).1
      have HU1 := Lib.hid (block_cell (World.heap_new wr (.cells #[.int .i64 x1, .slice Bx x2.length dx] 75) _ rfl) 1).1
      have HBE0 := Lib.hid (HB.out.trans (hel.mono hbs))
      have HX6E := Lib.hid (Bx6.chg HX6.out (S := fun _ => False) (Chg.of_below hel) (fun b h => h.elim) hws)
      have HELE := Lib.hid (Els.frame (R := EN true) EN.framed HEL.out (by omega) (S := fun _ => False) (Chg.of_below hel) (fun h => h) (fun _ _ _ h => h))
      have HOE := Lib.hid (OwS.below (R := EN true) EN.framed HO.out hel)
      have RXE := Lib.hid (hrx.below hel)
      have RFE := Lib.hid (HRF.out.below HBE0.out)
      clear hel hrx
      cases pl
      · replace HTQ : Hid (∀ b, Tq b → ∃ j, j < i ∧ F j b) := Lib.hid (fun b hb => (HTQ.out b hb).elim (fun h => h) (fun h => absurd h.1 (by simp)))
        by_cases hsd : seqD st q < seqD st x1
        · have hdum := trivial
          obtain ⟨b_s0, b_s1, b_f0, b_f1, b_r0, b_r1, z_s1, z_r0, z_r1⟩ := HX6.out
          have hsd2 : seqD st q < seqD st x1 := hsd
          go_wp2_with fail
          refine (implDist_any st x1 _).mono ?_
          rintro e w' ⟨rfl, rfl⟩
          have hal1 : Below (wr.alloc (.cells #[.int .i64 x1, .slice Bx x2.length dx] 75)).heap.size (wr.alloc (.cells #[.int .i64 x1, .slice Bx x2.length dx] 75)) ((wr.alloc (.cells #[.int .i64 x1, .slice Bx x2.length dx] 75)).alloc (.cells #[.int .i64 q, .slice B body.length cb] 75)) := Below.alloc (Below.refl _ _) (Nat.le_refl _) _
          have HBW1 := Lib.hid hal1
          have HBK1 : Hid (((wr.alloc (.cells #[.int .i64 x1, .slice Bx x2.length dx] 75)).alloc (.cells #[.int .i64 q, .slice B body.length cb] 75)).heap[(wr.heap.size + 1)]? = some (.cells #[.int .i64 q, .slice B body.length cb] 75)) := Lib.hid (World.heap_new _ _ _ (by first | rfl | simp))
          have hglt1 := HOE.out.lt
          have hgge1 := HOE.out.ge
          have HBA1 : Hid ((w.heap.size + 3) ≤ ((wr.alloc (.cells #[.int .i64 x1, .slice Bx x2.length dx] 75)).alloc (.cells #[.int .i64 q, .slice B body.length cb] 75)).heap.size) := Lib.hid (by have := hal1.size; omega)
          have HFC1 : Hid (EN true ((wr.alloc (.cells #[.int .i64 x1, .slice Bx x2.length dx] 75)).alloc (.cells #[.int .i64 q, .slice B body.length cb] 75)) Tf (wr.heap.size + 1) 0 (q, body)) := Lib.hid (by
            have e0 := block_cell HBK1.out 0
            have e1 := block_cell HBK1.out 1
            exact ⟨e0.1, fun _ => e0.2, _, _, e1.1, fun _ => e1.2, RFE.out.below hal1⟩)
          have HFF1 : Hid (∀ b, Tf b → b < ((wr.alloc (.cells #[.int .i64 x1, .slice Bx x2.length dx] 75)).alloc (.cells #[.int .i64 q, .slice B body.length cb] 75)).heap.size ∧ Off (some ⟨g, 0, none⟩) b ∧ ¬ Tq b) := Lib.hid (by
            intro b hb
            have hsz := hal1.size
            have h1 := HTF.out b hb
            have hnt : ¬ Tq b := by
              intro h
              obtain ⟨j, hj, hjb⟩ := HTQ.out b h
              exact HDF.out b hb (HFT.out j b hjb)
            refine ⟨by omega, fun a' ha' => ?_, hnt⟩
            injection ha' with ha'
            subst ha'
            simp only
            omega)
          clear hal1
          go_wp2_with (at_builtin; refine wpList_appV (R := EN true) (u := true) (w0 := (wr.alloc (.cells #[.int .i64 x1, .slice Bx x2.length dx] 75))) (xs := l) (y := (q, body)) (Fn := Tf) (T := Tq) (gb := (wr.heap.size + 1)) rfl EN.mov (.tmp 38) (.tmp 40) 26 rfl 75 i0 (.agg #[.int .i64 0, .slice none 0 0]) 32 Try.underlying26 hI0 hz0 hz1 hz2 (by simp [Value.cells]) (by decide) rfl HOE.out HBW1.out #[.int .i64 q, .slice B body.length cb] 75 HBK1.out rfl (by simp [Value.oneCell']) rfl HFC1.out HFF1.out (by omega) (by decide) HBA1.out ?_)
          intro g1 c1 w4 l1 HQ1 HO1 HG1 HC1 HB1
          have hlt1 := HO1.out.lt
          have hge1 := HO1.out.ge
          have row1 : Chg (fun b => b = g) (wr.alloc (.cells #[.int .i64 x1, .slice Bx x2.length dx] 75)) w4 := (Chg.of_below HBW1.out).trans (HC1.out.mono (fun b _ hb => by obtain ⟨a', ha', hb⟩ := hb; injection ha' with ha'; subst ha'; exact hb))
          have hrs1 := row1.size
          have HGG1 : Hid (g1 = g ∨ (wr.alloc (.cells #[.int .i64 x1, .slice Bx x2.length dx] 75)).heap.size < g1) := Lib.hid (by
            rcases HG1.out with h | h
            · left; injection h with h; injection h with h; exact h.symm
            · right; rw [h]; simp)
          have HRW1 := Lib.hid row1
          clear row1
          have hgg1 := HGG1.out
          have HX64 := Lib.hid (Bx6.chg HX6E.out HRW1.out (fun b hb => by omega) (by omega))
          obtain ⟨b_s0, b_s1, b_f0, b_f1, b_r0, b_r1, z_s1, z_r0, z_r1⟩ := HX64.out
          have u0 : w4.cell? ⟨wr.heap.size, 0, none⟩ = some (.int .i64 x1) := (HRW1.out.cell (p := ⟨wr.heap.size, 0, none⟩) (by simp) (by simp only; omega)).trans HU0.out
          have u1 : w4.cell? ⟨wr.heap.size, 1, none⟩ = some (.slice Bx x2.length dx) := (HRW1.out.cell (p := ⟨wr.heap.size, 1, none⟩) (by simp) (by simp only; omega)).trans HU1.out
          have RX4 := Lib.hid (RXE.out.frame HRW1.out (fun b h1 h2 => by have h3 := HT1.out b (HFT.out i b h1); omega))
          have hll1 : l1.length ≤ 1000000000 := by rw [HQ1.out]; simp; have := HLN.out; simp at this; omega
          have hal2 : Below w4.heap.size w4 (w4.alloc (.cells #[.int .i64 x1, .slice Bx x2.length dx] 75)) := Below.alloc (Below.refl _ _) (Nat.le_refl _) _
          have HBW2 := Lib.hid hal2
          have HBK2 : Hid ((w4.alloc (.cells #[.int .i64 x1, .slice Bx x2.length dx] 75)).heap[w4.heap.size]? = some (.cells #[.int .i64 x1, .slice Bx x2.length dx] 75)) := Lib.hid (World.heap_new _ _ _ (by first | rfl | simp))
          have hglt2 := HO1.out.lt
          have hgge2 := HO1.out.ge
          have HBA2 : Hid ((w.heap.size + 3) ≤ (w4.alloc (.cells #[.int .i64 x1, .slice Bx x2.length dx] 75)).heap.size) := Lib.hid (by have := hal2.size; omega)
          have HFC2 : Hid (EN true (w4.alloc (.cells #[.int .i64 x1, .slice Bx x2.length dx] 75)) (F i) w4.heap.size 0 (x1, x2)) := Lib.hid (by
            have e0 := block_cell HBK2.out 0
            have e1 := block_cell HBK2.out 1
            exact ⟨e0.1, fun _ => e0.2, _, _, e1.1, fun _ => e1.2, RX4.out.below hal2⟩)
          have HFF2 : Hid (∀ b, (F i) b → b < (w4.alloc (.cells #[.int .i64 x1, .slice Bx x2.length dx] 75)).heap.size ∧ Off (some ⟨g1, 0, none⟩) b ∧ ¬ (fun b => Tq b ∨ Tf b) b) := Lib.hid (by
            intro b hb
            have hsz := hal2.size
            have h1 := HFT.out i b hb
            have h2 := HT1.out b h1
            have hnt : ¬ (fun b => Tq b ∨ Tf b) b := by
              intro h
              rcases h with h | h
              · obtain ⟨j, hj, hjb⟩ := HTQ.out b h
                exact absurd (HSEP.out _ _ b hjb hb) (by omega)
              · exact HDF.out b h h1
            refine ⟨by omega, fun a' ha' => ?_, hnt⟩
            injection ha' with ha'
            subst ha'
            simp only
            omega)
          clear hal2
          go_wp2_with (at_builtin; refine wpList_appV (R := EN true) (u := true) (w0 := w4) (xs := l1) (y := (x1, x2)) (Fn := (F i)) (T := (fun b => Tq b ∨ Tf b)) (gb := w4.heap.size) rfl EN.mov (.tmp 42) (.tmp 44) 26 rfl 75 i0 (.agg #[.int .i64 0, .slice none 0 0]) 32 Try.underlying26 hI0 hz0 hz1 hz2 (by simp [Value.cells]) (by decide) rfl HO1.out HBW2.out #[.int .i64 x1, .slice Bx x2.length dx] 75 HBK2.out rfl (by simp [Value.oneCell']) rfl HFC2.out HFF2.out (by omega) (by decide) HBA2.out ?_)
          intro g2 c2 w6 l2 HQ2 HO2 HG2 HC2 HB2
          have hlt2 := HO2.out.lt
          have hge2 := HO2.out.ge
          have row2 : Chg (fun b => b = g1) w4 w6 := (Chg.of_below HBW2.out).trans (HC2.out.mono (fun b _ hb => by obtain ⟨a', ha', hb⟩ := hb; injection ha' with ha'; subst ha'; exact hb))
          have hrs2 := row2.size
          have HGG2 : Hid (g2 = g1 ∨ w4.heap.size < g2) := Lib.hid (by
            rcases HG2.out with h | h
            · left; injection h with h; injection h with h; exact h.symm
            · right; rw [h]; simp)
          have HRW2 := Lib.hid row2
          clear row2
          have hgg2 := HGG2.out
          go_wp2
          go_roundw
          case rel =>
            have hgg := HGG2.out
            refine ⟨i + 1, true, g2, l2, c2, (fun b => (Tq b ∨ Tf b) ∨ F i b), by omega, by go_num, rfl, rfl, Lib.hid ?_, Lib.hid ?_, Lib.hid ((HBE0.out.trans (HRW1.out.below (by omega) (fun k hk => by omega))).trans (HRW2.out.below (by omega) (fun k hk => by omega))), Lib.hid (Bx6.chg (Bx6.chg HX6E.out HRW1.out (fun b hb => by omega) (by omega)) HRW2.out (fun b hb => by omega) (by omega)), Lib.hid (Els.frame (R := EN true) EN.framed (Els.frame (R := EN true) EN.framed HELE.out (by omega) HRW1.out (by omega) (fun k b h1 h2 => by have h3 := HT1.out b (HFT.out k b h1); omega)) (by omega) HRW2.out (by omega) (fun k b h1 h2 => by have h3 := HT1.out b (HFT.out k b h1); omega)), Lib.hid ?_, Lib.hid ?_, by omega⟩
            · rw [HIN.out, HQ2.out, HQ1.out, HDR.out, insI, if_pos hsd2]; simp
            · rw [HQ2.out, HQ1.out]; have := HLN.out; simp at this ⊢; omega
            · exact HO2.out
            · exact fun b hb => hb.elim (fun hb => hb.elim (fun hb => (HTQ.out b hb).elim (fun j h => .inl ⟨j, by omega, h.2⟩)) (fun hb => .inr ⟨rfl, hb⟩)) (fun hb => .inl ⟨i, by omega, hb⟩)
          case measure => simp [intOf]; omega
        · have hdum := trivial
          obtain ⟨b_s0, b_s1, b_f0, b_f1, b_r0, b_r1, z_s1, z_r0, z_r1⟩ := HX6.out
          have hsd2 : ¬ seqD st q < seqD st x1 := hsd
          go_wp2_with fail
          refine (implDist_any st x1 _).mono ?_
          rintro e w' ⟨rfl, rfl⟩
          have hal1 : Below (wr.alloc (.cells #[.int .i64 x1, .slice Bx x2.length dx] 75)).heap.size (wr.alloc (.cells #[.int .i64 x1, .slice Bx x2.length dx] 75)) ((wr.alloc (.cells #[.int .i64 x1, .slice Bx x2.length dx] 75)).alloc (.cells #[.int .i64 x1, .slice Bx x2.length dx] 75)) := Below.alloc (Below.refl _ _) (Nat.le_refl _) _
          have HBW1 := Lib.hid hal1
          have HBK1 : Hid (((wr.alloc (.cells #[.int .i64 x1, .slice Bx x2.length dx] 75)).alloc (.cells #[.int .i64 x1, .slice Bx x2.length dx] 75)).heap[(wr.heap.size + 1)]? = some (.cells #[.int .i64 x1, .slice Bx x2.length dx] 75)) := Lib.hid (World.heap_new _ _ _ (by first | rfl | simp))
          have hglt1 := HOE.out.lt
          have hgge1 := HOE.out.ge
          have HBA1 : Hid ((w.heap.size + 3) ≤ ((wr.alloc (.cells #[.int .i64 x1, .slice Bx x2.length dx] 75)).alloc (.cells #[.int .i64 x1, .slice Bx x2.length dx] 75)).heap.size) := Lib.hid (by have := hal1.size; omega)
          have HFC1 : Hid (EN true ((wr.alloc (.cells #[.int .i64 x1, .slice Bx x2.length dx] 75)).alloc (.cells #[.int .i64 x1, .slice Bx x2.length dx] 75)) (F i) (wr.heap.size + 1) 0 (x1, x2)) := Lib.hid (by
            have e0 := block_cell HBK1.out 0
            have e1 := block_cell HBK1.out 1
            exact ⟨e0.1, fun _ => e0.2, _, _, e1.1, fun _ => e1.2, RXE.out.below hal1⟩)
          have HFF1 : Hid (∀ b, (F i) b → b < ((wr.alloc (.cells #[.int .i64 x1, .slice Bx x2.length dx] 75)).alloc (.cells #[.int .i64 x1, .slice Bx x2.length dx] 75)).heap.size ∧ Off (some ⟨g, 0, none⟩) b ∧ ¬ Tq b) := Lib.hid (by
            intro b hb
            have hsz := hal1.size
            have h1 := HFT.out i b hb
            have h2 := HT1.out b h1
            have hnt : ¬ Tq b := by
              intro h
              obtain ⟨j, hj, hjb⟩ := HTQ.out b h
              exact absurd (HSEP.out _ _ b hjb hb) (by omega)
            refine ⟨by omega, fun a' ha' => ?_, hnt⟩
            injection ha' with ha'
            subst ha'
            simp only
            omega)
          clear hal1
          go_wp2_with (at_builtin; refine wpList_appV (R := EN true) (u := true) (w0 := (wr.alloc (.cells #[.int .i64 x1, .slice Bx x2.length dx] 75))) (xs := l) (y := (x1, x2)) (Fn := (F i)) (T := Tq) (gb := (wr.heap.size + 1)) rfl EN.mov (.tmp 42) (.tmp 44) 26 rfl 75 i0 (.agg #[.int .i64 0, .slice none 0 0]) 32 Try.underlying26 hI0 hz0 hz1 hz2 (by simp [Value.cells]) (by decide) rfl HOE.out HBW1.out #[.int .i64 x1, .slice Bx x2.length dx] 75 HBK1.out rfl (by simp [Value.oneCell']) rfl HFC1.out HFF1.out (by omega) (by decide) HBA1.out ?_)
          intro g1 c1 w4 l1 HQ1 HO1 HG1 HC1 HB1
          have hlt1 := HO1.out.lt
          have hge1 := HO1.out.ge
          have row1 : Chg (fun b => b = g) (wr.alloc (.cells #[.int .i64 x1, .slice Bx x2.length dx] 75)) w4 := (Chg.of_below HBW1.out).trans (HC1.out.mono (fun b _ hb => by obtain ⟨a', ha', hb⟩ := hb; injection ha' with ha'; subst ha'; exact hb))
          have hrs1 := row1.size
          have HGG1 : Hid (g1 = g ∨ (wr.alloc (.cells #[.int .i64 x1, .slice Bx x2.length dx] 75)).heap.size < g1) := Lib.hid (by
            rcases HG1.out with h | h
            · left; injection h with h; injection h with h; exact h.symm
            · right; rw [h]; simp)
          have HRW1 := Lib.hid row1
          clear row1
          go_wp2
          go_roundw
          case rel =>
            have hgg := HGG1.out
            refine ⟨i + 1, false, g1, l1, c1, (fun b => Tq b ∨ F i b), by omega, by go_num, rfl, rfl, Lib.hid ?_, Lib.hid ?_, Lib.hid (HBE0.out.trans (HRW1.out.below (by omega) (fun k hk => by omega))), Lib.hid (Bx6.chg HX6E.out HRW1.out (fun b hb => by omega) (by omega)), Lib.hid (Els.frame (R := EN true) EN.framed HELE.out (by omega) HRW1.out (by omega) (fun k b h1 h2 => by have h3 := HT1.out b (HFT.out k b h1); omega)), Lib.hid ?_, Lib.hid ?_, by omega⟩
            · rw [HIN.out, HQ1.out, HDR.out, insI, if_neg (show ¬ seqD st q < seqD st x1 by omega)]; simp
            · rw [HQ1.out]; have := HLN.out; simp at this ⊢; omega
            · exact HO1.out
            · exact fun b hb => hb.elim (fun hb => (HTQ.out b hb).elim (fun j h => .inl ⟨j, by omega, h.2⟩)) (fun hb => .inl ⟨i, by omega, hb⟩)
          case measure => simp [intOf]; omega
      · replace HTQ : Hid (∀ b, Tq b → (∃ j, j < i ∧ F j b) ∨ Tf b) := Lib.hid (fun b hb => (HTQ.out b hb).elim .inl (fun h => .inr h.2))
        obtain ⟨b_s0, b_s1, b_f0, b_f1, b_r0, b_r1, z_s1, z_r0, z_r1⟩ := HX6.out
        have hal1 : Below (wr.alloc (.cells #[.int .i64 x1, .slice Bx x2.length dx] 75)).heap.size (wr.alloc (.cells #[.int .i64 x1, .slice Bx x2.length dx] 75)) ((wr.alloc (.cells #[.int .i64 x1, .slice Bx x2.length dx] 75)).alloc (.cells #[.int .i64 x1, .slice Bx x2.length dx] 75)) := Below.alloc (Below.refl _ _) (Nat.le_refl _) _
        have HBW1 := Lib.hid hal1
        have HBK1 : Hid (((wr.alloc (.cells #[.int .i64 x1, .slice Bx x2.length dx] 75)).alloc (.cells #[.int .i64 x1, .slice Bx x2.length dx] 75)).heap[(wr.heap.size + 1)]? = some (.cells #[.int .i64 x1, .slice Bx x2.length dx] 75)) := Lib.hid (World.heap_new _ _ _ (by first | rfl | simp))
        have hglt1 := HOE.out.lt
        have hgge1 := HOE.out.ge
        have HBA1 : Hid ((w.heap.size + 3) ≤ ((wr.alloc (.cells #[.int .i64 x1, .slice Bx x2.length dx] 75)).alloc (.cells #[.int .i64 x1, .slice Bx x2.length dx] 75)).heap.size) := Lib.hid (by have := hal1.size; omega)
        have HFC1 : Hid (EN true ((wr.alloc (.cells #[.int .i64 x1, .slice Bx x2.length dx] 75)).alloc (.cells #[.int .i64 x1, .slice Bx x2.length dx] 75)) (F i) (wr.heap.size + 1) 0 (x1, x2)) := Lib.hid (by
          have e0 := block_cell HBK1.out 0
          have e1 := block_cell HBK1.out 1
          exact ⟨e0.1, fun _ => e0.2, _, _, e1.1, fun _ => e1.2, RXE.out.below hal1⟩)
        have HFF1 : Hid (∀ b, (F i) b → b < ((wr.alloc (.cells #[.int .i64 x1, .slice Bx x2.length dx] 75)).alloc (.cells #[.int .i64 x1, .slice Bx x2.length dx] 75)).heap.size ∧ Off (some ⟨g, 0, none⟩) b ∧ ¬ Tq b) := Lib.hid (by
          intro b hb
          have hsz := hal1.size
          have h1 := HFT.out i b hb
          have h2 := HT1.out b h1
          have hnt : ¬ Tq b := by
            intro h
            rcases HTQ.out b h with ⟨j, hj, hjb⟩ | hf
            · exact absurd (HSEP.out _ _ b hjb hb) (by omega)
            · exact HDF.out b hf h1
          refine ⟨by omega, fun a' ha' => ?_, hnt⟩
          injection ha' with ha'
          subst ha'
          simp only
          omega)
        clear hal1
        go_wp2_with (at_builtin; refine wpList_appV (R := EN true) (u := true) (w0 := (wr.alloc (.cells #[.int .i64 x1, .slice Bx x2.length dx] 75))) (xs := l) (y := (x1, x2)) (Fn := (F i)) (T := Tq) (gb := (wr.heap.size + 1)) rfl EN.mov (.tmp 42) (.tmp 44) 26 rfl 75 i0 (.agg #[.int .i64 0, .slice none 0 0]) 32 Try.underlying26 hI0 hz0 hz1 hz2 (by simp [Value.cells]) (by decide) rfl HOE.out HBW1.out #[.int .i64 x1, .slice Bx x2.length dx] 75 HBK1.out rfl (by simp [Value.oneCell']) rfl HFC1.out HFF1.out (by omega) (by decide) HBA1.out ?_)
        intro g1 c1 w4 l1 HQ1 HO1 HG1 HC1 HB1
        have hlt1 := HO1.out.lt
        have hge1 := HO1.out.ge
        have row1 : Chg (fun b => b = g) (wr.alloc (.cells #[.int .i64 x1, .slice Bx x2.length dx] 75)) w4 := (Chg.of_below HBW1.out).trans (HC1.out.mono (fun b _ hb => by obtain ⟨a', ha', hb⟩ := hb; injection ha' with ha'; subst ha'; exact hb))
        have hrs1 := row1.size
        have HGG1 : Hid (g1 = g ∨ (wr.alloc (.cells #[.int .i64 x1, .slice Bx x2.length dx] 75)).heap.size < g1) := Lib.hid (by
          rcases HG1.out with h | h
          · left; injection h with h; injection h with h; exact h.symm
          · right; rw [h]; simp)
        have HRW1 := Lib.hid row1
        clear row1
        go_wp2
        go_roundw
        case rel =>
          have hgg := HGG1.out
          refine ⟨i + 1, true, g1, l1, c1, (fun b => Tq b ∨ F i b), by omega, by go_num, rfl, rfl, Lib.hid ?_, Lib.hid ?_, Lib.hid (HBE0.out.trans (HRW1.out.below (by omega) (fun k hk => by omega))), Lib.hid (Bx6.chg HX6E.out HRW1.out (fun b hb => by omega) (by omega)), Lib.hid (Els.frame (R := EN true) EN.framed HELE.out (by omega) HRW1.out (by omega) (fun k b h1 h2 => by have h3 := HT1.out b (HFT.out k b h1); omega)), Lib.hid ?_, Lib.hid ?_, by omega⟩
          · rw [HIN.out, HQ1.out, HDR.out]; simp
          · rw [HQ1.out]; have := HLN.out; simp at this ⊢; omega
          · exact HO1.out
          · exact fun b hb => hb.elim (fun hb => (HTQ.out b hb).elim (fun ⟨j, hj, hjb⟩ => .inl ⟨j, by omega, hjb⟩) (fun h => .inr ⟨rfl, h⟩)) (fun hb => .inl ⟨i, by omega, hb⟩)
        case measure => simp [intOf]; omega
    · obtain rfl : i = ys.length := by omega
      have RFR := Lib.hid (HRF.out.below HB.out)
      cases pl
      · replace HTQ : Hid (∀ b, Tq b → ∃ j, j < ys.length ∧ F j b) := Lib.hid (fun b hb => (HTQ.out b hb).elim (fun h => h) (fun h => absurd h.1 (by simp)))
        have HIE : Hid (insI st (q, body) ys = l ++ [(q, body)]) := Lib.hid (by rw [HIN.out, List.drop_length]; rfl)
        obtain ⟨b_s0, b_s1, b_f0, b_f1, b_r0, b_r1, z_s1, z_r0, z_r1⟩ := HX6.out
        have hal1 : Below wr.heap.size wr (wr.alloc (.cells #[.int .i64 q, .slice B body.length cb] 75)) := Below.alloc (Below.refl _ _) (Nat.le_refl _) _
        have HBW1 := Lib.hid hal1
        have HBK1 : Hid ((wr.alloc (.cells #[.int .i64 q, .slice B body.length cb] 75)).heap[wr.heap.size]? = some (.cells #[.int .i64 q, .slice B body.length cb] 75)) := Lib.hid (World.heap_new _ _ _ (by first | rfl | simp))
        have hglt1 := HO.out.lt
        have hgge1 := HO.out.ge
        have HBA1 : Hid ((w.heap.size + 3) ≤ (wr.alloc (.cells #[.int .i64 q, .slice B body.length cb] 75)).heap.size) := Lib.hid (by have := hal1.size; omega)
        have HFC1 : Hid (EN true (wr.alloc (.cells #[.int .i64 q, .slice B body.length cb] 75)) Tf wr.heap.size 0 (q, body)) := Lib.hid (by
          have e0 := block_cell HBK1.out 0
          have e1 := block_cell HBK1.out 1
          exact ⟨e0.1, fun _ => e0.2, _, _, e1.1, fun _ => e1.2, RFR.out.below hal1⟩)
        have HFF1 : Hid (∀ b, Tf b → b < (wr.alloc (.cells #[.int .i64 q, .slice B body.length cb] 75)).heap.size ∧ Off (some ⟨g, 0, none⟩) b ∧ ¬ Tq b) := Lib.hid (by
          intro b hb
          have hsz := hal1.size
          have h1 := HTF.out b hb
          have hnt : ¬ Tq b := by
            intro h
            obtain ⟨j, hj, hjb⟩ := HTQ.out b h
            exact HDF.out b hb (HFT.out j b hjb)
          refine ⟨by omega, fun a' ha' => ?_, hnt⟩
          injection ha' with ha'
          subst ha'
          simp only
          omega)
        clear hal1
        go_wp2_with (at_builtin; refine wpList_appV (R := EN true) (u := true) (w0 := wr) (xs := l) (y := (q, body)) (Fn := Tf) (T := Tq) (gb := wr.heap.size) rfl EN.mov (.tmp 49) (.tmp 51) 26 rfl 75 i0 (.agg #[.int .i64 0, .slice none 0 0]) 32 Try.underlying26 hI0 hz0 hz1 hz2 (by simp [Value.cells]) (by decide) rfl HO.out HBW1.out #[.int .i64 q, .slice B body.length cb] 75 HBK1.out rfl (by simp [Value.oneCell']) rfl HFC1.out HFF1.out (by omega) (by decide) HBA1.out ?_)
        intro g1 c1 w4 l1 HQ1 HO1 HG1 HC1 HB1
        have hlt1 := HO1.out.lt
        have hge1 := HO1.out.ge
        have row1 : Chg (fun b => b = g) wr w4 := (Chg.of_below HBW1.out).trans (HC1.out.mono (fun b _ hb => by obtain ⟨a', ha', hb⟩ := hb; injection ha' with ha'; subst ha'; exact hb))
        have hrs1 := row1.size
        have HGG1 : Hid (g1 = g ∨ wr.heap.size < g1) := Lib.hid (by
          rcases HG1.out with h | h
          · left; injection h with h; injection h with h; exact h.symm
          · right; rw [h]; simp)
        have HRW1 := Lib.hid row1
        clear row1
        have HX64 := Lib.hid (Bx6.chg HX6.out HRW1.out (fun b hb => by omega) (by omega))
        have HB4 := Lib.hid (HB.out.trans (HRW1.out.below (by have := HB.out.size; omega) (fun k hk => by omega)))
        clear b_s0 b_s1 b_f0 b_f1 b_r0 b_r1 z_s1 z_r0 z_r1
        obtain ⟨b_s0, b_s1, b_f0, b_f1, b_r0, b_r1, z_s1, z_r0, z_r1⟩ := HX64.out
        have hfin : Chg (fun b => b = w.heap.size ∨ b = w.heap.size + 2) w4 (((w4.setCell ⟨w.heap.size, 1, none⟩ (.slice (some ⟨g1, 0, none⟩) l1.length c1)).setCell ⟨w.heap.size + 2, 0, none⟩ (.int .i64 st)).setCell ⟨w.heap.size + 2, 1, none⟩ (.slice (some ⟨g1, 0, none⟩) l1.length c1)) := Chg.setCell_ (S := fun b => b = w.heap.size ∨ b = w.heap.size + 2) (Chg.setCell_ (S := fun b => b = w.heap.size ∨ b = w.heap.size + 2) (Chg.setCell_ (S := fun b => b = w.heap.size ∨ b = w.heap.size + 2) (Chg.refl _ _) (p := ⟨w.heap.size, 1, none⟩) (.inl rfl) _) (p := ⟨w.heap.size + 2, 0, none⟩) (.inr rfl) _) (p := ⟨w.heap.size + 2, 1, none⟩) (.inr rfl) _
        have hv0 : (((w4.setCell ⟨w.heap.size, 1, none⟩ (.slice (some ⟨g1, 0, none⟩) l1.length c1)).setCell ⟨w.heap.size + 2, 0, none⟩ (.int .i64 st)).setCell ⟨w.heap.size + 2, 1, none⟩ (.slice (some ⟨g1, 0, none⟩) l1.length c1)).cell? ⟨w.heap.size + 2, 0, none⟩ = some (.int .i64 st) := by rw [World.cell?_setCell_other _ _ _ _ (fun e => by injection e with _ e2; omega)]; exact World.cell?_setCell_same (u := .int .i64 0) _ _ _ (by rw [World.cell?_setCell_other _ _ _ _ (fun e => by injection e with e1 e2; omega)]; exact b_r0)
        have hv1 : (((w4.setCell ⟨w.heap.size, 1, none⟩ (.slice (some ⟨g1, 0, none⟩) l1.length c1)).setCell ⟨w.heap.size + 2, 0, none⟩ (.int .i64 st)).setCell ⟨w.heap.size + 2, 1, none⟩ (.slice (some ⟨g1, 0, none⟩) l1.length c1)).cell? ⟨w.heap.size + 2, 1, none⟩ = some (.slice (some ⟨g1, 0, none⟩) l1.length c1) := World.cell?_setCell_same (u := .slice none 0 0) _ _ _ (by rw [World.cell?_setCell_other _ _ _ _ (fun e => by injection e with _ e2; omega), World.cell?_setCell_other _ _ _ _ (fun e => by injection e with e1 e2; omega)]; exact b_r1)
        have HF := Lib.hid hfin
        have HV0 := Lib.hid hv0
        have HV1 := Lib.hid hv1
        have hz12 : ¬ w.heap.size = w.heap.size + 2 := by omega
        clear hfin hv0 hv1
        go_wp2
        refine bodyPost_ret (v := .agg #[.int .i64 st, .slice (some ⟨g1, 0, none⟩) l1.length c1]) (by simp [results, Try.results68, go_sem, HV0.out, HV1.out]) rfl ?_
        rw [HIE.out, ← HQ1.out]
        refine ⟨g1, c1, (fun b => Tq b ∨ Tf b), rfl, HB4.out.trans (HF.out.below (by have := HB4.out.size; omega) (fun k hk => by omega)), ?_, ?_⟩
        · intro b hb
          rcases hb with hb | hb
          · obtain ⟨j, _, hjb⟩ := HTQ.out b hb
            exact .inl (HFT.out j b hjb)
          · exact .inr hb
        · exact OwS.frame (R := EN true) EN.framed HO1.out HF.out (fun b hb h2 => by
            have h0 : b < w.heap.size := by
              rcases hb with hb | hb
              · obtain ⟨j, _, hjb⟩ := HTQ.out b hb
                exact HT1.out b (HFT.out j b hjb)
              · exact HTF.out b hb
            rcases h2 with h2 | h2 <;> omega) (fun a' ha' h2 => by injection ha' with ha'; subst ha'; rcases h2 with h2 | h2 <;> (simp only at h2; omega))
      · replace HTQ : Hid (∀ b, Tq b → (∃ j, j < ys.length ∧ F j b) ∨ Tf b) := Lib.hid (fun b hb => (HTQ.out b hb).elim .inl (fun h => .inr h.2))
        have HIE : Hid (insI st (q, body) ys = l) := Lib.hid (by rw [HIN.out, List.drop_length]; simp)
        obtain ⟨b_s0, b_s1, b_f0, b_f1, b_r0, b_r1, z_s1, z_r0, z_r1⟩ := HX6.out
        have hfin : Chg (fun b => b = w.heap.size ∨ b = w.heap.size + 2) wr (((wr.setCell ⟨w.heap.size, 1, none⟩ (.slice (some ⟨g, 0, none⟩) l.length cl)).setCell ⟨w.heap.size + 2, 0, none⟩ (.int .i64 st)).setCell ⟨w.heap.size + 2, 1, none⟩ (.slice (some ⟨g, 0, none⟩) l.length cl)) := Chg.setCell_ (S := fun b => b = w.heap.size ∨ b = w.heap.size + 2) (Chg.setCell_ (S := fun b => b = w.heap.size ∨ b = w.heap.size + 2) (Chg.setCell_ (S := fun b => b = w.heap.size ∨ b = w.heap.size + 2) (Chg.refl _ _) (p := ⟨w.heap.size, 1, none⟩) (.inl rfl) _) (p := ⟨w.heap.size + 2, 0, none⟩) (.inr rfl) _) (p := ⟨w.heap.size + 2, 1, none⟩) (.inr rfl) _
        have hv0 : (((wr.setCell ⟨w.heap.size, 1, none⟩ (.slice (some ⟨g, 0, none⟩) l.length cl)).setCell ⟨w.heap.size + 2, 0, none⟩ (.int .i64 st)).setCell ⟨w.heap.size + 2, 1, none⟩ (.slice (some ⟨g, 0, none⟩) l.length cl)).cell? ⟨w.heap.size + 2, 0, none⟩ = some (.int .i64 st) := by rw [World.cell?_setCell_other _ _ _ _ (fun e => by injection e with _ e2; omega)]; exact World.cell?_setCell_same (u := .int .i64 0) _ _ _ (by rw [World.cell?_setCell_other _ _ _ _ (fun e => by injection e with e1 e2; omega)]; exact b_r0)
        have hv1 : (((wr.setCell ⟨w.heap.size, 1, none⟩ (.slice (some ⟨g, 0, none⟩) l.length cl)).setCell ⟨w.heap.size + 2, 0, none⟩ (.int .i64 st)).setCell ⟨w.heap.size + 2, 1, none⟩ (.slice (some ⟨g, 0, none⟩) l.length cl)).cell? ⟨w.heap.size + 2, 1, none⟩ = some (.slice (some ⟨g, 0, none⟩) l.length cl) := World.cell?_setCell_same (u := .slice none 0 0) _ _ _ (by rw [World.cell?_setCell_other _ _ _ _ (fun e => by injection e with _ e2; omega), World.cell?_setCell_other _ _ _ _ (fun e => by injection e with e1 e2; omega)]; exact b_r1)
        have HF := Lib.hid hfin
        have HV0 := Lib.hid hv0
        have HV1 := Lib.hid hv1
        have hz12 : ¬ w.heap.size = w.heap.size + 2 := by omega
        clear hfin hv0 hv1
        go_wp2
        refine bodyPost_ret (v := .agg #[.int .i64 st, .slice (some ⟨g, 0, none⟩) l.length cl]) (by simp [results, Try.results68, go_sem, HV0.out, HV1.out]) rfl ?_
        rw [HIE.out]
        refine ⟨g, cl, Tq, rfl, HB.out.trans (HF.out.below (by have := HB.out.size; omega) (fun k hk => by omega)), ?_, ?_⟩
        · intro b hb
          rcases HTQ.out b hb with ⟨j, _, hjb⟩ | hf
          · exact .inl (HFT.out j b hjb)
          · exact .inr hf
        · exact OwS.frame (R := EN true) EN.framed HO.out HF.out (fun b hb h2 => by
            have h0 : b < w.heap.size := by
              rcases HTQ.out b hb with ⟨j, _, hjb⟩ | hf
              · exact HT1.out b (HFT.out j b hjb)
              · exact HTF.out b hf
            rcases h2 with h2 | h2 <;> omega) (fun a' ha' h2 => by injection ha' with ha'; subst ha'; have := HO.out.ge; rcases h2 with h2 | h2 <;> (simp only at h2; omega))

end Go.Proofs.Ytnfgdgmmbddmgaa
