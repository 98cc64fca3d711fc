/- What FnBlockTransfer keeps in memory: the sender's box, the receiver's box, the row of what was delivered. -/
import Derived.Test.YtnfgdgmmbddmgaaTrnP
import Derived.Test.YtnfgdgmmbddmgaaOwW
namespace Go.Proofs.Ytnfgdgmmbddmgaa
open Go.RowKit
set_option linter.unusedVariables false
set_option linter.unusedSimpArgs false

structure TrM (w : World) (gs gr : Nat) (st nx ak rs : Int) (A : Option Addr) (c : Nat) (ys : List NF) (T : Nat → Prop) (g cl : Nat) (got : List (List Int)) (wr : World) : Prop where
  below : Below w.heap.size w wr
  h1 : w.heap.size ≤ gs
  h2 : gs < gr
  h3 : gr < wr.heap.size
  s0 : wr.cell? ⟨gs, 0, none⟩ = some (.int .i64 st)
  s1 : wr.cell? ⟨gs, 1, none⟩ = some (.int .i64 nx)
  s2 : wr.cell? ⟨gs, 2, none⟩ = some (.int .i64 ak)
  sf0 : wr.frozen? ⟨gs, 0, none⟩ = false
  sf1 : wr.frozen? ⟨gs, 1, none⟩ = false
  sf2 : wr.frozen? ⟨gs, 2, none⟩ = false
  r0 : wr.cell? ⟨gr, 0, none⟩ = some (.int .i64 rs)
  r1 : wr.cell? ⟨gr, 1, none⟩ = some (.slice A ys.length c)
  rf0 : wr.frozen? ⟨gr, 0, none⟩ = false
  rf1 : wr.frozen? ⟨gr, 1, none⟩ = false
  row : Sl false 2 (EN false) wr T A ys
  hT : ∀ b, T b → gr < b ∧ b ≠ g ∧ b < wr.heap.size
  own : OwS false 1 (EB false) 38 wr (fun b => gr < b) (gr + 1) (some ⟨g, 0, none⟩) cl got
section
variable {w wr wr' : World} {gs gr c g cl : Nat} {st nx ak rs : Int} {A : Option Addr} {ys : List NF} {T : Nat → Prop} {got : List (List Int)}
/- blocks behind gr, but the row of what was delivered and the pending frames, may change -/
theorem TrM.chg {S : Nat → Prop} (h : TrM w gs gr st nx ak rs A c ys T g cl got wr) (hc : Chg S wr wr') (hS : ∀ b, S b → wr.heap.size ≤ b) : TrM w gs gr st nx ak rs A c ys T g cl got wr' := by
  have hs := hc.size
  have a1 := h.h1; have a2 := h.h2; have a3 := h.h3
  have hg := h.own.lt
  have hb0 : ∀ b, b < wr.heap.size → ¬ S b := fun b hb hsb => by have := hS b hsb; omega
  have cl_ : ∀ p : Addr, p.block ≤ gr → wr'.cell? p = wr.cell? p := fun p hp => hc.cell (by omega) (hb0 _ (by omega))
  have fz : ∀ p : Addr, p.block ≤ gr → wr'.frozen? p = wr.frozen? p := fun p hp => hc.frozen (by omega) (hb0 _ (by omega))
  have hbl : Below wr.heap.size wr wr' := hc.below (Nat.le_refl _) (fun b hb => hS b hb)
  exact { below := h.below.trans (hbl.mono h.below.size), h1 := a1, h2 := a2, h3 := by omega,
          s0 := (cl_ _ (by simp only; omega)).trans h.s0, s1 := (cl_ _ (by simp only; omega)).trans h.s1, s2 := (cl_ _ (by simp only; omega)).trans h.s2,
          sf0 := (fz _ (by simp only; omega)).trans h.sf0, sf1 := (fz _ (by simp only; omega)).trans h.sf1, sf2 := (fz _ (by simp only; omega)).trans h.sf2,
          r0 := (cl_ _ (by simp only; omega)).trans h.r0, r1 := (cl_ _ (by simp only; omega)).trans h.r1, rf0 := (fz _ (by simp only; omega)).trans h.rf0, rf1 := (fz _ (by simp only; omega)).trans h.rf1,
          row := h.row.below EN.framed hbl, hT := fun b hb => by have := h.hT b hb; omega, own := h.own.below EB.framed hbl }
theorem TrM.below_ (h : TrM w gs gr st nx ak rs A c ys T g cl got wr) (hb : Below wr.heap.size wr wr') : TrM w gs gr st nx ak rs A c ys T g cl got wr' :=
  h.chg (S := fun _ => False) (Chg.of_below hb) (fun _ h => h.elim)
/- the sender's box is written -/
theorem TrM.setS {st' nx' ak' : Int} (h : TrM w gs gr st nx ak rs A c ys T g cl got wr) : TrM w gs gr st' nx' ak' rs A c ys T g cl got (((wr.setCell ⟨gs, 0, none⟩ (.int .i64 st')).setCell ⟨gs, 1, none⟩ (.int .i64 nx')).setCell ⟨gs, 2, none⟩ (.int .i64 ak')) := by
  have a1 := h.h1; have a2 := h.h2; have a3 := h.h3
  have hge := h.own.ge
  have hc : Chg (fun b => b = gs) wr (((wr.setCell ⟨gs, 0, none⟩ (.int .i64 st')).setCell ⟨gs, 1, none⟩ (.int .i64 nx')).setCell ⟨gs, 2, none⟩ (.int .i64 ak')) :=
    Chg.setCell_ (S := fun b => b = gs) (Chg.setCell_ (S := fun b => b = gs) (Chg.setCell_ (S := fun b => b = gs) (Chg.refl _ _) (p := ⟨gs, 0, none⟩) rfl _) (p := ⟨gs, 1, none⟩) rfl _) (p := ⟨gs, 2, none⟩) rfl _
  have hs := hc.size
  have fz : ∀ p : Addr, (((wr.setCell ⟨gs, 0, none⟩ (.int .i64 st')).setCell ⟨gs, 1, none⟩ (.int .i64 nx')).setCell ⟨gs, 2, none⟩ (.int .i64 ak')).frozen? p = wr.frozen? p := fun p => (World.frozen?_setCell _ _ _ _).trans ((World.frozen?_setCell _ _ _ _).trans (World.frozen?_setCell _ _ _ _))
  have n1 : ∀ {i j : Nat}, i ≠ j → (⟨gs, i, none⟩ : Addr) ≠ ⟨gs, j, none⟩ := fun h e => h (by injection e)
  exact { below := h.below.trans (hc.below h.below.size (fun b hb => by omega)), h1 := a1, h2 := a2, h3 := by omega,
          s0 := by rw [World.cell?_setCell_other _ _ _ _ (fun e => by injection e with _ e2; omega), World.cell?_setCell_other _ _ _ _ (fun e => by injection e with _ e2; omega)]; exact World.cell?_setCell_same _ _ _ h.s0,
          s1 := by rw [World.cell?_setCell_other _ _ _ _ (fun e => by injection e with _ e2; omega)]; exact World.cell?_setCell_same (u := .int .i64 nx) _ _ _ (by rw [World.cell?_setCell_other _ _ _ _ (fun e => by injection e with _ e2; omega)]; exact h.s1),
          s2 := World.cell?_setCell_same (u := .int .i64 ak) _ _ _ (by rw [World.cell?_setCell_other _ _ _ _ (fun e => by injection e with _ e2; omega), World.cell?_setCell_other _ _ _ _ (fun e => by injection e with _ e2; omega)]; exact h.s2),
          sf0 := (fz _).trans h.sf0, sf1 := (fz _).trans h.sf1, sf2 := (fz _).trans h.sf2,
          r0 := (hc.cell (p := ⟨gr, 0, none⟩) a3 (by simp only; omega)).trans h.r0, r1 := (hc.cell (p := ⟨gr, 1, none⟩) a3 (by simp only; omega)).trans h.r1, rf0 := (fz _).trans h.rf0, rf1 := (fz _).trans h.rf1,
          row := h.row.frame EN.framed hc (fun b hb h2 => by have := h.hT b hb; omega), hT := fun b hb => by have := h.hT b hb; omega,
          own := h.own.frame EB.framed hc (fun b hb h2 => by omega) (fun a' ha' h2 => by injection ha' with ha'; subst ha'; simp only at h2; omega) }
/- the receiver's box is written -/
theorem TrM.setR {rs' : Int} {A' : Option Addr} {c' : Nat} {ys' : List NF} {T' : Nat → Prop} (h : TrM w gs gr st nx ak rs A c ys T g cl got wr) (hr : Sl false 2 (EN false) wr T' A' ys') (hT' : ∀ b, T' b → gr < b ∧ b ≠ g ∧ b < wr.heap.size) :
    TrM w gs gr st nx ak rs' A' c' ys' T' g cl got ((wr.setCell ⟨gr, 0, none⟩ (.int .i64 rs')).setCell ⟨gr, 1, none⟩ (.slice A' ys'.length c')) := by
  have a1 := h.h1; have a2 := h.h2; have a3 := h.h3
  have hge := h.own.ge
  have hc : Chg (fun b => b = gr) wr ((wr.setCell ⟨gr, 0, none⟩ (.int .i64 rs')).setCell ⟨gr, 1, none⟩ (.slice A' ys'.length c')) :=
    Chg.setCell_ (S := fun b => b = gr) (Chg.setCell_ (S := fun b => b = gr) (Chg.refl _ _) (p := ⟨gr, 0, none⟩) rfl _) (p := ⟨gr, 1, none⟩) rfl _
  have hs := hc.size
  have fz : ∀ p : Addr, ((wr.setCell ⟨gr, 0, none⟩ (.int .i64 rs')).setCell ⟨gr, 1, none⟩ (.slice A' ys'.length c')).frozen? p = wr.frozen? p := fun p => (World.frozen?_setCell _ _ _ _).trans (World.frozen?_setCell _ _ _ _)
  have cl_ : ∀ i, ((wr.setCell ⟨gr, 0, none⟩ (.int .i64 rs')).setCell ⟨gr, 1, none⟩ (.slice A' ys'.length c')).cell? ⟨gs, i, none⟩ = wr.cell? ⟨gs, i, none⟩ := fun i => hc.cell (p := ⟨gs, i, none⟩) (by simp only; omega) (by simp only; omega)
  exact { below := h.below.trans (hc.below h.below.size (fun b hb => by omega)), h1 := a1, h2 := a2, h3 := by omega,
          s0 := (cl_ 0).trans h.s0, s1 := (cl_ 1).trans h.s1, s2 := (cl_ 2).trans h.s2,
          sf0 := (fz _).trans h.sf0, sf1 := (fz _).trans h.sf1, sf2 := (fz _).trans h.sf2,
          r0 := by rw [World.cell?_setCell_other _ _ _ _ (fun e => by injection e with _ e2; omega)]; exact World.cell?_setCell_same _ _ _ h.r0,
          r1 := World.cell?_setCell_same (u := .slice A ys.length c) _ _ _ (by rw [World.cell?_setCell_other _ _ _ _ (fun e => by injection e with _ e2; omega)]; exact h.r1),
          rf0 := (fz _).trans h.rf0, rf1 := (fz _).trans h.rf1,
          row := hr.frame EN.framed hc (fun b hb h2 => by have := hT' b hb; omega), hT := fun b hb => by have := hT' b hb; omega,
          own := h.own.frame EB.framed hc (fun b hb h2 => by omega) (fun a' ha' h2 => by injection ha' with ha'; subst ha'; simp only at h2; omega) }
/- the row has grown -/
theorem TrM.app {g' cl' : Nat} {got' : List (List Int)} (h : TrM w gs gr st nx ak rs A c ys T g cl got wr) (hc : Chg (fun b => b = g) wr wr') (hg : g' = g ∨ g' = wr.heap.size) (ho : OwS false 1 (EB false) 38 wr' (fun b => gr < b) (gr + 1) (some ⟨g', 0, none⟩) cl' got') : TrM w gs gr st nx ak rs A c ys T g' cl' got' wr' := by
  have a1 := h.h1; have a2 := h.h2; have a3 := h.h3
  have hge := h.own.ge
  have hs := hc.size
  have cl_ : ∀ p : Addr, p.block ≤ gr → wr'.cell? p = wr.cell? p := fun p hp => hc.cell (by omega) (by omega)
  have fz : ∀ p : Addr, p.block ≤ gr → wr'.frozen? p = wr.frozen? p := fun p hp => hc.frozen (by omega) (by omega)
  exact { below := h.below.trans (hc.below h.below.size (fun b hb => by omega)), h1 := a1, h2 := a2, h3 := by omega,
          s0 := (cl_ _ (by simp only; omega)).trans h.s0, s1 := (cl_ _ (by simp only; omega)).trans h.s1, s2 := (cl_ _ (by simp only; omega)).trans h.s2,
          sf0 := (fz _ (by simp only; omega)).trans h.sf0, sf1 := (fz _ (by simp only; omega)).trans h.sf1, sf2 := (fz _ (by simp only; omega)).trans h.sf2,
          r0 := (cl_ _ (by simp only; omega)).trans h.r0, r1 := (cl_ _ (by simp only; omega)).trans h.r1, rf0 := (fz _ (by simp only; omega)).trans h.rf0, rf1 := (fz _ (by simp only; omega)).trans h.rf1,
          row := h.row.frame EN.framed hc (fun b hb h2 => by have := h.hT b hb; omega), hT := fun b hb => by have := h.hT b hb; omega, own := ho }
end

/- the numbers behind it, in round r: a the sender's start, n its next, rr the receiver's start, all counted from the first number -/
structure TrI (tot r a n rr A : Nat) (ps : List Nat) : Prop where
  tot20 : tot ≤ 20
  ar : a ≤ rr
  rn : rr ≤ n
  nt : n ≤ tot
  na : n ≤ a + 16
  srt : Srt n (rr + 1) ps
  lt : A < 2 ^ (n - a)
  ev : A % 2 = 0
  rec_ : ∀ i, A.testBit i = true → a + i < rr ∨ a + i ∈ ps
  p31 : 31 ≤ r → tot ≤ a ∨ 16 ≤ a
  p32 : 32 ≤ r → a = tot
theorem TrI.n60 {tot r a n rr A : Nat} {ps : List Nat} (h : TrI tot r a n rr A ps) : n ≤ 60 := by have := h.nt; have := h.tot20; omega
theorem TrI.vs {tot r a n rr A : Nat} {ps : List Nat} (f : Int) (h : TrI tot r a n rr A ps) : vSend (sq f a) (sq f n) (A : Int) = true := vSend_can f (Nat.le_trans h.ar h.rn) h.na h.n60 h.lt h.ev
theorem TrI.vr {tot r a n rr A : Nat} {ps : List Nat} (f : Int) (h : TrI tot r a n rr A ps) : vROB (sq f rr) (can f ps) = true := can_valid f (by have := h.na; have := h.ar; omega) h.n60 h.srt
/- one more is sent -/
theorem TrI.send {tot r a n rr A : Nat} {ps : List Nat} (h : TrI tot r a n rr A ps) (h1 : n < tot) (h2 : n < a + 16) : TrI tot r a (n + 1) rr A ps where
  tot20 := h.tot20
  ar := h.ar
  rn := by have := h.rn; omega
  nt := by omega
  na := by omega
  srt := h.srt.hi_ (by omega)
  lt := Nat.lt_of_lt_of_le h.lt (Nat.pow_le_pow_right (by omega) (by omega))
  ev := h.ev
  rec_ := h.rec_
  p31 := h.p31
  p32 := h.p32
/- one more has arrived -/
theorem TrI.recv {tot r a n rr A j r' : Nat} {ps qs : List Nat} (h : TrI tot r a n rr A ps) (h1 : rr ≤ r') (h2 : r' ≤ n) (h3 : Srt n (r' + 1) qs) (h4 : ∀ x, (x < r' ∨ x ∈ qs) ↔ (x < rr ∨ x ∈ ps ∨ x = j)) : TrI tot r a n r' A qs where
  tot20 := h.tot20
  ar := by have := h.ar; omega
  rn := h2
  nt := h.nt
  na := h.na
  srt := h3
  lt := h.lt
  ev := h.ev
  rec_ := fun i hi => (h4 _).2 ((h.rec_ i hi).imp id .inl)
  p31 := h.p31
  p32 := h.p32
/- the end of a round without an acknowledgment (before round 30) -/
theorem TrI.noack {tot r a n rr A : Nat} {ps : List Nat} (h : TrI tot r a n rr A ps) (hr : r < 30) : TrI tot (r + 1) a n rr A ps where
  tot20 := h.tot20
  ar := h.ar
  rn := h.rn
  nt := h.nt
  na := h.na
  srt := h.srt
  lt := h.lt
  ev := h.ev
  rec_ := h.rec_
  p31 := fun h9 => by omega
  p32 := fun h9 => by omega
/- the end of a round with one; from round 30 on everything has arrived: rr = n -/
theorem TrI.ack {tot r a n rr A A' : Nat} {ps : List Nat} (h : TrI tot r a n rr A ps) (h1 : A' < 2 ^ (n - rr)) (h2 : A' % 2 = 0) (h3 : ∀ i, A'.testBit i = true → rr + i ∈ ps) (hsent : n = tot ∨ n = a + 16) (hr : 30 ≤ r → rr = n) : TrI tot (r + 1) rr n rr A' ps where
  tot20 := h.tot20
  ar := Nat.le_refl _
  rn := h.rn
  nt := h.nt
  na := by have := h.na; have := h.ar; omega
  srt := h.srt
  lt := h1
  ev := h2
  rec_ := fun i hi => .inr (h3 i hi)
  p31 := fun h9 => by have := hr (by omega); omega
  p32 := fun h9 => by
    have e := hr (by omega)
    have := h.p31 (by omega)
    have := h.nt
    have := h.tot20
    omega
/- all has arrived -/
theorem TrI.full {tot r a n rr A : Nat} {ps : List Nat} (h : TrI tot r a n rr A ps) (hall : ∀ i, i < n - a → A.testBit i = false → a + i < rr ∨ a + i ∈ ps) : rr = n := by
  have hrn := h.rn
  have har := h.ar
  rcases Nat.lt_or_ge rr n with hlt | hge
  · have : a + (rr - a) < rr ∨ a + (rr - a) ∈ ps := by
      cases hb : A.testBit (rr - a) with
      | true => exact h.rec_ _ hb
      | false => exact hall _ (by omega) hb
    rw [show a + (rr - a) = rr by omega] at this
    rcases this with h1 | h1
    · omega
    · have := h.srt.mem _ h1; omega
  · omega

def gotL (rr : Nat) : List (List Int) := (List.range rr).map fun (i : Nat) => [(i : Int)]
theorem gotL_len (rr : Nat) : (gotL rr).length = rr := by simp [gotL]
theorem gotL_app {rr r' : Nat} (h : rr ≤ r') : gotL rr ++ (List.range' rr (r' - rr)).map (fun (i : Nat) => [(i : Int)]) = gotL r' := by
  unfold gotL
  rw [← List.map_append, List.range_eq_range', List.range_eq_range']
  congr 1
  have := List.range'_append (s := 0) (m := rr) (n := r' - rr) (step := 1)
  rw [Nat.one_mul, Nat.zero_add] at this
  rw [this, show rr + (r' - rr) = r' by omega]

end Go.Proofs.Ytnfgdgmmbddmgaa
