/- Several texts in one (merge.py): HeldV, Drob, Rapp, Droa, Dron, Drow. -/
import Derived.Test.YtnfgdgmmbddmgaaHeldL
import Derived.Deep.Quiet
import Derived.Test.YtnfgdgmmbddmgaaDrewOx
import Derived.Test.YtnfgdgmmbddmgaaRrcSs
import Derived.Test.YtnfgdgmmbddmgaaRobQ
import Derived.Test.YtnfgdgmmbddmgaaRobN
import Derived.ArgAppend
import Derived.Test.YtnfgdgmmbddmgaaNFl
import Derived.Test.YtnfgdgmmbddmgaaRmis
import Derived.Test.YtnfgdgmmbddmgaaApp
/- A drawn region whose operations only read, calls included, but for the last ones (those in E), which wait for all the others. -/
namespace Go.Proofs.Ytnfgdgmmbddmgaa
open Go.RowKit
set_option linter.unusedVariables false
set_option linter.unusedSimpArgs false

section
variable {P : Program} {ops : Array Oper} {Q : Exit → Act → World → Prop} {md : Region.Mode} {S : World → Prop} {E : List Nat}
def wpAnyV (P : Program) (md : Region.Mode) (ops : Array Oper) (Q : Exit → Act → World → Prop) (S : World → Prop) (E : List Nat) : Nat → Array Bool → Act → Prop
  | 0, listed, a => Region.ready md ops listed = [] ∧ ∀ w, S w → Q .normal a w
  | fuel + 1, listed, a => (Region.ready md ops listed = [] → ∀ w, S w → Q .normal a w) ∧
    ∀ i ∈ Region.ready md ops listed, if E.contains i = true then ∀ w, S w → wpOp P ops Q i (wpAny P md ops Q fuel (listed.setIfInBounds i true)) a w
      else qOp P ops S i (wpAnyV P md ops Q S E fuel (listed.setIfInBounds i true)) a
theorem wpAny_of_V : ∀ (fuel : Nat) (listed : Array Bool) (a : Act) (w : World), S w → wpAnyV P md ops Q S E fuel listed a → wpAny P md ops Q fuel listed a w
  | 0, _, _, w, hw, h => ⟨h.1, h.2 w hw⟩
  | fuel + 1, listed, a, w, hw, h => ⟨fun h0 => h.1 h0 w hw, fun i hi => by
      have h2 := h.2 i hi
      split at h2
      · exact h2 w hw
      · exact wpOp_of_qOp hw (fun a' w' hw' hk => wpAny_of_V fuel _ a' w' hw' hk) h2⟩
theorem wpAnyV_first {i : Nat} {oi : Oper} {v : Value} (hi : ops[i]? = some oi) (hsel : ∀ (j : Nat) (o : Oper) cs b, ops[j]? = some o → o.op ≠ .select cs b) {C : List Nat} (hEC : ∀ j ∈ E, j ∈ C) (hEi : E.contains i = false) :
    ∀ (fuel : Nat) (listed : Array Bool) (a : Act),
      (∀ j oj, ops[j]? = some oj → j ≠ i → listed.getD j true = false → (∀ e ∈ oj.after, Region.binds md e = true → e.on ≠ i) → oi.apart ops oj = true) →
      i ∈ Region.ready md ops listed → waitsC md ops C i listed = true → YieldsIn P ops S oi v a →
      wpAnyV P md ops Q S E fuel (listed.setIfInBounds i true) (a.put oi.dst v) → wpAnyV P md ops Q S E (fuel + 1) listed a := by
  intro fuel
  induction fuel with
  | zero =>
    intro listed a _ hr hC hy H
    refine ⟨fun h => (by rw [h] at hr; cases hr), fun j hj => ?_⟩
    by_cases hji : j = i
    · subst hji
      rw [if_neg (by rw [hEi]; simp)]
      exact hy.qOp hi H
    · have := ready_mono hj hji
      rw [H.1] at this
      cases this
  | succ fuel ih =>
    intro listed a hfree hr hC hy H
    refine ⟨fun h => (by rw [h] at hr; cases hr), fun j hj => ?_⟩
    by_cases hji : j = i
    · subst hji
      rw [if_neg (by rw [hEi]; simp)]
      exact hy.qOp hi H
    · have h1 := H.2 j (ready_mono hj hji)
      obtain ⟨hjun, oj, hoj, hall⟩ := mem_ready.1 hj
      have hnot : ∀ e ∈ oj.after, Region.binds md e = true → e.on ≠ i := fun e he hb heq => by
        have h1 := hall e he hb
        have h0 := (mem_ready.1 hr).1
        rw [heq] at h1
        rcases Nat.lt_or_ge i listed.size with h' | h'
        · simp [h'] at h0 h1; rw [h0] at h1; cases h1
        · simp [Array.getElem?_eq_none h'] at h1
      have hjC := waitsC_out hC (by
          have h0 := (mem_ready.1 hr).1
          exact h0) hj hoj hall
      have hjE : E.contains j = false := by
        cases h : E.contains j with
        | false => rfl
        | true => exact absurd (hEC j (List.contains_iff_mem.1 h)) hjC
      rw [if_neg (by rw [hjE]; simp)] at h1 ⊢
      have h2 := qOp_put hoj (hfree j oj hoj hji hjun hnot) (fun cs b => hsel i oi cs b hi) (fun cs b => hsel j oj cs b hoj) hy h1
      have hfree' : ∀ k ok, ops[k]? = some ok → k ≠ i → (listed.setIfInBounds j true).getD k true = false →
          (∀ e ∈ ok.after, Region.binds md e = true → e.on ≠ i) → oi.apart ops ok = true := fun k ok hk hki hun hno => by
        refine hfree k ok hk hki ?_ hno
        by_cases hjk : j = k
        · subst hjk; exact hjun
        · rw [getD_set_ne true hjk] at hun; exact hun
      refine qOp_mono (fun a' h3 => ih (listed.setIfInBounds j true) a' hfree' (ready_mono hr (Ne.symm hji)) (waitsC_set hC hjC) h3.1 ?_) h2
      rw [Array.setIfInBounds_comm _ _ hji]
      exact h3.2
theorem wpAnyV_take (C : List Nat) {i : Nat} {oi : Oper} {v : Value} {fuel : Nat} {listed : Array Bool} {a : Act} {d : Option Tmp} (hi : ops[i]? = some oi) (hd : oi.dst = d) (hC : waitsC md ops C i listed = true) (hEC : (E.all fun j => C.contains j) = true) (hEi : E.contains i = false)
    (hs : Region.noSelect ops = true) (hf : Region.free md ops listed i = true) (hr : (Region.ready md ops listed).contains i = true)
    (hw : Region.wanted oi (yielded ops a.tmps) = true) (hv : ∀ w, S w → oi.quietAt P a S w v)
    (h : wpAnyV P md ops Q S E fuel (listed.setIfInBounds i true) (a.put d v)) : wpAnyV P md ops Q S E (fuel + 1) listed a := by
  subst hd
  exact wpAnyV_first hi (Region.noSelect_spec hs) (fun j hj => by rw [List.all_eq_true] at hEC; exact List.contains_iff_mem.1 (hEC j hj)) hEi fuel listed a (Region.free_spec hi hf) (by simpa using hr) hC (.inl ⟨hw, hv⟩) h
theorem wpAnyV_tail {fuel : Nat} {listed : Array Bool} {a : Act} (hr : ((Region.ready md ops listed).all fun i => E.contains i) = true) (h : ∀ w, S w → wpAny P md ops Q (fuel + 1) listed a w) : wpAnyV P md ops Q S E (fuel + 1) listed a :=
  ⟨fun h0 w hw => (h w hw).1 h0, fun i hi => by
    rw [List.all_eq_true] at hr
    rw [if_pos (hr i hi)]
    exact fun w hw => (h w hw).2 i hi⟩
theorem wp_region_V (E : List Nat) {id : Nat} {a : Act} {w : World} (hm : P.follows .mixedOrders = true) (hS : S w.drew) (h : wpAnyV P .any ops Q S E ops.size (Array.replicate ops.size false) a) : (Code.region id ops true).wp P Q a w :=
  wp_region_any hm (wpAny_of_V _ _ _ _ hS h)
theorem G_of_any : ∀ (fuel : Nat) (listed : Array Bool) (a : Act) (w : World), wpAny P md ops Q fuel listed a w → wpAnyG P md ops Q (fun _ => True) [] fuel listed a w
  | 0, _, _, _, h => h
  | fuel + 1, _, _, _, h => ⟨h.1, fun i hi => wpOp_mono (fun a' w' h' => ⟨fun _ => trivial, G_of_any fuel _ a' w' h'⟩) (h.2 i hi)⟩
theorem quietAt_val {o : Oper} {a : Act} {C : World → Prop} {w : World} {v : Value} (h : (execOp a.eval o).run P w = .ok (.value v) w) : o.quietAt P a C w v := by
  unfold Oper.quietAt
  rw [h]
  exact ⟨rfl, rfl⟩
theorem quietAt_call {o : Oper} {a : Act} {C : World → Prop} {w : World} {v : Value} {f : FuncId} {args : Array Value} (h : (execOp a.eval o).run P w = .ok (.enter f args) w) (hc : Calls P f args w fun e w'' => e = .returned v ∧ C w'') : o.quietAt P a C w v := by
  unfold Oper.quietAt
  rw [h]
  exact ⟨rfl, hc⟩
end

end Go.Proofs.Ytnfgdgmmbddmgaa

/- Boxes of a reorder buffer; what a drawn one is; l22Buffer: a valid one, with its spare cells, from the code. -/
namespace Go.Proofs.Ytnfgdgmmbddmgaa
open Go.RowKit
set_option linter.unusedVariables false
set_option linter.unusedSimpArgs false

structure BxR (W : World) (b : Nat) (st : Int) (A : Option Addr) (n c : Nat) : Prop where
  c0 : W.cell? ⟨b, 0, none⟩ = some (.int .i64 st)
  c1 : W.cell? ⟨b, 1, none⟩ = some (.slice A n c)
  z0 : W.frozen? ⟨b, 0, none⟩ = false
  z1 : W.frozen? ⟨b, 1, none⟩ = false
  lt : b < W.heap.size
section
variable {W W' : World} {b n c n' c' : Nat} {st st' : Int} {A A' : Option Addr} {S : Nat → Prop}
theorem BxR.chg (h : BxR W b st A n c) (hc : Chg S W W') (hs : ¬ S b) : BxR W' b st A n c :=
  ⟨(hc.cell (p := ⟨b, 0, none⟩) h.lt hs).trans h.c0, (hc.cell (p := ⟨b, 1, none⟩) h.lt hs).trans h.c1, (hc.frozen (p := ⟨b, 0, none⟩) h.lt hs).trans h.z0, (hc.frozen (p := ⟨b, 1, none⟩) h.lt hs).trans h.z1, Nat.lt_of_lt_of_le h.lt hc.size⟩
theorem BxR.below (h : BxR W b st A n c) (hb : Below W.heap.size W W') : BxR W' b st A n c := h.chg (S := fun _ => False) (Chg.of_below hb) (fun h => h)
theorem BxR.new {t : TypeId} (h : W.heap[b]? = some (.cells #[.int .i64 st, .slice A n c] t (0, 0))) : BxR W b st A n c :=
  ⟨(block_cell h 0).1, (block_cell h 1).1, (block_cell h 0).2, (block_cell h 1).2, lt_of_heap h⟩
theorem setR_ne {i j : Nat} (h : i ≠ j) : (⟨b, i, none⟩ : Addr) ≠ ⟨b, j, none⟩ := fun e => h (by injection e)
theorem BxR.s0 (h : BxR W b st A n c) : BxR (W.setCell ⟨b, 0, none⟩ (.int .i64 st')) b st' A n c :=
  ⟨World.cell?_setCell_same _ _ _ h.c0, (World.cell?_setCell_other _ _ _ _ (setR_ne (by decide))).trans h.c1, (World.frozen?_setCell _ _ _ _).trans h.z0, (World.frozen?_setCell _ _ _ _).trans h.z1, by simpa [World.setCell] using h.lt⟩
theorem BxR.s1 (h : BxR W b st A n c) : BxR (W.setCell ⟨b, 1, none⟩ (.slice A' n' c')) b st A' n' c' :=
  ⟨(World.cell?_setCell_other _ _ _ _ (setR_ne (by decide))).trans h.c0, World.cell?_setCell_same _ _ _ h.c1, (World.frozen?_setCell _ _ _ _).trans h.z0, (World.frozen?_setCell _ _ _ _).trans h.z1, by simpa [World.setCell] using h.lt⟩
def stR (W : World) (b : Nat) (st : Int) (A : Option Addr) (n c : Nat) : World := (W.setCell ⟨b, 0, none⟩ (.int .i64 st)).setCell ⟨b, 1, none⟩ (.slice A n c)
theorem stR_chg (W : World) (b : Nat) (st : Int) (A : Option Addr) (n c : Nat) : Chg (fun k => k = b) W (stR W b st A n c) :=
  Chg.setCell_ (S := fun k => k = b) (Chg.setCell_ (S := fun k => k = b) (Chg.refl _ _) (p := ⟨b, 0, none⟩) rfl _) (p := ⟨b, 1, none⟩) rfl _
theorem oneR_chg (W : World) (b i : Nat) (v : Value) : Chg (fun k => k = b) W (W.setCell ⟨b, i, none⟩ v) := Chg.setCell_ (S := fun k => k = b) (Chg.refl _ _) (p := ⟨b, i, none⟩) rfl _
end
/- the pending frames, in blocks from lo on, with the spare cells -/
structure RbM (W : World) (lo hi : Nat) (B : Option Addr) (c : Nat) (ys : List NF) : Prop where
  row : Sl true 2 (EN true) W (fun b => lo ≤ b ∧ b < hi) B ys
  spare : Spare W 2 B c
  cap : ys.length ≤ c
  hA : ∀ a, B = some a → lo ≤ a.block ∧ a.block < hi
  size : hi ≤ W.heap.size
section
variable {W W' : World} {lo lo' hi hi' c : Nat} {B : Option Addr} {ys : List NF} {S : Nat → Prop}
theorem RbM.chg (h : RbM W lo hi B c ys) (hc : Chg S W W') (hs : ∀ b, lo ≤ b → b < hi → ¬ S b) : RbM W' lo hi B c ys :=
  ⟨Sl.frame (R := EN true) EN.framed h.row hc (fun b hb => hs b hb.1 hb.2), h.spare.frame hc (fun a ha => hs _ (h.hA a ha).1 (h.hA a ha).2), h.cap, h.hA, Nat.le_trans h.size hc.size⟩
theorem RbM.below (h : RbM W lo hi B c ys) (hb : Below W.heap.size W W') : RbM W' lo hi B c ys := h.chg (S := fun _ => False) (Chg.of_below hb) (fun _ _ _ h => h)
theorem RbM.low (h : RbM W lo hi B c ys) (hl : lo' ≤ lo) (hh : hi ≤ hi') (hs : hi' ≤ W.heap.size) : RbM W lo' hi' B c ys :=
  ⟨h.row.wider (fun b hb => ⟨Nat.le_trans hl hb.1, Nat.lt_of_lt_of_le hb.2 hh⟩), h.spare, h.cap, fun a ha => ⟨Nat.le_trans hl (h.hA a ha).1, Nat.lt_of_lt_of_le (h.hA a ha).2 hh⟩, hs⟩
theorem RbM.nil (hs : hi ≤ W.heap.size) : RbM W lo hi none 0 [] := ⟨Sl.nil, Spare.none_, by simp, (fun a h => by cases h), hs⟩
theorem RbM.of_cpms {w : World} {r : Int × List NF × List (List Int)} {e : Ending} (h : CpMS w r e W) : ∃ B c gb cb, e = .returned (.tuple #[.agg #[.int .i64 r.1, .slice B r.2.1.length c], .slice (some ⟨gb, 0, none⟩) r.2.2.length cb]) ∧ Below w.heap.size w W ∧ RbM W w.heap.size W.heap.size B c r.2.1 := by
  obtain ⟨B, c, gb, cb, T1, T2, he, hb, hc, h1, h2, hs, _, _, hsp, hA⟩ := h
  exact ⟨B, c, gb, cb, he, hb, ⟨Sl.wider hs (fun b hb => ⟨(h1 b hb).1, (h1 b hb).2.1⟩), hsp, hc, fun a ha => ⟨hA a ha, (hsp.2 a ha).2.1⟩, Nat.le_refl _⟩⟩
end
/- the bytes of the bodies -/
def ByN (ys : List NF) : Prop := ∀ x ∈ ys, ∀ z ∈ x.2, 0 ≤ z ∧ z ≤ 255
theorem relR_mem : ∀ (zs : List NF) (st : Int) (bs : List (List Int)), ∀ x ∈ (relR st zs bs).2.1, x ∈ zs
  | [], _, _, x, hx => hx
  | z :: zs, st, bs, x, hx => by
    unfold relR at hx
    split at hx
    · exact List.mem_cons_of_mem _ (relR_mem zs _ _ x hx)
    · exact hx
theorem moveR_mem (st q : Int) (ys : List NF) : ∀ x ∈ (moveR st q ys).2.1, x ∈ ys := by
  intro x hx
  unfold moveR at hx
  split at hx
  · exact movR_mem _ _ _ _ x (relR_mem _ _ _ x hx)
  · exact hx
theorem rcv_mem (st q : Int) (body : List Int) (ys : List NF) : ∀ x ∈ (rcvI st q body ys).2.1, x = (q, body) ∨ x ∈ ys := by
  intro x hx
  unfold rcvI at hx
  split at hx
  · split at hx
    · exact ((insI_mem _ _ x _).1 (relR_mem _ _ _ x hx)).imp id (moveR_mem _ _ _ x)
    · exact (insI_mem _ _ x _).1 (relR_mem _ _ _ x hx)
  · exact .inr hx
theorem rcv_by {st q : Int} {body : List Int} {ys : List NF} (h : ByN ys) (hb : ∀ z ∈ body, 0 ≤ z ∧ z ≤ 255) : ByN (rcvI st q body ys).2.1 := fun x hx => by
  rcases rcv_mem st q body ys x hx with rfl | h1
  · exact hb
  · exact h x h1
def SomeR (w : World) (g : Nat) (A : Option Addr) (n cap : Nat) (e : Ending) (w' : World) : Prop := ∃ st B c ys, e = .returned (.agg #[.int .i64 st, .slice B ys.length c]) ∧ Drew w g A n cap w' ∧ vROB st ys = true ∧ ByN ys ∧ RbM w' w.heap.size w'.heap.size B c ys
theorem vROB_st {st : Int} {ys : List NF} (h : vROB st ys = true) : 0 ≤ st ∧ st ≤ 4095 := (valid_inc h).1
theorem vROB_len {st : Int} {ys : List NF} (h : vROB st ys = true) : ys.length ≤ 15 := by have := (valid_inc h).2.1.len (by omega); omega
theorem vROB_body {st : Int} {ys : List NF} (h : vROB st ys = true) : ∀ x ∈ ys, x.2.length ≤ 100 := (valid_inc h).2.2
theorem soz_bd (x : Int) : 0 ≤ soz x ∧ soz x ≤ 4095 := by
  unfold soz
  split
  · exact inR_true (by assumption)
  · omega
theorem vROB_nil {st : Int} (h : 0 ≤ st ∧ st ≤ 4095) : vROB st [] = true := inc_valid h (by simp [Inc]) (by simp)
theorem u8_wrapR (x : Int) : 0 ≤ IntKind.u8.wrap x ∧ IntKind.u8.wrap x ≤ 255 := by rw [IntKind.wrap_u8]; omega
theorem rw_lit8 {w : World} {t : TypeId} (ls : List Int) : Rw true .u8 (w.alloc (.cells ((ls.map (Value.int .u8)).toArray) t)) (fun b => b = w.heap.size) (some ⟨w.heap.size, 0, none⟩) ls := by
  refine (RwF.of_alloc w t _ ls (f := Value.int .u8) (fun k hk => ?_)).rw
  simp [List.getElem?_eq_getElem hk]
/- the frame that a round of l22Buffer receives -/
theorem round_d {st x : Int} (h : 0 ≤ st ∧ st ≤ 4095) (hx : 0 ≤ x ∧ x < 7) : inR (seqD st ((st + x) % 4096)) 0 2047 = true ∧ seqD st ((st + x) % 4096) < 16 := by
  have e : seqD st ((st + x) % 4096) = x := by rw [seqD_of h (by omega)]; omega
  rw [e]
  exact ⟨inR_of (by omega), by omega⟩

set_option maxRecDepth 8000 in
set_option maxHeartbeats 4000000 in
theorem l22Buffer_any (g : Nat) (A : Option Addr) (n cap : Nat) (w : World) (hcu : Cuu w g A n cap) :
    Calls Try.prog 87 #[.pointer (some ⟨g, 0, none⟩)] w fun e w' => SomeR w g A n cap e w' := by
  have HCU := Lib.hid hcu
  have hgl := hcu.lt
  clear hcu
  go_enter Try.func87, Try.ntmps87
  go_wp2_with fail
  refine Calls.mono (intX (g := g) (A := A) (n := n) (cap := cap) ?i1 ?i2 ?i3) ?_
  case i1 => first | (simp; done) | (rw [hwq]; rfl)
  case i2 => exact HCU.out.alloc _
  case i3 => exact ⟨[_, _, _], rfl, rfl, by simp, by simp⟩
  rintro e w1 ⟨x, rfl, hd1⟩
  have hal : Below w.heap.size w ((w.alloc (.cells #[.int .i64 0, .slice none 0 0] 28)).alloc (.cells #[.int .i64 0, .int .i64 7, .int .i64 4090] 3)) := (by repeat (first | (with_reducible exact Below.refl _ _) | (with_reducible refine Below.ext ?_ (by go_size) _ _) | (with_reducible refine Below.alloc ?_ (by go_size) _) | (with_reducible refine Below.setCell ?_ (by go_size) _) | (with_reducible refine Below.drew ?_) | (with_reducible refine Below.drewN_ ?_ _)))
  have HD1 := Lib.hid (Drew.trans hgl (HCU.out.drew_below hal) hd1)
  have HR1 : Hid (BxR w1 w.heap.size 0 none 0 0) := Lib.hid ((BxR.new (t := 28) (((Below.alloc (Below.refl _ _) (Nat.le_refl _) _).block _ (by simp)).trans (World.heap_new w (.cells #[.int .i64 0, .slice none 0 0] 28) _ rfl))).chg hd1.chg_ (by omega))
  clear hd1 hal
  go_wp2_with fail
  refine (specNewR_any x _).mono ?_
  have hsz := soz_bd x
  generalize soz x = s0 at *
  rintro e w2 ⟨rfl, hb2⟩
  have HD2 := Lib.hid (HD1.out.below_ hb2 HD1.out.size_)
  have HR2 := Lib.hid (HR1.out.below hb2)
  have hr2 := HR2.out.lt
  clear hb2 HD1 HR1
  go_wp2_with fail
  refine (belowC g A n cap _ 12 (by omega) ((HCU.out.next HD2.out).alloc _)).mono ?_
  rintro e w3 ⟨y0, rfl, hy0, hy1, hy2, hd3⟩
  have hy3 := hy2 (by omega)
  have hal : Below w2.heap.size w2 (w2.alloc (.cells #[.int .i64 s0, .slice none 0 0] 28)) := Below.alloc (Below.refl _ _) (Nat.le_refl _) _
  have HD3 := Lib.hid (Drew.trans hgl (HD2.out.below_ hal HD2.out.size_) hd3)
  have HR3 := Lib.hid ((HR2.out.below hal).chg hd3.chg_ (by omega))
  have HB3 : Hid (BxR w3 w2.heap.size s0 none 0 0) := Lib.hid ((BxR.new (World.heap_new _ _ _ rfl)).chg hd3.chg_ (by omega))
  clear hd3 hal hy2 HD2 HR2
  go_wp2
  go_loopw [4] (fun v wr => ∃ (y st : Int) (B : Option Addr) (c : Nat) (ys : List NF), v = .int .i64 y ∧ 0 ≤ y ∧ y ≤ 12 ∧ Hid (Drew w g A n cap wr) ∧ Hid (BxR wr w2.heap.size st B ys.length c) ∧ Hid (BxR wr w.heap.size 0 none 0 0) ∧ Hid (vROB st ys = true) ∧ Hid (ByN ys) ∧ Hid (RbM wr (w2.heap.size + 1) wr.heap.size B c ys)) (fun v _ => (intOf v).toNat)
  case atStart => exact ⟨y0, s0, none, 0, [], rfl, by omega, by omega, HD3, HB3, HR3, Lib.hid (vROB_nil hsz), Lib.hid (fun x hx => by cases hx), Lib.hid (RbM.nil (Nat.le_refl _))⟩
  case round =>
    obtain ⟨y, st, B, c, ys, rfl, hya, hyb, HD, HB, HR, HV, HY, HM⟩ := hrel
    by_cases hy : 0 < y
    · obtain ⟨wq, hwq⟩ : ∃ v, v = wr.drew := ⟨_, rfl⟩
      have hbd : Below wr.heap.size wr wq := by rw [hwq]; exact Below.drew (Below.refl _ _)
      have HDq := Lib.hid (HD.out.below_ hbd HD.out.size_)
      have HBq := Lib.hid (HB.out.below hbd)
      have HRq := Lib.hid (HR.out.below hbd)
      have HMq := Lib.hid (HM.out.below hbd)
      have k0 := HB.out.c0
      clear hbd
      go_wp2
      refine wp_region_G [] (S := (fun w' => w'.cell? ⟨w2.heap.size, 0, none⟩ = some (.int .i64 st))) (by kernel_rfl) ?_ (fun hHeld => ?_)
      · first | exact k0 | (simp [go_sem, *]; done)
      refine wpAnyG_takeW [1, 4, 5, 6] (i := 0) (d := some 18) (v := ?_) (by simp only [List.getElem?_toArray, List.getElem?_cons_succ, List.getElem?_cons_zero]; rfl) (by rfl) (by kernel_rfl) (by kernel_rfl) (by kernel_rfl) (by kernel_rfl) (by kernel_rfl) (by intro _ _ _ h; exact h) (by rfl) ?_ (by assumption) ?_
      rotate_left 1
      · (intro w hSw; (try dsimp only at hSw); go_simp; try (with_reducible rfl))
      (try simp only [Act.put, List.setIfInBounds_toArray, List.set_cons_zero, List.set_cons_succ])
      refine wpAnyG_takeW [4, 5, 6] (i := 1) (d := some 19) (v := ?_) (by simp only [List.getElem?_toArray, List.getElem?_cons_succ, List.getElem?_cons_zero]; rfl) (by rfl) (by kernel_rfl) (by kernel_rfl) (by kernel_rfl) (by kernel_rfl) (by kernel_rfl) (by intro _ _ _ h; exact h) (by rfl) ?_ (by assumption) ?_
      rotate_left 1
      · (intro w hSw; (try dsimp only at hSw); go_simp; try (with_reducible rfl))
      (try simp only [Act.put, List.setIfInBounds_toArray, List.set_cons_zero, List.set_cons_succ])
      refine wpAnyG_takeW [3, 4, 5, 6] (i := 2) (d := some 20) (v := ?_) (by simp only [List.getElem?_toArray, List.getElem?_cons_succ, List.getElem?_cons_zero]; rfl) (by rfl) (by kernel_rfl) (by kernel_rfl) (by kernel_rfl) (by kernel_rfl) (by kernel_rfl) (by intro _ _ _ h; exact h) (by rfl) ?_ (by assumption) ?_
      rotate_left 1
      · (intro w hSw; (try dsimp only at hSw); go_simp; try (with_reducible rfl))
      (try simp only [Act.put, List.setIfInBounds_toArray, List.set_cons_zero, List.set_cons_succ])
      refine wpAnyG_ready (rs := [3]) (by kernel_rfl) (by simp) ?_
      refine (AllReadyG.cons (i := 3) (by simp only [List.getElem?_toArray, List.getElem?_cons_succ, List.getElem?_cons_zero]; rfl) (fun K hK => ?_) AllReadyG.nil)
      go_simp
      rw [← hwq]
      refine (belowC g A n cap _ 7 (by omega) (HCU.out.next HDq.out)).mono ?_
      rintro e u1 ⟨x, rfl, hx0, hx1, hx2, hd⟩
      have hx3 := hx2 (by omega)
      have HDu := Lib.hid (Drew.trans hgl HDq.out hd)
      have HBu := Lib.hid (HBq.out.chg hd.chg_ (by omega))
      have HRu := Lib.hid (HRq.out.chg hd.chg_ (by omega))
      have HMu := Lib.hid (HMq.out.chg hd.chg_ (fun b hb _ h2 => by omega))
      replace k0 := HBu.out.c0
      clear hd hx2
      go_wp2_with fail
      refine hK.out _ _ (fun _ => ?_) (fun hHeld => ?_)
      · ((try dsimp only); first | exact k0 | (simp [go_sem, *]; done))
      replace hHeld := hHeld (by rfl)
      clear hK K
      (try simp only [Act.put, List.setIfInBounds_toArray, List.set_cons_zero, List.set_cons_succ])
      refine wpAnyG_takeW [5, 6] (i := 4) (d := some 22) (v := ?_) (by simp only [List.getElem?_toArray, List.getElem?_cons_succ, List.getElem?_cons_zero]; rfl) (by rfl) (by kernel_rfl) (by kernel_rfl) (by kernel_rfl) (by kernel_rfl) (by kernel_rfl) (by intro _ _ _ h; exact h) (by rfl) ?_ (by assumption) ?_
      rotate_left 1
      · (intro w hSw; (try dsimp only at hSw); go_simp; try (with_reducible rfl))
      (try simp only [Act.put, List.setIfInBounds_toArray, List.set_cons_zero, List.set_cons_succ])
      refine wpAnyG_ready (rs := [5]) (by kernel_rfl) (by simp) ?_
      refine (AllReadyG.cons (i := 5) (by simp only [List.getElem?_toArray, List.getElem?_cons_succ, List.getElem?_cons_zero]; rfl) (fun K hK => ?_) AllReadyG.nil)
      go_simp
      refine (specMod_any _ 4096 (by unfold I64; rw [IntKind.wrap_i64]; omega) rfl _).mono ?_
      rintro e w' ⟨rfl, rfl⟩
      go_wp2_with fail
      refine hK.out _ _ (fun _ => ?_) (fun hHeld => ?_)
      · ((try dsimp only); first | exact k0 | (simp [go_sem, *]; done))
      replace hHeld := hHeld (by rfl)
      clear hK K
      (try simp only [Act.put, List.setIfInBounds_toArray, List.set_cons_zero, List.set_cons_succ])
      refine wpAnyG_takeW [] (i := 6) (d := some 5) (v := ?_) (by simp only [List.getElem?_toArray, List.getElem?_cons_succ, List.getElem?_cons_zero]; rfl) (by rfl) (by kernel_rfl) (by kernel_rfl) (by kernel_rfl) (by kernel_rfl) (by kernel_rfl) (by intro _ _ _ h; exact h) (by rfl) ?_ (by assumption) ?_
      rotate_left 1
      · (intro w hSw; (try dsimp only at hSw); go_simp; try (with_reducible rfl))
      (try simp only [Act.put, List.setIfInBounds_toArray, List.set_cons_zero, List.set_cons_succ])
      refine wpAnyG_done (by kernel_rfl) ?_ _
      have hst := vROB_st HV.out
      obtain ⟨q, hq⟩ : ∃ q, q = (st + x) % 4096 := ⟨_, rfl⟩
      have hqw : IntKind.i64.wrap (st + x) % 4096 = q := by rw [hq, IntKind.wrap_i64]; omega
      rw [hqw]
      have HRD : Hid (inR (seqD st q) 0 2047 = true ∧ seqD st q < 16) := Lib.hid (by rw [hq]; exact round_d hst ⟨hx0, hx3⟩)
      have hq4 : 0 ≤ q ∧ q ≤ 4095 := by omega
      clear hqw hq k0
      obtain ⟨bc0, bc1, bz0, bz1, blt⟩ := HBu.out
      go_wp2_with fail
      generalize hvv : q % 256 = qb
      have hqb : 0 ≤ qb ∧ qb ≤ 255 := by omega
      clear hvv
      obtain ⟨u2, hu2⟩ : ∃ v, v = u1.alloc (.cells #[.int .u8 qb] 5) := ⟨_, rfl⟩
      rw [← hu2]
      have hal : Below u1.heap.size u1 u2 := by rw [hu2]; exact Below.alloc (Below.refl _ _) (Nat.le_refl _) _
      have HBY : Hid (Rw true .u8 u2 (fun b => b = u1.heap.size) (some ⟨u1.heap.size, 0, none⟩) [qb]) := Lib.hid (by rw [hu2]; exact rw_lit8 [qb])
      have HD2 := Lib.hid (HDu.out.below_ hal HDu.out.size_)
      have HB2 := Lib.hid (HBu.out.below hal)
      have HR2 := Lib.hid (HRu.out.below hal)
      have HM2 := Lib.hid (HMu.out.below hal)
      clear hal hu2 HDu HBu HRu HMu
      have hlen15 := vROB_len HV.out
      refine (specRNS_small (Tb := fun b => b = u1.heap.size) st B c ys q _ 1 [qb] _ (SlN.read HM2.out.row) (by omega) (fun x hx => by have := vROB_body HV.out x hx; omega) (Rw.read HBY.out) (by simp) ⟨HV.out, HRD.out.1, by simp⟩ (by have := HRD.out.2; omega)).mono ?_
      rintro e u3 hcp
      obtain ⟨B', c', gb, cb, rfl, hb, hm'⟩ := RbM.of_cpms hcp
      have hy' : ByN (rcvS st q [qb] ys).2.1 := by rw [← rcv_eq]; exact rcv_by HY.out (by simp; exact hqb)
      have hv' : vROB (rcvS st q [qb] ys).1 (rcvS st q [qb] ys).2.1 = true := by rw [← rcv_eq]; exact (rcv_valid HV.out).1
      clear hcp
      generalize rcvS st q [qb] ys = r at *
      obtain ⟨st', ys', bs⟩ := r
      simp only at hm' hv' hy'
      have HD3 := Lib.hid (HD2.out.below_ hb HD2.out.size_)
      have HB3 := Lib.hid (HB2.out.below hb)
      have HR3 := Lib.hid (HR2.out.below hb)
      have HM3 := Lib.hid (hm'.low (lo' := w2.heap.size + 1) HB2.out.lt (Nat.le_refl _) (Nat.le_refl _))
      have HV3 := Lib.hid hv'
      have HY3 := Lib.hid hy'
      have hb3 := HB3.out.lt
      clear hm' hv' hy' HY hb HD2 HB2 HR2 HM2 HBY HRD HV bc0 bc1 bz0 bz1
      obtain ⟨bc0, bc1, bz0, bz1, blt⟩ := HB3.out
      go_wp2
      go_roundw
      case rel =>
        have hc := stR_chg u3 w2.heap.size st' B' ys'.length c'
        have hal : Below (stR u3 w2.heap.size st' B' ys'.length c').heap.size (stR u3 w2.heap.size st' B' ys'.length c') ((stR u3 w2.heap.size st' B' ys'.length c').alloc (.cells #[.int .i64 st', .slice B' ys'.length c'] 28)) := Below.alloc (Below.refl _ _) (Nat.le_refl _) _
        have HD4 := HD3.out.up (hc.mono (fun k _ hk => by omega))
        exact ⟨y - 1, st', B', c', ys', rfl, by omega, by omega, Lib.hid (HD4.below_ hal HD4.size_), Lib.hid (BxR.below (HB3.out.s0.s1) hal), Lib.hid ((HR3.out.chg hc (by omega)).below hal), HV3, HY3, Lib.hid (RbM.low ((HM3.out.chg hc (fun b hb _ h2 => by omega)).below hal) (Nat.le_refl _) (Nat.le_trans hc.size hal.size) (Nat.le_refl _))⟩
      case measure => simp [intOf]; omega
    · have hy2 : y ≤ 0 := by omega
      have HRS : Hid (BxR ((wr.setCell ⟨w.heap.size, 0, none⟩ (.int .i64 st)).setCell ⟨w.heap.size, 1, none⟩ (.slice B ys.length c)) w.heap.size st B ys.length c) := Lib.hid (HR.out.s0.s1)
      have HDS : Hid (Drew w g A n cap ((wr.setCell ⟨w.heap.size, 0, none⟩ (.int .i64 st)).setCell ⟨w.heap.size, 1, none⟩ (.slice B ys.length c))) := Lib.hid (HD.out.up ((stR_chg wr w.heap.size st B ys.length c).mono (fun k _ hk => by omega)))
      have hcr := stR_chg wr w.heap.size st B ys.length c
      have HMS : Hid (RbM ((wr.setCell ⟨w.heap.size, 0, none⟩ (.int .i64 st)).setCell ⟨w.heap.size, 1, none⟩ (.slice B ys.length c)) w.heap.size (((wr.setCell ⟨w.heap.size, 0, none⟩ (.int .i64 st)).setCell ⟨w.heap.size, 1, none⟩ (.slice B ys.length c))).heap.size B c ys) := Lib.hid ((HM.out.chg hcr (fun b hb _ h2 => by omega)).low (by omega) hcr.size (Nat.le_refl _))
      obtain ⟨bc0, bc1, bz0, bz1, blt⟩ := HB.out
      obtain ⟨rc0, rc1, rz0, rz1, rlt⟩ := HR.out
      go_simp
      repeat (first | go_skip | go_guarded | go_step | go_upon)
      refine bodyPost_ret (v := .agg #[.int .i64 st, .slice B ys.length c]) (by simp [results, Try.results87, go_sem, HRS.out.c0, HRS.out.c1]) rfl ?_
      exact ⟨_, _, _, _, rfl, HDS.out, HV.out, HY.out, HMS.out⟩

end Go.Proofs.Ytnfgdgmmbddmgaa

/- One more element appended onto a slice of pending frames, in place or not. -/
namespace Go.Proofs.Ytnfgdgmmbddmgaa
open Go.RowKit
set_option linter.unusedVariables false
set_option linter.unusedSimpArgs false

theorem setCells_chg (b : Nat) : ∀ (vs : List Value) (o : Nat) (w : World), Chg (fun k => k = b) w (w.setCells b o vs)
  | [], _, _ => Chg.refl _ _
  | v :: r, o, w => by
    unfold World.setCells
    exact (oneR_chg w b o v).trans (setCells_chg b r (o + 1) _)
/- a row behind growth -/
theorem slN_grown {w w' : World} {lo hi : Nat} {ys : List NF} {B : Option Addr} {q : Int} {v' : Value} {olds : List Value} {e : TypeId} (hs : Sl true 2 (EN true) w (fun b => lo ≤ b ∧ b < hi) B ys) (hlo : hi ≤ w.heap.size) (hol : olds.length = ys.length * 2)
    (ho : ∀ a, B = some a → ∀ j u, olds[j]? = some u → w.cell? (a.add j) = some u) (hown : w'.ownsRow w.heap.size e 2 v' (ys.length + 1) (olds ++ [.int .i64 q, .slice none 0 0])) (hg : w.grownBy w' none) :
    ∃ B' c', v' = .slice B' (ys.length + 1) c' ∧ Sl true 2 (EN true) w' (fun b => (lo ≤ b ∧ b < hi) ∨ (w.heap.size ≤ b ∧ b < w'.heap.size)) B' (ys ++ [(q, [])]) ∧ Chg (fun b => lo ≤ b ∧ b < hi) w w' := by
  have hgs := hg.size
  have hchg : Chg (fun b => lo ≤ b ∧ b < hi) w w' := ⟨hg.os, hg.tape, hg.output, hg.size, fun k hk _ => hg.block k hk (by simp)⟩
  have hbel : ∀ k, k < w.heap.size → w'.heap[k]? = w.heap[k]? := fun k hk => hg.block k hk (by simp)
  obtain ⟨g', c', hv', hge, hlt'⟩ := hown.form (by omega)
  subst hv'
  have hfz : ∀ i, w'.frozen? ⟨g', i, none⟩ = false := by
    intro i
    rcases hown.2 with ⟨h0, _⟩ | ⟨g2, cap, cu, hv, _, hg2, _⟩
    · cases h0
    · have : g' = g2 := by injection hv with hA; injection hA with hA; injection hA
      subst this
      simp [World.frozen?, hg2]
  have hcell : ∀ i v, (olds ++ [.int .i64 q, .slice none 0 0])[i]? = some v → w'.cell? ⟨g', i, none⟩ = some v := fun i v hv => by
    have := hown.cells (g := g') rfl i v hv
    simpa [go_sem] using this
  refine ⟨_, c', rfl, ?_, hchg⟩
  have hF0 : ∃ (g o : Nat) (F : Nat → Nat → Prop), (ys ≠ [] → B = some ⟨g, o, none⟩) ∧ (∀ k b, F k b → lo ≤ b ∧ b < hi) ∧ (∀ j k b, F j b → F k b → j = k) ∧ Els 2 (EN true) w g o F ys := by
    by_cases hn : ys = []
    · subst hn
      exact ⟨0, 0, fun _ _ => False, fun h => absurd rfl h, fun _ _ h => h.elim, fun _ _ _ h => h.elim, fun k hk => absurd hk (by simp)⟩
    · obtain ⟨g, o, F, hA, _, hsep, he⟩ := hs hn
      exact ⟨g, o, F, fun _ => hA, fun k b hb => hsep.2.1 k b hb, (hsep.2.2 rfl).2, he⟩
  obtain ⟨g, o, F, hB, f1, f2, he⟩ := hF0
  intro _
  refine ⟨g', 0, fun k => if k < ys.length then F k else fun _ => False, rfl, hlt', ⟨.inr ⟨hge, hlt'⟩, ?_, fun _ => ⟨?_, ?_⟩⟩, ?_⟩
  · intro k b hb
    split at hb
    · have := f1 k b hb; exact .inl this
    · exact hb.elim
  · intro k hb
    split at hb
    · have := f1 k g' hb; omega
    · exact hb
  · intro j k b hj hk
    split at hj
    · split at hk
      · exact f2 j k b hj hk
      · exact hk.elim
    · exact hj.elim
  · intro k hk
    rw [List.length_append, List.length_singleton] at hk
    by_cases hlt : k < ys.length
    · simp only [hlt, if_true]
      rw [List.getElem_append_left hlt]
      have hr := he k hlt
      have hn : ys ≠ [] := by intro h; subst h; simp at hlt
      have hBa := hB hn
      refine EN.mov hr hgs (fun i hi => ⟨?_, hfz _⟩) (fun b hb hF => hbel b hb)
      have hil : k * 2 + i < olds.length := by omega
      have e1 := hcell (k * 2 + i) _ (by rw [List.getElem?_append_left hil]; exact List.getElem?_eq_getElem hil)
      have e2 := ho _ hBa (k * 2 + i) _ (List.getElem?_eq_getElem hil)
      rw [show 0 + k * 2 + i = k * 2 + i by omega, e1, ← e2, Addr.add_lit]
      congr 2
      omega
    · obtain rfl : k = ys.length := by omega
      simp only [Nat.lt_irrefl, if_false]
      rw [List.getElem_append_right (Nat.le_refl _)]
      simp only [Nat.sub_self, List.getElem_cons_zero, Nat.zero_add]
      have e0 := hcell (ys.length * 2) (.int .i64 q) (by rw [List.getElem?_append_right (by omega), hol, Nat.sub_self]; rfl)
      have e1 := hcell (ys.length * 2 + 1) (.slice none 0 0) (by rw [List.getElem?_append_right (by omega), hol, Nat.add_sub_cancel_left]; rfl)
      exact ⟨e0, fun _ => hfz _, none, 0, e1, fun _ => hfz _, Rw.nil⟩
section
variable {P : Program} {o : Oper} {a : Act} {Q : Exit → Act → World → Prop} {w : World} {lo hi c gb c2 : Nat} {B : Option Addr} {ys : List NF} {q : Int}
theorem wp_appA {K : Act → World → Prop} (s x : Operand) (t : TypeId) (ho : o.op = .call { callee := .builtin .append, args := #[s, x], argTypes := #[t, t] })
    (e : TypeId) (i : TypeInfo) (z : Value) (bytes : Nat) (ht : P.underlying t = some (.slice e)) (hinf : P.info? e = some i) (hz : i.zero = some z) (hsize : i.size = 2) (hby : i.bytes = bytes) (hzs : z.cells.size = 2)
    (hs : a.eval s = .slice B ys.length c) (hm : RbM w lo hi B c ys) (hlen : ys.length ≤ 1000) (hbt : bytes ≤ 100000)
    (t' : TypeId) (hcur : w.heap[gb]? = some (.cells #[.int .i64 q, .slice none 0 0] t' (0, 0))) (hx : a.eval x = .slice (some ⟨gb, 0, none⟩) 1 c2)
    (h : ∀ B' c' w', Hid (Sl true 2 (EN true) w' (fun b => (lo ≤ b ∧ b < hi) ∨ (w.heap.size ≤ b ∧ b < w'.heap.size)) B' (ys ++ [(q, [])])) → Hid (Chg (fun b => lo ≤ b ∧ b < hi) w w') → K (a.put o.dst (.slice B' (ys.length + 1) c')) w') : o.wp P a w K Q := by
  have hnews : ∀ j u, ([.int .i64 q, .slice none 0 0] : List Value)[j]? = some u → w.cell? ((⟨gb, 0, none⟩ : Addr).add j) = some u := fun j u hj => by
    rw [Addr.add_lit]
    simp only [World.cell?, hcur, Nat.zero_add]
    simpa using hj
  have h1c : ∀ u ∈ ([.int .i64 q, .slice none 0 0] : List Value), u.oneCell' = true := by
    intro u hu
    simp at hu
    rcases hu with rfl | rfl <;> rfl
  have hb1 : (ys.length + 1) * bytes ≤ 1001 * 100000 := Nat.mul_le_mul (by omega) hbt
  have hcap := hm.cap
  by_cases hr : ys.length + 1 ≤ c
  · obtain ⟨b, hB⟩ : ∃ b, B = some b := by
      cases hB : B with
      | some b => exact ⟨b, rfl⟩
      | none => have := hm.spare.1 hB; omega
    obtain ⟨hb0, hblt, hbc⟩ := hm.spare.2 b hB
    have hbA := hm.hA b hB
    obtain ⟨bk, off, sp⟩ := b
    injection hb0 with _ _ hsp
    subst hsp
    simp only at hblt hbc hbA
    subst hB
    have hc : ∀ j, j < ([.int .i64 q, .slice none 0 0] : List Value).length → (w.cell? ⟨bk, off + ys.length * i.size + j, none⟩).isSome = true := fun j hj => by
      simp only [List.length_cons, List.length_nil] at hj
      have := (hbc (ys.length * 2 + j) (by omega)).1
      rw [hsize, Nat.add_assoc]; exact this
    have hf : ∀ j, j < ([.int .i64 q, .slice none 0 0] : List Value).length → w.frozen? ⟨bk, off + ys.length * i.size + j, none⟩ = false := fun j hj => by
      simp only [List.length_cons, List.length_nil] at hj
      have := (hbc (ys.length * 2 + j) (by omega)).2
      rw [hsize, Nat.add_assoc]; exact this
    have hrun := run_append_room_cells (P := P) w t o.type e i ht hinf bk off ys.length c ⟨gb, 0, none⟩ 1 c2 [.int .i64 q, .slice none 0 0] (by rw [hsize]; rfl) hnews h1c hr hc hf
    have hchg := setCells_chg bk [.int .i64 q, .slice none 0 0] (off + ys.length * i.size) w
    have hin := World.cell?_setCells_in bk [.int .i64 q, .slice none 0 0] (off + ys.length * i.size) w hc
    have hfz := World.frozen?_setCells bk [.int .i64 q, .slice none 0 0] (off + ys.length * i.size) w
    have hout := World.cell?_setCells_out bk [.int .i64 q, .slice none 0 0] (off + ys.length * i.size) w
    generalize w.setCells bk (off + ys.length * i.size) [.int .i64 q, .slice none 0 0] = w' at *
    have hsz := hchg.size
    have hsl : Sl true 2 (EN true) w' (fun b => (lo ≤ b ∧ b < hi) ∨ (w.heap.size ≤ b ∧ b < w'.heap.size)) (some ⟨bk, off, none⟩) (ys ++ [(q, [])]) := by
      refine Sl.wider (Sl.snoc (R := EN true) (y := (q, [])) (T := fun b => lo ≤ b ∧ b < hi) (Fn := fun _ => False) EN.local_ hm.row hblt hbA (fun b hb => Nat.lt_of_lt_of_le hb.2 hm.size) (fun b hb => hb.elim) hchg (fun j hj => ⟨?_, hfz _⟩) ?_) (fun b hb => ?_)
      · refine hout _ (fun _ _ => .inl ?_)
        rw [hsize]
        exact hj
      · have e0 := hin 0 (by simp)
        have e1 := hin 1 (by simp)
        rw [hsize] at e0 e1
        refine ⟨e0, fun _ => (hfz _).trans ?_, none, 0, e1, fun _ => (hfz _).trans ?_, Rw.nil⟩
        · have := hf 0 (by simp); rw [hsize] at this; exact this
        · have := hf 1 (by simp); rw [hsize] at this; exact this
      · rcases hb with hb | hb
        · exact .inl hb
        · exact hb.elim
    have := h _ c w' (Lib.hid hsl) (Lib.hid (hchg.mono (fun k _ hk => by omega)))
    unfold Oper.wp
    simp [execOp, ho, resolve, invoke, builtin, hs, hx, hrun, Result.andThen]
    exact this
  · have hcc : c = ys.length := by omega
    have hol : ∃ olds : List Value, olds.length = ys.length * 2 ∧ ∀ b, B = some b → ∀ j u, olds[j]? = some u → w.cell? (b.add j) = some u := by
      cases hB : B with
      | none =>
        have hc0 := hm.spare.1 hB
        exact ⟨[], by simp; omega, fun b hb => by cases hb⟩
      | some b =>
        obtain ⟨hb0, hblt, hbc⟩ := hm.spare.2 b hB
        refine ⟨(List.range (ys.length * 2)).map (fun j => (w.cell? ⟨b.block, b.off + j, none⟩).getD undef), by simp, fun b' hb' j u hj => ?_⟩
        injection hb' with hb'
        subst hb'
        rw [List.getElem?_map] at hj
        rcases Nat.lt_or_ge j (ys.length * 2) with hlt | hge
        · rw [List.getElem?_range hlt] at hj
          simp only [Option.map_some, Option.some.injEq] at hj
          have hsome := (hbc j (by omega)).1
          rw [hb0, Addr.add_lit]
          obtain ⟨v, hv⟩ := Option.isSome_iff_exists.1 hsome
          rw [hv] at hj ⊢
          simpa using hj
        · rw [List.getElem?_eq_none (by simpa using hge)] at hj
          cases hj
    obtain ⟨olds, hol, ho'⟩ := hol
    have hrun : ∃ v' w', (Builtin.append_ #[t, t] o.type #[.slice B ys.length c, .slice (some ⟨gb, 0, none⟩) 1 c2]).run P w = .ok v' w' ∧ w'.ownsRow w.heap.size e 2 v' (ys.length + 1) (olds ++ [.int .i64 q, .slice none 0 0]) ∧ w.grownBy w' none := by
      cases hB : B with
      | some b => exact run_append_arg_grows (P := P) w t o.type e i z 2 bytes ht hinf hz hsize hby hzs (by omega) b ys.length c olds hol (ho' b hB) ⟨gb, 0, none⟩ 1 c2 _ rfl hnews (by omega) (by unfold maxLen; omega) (by omega)
      | none =>
        have hc0 := hm.spare.1 hB
        have hy0 : ys.length = 0 := by omega
        obtain rfl : olds = [] := List.eq_nil_of_length_eq_zero (by omega)
        obtain ⟨v', w', hrun, r1, r2, _⟩ := run_append_own (P := P) w w.heap.size t o.type e i z 2 bytes ht hinf hz hsize hby hzs (by omega) (.slice none 0 0) 0 [] (World.ownsRow_nil w _ e 2) ⟨gb, 0, none⟩ 1 c2 _ rfl hnews h1c (by unfold maxLen; omega) (by omega) (Nat.le_refl _)
        rw [hcc, hy0]
        exact ⟨v', w', hrun, r1, r2⟩
    obtain ⟨v', w', hrun, r1, r2⟩ := hrun
    obtain ⟨B', c', rfl, hsl, hchg⟩ := slN_grown hm.row hm.size hol ho' r1 r2
    have := h _ c' w' (Lib.hid hsl) (Lib.hid hchg)
    unfold Oper.wp
    simp [execOp, ho, resolve, invoke, builtin, hs, hx, hrun, Result.andThen]
    exact this
theorem step_appA {ops : Array Oper} {K : Act → World → Prop} {E : Prop} (hgd : o.guard = none) (s x : Operand) (t : TypeId) (ho : o.op = .call { callee := .builtin .append, args := #[s, x], argTypes := #[t, t] })
    (e : TypeId) (i : TypeInfo) (z : Value) (bytes : Nat) (ht : P.underlying t = some (.slice e)) (hinf : P.info? e = some i) (hz : i.zero = some z) (hsize : i.size = 2) (hby : i.bytes = bytes) (hzs : z.cells.size = 2)
    (hs : a.eval s = .slice B ys.length c) (hm : RbM w lo hi B c ys) (hlen : ys.length ≤ 1000) (hbt : bytes ≤ 100000)
    (t' : TypeId) (hcur : w.heap[gb]? = some (.cells #[.int .i64 q, .slice none 0 0] t' (0, 0))) (hx : a.eval x = .slice (some ⟨gb, 0, none⟩) 1 c2)
    (h : ∀ B' c' w', Hid (Sl true 2 (EN true) w' (fun b => (lo ≤ b ∧ b < hi) ∨ (w.heap.size ≤ b ∧ b < w'.heap.size)) B' (ys ++ [(q, [])])) → Hid (Chg (fun b => lo ≤ b ∧ b < hi) w w') → K (a.put o.dst (.slice B' (ys.length + 1) c')) w') :
    if Region.wanted o (yielded ops a.tmps) = true then Oper.wp P o a w K Q else E := by
  have hw : Region.wanted o (yielded ops a.tmps) = true := by simp [Region.wanted, hgd]
  rw [if_pos hw]
  exact wp_appA s x t ho e i z bytes ht hinf hz hsize hby hzs hs hm hlen hbt t' hcur hx h
end

end Go.Proofs.Ytnfgdgmmbddmgaa

/- l22Any: any buffer, from the code. -/
namespace Go.Proofs.Ytnfgdgmmbddmgaa
open Go.RowKit
set_option linter.unusedVariables false
set_option linter.unusedSimpArgs false

def SomeQ (w : World) (g : Nat) (A : Option Addr) (n cap : Nat) (e : Ending) (w' : World) : Prop := ∃ st B c ys, e = .returned (.agg #[.int .i64 st, .slice B ys.length c]) ∧ Drew w g A n cap w' ∧ I64 st ∧ ys.length ≤ 16 ∧ (∀ x ∈ ys, x.2.length ≤ 100) ∧ ByN ys ∧ Sl false 2 (EN false) w' (fun b => w.heap.size ≤ b ∧ b < w'.heap.size) B ys

set_option maxRecDepth 8000 in
set_option maxHeartbeats 4000000 in
theorem l22Any_any (g : Nat) (A : Option Addr) (n cap : Nat) (w : World) (hcu : Cuu w g A n cap) :
    Calls Try.prog 79 #[.pointer (some ⟨g, 0, none⟩)] w fun e w' => SomeQ w g A n cap e w' := by
  obtain ⟨i0, hI0, hz0, hz1, hz2⟩ := info_parts infoNF
  have HCU := Lib.hid hcu
  have hgl := hcu.lt
  clear hcu
  go_enter Try.func79, Try.ntmps79
  go_wp2_with fail
  refine (l22Buffer_any g A n cap _ (HCU.out.alloc _)).mono ?_
  rintro e w1 ⟨st, B, c, ys, rfl, hd1, hv, hy, hm⟩
  have hal : Below w.heap.size w (w.alloc (.cells #[.int .i64 0, .slice none 0 0] 28)) := Below.alloc (Below.refl _ _) (Nat.le_refl _) _
  have HD1 := Lib.hid (Drew.trans hgl (HCU.out.drew_below hal) hd1)
  have HR1 : Hid (BxR w1 w.heap.size 0 none 0 0) := Lib.hid ((BxR.new (t := 28) (World.heap_new w (.cells #[.int .i64 0, .slice none 0 0] 28) _ rfl)).chg hd1.chg_ (by omega))
  have HM1 : Hid (RbM w1 (w.heap.size + 1) w1.heap.size B c ys) := Lib.hid (hm.low (by simp) (Nat.le_refl _) (Nat.le_refl _))
  have HBD := Lib.hid (vROB_body hv)
  have HY := Lib.hid hy
  have hl15 := vROB_len hv
  have hst64 : I64 st := by have := vROB_st hv; unfold I64; omega
  have hr1 := HR1.out.lt
  clear hd1 hal hm hy hv
  go_wp2_with fail
  refine (belowC g A n cap _ 10 (by omega) ((HCU.out.next HD1.out).alloc _)).mono ?_
  rintro e w3 ⟨y, rfl, hy0, hy1, hy2, hd3⟩
  have hal : Below w1.heap.size w1 (w1.alloc (.cells #[.int .i64 st, .slice B ys.length c] 28)) := Below.alloc (Below.refl _ _) (Nat.le_refl _) _
  have HD3 := Lib.hid (Drew.trans hgl (HD1.out.below_ hal HD1.out.size_) hd3)
  have HR3 := Lib.hid ((HR1.out.below hal).chg hd3.chg_ (by omega))
  have HB3 : Hid (BxR w3 w1.heap.size st B ys.length c) := Lib.hid ((BxR.new (World.heap_new _ _ _ rfl)).chg hd3.chg_ (by omega))
  have HM3 := Lib.hid ((HM1.out.below hal).chg hd3.chg_ (fun b hb _ h2 => by omega))
  clear hd3 hal hy2 HD1 HR1 HM1
  have hb3 := HB3.out.lt
  by_cases h0 : y = 0
  · subst h0
    obtain ⟨bc0, bc1, bz0, bz1, blt⟩ := HB3.out
    go_wp2_with fail
    refine (specNext_any st _).mono ?_
    have hsn := seqN_bd st
    generalize seqN st = sn at *
    rintro e w' ⟨rfl, rfl⟩
    go_wp2_with fail
    refine (intL3 rfl (HCU.out.next HD3.out)).mono ?_
    rintro e u1 ⟨x, rfl, hx, hd⟩
    have hx64 : I64 x := by
      simp only [List.mem_cons, List.not_mem_nil, or_false] at hx
      unfold I64
      omega
    have hal : Below w3.heap.size w3 (w3.alloc (.cells #[.int .i64 (-1), .int .i64 4096, .int .i64 sn] 3)) := Below.alloc (Below.refl _ _) (Nat.le_refl _) _
    have HDu := Lib.hid (Drew.trans hgl (HD3.out.below_ hal HD3.out.size_) hd)
    have HBu := Lib.hid ((HB3.out.below hal).chg hd.chg_ (by omega))
    have HRu := Lib.hid ((HR3.out.below hal).chg hd.chg_ (by omega))
    have HMu := Lib.hid ((HM3.out.below hal).chg hd.chg_ (fun b hb _ h2 => by omega))
    clear hd hal bc0 bc1 bz0 bz1 hx
    have hc1 := oneR_chg u1 w1.heap.size 0 (.int .i64 x)
    have HB4 : Hid (BxR (u1.setCell ⟨w1.heap.size, 0, none⟩ (.int .i64 x)) w1.heap.size x B ys.length c) := Lib.hid (HBu.out.s0)
    have HR4 := Lib.hid (HRu.out.chg hc1 (by omega))
    have HD4 := Lib.hid (HDu.out.up (hc1.mono (fun k _ hk => by omega)))
    have HM4 := Lib.hid (HMu.out.chg hc1 (fun b hb hb3 h2 => by omega))
    have hs4 := hc1.size
    have hs1 := HBu.out.lt
    obtain ⟨bc0, bc1, bz0, bz1, blt⟩ := HBu.out
    clear hc1

    have HRS : Hid (BxR (((u1.setCell ⟨w1.heap.size, 0, none⟩ (.int .i64 x)).setCell ⟨w.heap.size, 0, none⟩ (.int .i64 x)).setCell ⟨w.heap.size, 1, none⟩ (.slice B ys.length c)) w.heap.size x B ys.length c) := Lib.hid (HR4.out.s0.s1)
    have HDS : Hid (Drew w g A n cap (((u1.setCell ⟨w1.heap.size, 0, none⟩ (.int .i64 x)).setCell ⟨w.heap.size, 0, none⟩ (.int .i64 x)).setCell ⟨w.heap.size, 1, none⟩ (.slice B ys.length c))) := Lib.hid (HD4.out.up ((stR_chg (u1.setCell ⟨w1.heap.size, 0, none⟩ (.int .i64 x)) w.heap.size x B ys.length c).mono (fun k _ hk => by omega)))
    have hcr := stR_chg (u1.setCell ⟨w1.heap.size, 0, none⟩ (.int .i64 x)) w.heap.size x B ys.length c
    have HMS : Hid (Sl false 2 (EN false) (((u1.setCell ⟨w1.heap.size, 0, none⟩ (.int .i64 x)).setCell ⟨w.heap.size, 0, none⟩ (.int .i64 x)).setCell ⟨w.heap.size, 1, none⟩ (.slice B ys.length c)) (fun b => w.heap.size ≤ b ∧ b < ((((u1.setCell ⟨w1.heap.size, 0, none⟩ (.int .i64 x)).setCell ⟨w.heap.size, 0, none⟩ (.int .i64 x)).setCell ⟨w.heap.size, 1, none⟩ (.slice B ys.length c))).heap.size) B ys) := Lib.hid (Sl.wider (Sl.frame (R := EN false) EN.framed (SlN.read HM4.out.row) hcr (fun b hb h2 => by omega)) (fun b hb => ⟨by omega, Nat.lt_of_lt_of_le (by omega : b < (u1.setCell ⟨w1.heap.size, 0, none⟩ (.int .i64 x)).heap.size) hcr.size⟩))

    obtain ⟨rc0, rc1, rz0, rz1, rlt⟩ := HR4.out
    go_simp
    repeat (first | go_skip | go_guarded | go_step | go_upon)
    refine bodyPost_ret (v := .agg #[.int .i64 x, .slice B ys.length c]) (by simp [results, Try.results79, go_sem, HRS.out.c0, HRS.out.c1]) rfl ?_
    exact ⟨_, _, _, _, rfl, HDS.out, hx64, by omega, HBD.out, HY.out, HMS.out⟩
  · by_cases h1 : y = 1
    · subst h1
      obtain ⟨wq, hwq⟩ : ∃ v, v = w3.drew := ⟨_, rfl⟩
      have hbd : Below w3.heap.size w3 wq := by rw [hwq]; exact Below.drew (Below.refl _ _)
      have HDq := Lib.hid (HD3.out.below_ hbd HD3.out.size_)
      have HBq := Lib.hid (HB3.out.below hbd)
      have HRq := Lib.hid (HR3.out.below hbd)
      have HMq := Lib.hid (HM3.out.below hbd)
      have k0 := HB3.out.c0
      have k1 := HB3.out.c1
      clear hbd
      go_wp2
      refine wp_region_G [12] (S := (fun w' => w'.cell? ⟨w1.heap.size, 0, none⟩ = some (.int .i64 st) ∧ w'.cell? ⟨w1.heap.size, 1, none⟩ = some (.slice B ys.length c))) (by kernel_rfl) ?_ (fun hHeld => ?_)
      · first | exact ⟨k0, k1⟩ | (simp [go_sem, *]; done)
      refine wpAnyG_takeW [1, 10, 11, 12] (i := 0) (d := some 19) (v := ?_) (by simp only [List.getElem?_toArray, List.getElem?_cons_succ, List.getElem?_cons_zero]; rfl) (by rfl) (by kernel_rfl) (by kernel_rfl) (by kernel_rfl) (by kernel_rfl) (by kernel_rfl) (by intro _ _ _ h; exact h) (by rfl) ?_ (by assumption) ?_
      rotate_left 1
      · (intro w hSw; (try dsimp only at hSw); go_simp; try (with_reducible rfl))
      (try simp only [Act.put, List.setIfInBounds_toArray, List.set_cons_zero, List.set_cons_succ])
      refine wpAnyG_takeW [10, 11, 12] (i := 1) (d := some 20) (v := ?_) (by simp only [List.getElem?_toArray, List.getElem?_cons_succ, List.getElem?_cons_zero]; rfl) (by rfl) (by kernel_rfl) (by kernel_rfl) (by kernel_rfl) (by kernel_rfl) (by kernel_rfl) (by intro _ _ _ h; exact h) (by rfl) ?_ (by assumption) ?_
      rotate_left 1
      · (intro w hSw; (try dsimp only at hSw); go_simp; try (with_reducible rfl))
      (try simp only [Act.put, List.setIfInBounds_toArray, List.set_cons_zero, List.set_cons_succ])
      refine wpAnyG_takeW [3, 6, 7, 8, 9, 10, 11, 12] (i := 2) (d := some 21) (v := ?_) (by simp only [List.getElem?_toArray, List.getElem?_cons_succ, List.getElem?_cons_zero]; rfl) (by rfl) (by kernel_rfl) (by kernel_rfl) (by kernel_rfl) (by kernel_rfl) (by kernel_rfl) (by intro _ _ _ h; exact h) (by rfl) ?_ (by assumption) ?_
      rotate_left 1
      · (intro w hSw; (try dsimp only at hSw); go_simp; try (with_reducible rfl))
      (try simp only [Act.put, List.setIfInBounds_toArray, List.set_cons_zero, List.set_cons_succ])
      refine wpAnyG_takeW [6, 7, 8, 9, 10, 11, 12] (i := 3) (d := some 22) (v := ?_) (by simp only [List.getElem?_toArray, List.getElem?_cons_succ, List.getElem?_cons_zero]; rfl) (by rfl) (by kernel_rfl) (by kernel_rfl) (by kernel_rfl) (by kernel_rfl) (by kernel_rfl) (by intro _ _ _ h; exact h) (by rfl) ?_ (by assumption) ?_
      rotate_left 1
      · (intro w hSw; (try dsimp only at hSw); go_simp; try (with_reducible rfl))
      (try simp only [Act.put, List.setIfInBounds_toArray, List.set_cons_zero, List.set_cons_succ])
      refine wpAnyG_takeW [5, 6, 7, 8, 9, 10, 11, 12] (i := 4) (d := some 23) (v := ?_) (by simp only [List.getElem?_toArray, List.getElem?_cons_succ, List.getElem?_cons_zero]; rfl) (by rfl) (by kernel_rfl) (by kernel_rfl) (by kernel_rfl) (by kernel_rfl) (by kernel_rfl) (by intro _ _ _ h; exact h) (by rfl) ?_ (by assumption) ?_
      rotate_left 1
      · (intro w hSw; (try dsimp only at hSw); go_simp; try (with_reducible rfl))
      (try simp only [Act.put, List.setIfInBounds_toArray, List.set_cons_zero, List.set_cons_succ])
      refine wpAnyG_ready (rs := [5]) (by kernel_rfl) (by simp) ?_
      refine (AllReadyG.cons (i := 5) (by simp only [List.getElem?_toArray, List.getElem?_cons_succ, List.getElem?_cons_zero]; rfl) (fun K hK => ?_) AllReadyG.nil)
      go_simp
      rw [← hwq]
      refine (belowC g A n cap _ 18 (by omega) (HCU.out.next HDq.out)).mono ?_
      rintro e u1 ⟨x, rfl, hx0, hx1, hx2, hd⟩
      have hx3 := hx2 (by omega)
      have HDu := Lib.hid (Drew.trans hgl HDq.out hd)
      have HBu := Lib.hid (HBq.out.chg hd.chg_ (by omega))
      have HRu := Lib.hid (HRq.out.chg hd.chg_ (by omega))
      have HMu := Lib.hid (HMq.out.chg hd.chg_ (fun b hb _ h2 => by omega))
      replace k0 := HBu.out.c0
      replace k1 := HBu.out.c1
      have hs1u : w1.heap.size < u1.heap.size := HBu.out.lt
      clear hd hx2
      go_wp2_with fail
      refine hK.out _ _ (fun _ => ?_) (fun hHeld => ?_)
      · ((try dsimp only); first | exact ⟨k0, k1⟩ | (simp [go_sem, *]; done))
      replace hHeld := hHeld (by rfl)
      clear hK K
      (try simp only [Act.put, List.setIfInBounds_toArray, List.set_cons_zero, List.set_cons_succ])
      refine wpAnyG_takeW [7, 8, 9, 10, 11, 12] (i := 6) (d := some 25) (v := ?_) (by simp only [List.getElem?_toArray, List.getElem?_cons_succ, List.getElem?_cons_zero]; rfl) (by rfl) (by kernel_rfl) (by kernel_rfl) (by kernel_rfl) (by kernel_rfl) (by kernel_rfl) (by intro _ _ _ h; exact h) (by rfl) ?_ (by assumption) ?_
      rotate_left 1
      · (intro w hSw; (try dsimp only at hSw); go_simp; try (with_reducible rfl))
      (try simp only [Act.put, List.setIfInBounds_toArray, List.set_cons_zero, List.set_cons_succ])
      refine wpAnyG_ready (rs := [7]) (by kernel_rfl) (by simp) ?_
      refine (AllReadyG.cons (i := 7) (by simp only [List.getElem?_toArray, List.getElem?_cons_succ, List.getElem?_cons_zero]; rfl) (fun K hK => ?_) AllReadyG.nil)
      go_simp
      refine (specMod_any _ 4096 (by unfold I64; rw [IntKind.wrap_i64]; omega) rfl _).mono ?_
      rintro e w' ⟨rfl, rfl⟩
      go_wp2_with fail
      refine hK.out _ _ (fun _ => ?_) (fun hHeld => ?_)
      · ((try dsimp only); first | exact ⟨k0, k1⟩ | (simp [go_sem, *]; done))
      replace hHeld := hHeld (by rfl)
      clear hK K
      (try simp only [Act.put, List.setIfInBounds_toArray, List.set_cons_zero, List.set_cons_succ])
      refine wpAnyG_takeW [9, 10, 11, 12] (i := 8) (d := some 27) (v := ?_) (by simp only [List.getElem?_toArray, List.getElem?_cons_succ, List.getElem?_cons_zero]; rfl) (by rfl) (by kernel_rfl) (by kernel_rfl) (by kernel_rfl) (by kernel_rfl) (by kernel_rfl) (by intro _ _ _ h; exact h) (by rfl) ?_ (by assumption) ?_
      rotate_left 1
      · (intro w hSw; (try dsimp only at hSw); go_simp; try (with_reducible rfl))
      (try simp only [Act.put, List.setIfInBounds_toArray, List.set_cons_zero, List.set_cons_succ])
      refine wpAnyG_ready (rs := [9]) (by kernel_rfl) (by simp) ?_
      refine (AllReadyG.cons (i := 9) (by simp only [List.getElem?_toArray, List.getElem?_cons_succ, List.getElem?_cons_zero]; rfl) (fun K hK => ?_) AllReadyG.nil)
      go_simp
      go_wp2_with fail
      refine hK.out _ _ (fun _ => ?_) (fun hHeld => ?_)
      · ((try dsimp only); first | exact ⟨k0, k1⟩ | (simp [go_sem, *]; done))
      replace hHeld := hHeld (by rfl)
      clear hK K
      (try simp only [Act.put, List.setIfInBounds_toArray, List.set_cons_zero, List.set_cons_succ])
      generalize hqq : IntKind.i64.wrap (st + x) % 4096 = q at *
      clear hqq
      obtain ⟨u2, hu2⟩ : ∃ v, v = u1.alloc (.cells #[.int .i64 q, .slice none 0 0] 75) := ⟨_, rfl⟩
      rw [← hu2] at hHeld ⊢
      have hal : Below u1.heap.size u1 u2 := by rw [hu2]; exact Below.alloc (Below.refl _ _) (Nat.le_refl _) _
      have HEL : Hid (u2.heap[u1.heap.size]? = some (.cells #[.int .i64 q, .slice none 0 0] 75 (0, 0))) := Lib.hid (by rw [hu2]; exact World.heap_new _ _ _ rfl)
      have HD2 := Lib.hid (HDu.out.below_ hal HDu.out.size_)
      have HB2 := Lib.hid (HBu.out.below hal)
      have HR2 := Lib.hid (HRu.out.below hal)
      have HM2 := Lib.hid (HMu.out.below hal)
      clear hal hu2
      refine wpAnyG_ready (rs := [10]) (by kernel_rfl) (by simp) ?_
      refine (AllReadyG.cons (i := 10) (by simp only [List.getElem?_toArray, List.getElem?_cons_succ, List.getElem?_cons_zero]; rfl) (fun K hK => ?_) AllReadyG.nil)
      refine step_appA (lo := w.heap.size + 1) (hi := w1.heap.size) (ys := ys) (q := q) rfl (.tmp 20) (.tmp 28) 26 rfl 75 i0 (.agg #[.int .i64 0, .slice none 0 0]) 32 Try.underlying26 hI0 hz0 hz1 hz2 (by simp [Value.cells]) rfl HM2.out (by omega) (by decide) 75 HEL.out rfl ?_
      intro B' c' u3 HS3 HC3
      have HD3 := Lib.hid (HD2.out.up (HC3.out.mono (fun k _ hk => by omega)))
      have HB3 := Lib.hid (HB2.out.chg HC3.out (by omega))
      have HR3 := Lib.hid (HR2.out.chg HC3.out (by omega))
      have hs3 : u2.heap.size ≤ u3.heap.size := HC3.out.size
      have HU2 : Hid (w1.heap.size < u2.heap.size) := Lib.hid HB2.out.lt
      replace k0 := HB3.out.c0
      replace k1 := HB3.out.c1
      simp only [Act.put, List.setIfInBounds_toArray, List.set_cons_zero, List.set_cons_succ]
      go_wp2_with fail
      refine hK.out _ _ (fun _ => ?_) (fun hHeld => ?_)
      · ((try dsimp only); first | exact ⟨k0, k1⟩ | (simp [go_sem, *]; done))
      replace hHeld := hHeld (by rfl)
      clear hK K
      (try simp only [Act.put, List.setIfInBounds_toArray, List.set_cons_zero, List.set_cons_succ])
      refine wpAnyG_takeW [12] (i := 11) (d := some 30) (v := ?_) (by simp only [List.getElem?_toArray, List.getElem?_cons_succ, List.getElem?_cons_zero]; rfl) (by rfl) (by kernel_rfl) (by kernel_rfl) (by kernel_rfl) (by kernel_rfl) (by kernel_rfl) (by intro _ _ _ h; exact h) (by rfl) ?_ (by assumption) ?_
      rotate_left 1
      · (intro w hSw; (try dsimp only at hSw); go_simp; try (with_reducible rfl))
      (try simp only [Act.put, List.setIfInBounds_toArray, List.set_cons_zero, List.set_cons_succ])
      refine wpAnyG_ready (rs := [12]) (by kernel_rfl) (by simp) ?_
      refine (AllReadyG.cons (i := 12) (by simp only [List.getElem?_toArray, List.getElem?_cons_succ, List.getElem?_cons_zero]; rfl) (fun K hK => ?_) AllReadyG.nil)
      obtain ⟨bc0, bc1, bz0, bz1, blt⟩ := HB3.out
      go_simp
      go_wp2_with fail
      refine hK.out _ _ (fun h => by cases h) (fun _ => ?_)
      clear hK K
      (try simp only [Act.put, List.setIfInBounds_toArray, List.set_cons_zero, List.set_cons_succ])
      refine wpAnyG_done (by kernel_rfl) ?_ _
      obtain ⟨zs, hzs⟩ : ∃ zs, zs = ys ++ [(q, [])] := ⟨_, rfl⟩
      have hzl : ys.length + 1 = zs.length := by rw [hzs]; simp
      have HS4 : Hid (Sl true 2 (EN true) u3 (fun b => (w.heap.size + 1 ≤ b ∧ b < w1.heap.size) ∨ (u2.heap.size ≤ b ∧ b < u3.heap.size)) B' zs) := Lib.hid (by rw [hzs]; exact HS3.out)
      have hz16 : zs.length ≤ 16 := by omega
      have HZB : Hid (∀ x ∈ zs, x.2.length ≤ 100) := Lib.hid (by
        rw [hzs]
        intro x hx
        rcases List.mem_append.1 hx with h | h
        · exact HBD.out x h
        · rw [List.mem_singleton.1 h]; simp)
      have HZY : Hid (ByN zs) := Lib.hid (by
        rw [hzs]
        intro x hx
        rcases List.mem_append.1 hx with h | h
        · exact HY.out x h
        · rw [List.mem_singleton.1 h]; simp)
      rw [hzl]
      clear hzs hzl HS3 k0 k1
      have hc1 := oneR_chg u3 w1.heap.size 1 (.slice B' zs.length c')
      have HB4 : Hid (BxR (u3.setCell ⟨w1.heap.size, 1, none⟩ (.slice B' zs.length c')) w1.heap.size st B' zs.length c') := Lib.hid (HB3.out.s1)
      have HR4 := Lib.hid (HR3.out.chg hc1 (by omega))
      have HD4 := Lib.hid (HD3.out.up (hc1.mono (fun k _ hk => by omega)))
      have HS5 := Lib.hid (Sl.frame (R := EN true) EN.framed HS4.out hc1 (fun b hb h2 => by have := HU2.out; omega))
      have hs4 := hc1.size
      obtain ⟨u4, hu4⟩ : ∃ v, v = u3.setCell ⟨w1.heap.size, 1, none⟩ (.slice B' zs.length c') := ⟨_, rfl⟩
      rw [← hu4] at HB4 HR4 HD4 HS5 hs4 ⊢
      clear hc1 hu4 HB3 HR3 HD3 HS4
      have HU3 := HU2.out
      have HRS : Hid (BxR ((u4.setCell ⟨w.heap.size, 0, none⟩ (.int .i64 st)).setCell ⟨w.heap.size, 1, none⟩ (.slice B' zs.length c')) w.heap.size st B' zs.length c') := Lib.hid (HR4.out.s0.s1)
      have HDS : Hid (Drew w g A n cap ((u4.setCell ⟨w.heap.size, 0, none⟩ (.int .i64 st)).setCell ⟨w.heap.size, 1, none⟩ (.slice B' zs.length c'))) := Lib.hid (HD4.out.up ((stR_chg u4 w.heap.size st B' zs.length c').mono (fun k _ hk => by omega)))
      have hcr := stR_chg u4 w.heap.size st B' zs.length c'
      have HMS : Hid (Sl false 2 (EN false) ((u4.setCell ⟨w.heap.size, 0, none⟩ (.int .i64 st)).setCell ⟨w.heap.size, 1, none⟩ (.slice B' zs.length c')) (fun b => w.heap.size ≤ b ∧ b < (((u4.setCell ⟨w.heap.size, 0, none⟩ (.int .i64 st)).setCell ⟨w.heap.size, 1, none⟩ (.slice B' zs.length c'))).heap.size) B' zs) := Lib.hid (Sl.wider (Sl.frame (R := EN false) EN.framed (SlN.read HS5.out) hcr (fun b hb h2 => by omega)) (fun b hb => ⟨by omega, Nat.lt_of_lt_of_le (by omega : b < u4.heap.size) hcr.size⟩))
      obtain ⟨bc0, bc1, bz0, bz1, blt⟩ := HB4.out
      obtain ⟨rc0, rc1, rz0, rz1, rlt⟩ := HR4.out
      go_simp
      repeat (first | go_skip | go_guarded | go_step | go_upon)
      refine bodyPost_ret (v := .agg #[.int .i64 st, .slice B' zs.length c']) (by simp [results, Try.results79, go_sem, HRS.out.c0, HRS.out.c1]) rfl ?_
      exact ⟨_, _, _, _, rfl, HDS.out, hst64, hz16, HZB.out, HZY.out, HMS.out⟩
    · have h0b : (y == 0) = false := by simp [h0]
      have h1b : (y == 1) = false := by simp [h1]

      have HRS : Hid (BxR ((w3.setCell ⟨w.heap.size, 0, none⟩ (.int .i64 st)).setCell ⟨w.heap.size, 1, none⟩ (.slice B ys.length c)) w.heap.size st B ys.length c) := Lib.hid (HR3.out.s0.s1)
      have HDS : Hid (Drew w g A n cap ((w3.setCell ⟨w.heap.size, 0, none⟩ (.int .i64 st)).setCell ⟨w.heap.size, 1, none⟩ (.slice B ys.length c))) := Lib.hid (HD3.out.up ((stR_chg w3 w.heap.size st B ys.length c).mono (fun k _ hk => by omega)))
      have hcr := stR_chg w3 w.heap.size st B ys.length c
      have HMS : Hid (Sl false 2 (EN false) ((w3.setCell ⟨w.heap.size, 0, none⟩ (.int .i64 st)).setCell ⟨w.heap.size, 1, none⟩ (.slice B ys.length c)) (fun b => w.heap.size ≤ b ∧ b < (((w3.setCell ⟨w.heap.size, 0, none⟩ (.int .i64 st)).setCell ⟨w.heap.size, 1, none⟩ (.slice B ys.length c))).heap.size) B ys) := Lib.hid (Sl.wider (Sl.frame (R := EN false) EN.framed (SlN.read HM3.out.row) hcr (fun b hb h2 => by omega)) (fun b hb => ⟨by omega, Nat.lt_of_lt_of_le (by omega : b < w3.heap.size) hcr.size⟩))
      obtain ⟨bc0, bc1, bz0, bz1, blt⟩ := HB3.out
      obtain ⟨rc0, rc1, rz0, rz1, rlt⟩ := HR3.out
      go_simp
      repeat (first | go_skip | go_guarded | go_step | go_upon)
      refine bodyPost_ret (v := .agg #[.int .i64 st, .slice B ys.length c]) (by simp [results, Try.results79, go_sem, HRS.out.c0, HRS.out.c1]) rfl ?_
      exact ⟨_, _, _, _, rfl, HDS.out, hst64, by omega, HBD.out, HY.out, HMS.out⟩

end Go.Proofs.Ytnfgdgmmbddmgaa

/- l22Number: any number, from the code. -/
namespace Go.Proofs.Ytnfgdgmmbddmgaa
open Go.RowKit
set_option linter.unusedVariables false
set_option linter.unusedSimpArgs false

set_option maxRecDepth 8000 in
set_option maxHeartbeats 8000000 in
theorem l22Number_any (g : Nat) (A : Option Addr) (n cap : Nat) (st : Int) (B : Option Addr) (m c : Nat) (w : World) (hcu : Cuu w g A n cap) (hst : I64 st) :
    Calls Try.prog 80 #[.pointer (some ⟨g, 0, none⟩), .agg #[.int .i64 st, .slice B m c]] w fun e w' => ∃ x : Int, e = .returned (.int .i64 x) ∧ Drew w g A n cap w' := by
  have HCU := Lib.hid hcu
  have hgl := hcu.lt
  clear hcu
  go_enter Try.func80, Try.ntmps80
  go_wp2
  obtain ⟨wq, hwq⟩ : ∃ v, v = (w.alloc (.cells #[.int .i64 st, .slice B m c] 28)).drew := ⟨_, rfl⟩
  have hbq : Below w.heap.size w wq := by rw [hwq]; exact (by repeat (first | (with_reducible exact Below.refl _ _) | (with_reducible refine Below.ext ?_ (by go_size) _ _) | (with_reducible refine Below.alloc ?_ (by go_size) _) | (with_reducible refine Below.setCell ?_ (by go_size) _) | (with_reducible refine Below.drew ?_) | (with_reducible refine Below.drewN_ ?_ _)))
  have k0 : wq.cell? ⟨w.heap.size, 0, none⟩ = some (.int .i64 st) := by rw [hwq]; simp [go_sem]
  have HDq := Lib.hid (HCU.out.drew_below hbq)
  clear hbq
  refine wp_region_G [] (S := fun _ => True) (by kernel_rfl) trivial (fun _ => ?_)
  refine wpAnyG_takeW [] (i := 0) (d := some 5) (v := ?_) (by simp only [List.getElem?_toArray, List.getElem?_cons_succ, List.getElem?_cons_zero]; rfl) (by rfl) (by kernel_rfl) (by rfl) (by kernel_rfl) (by kernel_rfl) (by kernel_rfl) (by intro _ _ _ h; exact h) (by rfl) ?_ trivial ?_
  rotate_left 1
  · (intro w hSw; go_simp; try (with_reducible rfl))
  (try simp only [Act.put, List.setIfInBounds_toArray, List.set_cons_zero, List.set_cons_succ])
  refine G_of_any _ _ _ _ (wpAny_of_V (S := (fun w' => w' = wq)) (E := [36, 37, 38]) _ _ _ _ ?_ ?_)
  · exact hwq.symm
  refine wpAnyV_take [2, 3, 7, 11, 15, 19, 23, 27, 31, 35, 36, 37, 38] (i := 1) (d := some 6) (v := ?_) (by simp only [List.getElem?_toArray, List.getElem?_cons_succ, List.getElem?_cons_zero]; rfl) (by rfl) (by kernel_rfl) (by kernel_rfl) (by kernel_rfl) (by kernel_rfl) (by kernel_rfl) (by kernel_rfl) (by rfl) ?_ ?_
  rotate_left 1
  · (intro w hSw; refine quietAt_val ?_; (try dsimp only at hSw); (try rw [hSw]); go_simp; try (with_reducible rfl))
  (try simp only [Act.put, List.setIfInBounds_toArray, List.set_cons_zero, List.set_cons_succ])
  refine wpAnyV_take [3, 7, 11, 15, 19, 23, 27, 31, 35, 36, 37, 38] (i := 2) (d := some 7) (v := ?_) (by simp only [List.getElem?_toArray, List.getElem?_cons_succ, List.getElem?_cons_zero]; rfl) (by rfl) (by kernel_rfl) (by kernel_rfl) (by kernel_rfl) (by kernel_rfl) (by kernel_rfl) (by kernel_rfl) (by rfl) ?_ ?_
  rotate_left 1
  · (intro w hSw; refine quietAt_val ?_; (try dsimp only at hSw); (try rw [hSw]); go_simp; try (with_reducible rfl))
  (try simp only [Act.put, List.setIfInBounds_toArray, List.set_cons_zero, List.set_cons_succ])
  refine wpAnyV_take [7, 11, 15, 19, 23, 27, 31, 35, 36, 37, 38] (i := 3) (d := some 8) (v := ?_) (by simp only [List.getElem?_toArray, List.getElem?_cons_succ, List.getElem?_cons_zero]; rfl) (by rfl) (by kernel_rfl) (by kernel_rfl) (by kernel_rfl) (by kernel_rfl) (by kernel_rfl) (by kernel_rfl) (by rfl) ?_ ?_
  rotate_left 1
  · (intro w hSw; apply quietAt_call; (focus (go_simp; try (first | (with_reducible rfl) | exact ⟨rfl, rfl⟩))); refine (specMod_any _ 4096 (by first | exact hst | (unfold I64; rw [IntKind.wrap_i64]; omega)) rfl _).mono ?_; rintro e w'' ⟨rfl, rfl⟩; refine ⟨?_, hSw⟩; with_reducible rfl)
  (try simp only [Act.put, List.setIfInBounds_toArray, List.set_cons_zero, List.set_cons_succ])
  refine wpAnyV_take [5, 6, 7, 11, 15, 19, 23, 27, 31, 35, 36, 37, 38] (i := 4) (d := some 9) (v := ?_) (by simp only [List.getElem?_toArray, List.getElem?_cons_succ, List.getElem?_cons_zero]; rfl) (by rfl) (by kernel_rfl) (by kernel_rfl) (by kernel_rfl) (by kernel_rfl) (by kernel_rfl) (by kernel_rfl) (by rfl) ?_ ?_
  rotate_left 1
  · (intro w hSw; refine quietAt_val ?_; (try dsimp only at hSw); (try rw [hSw]); go_simp; try (with_reducible rfl))
  (try simp only [Act.put, List.setIfInBounds_toArray, List.set_cons_zero, List.set_cons_succ])
  refine wpAnyV_take [6, 7, 11, 15, 19, 23, 27, 31, 35, 36, 37, 38] (i := 5) (d := some 10) (v := ?_) (by simp only [List.getElem?_toArray, List.getElem?_cons_succ, List.getElem?_cons_zero]; rfl) (by rfl) (by kernel_rfl) (by kernel_rfl) (by kernel_rfl) (by kernel_rfl) (by kernel_rfl) (by kernel_rfl) (by rfl) ?_ ?_
  rotate_left 1
  · (intro w hSw; refine quietAt_val ?_; (try dsimp only at hSw); (try rw [hSw]); go_simp; try (with_reducible rfl))
  (try simp only [Act.put, List.setIfInBounds_toArray, List.set_cons_zero, List.set_cons_succ])
  refine wpAnyV_take [7, 11, 15, 19, 23, 27, 31, 35, 36, 37, 38] (i := 6) (d := some 11) (v := ?_) (by simp only [List.getElem?_toArray, List.getElem?_cons_succ, List.getElem?_cons_zero]; rfl) (by rfl) (by kernel_rfl) (by kernel_rfl) (by kernel_rfl) (by kernel_rfl) (by kernel_rfl) (by kernel_rfl) (by rfl) ?_ ?_
  rotate_left 1
  · (intro w hSw; refine quietAt_val ?_; (try dsimp only at hSw); (try rw [hSw]); go_simp; try (with_reducible rfl))
  (try simp only [Act.put, List.setIfInBounds_toArray, List.set_cons_zero, List.set_cons_succ])
  refine wpAnyV_take [11, 15, 19, 23, 27, 31, 35, 36, 37, 38] (i := 7) (d := some 12) (v := ?_) (by simp only [List.getElem?_toArray, List.getElem?_cons_succ, List.getElem?_cons_zero]; rfl) (by rfl) (by kernel_rfl) (by kernel_rfl) (by kernel_rfl) (by kernel_rfl) (by kernel_rfl) (by kernel_rfl) (by rfl) ?_ ?_
  rotate_left 1
  · (intro w hSw; apply quietAt_call; (focus (go_simp; try (first | (with_reducible rfl) | exact ⟨rfl, rfl⟩))); refine (specMod_any _ 4096 (by first | exact hst | (unfold I64; rw [IntKind.wrap_i64]; omega)) rfl _).mono ?_; rintro e w'' ⟨rfl, rfl⟩; refine ⟨?_, hSw⟩; with_reducible rfl)
  (try simp only [Act.put, List.setIfInBounds_toArray, List.set_cons_zero, List.set_cons_succ])
  refine wpAnyV_take [9, 10, 11, 15, 19, 23, 27, 31, 35, 36, 37, 38] (i := 8) (d := some 13) (v := ?_) (by simp only [List.getElem?_toArray, List.getElem?_cons_succ, List.getElem?_cons_zero]; rfl) (by rfl) (by kernel_rfl) (by kernel_rfl) (by kernel_rfl) (by kernel_rfl) (by kernel_rfl) (by kernel_rfl) (by rfl) ?_ ?_
  rotate_left 1
  · (intro w hSw; refine quietAt_val ?_; (try dsimp only at hSw); (try rw [hSw]); go_simp; try (with_reducible rfl))
  (try simp only [Act.put, List.setIfInBounds_toArray, List.set_cons_zero, List.set_cons_succ])
  refine wpAnyV_take [10, 11, 15, 19, 23, 27, 31, 35, 36, 37, 38] (i := 9) (d := some 14) (v := ?_) (by simp only [List.getElem?_toArray, List.getElem?_cons_succ, List.getElem?_cons_zero]; rfl) (by rfl) (by kernel_rfl) (by kernel_rfl) (by kernel_rfl) (by kernel_rfl) (by kernel_rfl) (by kernel_rfl) (by rfl) ?_ ?_
  rotate_left 1
  · (intro w hSw; refine quietAt_val ?_; (try dsimp only at hSw); (try rw [hSw]); go_simp; try (with_reducible rfl))
  (try simp only [Act.put, List.setIfInBounds_toArray, List.set_cons_zero, List.set_cons_succ])
  refine wpAnyV_take [11, 15, 19, 23, 27, 31, 35, 36, 37, 38] (i := 10) (d := some 15) (v := ?_) (by simp only [List.getElem?_toArray, List.getElem?_cons_succ, List.getElem?_cons_zero]; rfl) (by rfl) (by kernel_rfl) (by kernel_rfl) (by kernel_rfl) (by kernel_rfl) (by kernel_rfl) (by kernel_rfl) (by rfl) ?_ ?_
  rotate_left 1
  · (intro w hSw; refine quietAt_val ?_; (try dsimp only at hSw); (try rw [hSw]); go_simp; try (with_reducible rfl))
  (try simp only [Act.put, List.setIfInBounds_toArray, List.set_cons_zero, List.set_cons_succ])
  refine wpAnyV_take [15, 19, 23, 27, 31, 35, 36, 37, 38] (i := 11) (d := some 16) (v := ?_) (by simp only [List.getElem?_toArray, List.getElem?_cons_succ, List.getElem?_cons_zero]; rfl) (by rfl) (by kernel_rfl) (by kernel_rfl) (by kernel_rfl) (by kernel_rfl) (by kernel_rfl) (by kernel_rfl) (by rfl) ?_ ?_
  rotate_left 1
  · (intro w hSw; apply quietAt_call; (focus (go_simp; try (first | (with_reducible rfl) | exact ⟨rfl, rfl⟩))); refine (specMod_any _ 4096 (by first | exact hst | (unfold I64; rw [IntKind.wrap_i64]; omega)) rfl _).mono ?_; rintro e w'' ⟨rfl, rfl⟩; refine ⟨?_, hSw⟩; with_reducible rfl)
  (try simp only [Act.put, List.setIfInBounds_toArray, List.set_cons_zero, List.set_cons_succ])
  refine wpAnyV_take [13, 14, 15, 19, 23, 27, 31, 35, 36, 37, 38] (i := 12) (d := some 17) (v := ?_) (by simp only [List.getElem?_toArray, List.getElem?_cons_succ, List.getElem?_cons_zero]; rfl) (by rfl) (by kernel_rfl) (by kernel_rfl) (by kernel_rfl) (by kernel_rfl) (by kernel_rfl) (by kernel_rfl) (by rfl) ?_ ?_
  rotate_left 1
  · (intro w hSw; refine quietAt_val ?_; (try dsimp only at hSw); (try rw [hSw]); go_simp; try (with_reducible rfl))
  (try simp only [Act.put, List.setIfInBounds_toArray, List.set_cons_zero, List.set_cons_succ])
  refine wpAnyV_take [14, 15, 19, 23, 27, 31, 35, 36, 37, 38] (i := 13) (d := some 18) (v := ?_) (by simp only [List.getElem?_toArray, List.getElem?_cons_succ, List.getElem?_cons_zero]; rfl) (by rfl) (by kernel_rfl) (by kernel_rfl) (by kernel_rfl) (by kernel_rfl) (by kernel_rfl) (by kernel_rfl) (by rfl) ?_ ?_
  rotate_left 1
  · (intro w hSw; refine quietAt_val ?_; (try dsimp only at hSw); (try rw [hSw]); go_simp; try (with_reducible rfl))
  (try simp only [Act.put, List.setIfInBounds_toArray, List.set_cons_zero, List.set_cons_succ])
  refine wpAnyV_take [15, 19, 23, 27, 31, 35, 36, 37, 38] (i := 14) (d := some 19) (v := ?_) (by simp only [List.getElem?_toArray, List.getElem?_cons_succ, List.getElem?_cons_zero]; rfl) (by rfl) (by kernel_rfl) (by kernel_rfl) (by kernel_rfl) (by kernel_rfl) (by kernel_rfl) (by kernel_rfl) (by rfl) ?_ ?_
  rotate_left 1
  · (intro w hSw; refine quietAt_val ?_; (try dsimp only at hSw); (try rw [hSw]); go_simp; try (with_reducible rfl))
  (try simp only [Act.put, List.setIfInBounds_toArray, List.set_cons_zero, List.set_cons_succ])
  refine wpAnyV_take [19, 23, 27, 31, 35, 36, 37, 38] (i := 15) (d := some 20) (v := ?_) (by simp only [List.getElem?_toArray, List.getElem?_cons_succ, List.getElem?_cons_zero]; rfl) (by rfl) (by kernel_rfl) (by kernel_rfl) (by kernel_rfl) (by kernel_rfl) (by kernel_rfl) (by kernel_rfl) (by rfl) ?_ ?_
  rotate_left 1
  · (intro w hSw; apply quietAt_call; (focus (go_simp; try (first | (with_reducible rfl) | exact ⟨rfl, rfl⟩))); refine (specMod_any _ 4096 (by first | exact hst | (unfold I64; rw [IntKind.wrap_i64]; omega)) rfl _).mono ?_; rintro e w'' ⟨rfl, rfl⟩; refine ⟨?_, hSw⟩; with_reducible rfl)
  (try simp only [Act.put, List.setIfInBounds_toArray, List.set_cons_zero, List.set_cons_succ])
  refine wpAnyV_take [17, 18, 19, 23, 27, 31, 35, 36, 37, 38] (i := 16) (d := some 21) (v := ?_) (by simp only [List.getElem?_toArray, List.getElem?_cons_succ, List.getElem?_cons_zero]; rfl) (by rfl) (by kernel_rfl) (by kernel_rfl) (by kernel_rfl) (by kernel_rfl) (by kernel_rfl) (by kernel_rfl) (by rfl) ?_ ?_
  rotate_left 1
  · (intro w hSw; refine quietAt_val ?_; (try dsimp only at hSw); (try rw [hSw]); go_simp; try (with_reducible rfl))
  (try simp only [Act.put, List.setIfInBounds_toArray, List.set_cons_zero, List.set_cons_succ])
  refine wpAnyV_take [18, 19, 23, 27, 31, 35, 36, 37, 38] (i := 17) (d := some 22) (v := ?_) (by simp only [List.getElem?_toArray, List.getElem?_cons_succ, List.getElem?_cons_zero]; rfl) (by rfl) (by kernel_rfl) (by kernel_rfl) (by kernel_rfl) (by kernel_rfl) (by kernel_rfl) (by kernel_rfl) (by rfl) ?_ ?_
  rotate_left 1
  · (intro w hSw; refine quietAt_val ?_; (try dsimp only at hSw); (try rw [hSw]); go_simp; try (with_reducible rfl))
  (try simp only [Act.put, List.setIfInBounds_toArray, List.set_cons_zero, List.set_cons_succ])
  refine wpAnyV_take [19, 23, 27, 31, 35, 36, 37, 38] (i := 18) (d := some 23) (v := ?_) (by simp only [List.getElem?_toArray, List.getElem?_cons_succ, List.getElem?_cons_zero]; rfl) (by rfl) (by kernel_rfl) (by kernel_rfl) (by kernel_rfl) (by kernel_rfl) (by kernel_rfl) (by kernel_rfl) (by rfl) ?_ ?_
  rotate_left 1
  · (intro w hSw; refine quietAt_val ?_; (try dsimp only at hSw); (try rw [hSw]); go_simp; try (with_reducible rfl))
  (try simp only [Act.put, List.setIfInBounds_toArray, List.set_cons_zero, List.set_cons_succ])
  refine wpAnyV_take [23, 27, 31, 35, 36, 37, 38] (i := 19) (d := some 24) (v := ?_) (by simp only [List.getElem?_toArray, List.getElem?_cons_succ, List.getElem?_cons_zero]; rfl) (by rfl) (by kernel_rfl) (by kernel_rfl) (by kernel_rfl) (by kernel_rfl) (by kernel_rfl) (by kernel_rfl) (by rfl) ?_ ?_
  rotate_left 1
  · (intro w hSw; apply quietAt_call; (focus (go_simp; try (first | (with_reducible rfl) | exact ⟨rfl, rfl⟩))); refine (specMod_any _ 4096 (by first | exact hst | (unfold I64; rw [IntKind.wrap_i64]; omega)) rfl _).mono ?_; rintro e w'' ⟨rfl, rfl⟩; refine ⟨?_, hSw⟩; with_reducible rfl)
  (try simp only [Act.put, List.setIfInBounds_toArray, List.set_cons_zero, List.set_cons_succ])
  refine wpAnyV_take [21, 22, 23, 27, 31, 35, 36, 37, 38] (i := 20) (d := some 25) (v := ?_) (by simp only [List.getElem?_toArray, List.getElem?_cons_succ, List.getElem?_cons_zero]; rfl) (by rfl) (by kernel_rfl) (by kernel_rfl) (by kernel_rfl) (by kernel_rfl) (by kernel_rfl) (by kernel_rfl) (by rfl) ?_ ?_
  rotate_left 1
  · (intro w hSw; refine quietAt_val ?_; (try dsimp only at hSw); (try rw [hSw]); go_simp; try (with_reducible rfl))
  (try simp only [Act.put, List.setIfInBounds_toArray, List.set_cons_zero, List.set_cons_succ])
  refine wpAnyV_take [22, 23, 27, 31, 35, 36, 37, 38] (i := 21) (d := some 26) (v := ?_) (by simp only [List.getElem?_toArray, List.getElem?_cons_succ, List.getElem?_cons_zero]; rfl) (by rfl) (by kernel_rfl) (by kernel_rfl) (by kernel_rfl) (by kernel_rfl) (by kernel_rfl) (by kernel_rfl) (by rfl) ?_ ?_
  rotate_left 1
  · (intro w hSw; refine quietAt_val ?_; (try dsimp only at hSw); (try rw [hSw]); go_simp; try (with_reducible rfl))
  (try simp only [Act.put, List.setIfInBounds_toArray, List.set_cons_zero, List.set_cons_succ])
  refine wpAnyV_take [23, 27, 31, 35, 36, 37, 38] (i := 22) (d := some 27) (v := ?_) (by simp only [List.getElem?_toArray, List.getElem?_cons_succ, List.getElem?_cons_zero]; rfl) (by rfl) (by kernel_rfl) (by kernel_rfl) (by kernel_rfl) (by kernel_rfl) (by kernel_rfl) (by kernel_rfl) (by rfl) ?_ ?_
  rotate_left 1
  · (intro w hSw; refine quietAt_val ?_; (try dsimp only at hSw); (try rw [hSw]); go_simp; try (with_reducible rfl))
  (try simp only [Act.put, List.setIfInBounds_toArray, List.set_cons_zero, List.set_cons_succ])
  refine wpAnyV_take [27, 31, 35, 36, 37, 38] (i := 23) (d := some 28) (v := ?_) (by simp only [List.getElem?_toArray, List.getElem?_cons_succ, List.getElem?_cons_zero]; rfl) (by rfl) (by kernel_rfl) (by kernel_rfl) (by kernel_rfl) (by kernel_rfl) (by kernel_rfl) (by kernel_rfl) (by rfl) ?_ ?_
  rotate_left 1
  · (intro w hSw; apply quietAt_call; (focus (go_simp; try (first | (with_reducible rfl) | exact ⟨rfl, rfl⟩))); refine (specMod_any _ 4096 (by first | exact hst | (unfold I64; rw [IntKind.wrap_i64]; omega)) rfl _).mono ?_; rintro e w'' ⟨rfl, rfl⟩; refine ⟨?_, hSw⟩; with_reducible rfl)
  (try simp only [Act.put, List.setIfInBounds_toArray, List.set_cons_zero, List.set_cons_succ])
  refine wpAnyV_take [25, 26, 27, 31, 35, 36, 37, 38] (i := 24) (d := some 29) (v := ?_) (by simp only [List.getElem?_toArray, List.getElem?_cons_succ, List.getElem?_cons_zero]; rfl) (by rfl) (by kernel_rfl) (by kernel_rfl) (by kernel_rfl) (by kernel_rfl) (by kernel_rfl) (by kernel_rfl) (by rfl) ?_ ?_
  rotate_left 1
  · (intro w hSw; refine quietAt_val ?_; (try dsimp only at hSw); (try rw [hSw]); go_simp; try (with_reducible rfl))
  (try simp only [Act.put, List.setIfInBounds_toArray, List.set_cons_zero, List.set_cons_succ])
  refine wpAnyV_take [26, 27, 31, 35, 36, 37, 38] (i := 25) (d := some 30) (v := ?_) (by simp only [List.getElem?_toArray, List.getElem?_cons_succ, List.getElem?_cons_zero]; rfl) (by rfl) (by kernel_rfl) (by kernel_rfl) (by kernel_rfl) (by kernel_rfl) (by kernel_rfl) (by kernel_rfl) (by rfl) ?_ ?_
  rotate_left 1
  · (intro w hSw; refine quietAt_val ?_; (try dsimp only at hSw); (try rw [hSw]); go_simp; try (with_reducible rfl))
  (try simp only [Act.put, List.setIfInBounds_toArray, List.set_cons_zero, List.set_cons_succ])
  refine wpAnyV_take [27, 31, 35, 36, 37, 38] (i := 26) (d := some 31) (v := ?_) (by simp only [List.getElem?_toArray, List.getElem?_cons_succ, List.getElem?_cons_zero]; rfl) (by rfl) (by kernel_rfl) (by kernel_rfl) (by kernel_rfl) (by kernel_rfl) (by kernel_rfl) (by kernel_rfl) (by rfl) ?_ ?_
  rotate_left 1
  · (intro w hSw; refine quietAt_val ?_; (try dsimp only at hSw); (try rw [hSw]); go_simp; try (with_reducible rfl))
  (try simp only [Act.put, List.setIfInBounds_toArray, List.set_cons_zero, List.set_cons_succ])
  refine wpAnyV_take [31, 35, 36, 37, 38] (i := 27) (d := some 32) (v := ?_) (by simp only [List.getElem?_toArray, List.getElem?_cons_succ, List.getElem?_cons_zero]; rfl) (by rfl) (by kernel_rfl) (by kernel_rfl) (by kernel_rfl) (by kernel_rfl) (by kernel_rfl) (by kernel_rfl) (by rfl) ?_ ?_
  rotate_left 1
  · (intro w hSw; apply quietAt_call; (focus (go_simp; try (first | (with_reducible rfl) | exact ⟨rfl, rfl⟩))); refine (specMod_any _ 4096 (by first | exact hst | (unfold I64; rw [IntKind.wrap_i64]; omega)) rfl _).mono ?_; rintro e w'' ⟨rfl, rfl⟩; refine ⟨?_, hSw⟩; with_reducible rfl)
  (try simp only [Act.put, List.setIfInBounds_toArray, List.set_cons_zero, List.set_cons_succ])
  refine wpAnyV_take [29, 30, 31, 35, 36, 37, 38] (i := 28) (d := some 33) (v := ?_) (by simp only [List.getElem?_toArray, List.getElem?_cons_succ, List.getElem?_cons_zero]; rfl) (by rfl) (by kernel_rfl) (by kernel_rfl) (by kernel_rfl) (by kernel_rfl) (by kernel_rfl) (by kernel_rfl) (by rfl) ?_ ?_
  rotate_left 1
  · (intro w hSw; refine quietAt_val ?_; (try dsimp only at hSw); (try rw [hSw]); go_simp; try (with_reducible rfl))
  (try simp only [Act.put, List.setIfInBounds_toArray, List.set_cons_zero, List.set_cons_succ])
  refine wpAnyV_take [30, 31, 35, 36, 37, 38] (i := 29) (d := some 34) (v := ?_) (by simp only [List.getElem?_toArray, List.getElem?_cons_succ, List.getElem?_cons_zero]; rfl) (by rfl) (by kernel_rfl) (by kernel_rfl) (by kernel_rfl) (by kernel_rfl) (by kernel_rfl) (by kernel_rfl) (by rfl) ?_ ?_
  rotate_left 1
  · (intro w hSw; refine quietAt_val ?_; (try dsimp only at hSw); (try rw [hSw]); go_simp; try (with_reducible rfl))
  (try simp only [Act.put, List.setIfInBounds_toArray, List.set_cons_zero, List.set_cons_succ])
  refine wpAnyV_take [31, 35, 36, 37, 38] (i := 30) (d := some 35) (v := ?_) (by simp only [List.getElem?_toArray, List.getElem?_cons_succ, List.getElem?_cons_zero]; rfl) (by rfl) (by kernel_rfl) (by kernel_rfl) (by kernel_rfl) (by kernel_rfl) (by kernel_rfl) (by kernel_rfl) (by rfl) ?_ ?_
  rotate_left 1
  · (intro w hSw; refine quietAt_val ?_; (try dsimp only at hSw); (try rw [hSw]); go_simp; try (with_reducible rfl))
  (try simp only [Act.put, List.setIfInBounds_toArray, List.set_cons_zero, List.set_cons_succ])
  refine wpAnyV_take [35, 36, 37, 38] (i := 31) (d := some 36) (v := ?_) (by simp only [List.getElem?_toArray, List.getElem?_cons_succ, List.getElem?_cons_zero]; rfl) (by rfl) (by kernel_rfl) (by kernel_rfl) (by kernel_rfl) (by kernel_rfl) (by kernel_rfl) (by kernel_rfl) (by rfl) ?_ ?_
  rotate_left 1
  · (intro w hSw; apply quietAt_call; (focus (go_simp; try (first | (with_reducible rfl) | exact ⟨rfl, rfl⟩))); refine (specMod_any _ 4096 (by first | exact hst | (unfold I64; rw [IntKind.wrap_i64]; omega)) rfl _).mono ?_; rintro e w'' ⟨rfl, rfl⟩; refine ⟨?_, hSw⟩; with_reducible rfl)
  (try simp only [Act.put, List.setIfInBounds_toArray, List.set_cons_zero, List.set_cons_succ])
  refine wpAnyV_take [33, 34, 35, 36, 37, 38] (i := 32) (d := some 37) (v := ?_) (by simp only [List.getElem?_toArray, List.getElem?_cons_succ, List.getElem?_cons_zero]; rfl) (by rfl) (by kernel_rfl) (by kernel_rfl) (by kernel_rfl) (by kernel_rfl) (by kernel_rfl) (by kernel_rfl) (by rfl) ?_ ?_
  rotate_left 1
  · (intro w hSw; refine quietAt_val ?_; (try dsimp only at hSw); (try rw [hSw]); go_simp; try (with_reducible rfl))
  (try simp only [Act.put, List.setIfInBounds_toArray, List.set_cons_zero, List.set_cons_succ])
  refine wpAnyV_take [34, 35, 36, 37, 38] (i := 33) (d := some 38) (v := ?_) (by simp only [List.getElem?_toArray, List.getElem?_cons_succ, List.getElem?_cons_zero]; rfl) (by rfl) (by kernel_rfl) (by kernel_rfl) (by kernel_rfl) (by kernel_rfl) (by kernel_rfl) (by kernel_rfl) (by rfl) ?_ ?_
  rotate_left 1
  · (intro w hSw; refine quietAt_val ?_; (try dsimp only at hSw); (try rw [hSw]); go_simp; try (with_reducible rfl))
  (try simp only [Act.put, List.setIfInBounds_toArray, List.set_cons_zero, List.set_cons_succ])
  refine wpAnyV_take [35, 36, 37, 38] (i := 34) (d := some 39) (v := ?_) (by simp only [List.getElem?_toArray, List.getElem?_cons_succ, List.getElem?_cons_zero]; rfl) (by rfl) (by kernel_rfl) (by kernel_rfl) (by kernel_rfl) (by kernel_rfl) (by kernel_rfl) (by kernel_rfl) (by rfl) ?_ ?_
  rotate_left 1
  · (intro w hSw; refine quietAt_val ?_; (try dsimp only at hSw); (try rw [hSw]); go_simp; try (with_reducible rfl))
  (try simp only [Act.put, List.setIfInBounds_toArray, List.set_cons_zero, List.set_cons_succ])
  refine wpAnyV_take [36, 37, 38] (i := 35) (d := some 40) (v := ?_) (by simp only [List.getElem?_toArray, List.getElem?_cons_succ, List.getElem?_cons_zero]; rfl) (by rfl) (by kernel_rfl) (by kernel_rfl) (by kernel_rfl) (by kernel_rfl) (by kernel_rfl) (by kernel_rfl) (by rfl) ?_ ?_
  rotate_left 1
  · (intro w hSw; apply quietAt_call; (focus (go_simp; try (first | (with_reducible rfl) | exact ⟨rfl, rfl⟩))); refine (specMod_any _ 4096 (by first | exact hst | (unfold I64; rw [IntKind.wrap_i64]; omega)) rfl _).mono ?_; rintro e w'' ⟨rfl, rfl⟩; refine ⟨?_, hSw⟩; with_reducible rfl)
  (try simp only [Act.put, List.setIfInBounds_toArray, List.set_cons_zero, List.set_cons_succ])
  refine wpAnyV_tail (by kernel_rfl) ?_
  intro w' hSw
  rw [show w' = wq from hSw]
  clear hSw w' hwq
  refine wpAny_of_G (S := fun _ => True) (E := []) _ _ _ _ ?_
  refine wpAnyG_ready (rs := [36]) (by kernel_rfl) (by simp) ?_
  refine (AllReadyG.cons (i := 36) (by simp only [List.getElem?_toArray, List.getElem?_cons_succ, List.getElem?_cons_zero]; rfl) (fun K hK => ?_) AllReadyG.nil)
  go_simp
  go_wp2_with fail
  refine hK.out _ _ (fun _ => ?_) (fun hHeld => ?_)
  · ((try dsimp only); (try trivial))
  replace hHeld := hHeld (by rfl)
  clear hK K
  (try simp only [Act.put, List.setIfInBounds_toArray, List.set_cons_zero, List.set_cons_succ])
  refine wpAnyG_ready (rs := [37]) (by kernel_rfl) (by simp) ?_
  refine (AllReadyG.cons (i := 37) (by simp only [List.getElem?_toArray, List.getElem?_cons_succ, List.getElem?_cons_zero]; rfl) (fun K hK => ?_) AllReadyG.nil)
  go_simp
  show Calls _ _ _ (wq.alloc _) _
  refine Calls.mono (intX (g := g) (A := A) (n := n) (cap := cap) rfl (HCU.out.next HDq.out) ?i3) ?_
  case i3 => exact ⟨[_, _, _, _, _, _, _, _, _, _, _], rfl, rfl, by simp, by simp⟩
  rintro e u1 ⟨x, rfl, hd⟩
  have HDu := Lib.hid (Drew.trans hgl (HDq.out.below_ (Below.alloc (Below.refl _ _) (Nat.le_refl _) _) HDq.out.size_) hd)
  clear hd
  go_wp2_with fail
  refine hK.out _ _ (fun _ => ?_) (fun hHeld => ?_)
  · ((try dsimp only); (try trivial))
  replace hHeld := hHeld (by rfl)
  clear hK K
  (try simp only [Act.put, List.setIfInBounds_toArray, List.set_cons_zero, List.set_cons_succ])
  refine wpAnyG_takeW [] (i := 38) (d := some 4) (v := ?_) (by simp only [List.getElem?_toArray, List.getElem?_cons_succ, List.getElem?_cons_zero]; rfl) (by rfl) (by kernel_rfl) (by kernel_rfl) (by kernel_rfl) (by kernel_rfl) (by kernel_rfl) (by intro _ _ _ h; exact h) (by rfl) ?_ trivial ?_
  rotate_left 1
  · (intro w hSw; (try dsimp only at hSw); go_simp; try (with_reducible rfl))
  (try simp only [Act.put, List.setIfInBounds_toArray, List.set_cons_zero, List.set_cons_succ])
  refine wpAnyG_done (by kernel_rfl) ?_ _
  go_wp2
  go_ret
  exact ⟨x, rfl, HDu.out⟩

end Go.Proofs.Ytnfgdgmmbddmgaa

/- DrawReceiveNumbered: any buffer, any number, any body, from the code. -/
namespace Go.Proofs.Ytnfgdgmmbddmgaa
open Go.RowKit
set_option linter.unusedVariables false
set_option linter.unusedSimpArgs false

def SomeBy (w : World) (g : Nat) (A : Option Addr) (n cap m : Nat) (e : Ending) (w' : World) : Prop := ∃ go c q, e = .returned (.slice (some ⟨go, 0, none⟩) q.length c) ∧ q.length = m ∧ (∀ y ∈ q, 0 ≤ y ∧ y ≤ 255) ∧ OwR (Value.int .u8) 5 w' w.heap.size go c q ∧ Drew w g A n cap w'

set_option maxHeartbeats 2000000 in
theorem l1Bytes_any (g : Nat) (A : Option Addr) (n cap m : Nat) (w : World) (hcu : Cuu w g A n cap) (hm : m ≤ 1000) :
    Calls Try.prog 81 #[.pointer (some ⟨g, 0, none⟩), .int .i64 (m : Int)] w fun e w' => SomeBy w g A n cap m e w' := by
  obtain ⟨i0, hi, hz0, hz1, hz2⟩ := info_parts infoU8
  have HC := Lib.hid hcu
  have hgl := hcu.lt
  clear hcu
  go_enter Try.func81, Try.ntmps81
  go_wp2
  go_loopw [5, 6] (fun v p wr => ∃ (i go c : Nat) (q : List Int), p = .int .i64 (i : Int) ∧ i ≤ m ∧ v = .slice (some ⟨go, 0, none⟩) q.length c ∧ Hid (q.length = i) ∧ Hid (∀ y ∈ q, 0 ≤ y ∧ y ≤ 255) ∧ Hid (OwR (Value.int .u8) 5 wr w.heap.size go c q) ∧ Hid (Drew w g A n cap wr)) (fun _ p _ => m - (intOf p).toNat)
  case atStart => exact ⟨0, w.heap.size, 0, [], rfl, Nat.zero_le _, rfl, Lib.hid rfl, Lib.hid (by simp), Lib.hid (OwR.new (Nat.le_refl _) (World.heap_new _ _ _ rfl)), Lib.hid (HC.out.drew_below ((Below.refl _ _).alloc (Nat.le_refl _) _))⟩
  case round =>
    obtain ⟨i, go, c, q, rfl, him, rfl, HQ, HY, HO, HD⟩ := hrel
    have hql : q.length ≤ 1000 := by have := HQ.out; omega
    have hge := HO.out.ge
    by_cases hlt : i < m
    · have hlt2 : (i : Int) < (m : Int) := by omega
      go_wp2_with fail
      refine (byteC g A n cap _ (HC.out.next HD.out)).mono ?_
      rintro e w2 ⟨y, rfl, hy0, hy1, hd⟩
      have HO2 := Lib.hid (HO.out.chg hd.chg_ (by omega))
      have HD2 := Lib.hid (Drew.trans HC.out.lt HD.out hd)
      have hs2 := HD2.out.size_
      have hu8 : IntKind.u8.wrap y = y := by rw [IntKind.wrap_u8]; omega
      clear hd HD HO
      go_wp2_with (at_builtin; refine wpList_appR rfl (.tmp 13) (.tmp 17) 38 rfl 5 i0 (.int .u8 0) 1 Try.underlying38 hi hz0 hz1 hz2 rfl w.heap.size _ _ _ rfl (HO2.out.below ((Below.refl _ _).alloc (Nat.le_refl _) _)) _ [y] _ (fun _ _ => rfl) rfl (rwF_alloc1 (f := Value.int .u8) (by simp)) (by first | omega | (simp; done) | (simp; omega)) (by decide) (by first | omega | (simp; done) | (simp; omega)) ?_)
      intro g3 c3 w3 q3 HQ3 HO3 HG3 HC3
      have HD2' := HD2.out.below_ (Below.alloc (Below.refl _ _) (Nat.le_refl _) (.cells #[.int .u8 y] 5)) hs2
      have HD3 : Hid (Drew w g A n cap w3) := Lib.hid (HD2'.up (HC3.out.mono (fun k _ hk => by omega)))
      have HY3 : Hid (∀ z ∈ q3, 0 ≤ z ∧ z ≤ 255) := Lib.hid (by
        rw [HQ3.out]
        intro z hz
        rcases List.mem_append.1 hz with h | h
        · exact HY.out z h
        · simp at h; subst h; exact ⟨hy0, hy1⟩)
      have HL3 : Hid (q3.length = i + 1) := Lib.hid (by rw [HQ3.out]; simp [HQ.out])
      clear HQ3 HG3 HC3 HO2 HD2 HD2' hu8
      go_wp2
      go_roundw
      case rel => exact ⟨i + 1, g3, c3, q3, by go_num, by omega, rfl, HL3, HY3, HO3, HD3⟩
      case measure => simp [intOf]; omega
    · obtain rfl : i = m := by omega
      go_wp2
      go_ret
      exact ⟨go, c, q, rfl, HQ.out, HY.out, HO.out, HD.out⟩

def DrawnRN (w : World) (e : Ending) (w' : World) : Prop := ∃ st B c ys q go cb body, e = .returned (.tuple #[.agg #[.int .i64 st, .slice B ys.length c], .int .i64 q, .slice (some ⟨go, 0, none⟩) body.length cb]) ∧ Below w.heap.size w w' ∧ Sl false 2 (EN false) w' (fun b => w.heap.size ≤ b ∧ b < w'.heap.size) B ys ∧ ys.length ≤ 16 ∧ (∀ x ∈ ys, x.2.length ≤ 100) ∧ ByN ys ∧ (∀ z ∈ body, 0 ≤ z ∧ z ≤ 255) ∧ body.length ≤ 1000 ∧ Rw true .u8 w' (fun b => w.heap.size ≤ b) (some ⟨go, 0, none⟩) body
set_option maxRecDepth 8000 in
set_option maxHeartbeats 4000000 in
theorem drawRN_any {u : Bool} (A : Option Addr) (cap : Nat) (xs : List Int) (w : World) (hx : Rw u .u8 w (fun b => b < w.heap.size) A xs) (hm : xs.length ≤ 1000000000) (hb : ∀ x ∈ xs, 0 ≤ x ∧ x ≤ 255) :
    Calls Try.prog 50 #[.slice A xs.length cap] w fun e w' => DrawnRN w e w' := by
  have HX : Hid (Rw u .u8 (w.alloc (.cells #[.int .i64 0, .slice none 0 0] 28)) (fun b => b < (w.alloc (.cells #[.int .i64 0, .slice none 0 0] 28)).heap.size) A xs) := Lib.hid ((hx.below ((Below.refl _ _).alloc (Nat.le_refl _) _)).wider (fun b hb => by simp; omega))
  have HB0 := Lib.hid hb
  clear hx hb
  go_enter Try.func50, Try.ntmps50
  go_wp2_with fail
  refine (new_any A cap xs _ HX.out (by omega)).mono ?_
  rintro e w0 ⟨h0, rfl, rfl⟩
  have HC1 : Hid (Cuu ((w.alloc (.cells #[.int .i64 0, .slice none 0 0] 28)).alloc (curO A xs.length cap 0 h0)) (w.heap.size + 1) A xs.length cap) := Lib.hid (by simpa using (cu_new (cap := cap) h0 HX.out (by omega) HB0.out).cuu)
  have HW1 : Hid (Below w.heap.size w ((w.alloc (.cells #[.int .i64 0, .slice none 0 0] 28)).alloc (curO A xs.length cap 0 h0))) := Lib.hid (by repeat (first | (with_reducible exact Below.refl _ _) | (with_reducible refine Below.ext ?_ (by go_size) _ _) | (with_reducible refine Below.alloc ?_ (by go_size) _) | (with_reducible refine Below.setCell ?_ (by go_size) _) | (with_reducible refine Below.drew ?_) | (with_reducible refine Below.drewN_ ?_ _)))
  have HR1 : Hid (BxR ((w.alloc (.cells #[.int .i64 0, .slice none 0 0] 28)).alloc (curO A xs.length cap 0 h0)) w.heap.size 0 none 0 0) := Lib.hid (BxR.below (BxR.new (t := 28) (World.heap_new w (.cells #[.int .i64 0, .slice none 0 0] 28) _ rfl)) (Below.alloc (Below.refl _ _) (Nat.le_refl _) _))
  have hs1 : ((w.alloc (.cells #[.int .i64 0, .slice none 0 0] 28)).alloc (curO A xs.length cap 0 h0)).heap.size = w.heap.size + 2 := by simp
  have hs1le : w.heap.size + 2 ≤ ((w.alloc (.cells #[.int .i64 0, .slice none 0 0] 28)).alloc (curO A xs.length cap 0 h0)).heap.size := by omega
  clear hs1
  go_wp2_with fail
  obtain ⟨w1, hw1⟩ : ∃ v, v = (w.alloc (.cells #[.int .i64 0, .slice none 0 0] 28)).alloc (curO A xs.length cap 0 h0) := ⟨_, rfl⟩
  rw [← hw1] at HC1 HW1 HR1 hs1le ⊢
  clear hw1 HX
  refine (l22Any_any (w.heap.size + 1) A xs.length cap _ HC1.out).mono ?_
  rintro e w2 ⟨st, B, c, ys, rfl, hd, h64, h16, hbd, hby, hsl⟩
  have HC2 := Lib.hid (HC1.out.next hd)
  have HW2 : Hid (Below w.heap.size w w2) := Lib.hid (HW1.out.trans (hd.chg_.below (by omega) (fun k hk => by omega)))
  have HR2 := Lib.hid (HR1.out.chg hd.chg_ (by omega))
  have HS2 : Hid (Sl false 2 (EN false) w2 (fun b => w.heap.size + 2 ≤ b ∧ b < w2.heap.size) B ys) := Lib.hid (hsl.wider (fun b hb => by omega))
  have HBD := Lib.hid hbd
  have HY := Lib.hid hby
  have hs2 : w.heap.size + 2 ≤ w2.heap.size := by have := hd.chg_.size; omega
  clear hd hbd hby hsl HC1 HW1 HR1
  go_wp2_with fail
  refine (l22Number_any (w.heap.size + 1) A xs.length cap st B _ c _ (HC2.out.alloc _) h64).mono ?_
  rintro e w3 ⟨q, rfl, hd⟩
  have hal : Below w2.heap.size w2 (w2.alloc (.cells #[.int .i64 st, .slice B ys.length c] 28)) := Below.alloc (Below.refl _ _) (Nat.le_refl _) _
  have HC3 := Lib.hid (Cuu.next (HC2.out.alloc (.cells #[.int .i64 st, .slice B ys.length c] 28)) hd)
  have HW3 : Hid (Below w.heap.size w w3) := Lib.hid ((HW2.out.trans (hal.mono (by omega))).trans (hd.chg_.below (by simp; omega) (fun k hk => by omega)))
  have HR3 := Lib.hid ((HR2.out.below hal).chg hd.chg_ (by omega))
  have HB3 : Hid (BxR w3 w2.heap.size st B ys.length c) := Lib.hid ((BxR.new (World.heap_new _ _ _ rfl)).chg hd.chg_ (by omega))
  have HS3 : Hid (Sl false 2 (EN false) w3 (fun b => w.heap.size + 2 ≤ b ∧ b < w2.heap.size) B ys) := Lib.hid (Sl.frame (R := EN false) EN.framed (Sl.below (R := EN false) EN.framed HS2.out hal) hd.chg_ (fun b hb h2 => by omega))
  clear hd hal HC2 HW2 HR2 HS2
  obtain ⟨wq, hwq⟩ : ∃ v, v = w3.drew := ⟨_, rfl⟩
  have hbd : Below w3.heap.size w3 wq := by rw [hwq]; exact Below.drew (Below.refl _ _)
  have HCq := Lib.hid (HC3.out.of_below hbd)
  have HWq := Lib.hid (HW3.out.trans (hbd.mono HW3.out.size))
  have HBq := Lib.hid (HB3.out.below hbd)
  have HRq := Lib.hid (HR3.out.below hbd)
  have HSq : Hid (Sl false 2 (EN false) wq (fun b => w.heap.size + 2 ≤ b ∧ b < w2.heap.size) B ys) := Lib.hid (Sl.below (R := EN false) EN.framed HS3.out hbd)
  have k0 := HB3.out.c0
  have k1 := HB3.out.c1
  have hsq : w2.heap.size < w3.heap.size := HB3.out.lt
  have hsq2 : w2.heap.size < wq.heap.size := HBq.out.lt
  clear hbd
  go_wp2
  refine wp_region_G [] (S := (fun w' => w'.cell? ⟨w2.heap.size, 0, none⟩ = some (.int .i64 st) ∧ w'.cell? ⟨w2.heap.size, 1, none⟩ = some (.slice B ys.length c))) (by kernel_rfl) ?_ (fun hHeld => ?_)
  · first | exact ⟨k0, k1⟩ | (refine ⟨(World.cell?_alloc_lt _ _ _ (by simp only [World.size_drew]; omega)).trans k0, (World.cell?_alloc_lt _ _ _ (by simp only [World.size_drew]; omega)).trans k1⟩) | exact ⟨(Chg.cell (stR_chg u2 w.heap.size st B ys.length c) (p := ⟨w2.heap.size, 0, none⟩) (by simp only; omega) (by simp only; omega)).trans k0, (Chg.cell (stR_chg u2 w.heap.size st B ys.length c) (p := ⟨w2.heap.size, 1, none⟩) (by simp only; omega) (by simp only; omega)).trans k1⟩
  refine wpAnyG_takeW [7, 8, 9] (i := 0) (d := some 15) (v := ?_) (by simp only [List.getElem?_toArray, List.getElem?_cons_succ, List.getElem?_cons_zero]; rfl) (by rfl) (by kernel_rfl) (by kernel_rfl) (by kernel_rfl) (by kernel_rfl) (by kernel_rfl) (by intro _ _ _ h; exact h) (by rfl) ?_ (by assumption) ?_
  rotate_left 1
  · (intro w hSw; (try dsimp only at hSw); go_simp; try (with_reducible rfl))
  (try simp only [Act.put, List.setIfInBounds_toArray, List.set_cons_zero, List.set_cons_succ])
  refine wpAnyG_takeW [8, 9] (i := 1) (d := some 16) (v := ?_) (by simp only [List.getElem?_toArray, List.getElem?_cons_succ, List.getElem?_cons_zero]; rfl) (by rfl) (by kernel_rfl) (by kernel_rfl) (by kernel_rfl) (by kernel_rfl) (by kernel_rfl) (by intro _ _ _ h; exact h) (by rfl) ?_ (by assumption) ?_
  rotate_left 1
  · (intro w hSw; (try dsimp only at hSw); go_simp; try (with_reducible rfl))
  (try simp only [Act.put, List.setIfInBounds_toArray, List.set_cons_zero, List.set_cons_succ])
  refine wpAnyG_takeW [6, 7, 8, 9] (i := 2) (d := some 17) (v := ?_) (by simp only [List.getElem?_toArray, List.getElem?_cons_succ, List.getElem?_cons_zero]; rfl) (by rfl) (by kernel_rfl) (by kernel_rfl) (by kernel_rfl) (by kernel_rfl) (by kernel_rfl) (by intro _ _ _ h; exact h) (by rfl) ?_ (by assumption) ?_
  rotate_left 1
  · (intro w hSw; (try dsimp only at hSw); go_simp; try (with_reducible rfl))
  (try simp only [Act.put, List.setIfInBounds_toArray, List.set_cons_zero, List.set_cons_succ])
  refine wpAnyG_takeW [5, 6, 7, 8, 9] (i := 3) (d := some 18) (v := ?_) (by simp only [List.getElem?_toArray, List.getElem?_cons_succ, List.getElem?_cons_zero]; rfl) (by rfl) (by kernel_rfl) (by kernel_rfl) (by kernel_rfl) (by kernel_rfl) (by kernel_rfl) (by intro _ _ _ h; exact h) (by rfl) ?_ (by assumption) ?_
  rotate_left 1
  · (intro w hSw; (try dsimp only at hSw); go_simp; try (with_reducible rfl))
  (try simp only [Act.put, List.setIfInBounds_toArray, List.set_cons_zero, List.set_cons_succ])
  refine wpAnyG_ready (rs := [4]) (by kernel_rfl) (by simp) ?_
  refine (AllReadyG.cons (i := 4) (by simp only [List.getElem?_toArray, List.getElem?_cons_succ, List.getElem?_cons_zero]; rfl) (fun K hK => ?_) AllReadyG.nil)
  go_simp
  go_wp2_with fail
  refine hK.out _ _ (fun _ => ?_) (fun hHeld => ?_)
  · ((try dsimp only); first | exact ⟨k0, k1⟩ | (refine ⟨(World.cell?_alloc_lt _ _ _ (by simp only [World.size_drew]; omega)).trans k0, (World.cell?_alloc_lt _ _ _ (by simp only [World.size_drew]; omega)).trans k1⟩) | exact ⟨(Chg.cell (stR_chg u2 w.heap.size st B ys.length c) (p := ⟨w2.heap.size, 0, none⟩) (by simp only; omega) (by simp only; omega)).trans k0, (Chg.cell (stR_chg u2 w.heap.size st B ys.length c) (p := ⟨w2.heap.size, 1, none⟩) (by simp only; omega) (by simp only; omega)).trans k1⟩)
  replace hHeld := hHeld (by rfl)
  clear hK K
  (try simp only [Act.put, List.setIfInBounds_toArray, List.set_cons_zero, List.set_cons_succ])
  refine wpAnyG_ready (rs := [5]) (by kernel_rfl) (by simp) ?_
  refine (AllReadyG.cons (i := 5) (by simp only [List.getElem?_toArray, List.getElem?_cons_succ, List.getElem?_cons_zero]; rfl) (fun K hK => ?_) AllReadyG.nil)
  go_simp
  show Calls _ _ _ ((World.drew w3).alloc (.cells #[.int .i64 0, .int .i64 1, .int .i64 2, .int .i64 100, .int .i64 101] 3)) _
  rw [← hwq]
  refine (intL5 (g := w.heap.size + 1) (b := w3.heap.size) (by rw [hwq]; rfl) HCq.out).mono ?_
  rintro e u1 ⟨x, rfl, hx, hd⟩
  have hal : Below wq.heap.size wq (wq.alloc (.cells #[.int .i64 0, .int .i64 1, .int .i64 2, .int .i64 100, .int .i64 101] 3)) := Below.alloc (Below.refl _ _) (Nat.le_refl _) _
  have HCu := Lib.hid (Cuu.next (HCq.out.alloc (.cells #[.int .i64 0, .int .i64 1, .int .i64 2, .int .i64 100, .int .i64 101] 3)) hd)
  have HWu : Hid (Below w.heap.size w u1) := Lib.hid ((HWq.out.trans (hal.mono (by omega))).trans (hd.chg_.below (by simp; omega) (fun k hk => by omega)))
  have HBu := Lib.hid ((HBq.out.below hal).chg hd.chg_ (by omega))
  have HRu := Lib.hid ((HRq.out.below hal).chg hd.chg_ (by omega))
  have HSu : Hid (Sl false 2 (EN false) u1 (fun b => w.heap.size + 2 ≤ b ∧ b < w2.heap.size) B ys) := Lib.hid (Sl.frame (R := EN false) EN.framed (Sl.below (R := EN false) EN.framed HSq.out hal) hd.chg_ (fun b hb h2 => by omega))
  have hsu : w2.heap.size < u1.heap.size := HBu.out.lt
  obtain ⟨m, rfl⟩ : ∃ m : Nat, x = (m : Int) := ⟨x.toNat, by simp at hx; omega⟩
  have hm1 : m ≤ 1000 := by simp at hx; omega
  replace k0 := HBu.out.c0
  replace k1 := HBu.out.c1
  clear hd hal hx
  go_wp2_with fail
  refine hK.out _ _ (fun _ => ?_) (fun hHeld => ?_)
  · ((try dsimp only); first | exact ⟨k0, k1⟩ | (refine ⟨(World.cell?_alloc_lt _ _ _ (by simp only [World.size_drew]; omega)).trans k0, (World.cell?_alloc_lt _ _ _ (by simp only [World.size_drew]; omega)).trans k1⟩) | exact ⟨(Chg.cell (stR_chg u2 w.heap.size st B ys.length c) (p := ⟨w2.heap.size, 0, none⟩) (by simp only; omega) (by simp only; omega)).trans k0, (Chg.cell (stR_chg u2 w.heap.size st B ys.length c) (p := ⟨w2.heap.size, 1, none⟩) (by simp only; omega) (by simp only; omega)).trans k1⟩)
  replace hHeld := hHeld (by rfl)
  clear hK K
  (try simp only [Act.put, List.setIfInBounds_toArray, List.set_cons_zero, List.set_cons_succ])
  refine wpAnyG_ready (rs := [6]) (by kernel_rfl) (by simp) ?_
  refine (AllReadyG.cons (i := 6) (by simp only [List.getElem?_toArray, List.getElem?_cons_succ, List.getElem?_cons_zero]; rfl) (fun K hK => ?_) AllReadyG.nil)
  go_simp
  refine (l1Bytes_any (w.heap.size + 1) A xs.length cap m _ HCu.out hm1).mono ?_
  rintro e u2 ⟨go, cb, body, rfl, hbl, hby8, hown, hd⟩
  have HWv : Hid (Below w.heap.size w u2) := Lib.hid (HWu.out.trans (hd.chg_.below (by omega) (fun k hk => by omega)))
  have HBv := Lib.hid (HBu.out.chg hd.chg_ (by omega))
  have HRv := Lib.hid (HRu.out.chg hd.chg_ (by omega))
  have HSv : Hid (Sl false 2 (EN false) u2 (fun b => w.heap.size + 2 ≤ b ∧ b < w2.heap.size) B ys) := Lib.hid (Sl.frame (R := EN false) EN.framed HSu.out hd.chg_ (fun b hb h2 => by omega))
  have HYB := Lib.hid hby8
  have hge := hown.ge
  have HRB := Lib.hid (RwF.rw hown.rwF)
  have HLB : Hid (body.length = m) := Lib.hid hbl
  have hsv := HBv.out.lt
  replace k0 := HBv.out.c0
  replace k1 := HBv.out.c1
  clear hd hown hby8 hbl
  go_wp2_with fail
  refine hK.out _ _ (fun _ => ?_) (fun hHeld => ?_)
  · ((try dsimp only); first | exact ⟨k0, k1⟩ | (refine ⟨(World.cell?_alloc_lt _ _ _ (by simp only [World.size_drew]; omega)).trans k0, (World.cell?_alloc_lt _ _ _ (by simp only [World.size_drew]; omega)).trans k1⟩) | exact ⟨(Chg.cell (stR_chg u2 w.heap.size st B ys.length c) (p := ⟨w2.heap.size, 0, none⟩) (by simp only; omega) (by simp only; omega)).trans k0, (Chg.cell (stR_chg u2 w.heap.size st B ys.length c) (p := ⟨w2.heap.size, 1, none⟩) (by simp only; omega) (by simp only; omega)).trans k1⟩)
  replace hHeld := hHeld (by rfl)
  clear hK K
  (try simp only [Act.put, List.setIfInBounds_toArray, List.set_cons_zero, List.set_cons_succ])
  refine wpAnyG_ready (rs := [7]) (by kernel_rfl) (by simp) ?_
  refine (AllReadyG.cons (i := 7) (by simp only [List.getElem?_toArray, List.getElem?_cons_succ, List.getElem?_cons_zero]; rfl) (fun K hK => ?_) AllReadyG.nil)
  obtain ⟨rc0, rc1, rz0, rz1, rlt⟩ := HRv.out
  go_simp
  go_wp2_with fail
  refine hK.out _ _ (fun _ => ?_) (fun hHeld => ?_)
  · ((try dsimp only); first | exact ⟨k0, k1⟩ | (refine ⟨(World.cell?_alloc_lt _ _ _ (by simp only [World.size_drew]; omega)).trans k0, (World.cell?_alloc_lt _ _ _ (by simp only [World.size_drew]; omega)).trans k1⟩) | exact ⟨(Chg.cell (stR_chg u2 w.heap.size st B ys.length c) (p := ⟨w2.heap.size, 0, none⟩) (by simp only; omega) (by simp only; omega)).trans k0, (Chg.cell (stR_chg u2 w.heap.size st B ys.length c) (p := ⟨w2.heap.size, 1, none⟩) (by simp only; omega) (by simp only; omega)).trans k1⟩)
  replace hHeld := hHeld (by rfl)
  clear hK K
  (try simp only [Act.put, List.setIfInBounds_toArray, List.set_cons_zero, List.set_cons_succ])
  refine wpAnyG_takeW [9] (i := 8) (d := some 3) (v := ?_) (by simp only [List.getElem?_toArray, List.getElem?_cons_succ, List.getElem?_cons_zero]; rfl) (by rfl) (by kernel_rfl) (by kernel_rfl) (by kernel_rfl) (by kernel_rfl) (by kernel_rfl) (by intro _ _ _ h; exact h) (by rfl) ?_ (by assumption) ?_
  rotate_left 1
  · (intro w hSw; (try dsimp only at hSw); go_simp; try (with_reducible rfl))
  (try simp only [Act.put, List.setIfInBounds_toArray, List.set_cons_zero, List.set_cons_succ])
  refine wpAnyG_takeW [] (i := 9) (d := some 4) (v := ?_) (by simp only [List.getElem?_toArray, List.getElem?_cons_succ, List.getElem?_cons_zero]; rfl) (by rfl) (by kernel_rfl) (by kernel_rfl) (by kernel_rfl) (by kernel_rfl) (by kernel_rfl) (by intro _ _ _ h; exact h) (by rfl) ?_ (by assumption) ?_
  rotate_left 1
  · (intro w hSw; (try dsimp only at hSw); go_simp; try (with_reducible rfl))
  (try simp only [Act.put, List.setIfInBounds_toArray, List.set_cons_zero, List.set_cons_succ])
  refine wpAnyG_done (by kernel_rfl) ?_ _
  have hcr := stR_chg u2 w.heap.size st B ys.length c
  have HRS : Hid (BxR ((u2.setCell ⟨w.heap.size, 0, none⟩ (.int .i64 st)).setCell ⟨w.heap.size, 1, none⟩ (.slice B ys.length c)) w.heap.size st B ys.length c) := Lib.hid (HRv.out.s0.s1)
  have HWS : Hid (Below w.heap.size w ((u2.setCell ⟨w.heap.size, 0, none⟩ (.int .i64 st)).setCell ⟨w.heap.size, 1, none⟩ (.slice B ys.length c))) := Lib.hid (HWv.out.trans (hcr.below (by omega) (fun k hk => by omega)))
  have HSS : Hid (Sl false 2 (EN false) ((u2.setCell ⟨w.heap.size, 0, none⟩ (.int .i64 st)).setCell ⟨w.heap.size, 1, none⟩ (.slice B ys.length c)) (fun b => w.heap.size ≤ b ∧ b < (((u2.setCell ⟨w.heap.size, 0, none⟩ (.int .i64 st)).setCell ⟨w.heap.size, 1, none⟩ (.slice B ys.length c))).heap.size) B ys) := Lib.hid (Sl.wider (Sl.frame (R := EN false) EN.framed HSv.out hcr (fun b hb h2 => by omega)) (fun b hb => ⟨by omega, Nat.lt_of_lt_of_le (by omega : b < u2.heap.size) hcr.size⟩))
  have HRBS : Hid (Rw true .u8 ((u2.setCell ⟨w.heap.size, 0, none⟩ (.int .i64 st)).setCell ⟨w.heap.size, 1, none⟩ (.slice B ys.length c)) (fun b => w.heap.size ≤ b) (some ⟨go, 0, none⟩) body) := Lib.hid ((HRB.out.frame hcr (fun k hk h2 => by omega)).wider (fun k hk => by omega))
  go_simp
  repeat (first | go_skip | go_guarded | go_step | go_upon)
  refine bodyPost_ret (v := .tuple #[.agg #[.int .i64 st, .slice B ys.length c], .int .i64 q, .slice (some ⟨go, 0, none⟩) body.length cb]) (by simp [results, Try.results50, go_sem, HRS.out.c0, HRS.out.c1]) rfl ?_
  exact ⟨_, _, _, _, _, _, _, _, rfl, HWS.out, HSS.out, h16, HBD.out, HY.out, HYB.out, by have := HLB.out; omega, HRBS.out⟩

end Go.Proofs.Ytnfgdgmmbddmgaa
