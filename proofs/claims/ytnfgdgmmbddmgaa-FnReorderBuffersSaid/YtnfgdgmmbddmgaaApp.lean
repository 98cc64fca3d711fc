/- append onto a row of the call's own, in one lemma: what is appended reads as a list; the row may move. -/
import Derived.Test.YtnfgdgmmbddmgaaReads
namespace Go.Proofs.Ytnfgdgmmbddmgaa
open Go.RowKit
set_option linter.unusedVariables false

theorem Chg.of_grown {w w' : World} {g : Nat} (h : w.grownBy w' (some g)) : Chg (fun b => b = g) w w' :=
  ⟨h.os, h.tape, h.output, h.size, fun k hk hn => h.block k hk (fun e => hn (by injection e))⟩
/- a row of the call's own at block g -/
def OwR {α : Type} (f : α → Value) (e : TypeId) (w : World) (base g c : Nat) (l : List α) : Prop := w.ownsRow base e 1 (.slice (some ⟨g, 0, none⟩) l.length c) l.length (l.map f)
section
variable {α : Type} {f : α → Value} {e : TypeId} {w w' : World} {base base' g c : Nat} {l : List α}
theorem OwR.lt (h : OwR f e w base g c l) : g < w.heap.size := own_lt h
theorem OwR.ge (h : OwR f e w base g c l) : base ≤ g := own_ge h g rfl
theorem OwR.lower (h : OwR f e w base g c l) (hb : base' ≤ base) : OwR f e w base' g c l := own_lower h hb
theorem OwR.le_cap (h : OwR f e w base g c l) : l.length ≤ c := by
  rcases h.2 with ⟨h0, _⟩ | ⟨g', cap, cur, hv, h1, h2, h3, h4, h5⟩
  · cases h0
  · injection hv with _ _ hc
    omega
theorem OwR.keep (h : OwR f e w base g c l) (hb : w'.heap[g]? = w.heap[g]?) : OwR f e w' base g c l := by
  refine ⟨h.1, h.2.imp id ?_⟩
  rintro ⟨g', cap', cur, hv, h1, h2, h3⟩
  have hg : g = g' := by injection hv with hA; injection hA with hA; injection hA
  subst hg
  exact ⟨g, cap', cur, hv, h1, hb.trans h2, h3⟩
theorem OwR.chg {S : Nat → Prop} (h : OwR f e w base g c l) (hc : Chg S w w') (hS : ¬ S g) : OwR f e w' base g c l := h.keep (hc.block g h.lt hS)
theorem OwR.below (h : OwR f e w base g c l) (hb : Below w.heap.size w w') : OwR f e w' base g c l := h.keep (hb.block g h.lt)
theorem OwR.rwF (h : OwR f e w base g c l) : RwF f true w (fun b => b = g) (some ⟨g, 0, none⟩) l := by
  intro k hk
  rcases h.2 with ⟨h0, h1⟩ | ⟨g', cap, cur, hv, hb, hg, h3, h4, h5, h6⟩
  · cases h0
  · have hg2 : g = g' := by injection hv with hA; injection hA with hA; injection hA
    subst hg2
    refine ⟨g, 0, rfl, rfl, own_lt h, ?_, fun _ => by simp [World.frozen?, hg]⟩
    rw [Nat.zero_add]
    simp only [World.cell?, hg]
    have := h.cellAt k (by omega)
    simp only [World.cell?, hg] at this
    rw [List.getElem?_map, List.getElem?_eq_getElem hk] at this
    exact this
theorem OwR.new (hg : base ≤ g) (h : w.heap[g]? = some (.cells #[] e (0, 0))) : OwR f e w base g 0 [] := own_new hg h
end

theorem wpList_appR {P : Program} {α : Type} {f : α → Value} {w : World} {ops : Array Oper} {rest : List Oper} {o : Oper} {a : Act} {Q : Exit → Act → World → Prop} (hgd : o.guard = none) (s x : Operand) (t : TypeId)
    (ho : o.op = .call { callee := .builtin .append, args := #[s, x], argTypes := #[t, t] })
    (e : TypeId) (i : TypeInfo) (z : Value) (bytes : Nat) (ht : P.underlying t = some (.slice e)) (hi : P.info? e = some i) (hz : i.zero = some z) (hsize : i.size = 1) (hby : i.bytes = bytes) (hzs : z.cells.size = 1) (base g c : Nat) (l : List α) (hs : a.eval s = .slice (some ⟨g, 0, none⟩) l.length c) (hown : OwR f e w base g c l)
    (A : Option Addr) (xs : List α) (c2 : Nat) (hf : ∀ y ∈ xs, (f y).oneCell' = true) (hx : a.eval x = .slice A xs.length c2) {u : Bool} {T : Nat → Prop} (hr : RwF f u w T A xs) (hlen : l.length + xs.length ≤ 1000000000) (hbt : bytes ≤ 100000) (hbase : base ≤ w.heap.size)
    (h : ∀ (g' c' : Nat) (w' : World) (q : List α), Hid (q = l ++ xs) → Hid (OwR f e w' base g' c' q) → Hid (g' = g ∨ g' = w.heap.size) → Hid (Chg (fun b => b = g) w w') → wpList P ops Q rest (a.put o.dst (.slice (some ⟨g', 0, none⟩) q.length c')) w') : wpList P ops Q (o :: rest) a w := by
  have hb : (l.length + xs.length) * bytes ≤ 1000000000 * 100000 := Nat.mul_le_mul hlen hbt
  refine wpList_append_any w hgd s x t ho base e i z 1 bytes ht hi hz hsize hby hzs (by decide) _ l.length (l.map f) hs hown w.heap.size A xs.length c2 (xs.map f) hx hr.reads (by intro v hv; simp only [List.mem_map] at hv; obtain ⟨y, hy, rfl⟩ := hv; exact hf y hy) (by unfold maxLen; omega) (by omega) hbase ?_
  intro v' w' hown' hgrow hblk
  obtain ⟨g', c', rfl, hg'⟩ := own_some hown' (by intro h; subst h; rcases hblk with h | h <;> simp [Value.ownBlock] at h)
  have e1 : (l ++ xs).length = l.length + xs.length := by simp
  rw [← e1] at hown' ⊢
  rw [← List.map_append] at hown'
  refine h g' c' w' _ (Lib.hid rfl) (Lib.hid hown') (Lib.hid ?_) (Lib.hid (Chg.of_grown hgrow))
  rcases hblk with h | h
  · left; simpa [Value.ownBlock] using h
  · right; simpa [Value.ownBlock] using h

theorem wp_appR {P : Program} {α : Type} {f : α → Value} {w : World} {o : Oper} {a : Act} {K : Act → World → Prop} {Q : Exit → Act → World → Prop} (s x : Operand) (t : TypeId)
    (ho : o.op = .call { callee := .builtin .append, args := #[s, x], argTypes := #[t, t] })
    (e : TypeId) (i : TypeInfo) (z : Value) (bytes : Nat) (ht : P.underlying t = some (.slice e)) (hi : P.info? e = some i) (hz : i.zero = some z) (hsize : i.size = 1) (hby : i.bytes = bytes) (hzs : z.cells.size = 1) (base g c : Nat) (l : List α) (hs : a.eval s = .slice (some ⟨g, 0, none⟩) l.length c) (hown : OwR f e w base g c l)
    (A : Option Addr) (xs : List α) (c2 : Nat) (hf : ∀ y ∈ xs, (f y).oneCell' = true) (hx : a.eval x = .slice A xs.length c2) {u : Bool} {T : Nat → Prop} (hr : RwF f u w T A xs) (hlen : l.length + xs.length ≤ 1000000000) (hbt : bytes ≤ 100000) (hbase : base ≤ w.heap.size)
    (h : ∀ (g' c' : Nat) (w' : World) (q : List α), Hid (q = l ++ xs) → Hid (OwR f e w' base g' c' q) → Hid (g' = g ∨ g' = w.heap.size) → Hid (Chg (fun b => b = g) w w') → K (a.put o.dst (.slice (some ⟨g', 0, none⟩) q.length c')) w') : o.wp P a w K Q := by
  have hb : (l.length + xs.length) * bytes ≤ 1000000000 * 100000 := Nat.mul_le_mul hlen hbt
  refine wp_append_any w s x t ho base e i z 1 bytes ht hi hz hsize hby hzs (by decide) _ l.length (l.map f) hs hown w.heap.size A xs.length c2 (xs.map f) hx hr.reads (by intro v hv; simp only [List.mem_map] at hv; obtain ⟨y, hy, rfl⟩ := hv; exact hf y hy) (by unfold maxLen; omega) (by omega) hbase ?_
  intro v' w' hown' hgrow hblk
  obtain ⟨g', c', rfl, hg'⟩ := own_some hown' (by intro h; subst h; rcases hblk with h | h <;> simp [Value.ownBlock] at h)
  have e1 : (l ++ xs).length = l.length + xs.length := by simp
  rw [← e1] at hown' ⊢
  rw [← List.map_append] at hown'
  refine h g' c' w' _ (Lib.hid rfl) (Lib.hid hown') (Lib.hid ?_) (Lib.hid (Chg.of_grown hgrow))
  rcases hblk with h | h
  · left; simpa [Value.ownBlock] using h
  · right; simpa [Value.ownBlock] using h

theorem step_appR {P : Program} {α : Type} {f : α → Value} {w : World} {ops : Array Oper} {o : Oper} {a : Act} {K : Act → World → Prop} {Q : Exit → Act → World → Prop} {E : Prop} (hgd : o.guard = none) (s x : Operand) (t : TypeId)
    (ho : o.op = .call { callee := .builtin .append, args := #[s, x], argTypes := #[t, t] })
    (e : TypeId) (i : TypeInfo) (z : Value) (bytes : Nat) (ht : P.underlying t = some (.slice e)) (hi : P.info? e = some i) (hz : i.zero = some z) (hsize : i.size = 1) (hby : i.bytes = bytes) (hzs : z.cells.size = 1) (base g c : Nat) (l : List α) (hs : a.eval s = .slice (some ⟨g, 0, none⟩) l.length c) (hown : OwR f e w base g c l)
    (A : Option Addr) (xs : List α) (c2 : Nat) (hf : ∀ y ∈ xs, (f y).oneCell' = true) (hx : a.eval x = .slice A xs.length c2) {u : Bool} {T : Nat → Prop} (hr : RwF f u w T A xs) (hlen : l.length + xs.length ≤ 1000000000) (hbt : bytes ≤ 100000) (hbase : base ≤ w.heap.size)
    (h : ∀ (g' c' : Nat) (w' : World) (q : List α), Hid (q = l ++ xs) → Hid (OwR f e w' base g' c' q) → Hid (g' = g ∨ g' = w.heap.size) → Hid (Chg (fun b => b = g) w w') → K (a.put o.dst (.slice (some ⟨g', 0, none⟩) q.length c')) w') :
    if Region.wanted o (yielded ops a.tmps) = true then Oper.wp P o a w K Q else E := by
  have hw : Region.wanted o (yielded ops a.tmps) = true := by simp [Region.wanted, hgd]
  rw [if_pos hw]
  exact wp_appR s x t ho e i z bytes ht hi hz hsize hby hzs base g c l hs hown A xs c2 hf hx hr hlen hbt hbase h

end Go.Proofs.Ytnfgdgmmbddmgaa
