/- A row of the call's own whose elements take sz cells each and point to other blocks; one more is appended. -/
import Derived.Test.YtnfgdgmmbddmgaaApp
import Derived.Test.YtnfgdgmmbddmgaaNest
namespace Go.Proofs.Ytnfgdgmmbddmgaa
open Go.RowKit
set_option linter.unusedVariables false
set_option linter.unusedSimpArgs false

/- What R looks at may be moved to another place. -/
def Mov {α : Type} (sz : Nat) (R : Rel α) : Prop := ∀ {w w' : World} {F : Nat → Prop} {g o g' o' : Nat} {x : α}, R w F g o x → w.heap.size ≤ w'.heap.size →
  (∀ i, i < sz → w'.cell? ⟨g', o' + i, none⟩ = w.cell? ⟨g, o + i, none⟩ ∧ w'.frozen? ⟨g', o' + i, none⟩ = false) → (∀ b, b < w.heap.size → F b → w'.heap[b]? = w.heap[b]?) → R w' F g' o' x
theorem EB.mov {u : Bool} : Mov 1 (EB u) := by
  rintro w w' F g o g' o' x ⟨A, c, h1, h2, h3⟩ hs hg hF
  have := hg 0 (by omega)
  exact ⟨A, c, this.1.trans h1, fun hu => this.2, h3.local_ hs hF⟩
def Off (A : Option Addr) (b : Nat) : Prop := ∀ a, A = some a → b ≠ a.block
def OwS {α : Type} (u : Bool) (sz : Nat) (R : Rel α) (e : TypeId) (w : World) (T : Nat → Prop) (base : Nat) (A : Option Addr) (c : Nat) (xs : List α) : Prop :=
  ∃ (vs : List Value) (F : Nat → Nat → Prop), w.ownsRow base e sz (.slice A xs.length c) xs.length vs ∧ (∀ k b, F k b → T b ∧ b < w.heap.size ∧ Off A b) ∧ (u = true → ∀ j k b, F j b → F k b → j = k) ∧
    ∀ k (h : k < xs.length), ∃ g, A = some ⟨g, 0, none⟩ ∧ R w (F k) g (k * sz) xs[k]
section
variable {α : Type} {R : Rel α} {u : Bool} {sz : Nat} {e : TypeId} {w w' : World} {T S : Nat → Prop} {base g c : Nat} {A : Option Addr} {xs : List α}
theorem OwS.nil : OwS u sz R e w T base none 0 ([] : List α) := ⟨[], fun _ _ => False, World.ownsRow_nil _ _ _ _, fun _ _ h => h.elim, fun _ _ _ _ h => h.elim, fun k hk => absurd hk (by simp)⟩
theorem OwS.new (hg : base ≤ g) (h : w.heap[g]? = some (.cells #[] e (0, 0))) : OwS u sz R e w T base (some ⟨g, 0, none⟩) 0 ([] : List α) :=
  ⟨[], fun _ _ => False, own_new hg h, fun _ _ h => h.elim, fun _ _ _ _ h => h.elim, fun k hk => absurd hk (by simp)⟩
theorem OwS.row_keep {n : Nat} {vs : List Value} (h : w.ownsRow base e sz (.slice A n c) n vs) (hb : ∀ g, A = some ⟨g, 0, none⟩ → g < w.heap.size → w'.heap[g]? = w.heap[g]?) : w'.ownsRow base e sz (.slice A n c) n vs := by
  refine ⟨h.1, h.2.imp id ?_⟩
  rintro ⟨g', cap', cur, hv, h1, h2, h3⟩
  have hA : A = some ⟨g', 0, none⟩ := by injection hv
  have hlt : g' < w.heap.size := by
    rcases Nat.lt_or_ge g' w.heap.size with h | h
    · exact h
    · rw [Array.getElem?_eq_none h] at h2; cases h2
  exact ⟨g', cap', cur, hv, h1, (hb g' hA hlt).trans h2, h3⟩
theorem OwS.frame (hR : Framed R) (h : OwS u sz R e w T base A c xs) (hc : Chg S w w') (hT : ∀ b, T b → ¬ S b) (hA : ∀ a, A = some a → ¬ S a.block) : OwS u sz R e w' T base A c xs := by
  obtain ⟨vs, F, h1, h2, h3, h4⟩ := h
  have hs := hc.size
  refine ⟨vs, F, OwS.row_keep h1 (fun g hg hlt => hc.block g hlt (hA _ hg)), fun k b hb => ⟨(h2 k b hb).1, by have := (h2 k b hb).2.1; omega, (h2 k b hb).2.2⟩, h3, fun k hk => ?_⟩
  obtain ⟨g, hg, hr⟩ := h4 k hk
  have hlt : g < w.heap.size := by
    subst hg
    exact own_lt h1
  exact ⟨g, hg, hR hr hlt hc (hA _ hg) (fun b hb => hT b (h2 k b hb).1)⟩
theorem OwS.below (hR : Framed R) (h : OwS u sz R e w T base A c xs) (hb : Below w.heap.size w w') : OwS u sz R e w' T base A c xs :=
  h.frame hR (S := fun _ => False) (Chg.of_below hb) (fun _ _ hf => hf) (fun _ _ hf => hf)
theorem OwS.lower {base' : Nat} (h : OwS u sz R e w T base A c xs) (hb : base' ≤ base) : OwS u sz R e w T base' A c xs := by
  obtain ⟨vs, F, h1, h2⟩ := h
  exact ⟨vs, F, own_lower h1 hb, h2⟩
theorem OwS.ge (h : OwS u sz R e w T base (some ⟨g, 0, none⟩) c xs) : base ≤ g := by
  obtain ⟨vs, F, h1, h2⟩ := h
  exact own_ge h1 g rfl
theorem OwS.lt (h : OwS u sz R e w T base (some ⟨g, 0, none⟩) c xs) : g < w.heap.size := by
  obtain ⟨vs, F, h1, h2⟩ := h
  exact own_lt h1
theorem OwS.sl (h : OwS u sz R e w T base A c xs) : Sl u sz R w (fun b => (T b ∨ base ≤ b) ∧ b < w.heap.size) A xs := by
  obtain ⟨vs, F, h1, h2, h3, h4⟩ := h
  intro hn
  obtain ⟨g, hA, _⟩ := h4 0 (List.length_pos_iff.2 hn)
  subst hA
  refine ⟨g, 0, F, rfl, own_lt h1, ⟨⟨.inr (own_ge h1 g rfl), own_lt h1⟩, fun k b hb => ⟨.inl (h2 k b hb).1, (h2 k b hb).2.1⟩, fun hu => ⟨fun k hk => (h2 k g hk).2.2 _ rfl rfl, h3 hu⟩⟩, fun k hk => ?_⟩
  obtain ⟨g', hg, hr⟩ := h4 k hk
  injection hg with hg
  injection hg with hg
  subst hg
  rw [Nat.zero_add]
  exact hr
/- one more: w0 is the world in which the row was known, w the one in which append is called. -/
theorem OwS.snoc (hM : Mov sz R) {w0 : World} {vs : List Value} {F : Nat → Nat → Prop} {v' : Value} {cur : Array Value} {t' : TypeId} {gb : Nat} {y : α} {Fn : Nat → Prop}
    (h1 : w0.ownsRow base e sz (.slice A xs.length c) xs.length vs) (h2 : ∀ k b, F k b → T b ∧ b < w0.heap.size ∧ Off A b) (h3 : u = true → ∀ j k b, F j b → F k b → j = k)
    (h4 : ∀ k (h : k < xs.length), ∃ g, A = some ⟨g, 0, none⟩ ∧ R w0 (F k) g (k * sz) xs[k]) (hb : Below w0.heap.size w0 w)
    (hcur : w.heap[gb]? = some (.cells cur t' (0, 0))) (hsz : cur.size = sz) (hy : R w Fn gb 0 y) (hFn : ∀ b, Fn b → T b ∧ b < w.heap.size ∧ Off A b ∧ (u = true → w0.heap.size ≤ b))
    (hown' : w'.ownsRow base e sz v' (xs.length + 1) (vs ++ cur.toList)) (hgrow : w.grownBy w' (Value.slice A xs.length c).ownBlock) (hblk : v'.ownBlock = (Value.slice A xs.length c).ownBlock ∨ v'.ownBlock = some w.heap.size) :
    ∃ g' c', v' = .slice (some ⟨g', 0, none⟩) (xs.length + 1) c' ∧ OwS u sz R e w' T base (some ⟨g', 0, none⟩) c' (xs ++ [y]) ∧ (A = some ⟨g', 0, none⟩ ∨ g' = w.heap.size) ∧ Chg (fun b => ∃ a, A = some a ∧ b = a.block) w w' := by
  have hvl : vs.length = xs.length * sz := h1.1
  have hbs := hb.size
  have hgs := hgrow.size
  have hAb : ∀ k, (Value.slice A xs.length c).ownBlock = some k → ∃ a, A = some a ∧ k = a.block := by
    intro k hk
    cases A with
    | none => cases hk
    | some a => exact ⟨a, rfl, by simpa [Value.ownBlock] using hk.symm⟩
  have hchg : Chg (fun b => ∃ a, A = some a ∧ b = a.block) w w' := ⟨hgrow.os, hgrow.tape, hgrow.output, hgrow.size, fun k hk hn => hgrow.block k hk (fun e => hn (hAb k e.symm))⟩
  obtain ⟨g', c', hv', _, hlt'⟩ := hown'.form (by omega)
  subst hv'
  refine ⟨g', c', rfl, ⟨vs ++ cur.toList, fun k => if k < xs.length then F k else if k = xs.length then Fn else fun _ => False, by simpa using hown', ?_, ?_, ?_⟩, ?_, hchg⟩
  · have key : ∀ b, b < w.heap.size → Off A b → Off (some ⟨g', 0, none⟩) b := by
      intro b hb1 hb2 a ha
      injection ha with ha
      subst ha
      rcases hblk with h | h
      · obtain ⟨a, ha, hk⟩ := hAb g' (by rw [← h]; rfl)
        have := hb2 a ha
        simp only
        omega
      · have : g' = w.heap.size := by simpa [Value.ownBlock] using h
        simp only
        omega
    intro k b hk
    split at hk
    · have := h2 k b hk
      exact ⟨this.1, by omega, key b (by omega) this.2.2⟩
    · split at hk
      · have := hFn b hk
        exact ⟨this.1, by omega, key b this.2.1 this.2.2.1⟩
      · exact hk.elim
  · intro hu j k b hj hk
    split at hj
    · split at hk
      · exact h3 hu j k b hj hk
      · split at hk
        · have e1 := (hFn b hk).2.2.2 hu; have e2 := (h2 j b hj).2.1; omega
        · exact hk.elim
    · split at hj
      · split at hk
        · have e1 := (hFn b hj).2.2.2 hu; have e2 := (h2 k b hk).2.1; omega
        · split at hk
          · omega
          · exact hk.elim
      · exact hj.elim
  · have hfz : ∀ i, w'.frozen? ⟨g', i, none⟩ = false := by
      intro i
      rcases hown'.2 with ⟨h0, _⟩ | ⟨g2, cap, cu, hv, _, hg, _⟩
      · cases h0
      · have : g' = g2 := by injection hv with hA; injection hA with hA; injection hA
        subst this
        simp [World.frozen?, hg]
    have hcell : ∀ i v, (vs ++ cur.toList)[i]? = some v → w'.cell? ⟨g', i, none⟩ = some v := fun i v hv => by
      have := hown'.cells (g := g') rfl i v hv
      simpa [go_sem] using this
    intro k hk
    rw [List.length_append, List.length_singleton] at hk
    refine ⟨g', rfl, ?_⟩
    by_cases hlt : k < xs.length
    · simp only [hlt, if_true]
      rw [List.getElem_append_left hlt]
      obtain ⟨g, hA, hr⟩ := h4 k hlt
      subst hA
      have hle : k * sz + sz ≤ xs.length * sz := by
        have := Nat.mul_le_mul_right sz hlt
        rw [Nat.succ_mul] at this
        exact this
      refine hM hr (by omega) (fun i hi => ⟨?_, hfz _⟩) (fun b hb1 hF => ?_)
      · have hil : k * sz + i < vs.length := by omega
        have e1 := hcell (k * sz + i) _ (by rw [List.getElem?_append_left hil]; exact List.getElem?_eq_getElem hil)
        have e2 := h1.cells (g := g) rfl (k * sz + i) _ (List.getElem?_eq_getElem hil)
        rw [e1]
        symm
        simpa [go_sem] using e2
      · have := h2 k b hF
        rw [hchg.block b (by omega) (fun ⟨a, ha, hab⟩ => this.2.2 a ha hab), hb.block b hb1]
    · obtain rfl : k = xs.length := by omega
      simp only [Nat.lt_irrefl, if_false, if_true]
      rw [List.getElem_append_right (Nat.le_refl _)]
      simp only [Nat.sub_self, List.getElem_cons_zero]
      refine hM hy (by omega) (fun i hi => ⟨?_, hfz _⟩) (fun b hb1 hF => ?_)
      · have hil : i < cur.toList.length := by simpa using by omega
        have e1 := hcell (xs.length * sz + i) (cur.toList[i]) (by rw [List.getElem?_append_right (by omega), hvl, Nat.add_sub_cancel_left]; exact List.getElem?_eq_getElem hil)
        rw [e1]
        simp only [World.cell?, hcur, Nat.zero_add]
        simp [show i < cur.size by omega]
      · have := hFn b hF
        rw [hchg.block b (by omega) (fun ⟨a, ha, hab⟩ => this.2.2.1 a ha hab)]
  · rcases hblk with h | h
    · left
      obtain ⟨a, ha, hk⟩ := hAb g' (by rw [← h]; rfl)
      subst ha
      rcases h1.2 with ⟨h0, _⟩ | ⟨g2, cap, cu, hv, _⟩
      · cases h0
      · injection hv with hv
        injection hv with hv
        subst hv
        simp only at hk
        rw [hk]
    · right
      simpa [Value.ownBlock] using h
end

section
variable {P : Program} {α : Type} {R : Rel α} {u : Bool} {sz : Nat} {T Fn : Nat → Prop} {base c gb c2 : Nat} {A : Option Addr} {xs : List α} {y : α} {w0 w : World} {o : Oper} {a : Act} {Q : Exit → Act → World → Prop}
/- what the caller gets when the row has grown -/
def AppK (u : Bool) (sz : Nat) (R : Rel α) (e : TypeId) (T : Nat → Prop) (base : Nat) (A : Option Addr) (xs : List α) (y : α) (w : World) (k : Value → World → Prop) : Prop :=
  ∀ (g' c' : Nat) (w' : World) (q : List α), Hid (q = xs ++ [y]) → Hid (OwS u sz R e w' T base (some ⟨g', 0, none⟩) c' q) → Hid (A = some ⟨g', 0, none⟩ ∨ g' = w.heap.size) → Hid (Chg (fun b => ∃ a, A = some a ∧ b = a.block) w w') → Hid (Below base w w') → k (.slice (some ⟨g', 0, none⟩) q.length c') w'
theorem wp_appS {K : Act → World → Prop} (hM : Mov sz R) (s x : Operand) (t : TypeId)
    (ho : o.op = .call { callee := .builtin .append, args := #[s, x], argTypes := #[t, t] })
    (e : TypeId) (i : TypeInfo) (z : Value) (bytes : Nat) (ht : P.underlying t = some (.slice e)) (hi : P.info? e = some i) (hz : i.zero = some z) (hsize : i.size = sz) (hby : i.bytes = bytes) (hzs : z.cells.size = sz) (hsz : 0 < sz)
    (hs : a.eval s = .slice A xs.length c) (hown : OwS u sz R e w0 T base A c xs) (hb : Below w0.heap.size w0 w)
    (cur : Array Value) (t' : TypeId) (hcur : w.heap[gb]? = some (.cells cur t' (0, 0))) (hcs : cur.size = sz) (hone : ∀ v ∈ cur.toList, v.oneCell' = true) (hx : a.eval x = .slice (some ⟨gb, 0, none⟩) 1 c2)
    (hy : R w Fn gb 0 y) (hFn : ∀ b, Fn b → T b ∧ b < w.heap.size ∧ Off A b ∧ (u = true → w0.heap.size ≤ b)) (hlen : xs.length ≤ 1000000000) (hbt : bytes ≤ 100000) (hbase : base ≤ w.heap.size)
    (h : AppK u sz R e T base A xs y w fun v w' => K (a.put o.dst v) w') : o.wp P a w K Q := by
  obtain ⟨vs, F, h1, h2, h3, h4⟩ := hown
  have h1' : w.ownsRow base e sz (.slice A xs.length c) xs.length vs := OwS.row_keep h1 (fun g _ hlt => hb.block g hlt)
  have hbm : (xs.length + 1) * bytes ≤ 1000000001 * 100000 := Nat.mul_le_mul (by omega) hbt
  have hgb : gb < w.heap.size := by
    rcases Nat.lt_or_ge gb w.heap.size with h | h
    · exact h
    · rw [Array.getElem?_eq_none h] at hcur; cases hcur
  have hr : Reads w w.heap.size sz (some ⟨gb, 0, none⟩) 1 cur.toList := by
    refine ⟨by simp [hcs], fun _ => ⟨_, rfl, hgb, fun j v hv => ?_⟩⟩
    rw [Go.WideShapes.add_plain]
    simp only [World.cell?, hcur, Nat.zero_add]
    simpa using hv
  refine wp_append_any w s x t ho base e i z sz bytes ht hi hz hsize hby hzs hsz _ xs.length vs hs h1' w.heap.size _ 1 c2 cur.toList hx hr hone (by unfold maxLen; omega) (by omega) hbase ?_
  intro v' w' hown' hgrow hblk
  obtain ⟨g', c', rfl, q1, q2, q3⟩ := OwS.snoc (R := R) hM h1 h2 h3 h4 hb hcur hcs hy hFn hown' hgrow hblk
  have hbl : Below base w w' := q3.below hbase (fun k hk => by
    obtain ⟨a, ha, hk⟩ := hk
    subst hk
    exact own_ge h1 _ (by rw [ha]; rfl))
  have := h g' c' w' _ (Lib.hid rfl) (Lib.hid q1) (Lib.hid q2) (Lib.hid q3) (Lib.hid hbl)
  simpa using this
theorem wpList_appS {ops : Array Oper} {rest : List Oper} (hgd : o.guard = none) (hM : Mov sz R) (s x : Operand) (t : TypeId)
    (ho : o.op = .call { callee := .builtin .append, args := #[s, x], argTypes := #[t, t] })
    (e : TypeId) (i : TypeInfo) (z : Value) (bytes : Nat) (ht : P.underlying t = some (.slice e)) (hi : P.info? e = some i) (hz : i.zero = some z) (hsize : i.size = sz) (hby : i.bytes = bytes) (hzs : z.cells.size = sz) (hsz : 0 < sz)
    (hs : a.eval s = .slice A xs.length c) (hown : OwS u sz R e w0 T base A c xs) (hb : Below w0.heap.size w0 w)
    (cur : Array Value) (t' : TypeId) (hcur : w.heap[gb]? = some (.cells cur t' (0, 0))) (hcs : cur.size = sz) (hone : ∀ v ∈ cur.toList, v.oneCell' = true) (hx : a.eval x = .slice (some ⟨gb, 0, none⟩) 1 c2)
    (hy : R w Fn gb 0 y) (hFn : ∀ b, Fn b → T b ∧ b < w.heap.size ∧ Off A b ∧ (u = true → w0.heap.size ≤ b)) (hlen : xs.length ≤ 1000000000) (hbt : bytes ≤ 100000) (hbase : base ≤ w.heap.size)
    (h : AppK u sz R e T base A xs y w fun v w' => wpList P ops Q rest (a.put o.dst v) w') : wpList P ops Q (o :: rest) a w :=
  wpList_plain hgd fun _ hK => wp_appS (R := R) hM s x t ho e i z bytes ht hi hz hsize hby hzs hsz hs hown hb cur t' hcur hcs hone hx hy hFn hlen hbt hbase fun g' c' w' q a1 a2 a3 a4 a5 => hK _ _ (h g' c' w' q a1 a2 a3 a4 a5)
theorem step_appS {ops : Array Oper} {K : Act → World → Prop} {E : Prop} (hgd : o.guard = none) (hM : Mov sz R) (s x : Operand) (t : TypeId)
    (ho : o.op = .call { callee := .builtin .append, args := #[s, x], argTypes := #[t, t] })
    (e : TypeId) (i : TypeInfo) (z : Value) (bytes : Nat) (ht : P.underlying t = some (.slice e)) (hi : P.info? e = some i) (hz : i.zero = some z) (hsize : i.size = sz) (hby : i.bytes = bytes) (hzs : z.cells.size = sz) (hsz : 0 < sz)
    (hs : a.eval s = .slice A xs.length c) (hown : OwS u sz R e w0 T base A c xs) (hb : Below w0.heap.size w0 w)
    (cur : Array Value) (t' : TypeId) (hcur : w.heap[gb]? = some (.cells cur t' (0, 0))) (hcs : cur.size = sz) (hone : ∀ v ∈ cur.toList, v.oneCell' = true) (hx : a.eval x = .slice (some ⟨gb, 0, none⟩) 1 c2)
    (hy : R w Fn gb 0 y) (hFn : ∀ b, Fn b → T b ∧ b < w.heap.size ∧ Off A b ∧ (u = true → w0.heap.size ≤ b)) (hlen : xs.length ≤ 1000000000) (hbt : bytes ≤ 100000) (hbase : base ≤ w.heap.size)
    (h : AppK u sz R e T base A xs y w fun v w' => K (a.put o.dst v) w') :
    if Region.wanted o (yielded ops a.tmps) = true then Oper.wp P o a w K Q else E := by
  have hw : Region.wanted o (yielded ops a.tmps) = true := by simp [Region.wanted, hgd]
  rw [if_pos hw]
  exact wp_appS (R := R) hM s x t ho e i z bytes ht hi hz hsize hby hzs hsz hs hown hb cur t' hcur hcs hone hx hy hFn hlen hbt hbase h
end

end Go.Proofs.Ytnfgdgmmbddmgaa
