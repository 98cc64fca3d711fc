/- append onto a row of the call's own a whole slice whose elements point to older blocks, which were none of the row's. -/
import Derived.Test.YtnfgdgmmbddmgaaOwV
namespace Go.Proofs.Ytnfgdgmmbddmgaa
open Go.RowKit
set_option linter.unusedVariables false
set_option linter.unusedSimpArgs false

/- The cells of an element. -/
def Cls {α : Type} (sz : Nat) (R : Rel α) : Prop := ∀ {w : World} {F : Nat → Prop} {g o : Nat} {x : α}, R w F g o x → ∃ vs : List Value, vs.length = sz ∧ (∀ i v, vs[i]? = some v → w.cell? ⟨g, o + i, none⟩ = some v) ∧ ∀ v ∈ vs, v.oneCell' = true
theorem EB.cls {u : Bool} : Cls 1 (EB u) := by
  rintro w F g o x ⟨A, c, h1, _, _⟩
  refine ⟨[.slice A x.length c], rfl, fun i v hv => ?_, fun v hv => ?_⟩
  · match i with
    | 0 => injection hv with hv; subst hv; exact h1
    | i + 1 => cases hv
  · rw [List.mem_singleton.1 hv]; rfl
theorem EN.cls {u : Bool} : Cls 2 (EN u) := by
  rintro w F g o x ⟨h0, _, A, c, h1, _, _⟩
  refine ⟨[.int .i64 x.1, .slice A x.2.length c], rfl, fun i v hv => ?_, fun v hv => ?_⟩
  · match i with
    | 0 => injection hv with hv; subst hv; exact h0
    | 1 => injection hv with hv; subst hv; exact h1
    | i + 2 => cases hv
  · rcases List.mem_cons.1 hv with h | h
    · rw [h]; rfl
    · rw [List.mem_singleton.1 h]; rfl
theorem Els.cells {α : Type} {R : Rel α} {sz : Nat} {w : World} {g : Nat} (hC : Cls sz R) : ∀ (xs : List α) (o : Nat) (F : Nat → Nat → Prop), Els sz R w g o F xs → ∃ vs : List Value, vs.length = xs.length * sz ∧ (∀ i v, vs[i]? = some v → w.cell? ⟨g, o + i, none⟩ = some v) ∧ ∀ v ∈ vs, v.oneCell' = true
  | [], o, F, _ => ⟨[], by simp, fun i v hv => by simp at hv, fun v hv => by simp at hv⟩
  | x :: xs, o, F, h => by
    obtain ⟨v0, a1, a2, a3⟩ := hC (h 0 (by simp))
    obtain ⟨v1, b1, b2, b3⟩ := Els.cells (R := R) (sz := sz) (w := w) (g := g) hC xs (o + sz) (fun k => F (k + 1)) (fun k hk => by
      have := h (k + 1) (by simpa using hk)
      rw [Nat.add_mul, Nat.one_mul] at this
      rw [show o + sz + k * sz = o + (k * sz + sz) by omega]
      exact this)
    rw [Nat.zero_mul, Nat.add_zero] at a2
    refine ⟨v0 ++ v1, by simp [a1, b1, Nat.add_mul, Nat.add_comm], fun i v hv => ?_, fun v hv => ?_⟩
    · rcases Nat.lt_or_ge i sz with hi | hi
      · rw [List.getElem?_append_left (by omega)] at hv
        exact a2 i v hv
      · rw [List.getElem?_append_right (by omega), a1] at hv
        have := b2 (i - sz) v hv
        rw [show o + sz + (i - sz) = o + i by omega] at this
        exact this
    · rcases List.mem_append.1 hv with h | h
      · exact a3 v h
      · exact b3 v h

section
variable {α : Type} {R : Rel α} {u : Bool} {sz : Nat} {e : TypeId} {w w' : World} {T Fn : Nat → Prop} {base g c : Nat} {xs ys : List α}
/- w0 is the world in which the row was known, w the one in which append is called. -/
theorem OwS.appW (hM : Mov sz R) {w0 : World} {vs news : List Value} {F Fy : Nat → Nat → Prop} {v' : Value} {gb ob : Nat}
    (h1 : w0.ownsRow base e sz (.slice (some ⟨g, 0, none⟩) xs.length c) xs.length vs) (h2 : ∀ k b, F k b → T b ∧ b < w0.heap.size ∧ Off (some ⟨g, 0, none⟩) b) (h3 : u = true → ∀ j k b, F j b → F k b → j = k)
    (h4 : ∀ k (h : k < xs.length), ∃ g', some (⟨g, 0, none⟩ : Addr) = some ⟨g', 0, none⟩ ∧ R w0 (F k) g' (k * sz) xs[k]) (hb : Below w0.heap.size w0 w)
    (hn1 : news.length = ys.length * sz) (hn2 : ys ≠ [] → ∀ i v, news[i]? = some v → w.cell? ⟨gb, ob + i, none⟩ = some v) (hy : ys ≠ [] → Els sz R w gb ob Fy ys) (hFn : ys ≠ [] → ∀ k b, Fy k b → Fn b ∧ b < w.heap.size ∧ b ≠ g ∧ (u = true → ¬ T b)) (hFu : ys ≠ [] → u = true → ∀ j k b, Fy j b → Fy k b → j = k)
    (hown' : w'.ownsRow base e sz v' (xs.length + ys.length) (vs ++ news)) (hgrow : w.grownBy w' (some g)) (hblk : v'.ownBlock = some g ∨ v'.ownBlock = some w.heap.size) :
    ∃ g' c', v' = .slice (some ⟨g', 0, none⟩) (xs ++ ys).length c' ∧ OwS u sz R e w' (fun b => T b ∨ Fn b) base (some ⟨g', 0, none⟩) c' (xs ++ ys) ∧ (g' = g ∨ g' = w.heap.size) ∧ Chg (fun b => b = g) w w' := by
  have hvl : vs.length = xs.length * sz := h1.1
  have hbs := hb.size
  have hgs := hgrow.size
  have hchg : Chg (fun b => b = g) w w' := Chg.of_grown hgrow
  obtain ⟨g', c', hv', hlt'⟩ := own_some hown' (by intro h; subst h; rcases hblk with h | h <;> simp [Value.ownBlock] at h)
  subst hv'
  have hg' : g' = g ∨ g' = w.heap.size := by
    rcases hblk with h | h
    · left; simpa [Value.ownBlock] using h
    · right; simpa [Value.ownBlock] using h
  have hlen : (xs ++ ys).length = xs.length + ys.length := by simp
  refine ⟨g', c', by rw [hlen], ⟨vs ++ news, fun k b => if k < xs.length then F k b else (k - xs.length < ys.length ∧ Fy (k - xs.length) b), by rw [hlen]; exact hown', ?_, ?_, ?_⟩, hg', hchg⟩
  · have key : ∀ b, b < w.heap.size → b ≠ g → Off (some ⟨g', 0, none⟩) b := by
      intro b hb1 hb2 a ha
      injection ha with ha
      subst ha
      simp only
      omega
    intro k b hk
    split at hk
    · have := h2 k b hk
      exact ⟨.inl this.1, by omega, key b (by omega) (this.2.2 _ rfl)⟩
    · have := hFn (fun h => by subst h; simp at hk) _ b hk.2
      exact ⟨.inr this.1, by omega, key b this.2.1 this.2.2.1⟩
  · intro hu j k b hj hk
    split at hj
    · split at hk
      · exact h3 hu j k b hj hk
      · exact absurd (h2 j b hj).1 ((hFn (fun h => by subst h; simp at hk) _ b hk.2).2.2.2 hu)
    · split at hk
      · exact absurd (h2 k b hk).1 ((hFn (fun h => by subst h; simp at hj) _ b hj.2).2.2.2 hu)
      · have := hFu (fun h => by subst h; simp at hj) hu _ _ b hj.2 hk.2
        omega
  · have hfz : ∀ i, w'.frozen? ⟨g', i, none⟩ = false := by
      intro i
      rcases hown'.2 with ⟨h0, _⟩ | ⟨g2, cap, cu, hv, _, hg, _⟩
      · cases h0
      · have : g' = g2 := by injection hv with hA; injection hA with hA; injection hA
        subst this
        simp [World.frozen?, hg]
    have hcell : ∀ i v, (vs ++ news)[i]? = some v → w'.cell? ⟨g', i, none⟩ = some v := fun i v hv => by
      have := hown'.cells (g := g') rfl i v hv
      simpa [go_sem] using this
    intro k hk
    rw [hlen] at hk
    refine ⟨g', rfl, ?_⟩
    by_cases hlt : k < xs.length
    · simp only [hlt, if_true]
      rw [List.getElem_append_left hlt]
      obtain ⟨g2, hA, hr⟩ := h4 k hlt
      injection hA with hA
      injection hA with hA
      subst hA
      have hle : k * sz + sz ≤ xs.length * sz := by
        have := Nat.mul_le_mul_right sz hlt
        rw [Nat.succ_mul] at this
        exact this
      refine hM hr (by omega) (fun i hi => ⟨?_, hfz _⟩) (fun b hb1 hF => ?_)
      · have hil : k * sz + i < vs.length := by omega
        have e1 := hcell (k * sz + i) _ (by rw [List.getElem?_append_left hil]; exact List.getElem?_eq_getElem hil)
        have e2 := h1.cells (g := g) rfl (k * sz + i) _ (List.getElem?_eq_getElem hil)
        rw [e1]
        symm
        simpa [go_sem] using e2
      · have := h2 k b hF
        rw [hchg.block b (by omega) (this.2.2 _ rfl), hb.block b hb1]
    · have hn : ys ≠ [] := fun h => by subst h; simp at hk; omega
      have hkl : k - xs.length < ys.length := by omega
      have hfy : (fun b => if k < xs.length then F k b else (k - xs.length < ys.length ∧ Fy (k - xs.length) b)) = Fy (k - xs.length) := by
        funext b
        rw [if_neg hlt]
        exact propext ⟨fun h => h.2, fun h => ⟨hkl, h⟩⟩
      rw [List.getElem_append_right (by omega)]
      refine Eq.mpr (congrArg (fun Z => R w' Z g' (k * sz) _) hfy) ?_
      have hr := hy hn (k - xs.length) hkl
      have hks : k * sz = xs.length * sz + (k - xs.length) * sz := by
        rw [← Nat.add_mul, show xs.length + (k - xs.length) = k by omega]
      have hle : (k - xs.length) * sz + sz ≤ ys.length * sz := by
        have := Nat.mul_le_mul_right sz hkl
        rw [Nat.succ_mul] at this
        exact this
      refine hM hr (by omega) (fun i hi => ⟨?_, hfz _⟩) (fun b hb1 hF => ?_)
      · have hil : (k - xs.length) * sz + i < news.length := by omega
        have e1 := hcell (k * sz + i) _ (by
          rw [List.getElem?_append_right (by omega), show k * sz + i - vs.length = (k - xs.length) * sz + i by omega]
          exact List.getElem?_eq_getElem hil)
        have e2 := hn2 hn ((k - xs.length) * sz + i) _ (List.getElem?_eq_getElem hil)
        rw [e1, ← e2]
        congr 2
        omega
      · have := hFn hn _ b hF
        exact hchg.block b hb1 this.2.2.1
end

section
variable {P : Program} {α : Type} {R : Rel α} {u : Bool} {sz : Nat} {T Fn : Nat → Prop} {base g c c2 : Nat} {B : Option Addr} {xs ys : List α} {w0 w : World} {o : Oper} {a : Act} {Q : Exit → Act → World → Prop}
/- a slice whose elements lie with footprints Fy in Fn; the row at block g that it comes to is known by T -/
def Src {α : Type} (u : Bool) (sz : Nat) (R : Rel α) (w : World) (T Fn : Nat → Prop) (g : Nat) (B : Option Addr) (ys : List α) : Prop :=
  ys ≠ [] → ∃ gb ob Fy, B = some ⟨gb, ob, none⟩ ∧ gb < w.heap.size ∧ Els sz R w gb ob Fy ys ∧ (∀ k b, Fy k b → Fn b ∧ b < w.heap.size ∧ b ≠ g ∧ (u = true → ¬ T b)) ∧ (u = true → ∀ j k b, Fy j b → Fy k b → j = k)
theorem Sl.src {TB : Nat → Prop} {w : World} (h : Sl u sz R w TB B ys) (hT : ∀ b, TB b → b < w.heap.size ∧ b ≠ g ∧ (u = true → ¬ T b)) : Src u sz R w T TB g B ys := by
  intro hn
  obtain ⟨gb, ob, Fy, hB, hg, hsep, he⟩ := h hn
  exact ⟨gb, ob, Fy, hB, hg, he, fun k b hb => ⟨hsep.2.1 k b hb, hT b (hsep.2.1 k b hb)⟩, fun hu => (hsep.2.2 hu).2⟩
/- what the caller gets when the row has grown -/
def AppW (u : Bool) (sz : Nat) (R : Rel α) (e : TypeId) (T Fn : Nat → Prop) (base g : Nat) (xs ys : List α) (w : World) (k : Value → World → Prop) : Prop :=
  ∀ (g' c' : Nat) (w' : World) (q : List α), Hid (q = xs ++ ys) → Hid (OwS u sz R e w' (fun b => T b ∨ Fn b) base (some ⟨g', 0, none⟩) c' q) → Hid (g' = g ∨ g' = w.heap.size) → Hid (Chg (fun b => b = g) w w') → Hid (Below base w w') → k (.slice (some ⟨g', 0, none⟩) q.length c') w'
theorem wp_appW {K : Act → World → Prop} (hM : Mov sz R) (hC : Cls sz R) (s x : Operand) (t : TypeId)
    (ho : o.op = .call { callee := .builtin .append, args := #[s, x], argTypes := #[t, t] })
    (e : TypeId) (i : TypeInfo) (z : Value) (bytes : Nat) (ht : P.underlying t = some (.slice e)) (hi : P.info? e = some i) (hz : i.zero = some z) (hsize : i.size = sz) (hby : i.bytes = bytes) (hzs : z.cells.size = sz) (hsz : 0 < sz)
    (hs : a.eval s = .slice (some ⟨g, 0, none⟩) xs.length c) (hown : OwS u sz R e w0 T base (some ⟨g, 0, none⟩) c xs) (hb : Below w0.heap.size w0 w)
    (hx : a.eval x = .slice B ys.length c2) (hy : Src u sz R w T Fn g B ys) (hlen : xs.length + ys.length ≤ 1000000000) (hbt : bytes ≤ 100000) (hbase : base ≤ w.heap.size)
    (h : AppW u sz R e T Fn base g xs ys w fun v w' => K (a.put o.dst v) w') : o.wp P a w K Q := by
  obtain ⟨vs, F, h1, h2, h3, h4⟩ := hown
  have h1' : w.ownsRow base e sz (.slice (some ⟨g, 0, none⟩) xs.length c) xs.length vs := OwS.row_keep h1 (fun g _ hlt => hb.block g hlt)
  have hbm : (xs.length + ys.length) * bytes ≤ 1000000000 * 100000 := Nat.mul_le_mul hlen hbt
  obtain ⟨gb, ob, Fy, news, hr, hn1, hone, hn2, he, q1, q2⟩ : ∃ gb ob Fy, ∃ news : List Value, Reads w w.heap.size sz B ys.length news ∧ news.length = ys.length * sz ∧ (∀ v ∈ news, v.oneCell' = true) ∧ (ys ≠ [] → ∀ i v, news[i]? = some v → w.cell? ⟨gb, ob + i, none⟩ = some v) ∧ (ys ≠ [] → Els sz R w gb ob Fy ys) ∧
      (ys ≠ [] → ∀ k b, Fy k b → Fn b ∧ b < w.heap.size ∧ b ≠ g ∧ (u = true → ¬ T b)) ∧ (ys ≠ [] → u = true → ∀ j k b, Fy j b → Fy k b → j = k) := by
    by_cases hn : ys = []
    · subst hn
      exact ⟨0, 0, fun _ _ => False, [], ⟨by simp, fun h => absurd h (by simp)⟩, by simp, fun v hv => (by cases hv), fun h => absurd rfl h, fun h => absurd rfl h, fun h => absurd rfl h, fun h => absurd rfl h⟩
    · obtain ⟨gb, ob, Fy, hB, hg, he, q1, q2⟩ := hy hn
      obtain ⟨news, n1, n2, n3⟩ := Els.cells hC ys ob Fy he
      refine ⟨gb, ob, Fy, news, ⟨n1, fun _ => ⟨_, hB, hg, fun j v hv => ?_⟩⟩, n1, n3, fun _ => n2, fun _ => he, fun _ => q1, fun _ => q2⟩
      rw [Go.WideShapes.add_plain]
      exact n2 j v hv
  refine wp_append_any w s x t ho base e i z sz bytes ht hi hz hsize hby hzs hsz _ xs.length vs hs h1' w.heap.size B ys.length c2 news hx hr hone (by unfold maxLen; omega) (by omega) hbase ?_
  intro v' w' hown' hgrow hblk
  obtain ⟨g', c', rfl, z1, z2, z3⟩ := OwS.appW (R := R) hM h1 h2 h3 h4 hb hn1 hn2 he q1 q2 hown' hgrow hblk
  have hge := own_ge h1 g rfl
  exact h g' c' w' _ (Lib.hid rfl) (Lib.hid z1) (Lib.hid z2) (Lib.hid z3) (Lib.hid (z3.below hbase (fun k hk => by omega)))
theorem wpList_appW {ops : Array Oper} {rest : List Oper} (hgd : o.guard = none) (hM : Mov sz R) (hC : Cls sz R) (s x : Operand) (t : TypeId)
    (ho : o.op = .call { callee := .builtin .append, args := #[s, x], argTypes := #[t, t] })
    (e : TypeId) (i : TypeInfo) (z : Value) (bytes : Nat) (ht : P.underlying t = some (.slice e)) (hi : P.info? e = some i) (hz : i.zero = some z) (hsize : i.size = sz) (hby : i.bytes = bytes) (hzs : z.cells.size = sz) (hsz : 0 < sz)
    (hs : a.eval s = .slice (some ⟨g, 0, none⟩) xs.length c) (hown : OwS u sz R e w0 T base (some ⟨g, 0, none⟩) c xs) (hb : Below w0.heap.size w0 w)
    (hx : a.eval x = .slice B ys.length c2) (hy : Src u sz R w T Fn g B ys) (hlen : xs.length + ys.length ≤ 1000000000) (hbt : bytes ≤ 100000) (hbase : base ≤ w.heap.size)
    (h : AppW u sz R e T Fn base g xs ys w fun v w' => wpList P ops Q rest (a.put o.dst v) w') : wpList P ops Q (o :: rest) a w :=
  wpList_plain hgd fun _ hK => wp_appW (R := R) hM hC s x t ho e i z bytes ht hi hz hsize hby hzs hsz hs hown hb hx hy hlen hbt hbase fun g' c' w' q a1 a2 a3 a4 a5 => hK _ _ (h g' c' w' q a1 a2 a3 a4 a5)
theorem step_appW {ops : Array Oper} {K : Act → World → Prop} {E : Prop} (hgd : o.guard = none) (hM : Mov sz R) (hC : Cls sz R) (s x : Operand) (t : TypeId)
    (ho : o.op = .call { callee := .builtin .append, args := #[s, x], argTypes := #[t, t] })
    (e : TypeId) (i : TypeInfo) (z : Value) (bytes : Nat) (ht : P.underlying t = some (.slice e)) (hi : P.info? e = some i) (hz : i.zero = some z) (hsize : i.size = sz) (hby : i.bytes = bytes) (hzs : z.cells.size = sz) (hsz : 0 < sz)
    (hs : a.eval s = .slice (some ⟨g, 0, none⟩) xs.length c) (hown : OwS u sz R e w0 T base (some ⟨g, 0, none⟩) c xs) (hb : Below w0.heap.size w0 w)
    (hx : a.eval x = .slice B ys.length c2) (hy : Src u sz R w T Fn g B ys) (hlen : xs.length + ys.length ≤ 1000000000) (hbt : bytes ≤ 100000) (hbase : base ≤ w.heap.size)
    (h : AppW u sz R e T Fn base g xs ys w fun v w' => K (a.put o.dst v) w') :
    if Region.wanted o (yielded ops a.tmps) = true then Oper.wp P o a w K Q else E := by
  have hw : Region.wanted o (yielded ops a.tmps) = true := by simp [Region.wanted, hgd]
  rw [if_pos hw]
  exact wp_appW (R := R) hM hC s x t ho e i z bytes ht hi hz hsize hby hzs hsz hs hown hb hx hy hlen hbt hbase h
end

theorem Sl.parts {α : Type} {R : Rel α} {sz : Nat} {w : World} {T : Nat → Prop} {A : Option Addr} {xs : List α} (h : Sl true sz R w T A xs) : ∃ g o F, (xs ≠ [] → A = some ⟨g, o, none⟩) ∧ (xs ≠ [] → g < w.heap.size ∧ T g) ∧ (∀ k b, F k b → T b) ∧ (∀ j k b, F j b → F k b → j = k) ∧ (xs ≠ [] → ∀ k, ¬ F k g) ∧ Els sz R w g o F xs := by
  by_cases hn : xs = []
  · subst hn
    exact ⟨0, 0, fun _ _ => False, fun h => absurd rfl h, fun h => absurd rfl h, fun _ _ h => h.elim, fun _ _ _ h => h.elim, fun h => absurd rfl h, fun k hk => absurd hk (by simp)⟩
  · obtain ⟨g, o, F, hA, hg, hsep, he⟩ := h hn
    exact ⟨g, o, F, fun _ => hA, fun _ => ⟨hg, hsep.1⟩, hsep.2.1, (hsep.2.2 rfl).2, fun _ => (hsep.2.2 rfl).1, he⟩
theorem Src.take {α : Type} {R : Rel α} {u : Bool} {sz : Nat} {w : World} {T : Nat → Prop} {A : Option Addr} {xs : List α} {g o gn : Nat} {F : Nat → Nat → Prop} (k : Nat) (hA : xs ≠ [] → A = some ⟨g, o, none⟩) (hg : xs ≠ [] → g < w.heap.size) (hE : Els sz R w g o F xs)
    (hF : ∀ j b, F j b → b < w.heap.size ∧ b ≠ gn ∧ (u = true → ¬ T b)) (hS : ∀ i j b, F i b → F j b → i = j) : Src u sz R w T (fun b => ∃ j, j < k ∧ F j b) gn A (xs.take k) := by
  intro hn
  have hne : xs ≠ [] := fun h => hn (by rw [h]; simp)
  refine ⟨g, o, fun j b => j < k ∧ F j b, hA hne, hg hne, fun j hj => ?_, fun j b hb => ⟨⟨j, hb⟩, hF j b hb.2⟩, fun _ i j b hi hj => hS i j b hi.2 hj.2⟩
  simp only [List.length_take] at hj
  rw [List.getElem_take]
  have e : (fun b => j < k ∧ F j b) = F j := by funext b; exact propext ⟨fun h => h.2, fun h => ⟨by omega, h⟩⟩
  exact Eq.mpr (congrArg (fun Z => R w Z g (o + j * sz) _) e) (hE j (by omega))
theorem Src.drop {α : Type} {R : Rel α} {u : Bool} {sz : Nat} {w : World} {T : Nat → Prop} {A : Option Addr} {xs : List α} {g o gn : Nat} {F : Nat → Nat → Prop} (k : Nat) (hA : k < xs.length → A = some ⟨g, o + k * sz, none⟩) (hg : xs ≠ [] → g < w.heap.size) (hE : Els sz R w g o F xs)
    (hF : ∀ j b, k ≤ j → F j b → b < w.heap.size ∧ b ≠ gn ∧ (u = true → ¬ T b)) (hS : ∀ i j b, F i b → F j b → i = j) : Src u sz R w T (fun b => ∃ j, k ≤ j ∧ F j b) gn A (xs.drop k) := by
  intro hn
  have hne : xs ≠ [] := fun h => hn (by rw [h]; simp)
  have hl : k < xs.length := by
    rcases Nat.lt_or_ge k xs.length with h | h
    · exact h
    · exact absurd (List.drop_eq_nil_of_le h) hn
  refine ⟨g, o + k * sz, fun j => F (k + j), hA hl, hg hne, fun j hj => ?_, fun j b hb => ⟨⟨k + j, by omega, hb⟩, hF _ b (by omega) hb⟩, fun _ i j b hi hj => by have := hS _ _ b hi hj; omega⟩
  simp only [List.length_drop] at hj
  rw [List.getElem_drop, Nat.add_assoc, ← Nat.add_mul]
  exact hE (k + j) (by omega)
theorem Src.one {α : Type} {R : Rel α} {u : Bool} {sz : Nat} {w : World} {T Fn : Nat → Prop} {x : α} {g gn : Nat} (hg : g < w.heap.size) (hx : R w Fn g 0 x) (hF : ∀ b, Fn b → b < w.heap.size ∧ b ≠ gn ∧ (u = true → ¬ T b)) : Src u sz R w T Fn gn (some ⟨g, 0, none⟩) [x] := by
  intro _
  refine ⟨g, 0, fun j b => j = 0 ∧ Fn b, rfl, hg, fun j hj => ?_, fun j b hb => ⟨hb.2, hF b hb.2⟩, fun _ i j b hi hj => by rw [hi.1, hj.1]⟩
  obtain rfl : j = 0 := by simpa using hj
  have e : (fun b => 0 = 0 ∧ Fn b) = Fn := by funext b; exact propext ⟨fun h => h.2, fun h => ⟨rfl, h⟩⟩
  refine Eq.mpr (congrArg (fun Z => R w Z g (0 + 0 * sz) _) e) ?_
  rw [Nat.zero_mul]
  exact hx

/- s[:k], s[k:] -/
theorem run_sliceTo {P : Program} {t e : TypeId} {s : Nat} (ht : P.underlying t = some (.slice e)) (hz : ∀ w, (Go.sizeOf e).run P w = .ok s w) (A : Option Addr) (n c k : Nat) (hk : k ≤ c) : ∃ A1, (∀ W, (Instr.slice t (.slice A n c) none (some (.int .i64 (k : Int))) none).run P W = .ok (.slice A1 k c) W) ∧ (∀ g o, A = some ⟨g, o, none⟩ → A1 = some ⟨g, o, none⟩) := by
  have ht' : P.underlying t = some (.slice (P.elem t)) := by simp [Program.elem, ht]
  have he : P.elem t = e := by simp [Program.elem, ht]
  refine ⟨if c = 0 then A else A.map (·.add (0 * s)), fun W => ?_, fun g o hA => ?_⟩
  · rw [run_slice_h W t _ _ _ ht' .i64 _ (by omega) (by omega), he, hz]
    simp only [Result.andThen, sliced, Int.toNat_natCast, Nat.sub_zero]
  · subst hA
    split
    · rfl
    · simp only [Option.map_some, Nat.zero_mul, Go.WideShapes.add_plain, Nat.add_zero]
theorem run_sliceFrom {P : Program} {t e : TypeId} {s : Nat} (ht : P.underlying t = some (.slice e)) (hz : ∀ w, (Go.sizeOf e).run P w = .ok s w) (A : Option Addr) (n c k : Nat) (hk : k ≤ n) (hc : n ≤ c) : ∃ A1, (∀ W, (Instr.slice t (.slice A n c) (some (.int .i64 (k : Int))) none none).run P W = .ok (.slice A1 (n - k) (c - k)) W) ∧ (∀ g o, A = some ⟨g, o, none⟩ → k < n → A1 = some ⟨g, o + k * s, none⟩) := by
  have ht' : P.underlying t = some (.slice (P.elem t)) := by simp [Program.elem, ht]
  have he : P.elem t = e := by simp [Program.elem, ht]
  refine ⟨if c = k then A else A.map (·.add (k * s)), fun W => ?_, fun g o hA hlt => ?_⟩
  · rw [run_slice_l W t _ _ _ ht' .i64 _ (by omega) (by omega), he, hz]
    simp only [Result.andThen, sliced, Int.toNat_natCast]
  · subst hA
    rw [if_neg (by omega)]
    simp only [Option.map_some, Go.WideShapes.add_plain]

end Go.Proofs.Ytnfgdgmmbddmgaa
