/- Rows whose elements are rows themselves: what is read, and where it lies. -/
import Derived.Test.YtnfgdgmmbddmgaaRowF
namespace Go.Proofs.Ytnfgdgmmbddmgaa
open Go.RowKit
set_option linter.unusedVariables false

/- R w F g o x: at block g, cell o, an element reads x; what it points to lies in the blocks F. -/
abbrev Rel (α : Type) := World → (Nat → Prop) → Nat → Nat → α → Prop
def Framed {α : Type} (R : Rel α) : Prop := ∀ {w w' : World} {F : Nat → Prop} {g o : Nat} {x : α} {S : Nat → Prop}, R w F g o x → g < w.heap.size → Chg S w w' → ¬ S g → (∀ b, F b → ¬ S b) → R w' F g o x
/- R looks at sz cells and at the blocks F alone. -/
def Local {α : Type} (sz : Nat) (R : Rel α) : Prop := ∀ {w w' : World} {F : Nat → Prop} {g o : Nat} {x : α}, R w F g o x → w.heap.size ≤ w'.heap.size →
  (∀ i, i < sz → w'.cell? ⟨g, o + i, none⟩ = w.cell? ⟨g, o + i, none⟩ ∧ w'.frozen? ⟨g, o + i, none⟩ = w.frozen? ⟨g, o + i, none⟩) → (∀ b, b < w.heap.size → F b → w'.heap[b]? = w.heap[b]?) → R w' F g o x
theorem Local.framed {α : Type} {sz : Nat} {R : Rel α} (h : Local sz R) : Framed R := by
  intro w w' F g o x S hR hg hc hs hF
  exact h hR hc.size (fun i _ => ⟨hc.cell (p := ⟨g, o + i, none⟩) hg hs, hc.frozen (p := ⟨g, o + i, none⟩) hg hs⟩) (fun b hb hFb => hc.block b hb (hF b hFb))
theorem Rw.local_ {u : Bool} {K : IntKind} {w w' : World} {F : Nat → Prop} {A : Option Addr} {xs : List Int} (h : Rw u K w F A xs) (hs : w.heap.size ≤ w'.heap.size) (hF : ∀ b, b < w.heap.size → F b → w'.heap[b]? = w.heap[b]?) : Rw u K w' F A xs := by
  intro k hk
  obtain ⟨g, o, h1, h2, h3, h4, h5⟩ := h k hk
  have hb := hF g h3 h2
  exact ⟨g, o, h1, h2, by omega, (World.cell?_of_block (a := ⟨g, o + k, none⟩) hb).trans h4, fun hu => (World.frozen?_of_block (a := ⟨g, o + k, none⟩) hb).trans (h5 hu)⟩

theorem Rw.inW {u : Bool} {K : IntKind} {w : World} {F : Nat → Prop} {A : Option Addr} {xs : List Int} (h : Rw u K w F A xs) : Rw u K w (fun b => F b ∧ b < w.heap.size) A xs := by
  intro k hk
  obtain ⟨g, o, h1, h2, h3, h4⟩ := h k hk
  exact ⟨g, o, h1, ⟨h2, h3⟩, h3, h4⟩

/- An element that is a slice of bytes. -/
def EB (u : Bool) : Rel (List Int) := fun w F g o x => ∃ A c, w.cell? ⟨g, o, none⟩ = some (.slice A x.length c) ∧ (u = true → w.frozen? ⟨g, o, none⟩ = false) ∧ Rw u .u8 w F A x
theorem EB.local_ {u : Bool} : Local 1 (EB u) := by
  rintro w w' F g o x ⟨A, c, h1, h2, h3⟩ hs hg hF
  have := hg 0 (by omega)
  exact ⟨A, c, this.1.trans h1, fun hu => this.2.trans (h2 hu), h3.local_ hs hF⟩
theorem EB.framed {u : Bool} : Framed (EB u) := EB.local_.framed
theorem EB.read {u : Bool} {w : World} {F : Nat → Prop} {g o : Nat} {x : List Int} (h : EB u w F g o x) : EB false w F g o x := by
  obtain ⟨A, c, h1, h2, h3⟩ := h
  exact ⟨A, c, h1, fun hu => (by cases hu), h3.read⟩

def Els {α : Type} (sz : Nat) (R : Rel α) (w : World) (g o : Nat) (F : Nat → Nat → Prop) (xs : List α) : Prop := ∀ k (h : k < xs.length), R w (F k) g (o + k * sz) xs[k]
/- u: each element's blocks are its own. -/
def Sep (u : Bool) (T : Nat → Prop) (g : Nat) (F : Nat → Nat → Prop) : Prop := T g ∧ (∀ k b, F k b → T b) ∧ (u = true → (∀ k, ¬ F k g) ∧ ∀ j k b, F j b → F k b → j = k)
/- A slice at the address A whose elements read xs. -/
def Sl {α : Type} (u : Bool) (sz : Nat) (R : Rel α) (w : World) (T : Nat → Prop) (A : Option Addr) (xs : List α) : Prop :=
  xs ≠ [] → ∃ g o F, A = some ⟨g, o, none⟩ ∧ g < w.heap.size ∧ Sep u T g F ∧ Els sz R w g o F xs

section
variable {α : Type} {R : Rel α} {u : Bool} {sz : Nat} {w w' : World} {T T' S : Nat → Prop} {A : Option Addr} {xs : List α} {g o : Nat} {F : Nat → Nat → Prop}
theorem Els.frame (hR : Framed R) (h : Els sz R w g o F xs) (hg : g < w.heap.size) (hc : Chg S w w') (hs : ¬ S g) (hF : ∀ k b, F k b → ¬ S b) : Els sz R w' g o F xs :=
  fun k hk => hR (h k hk) hg hc hs (hF k)
theorem Sl.nil : Sl u sz R w T A ([] : List α) := fun h => absurd rfl h
theorem Sl.frame (hR : Framed R) (h : Sl u sz R w T A xs) (hc : Chg S w w') (hd : ∀ b, T b → ¬ S b) : Sl u sz R w' T A xs := by
  intro hn
  obtain ⟨g, o, F, hA, hg, hsep, he⟩ := h hn
  exact ⟨g, o, F, hA, Nat.lt_of_lt_of_le hg hc.size, hsep, he.frame hR hg hc (hd g hsep.1) (fun k b hb => hd b (hsep.2.1 k b hb))⟩
theorem Sl.below (hR : Framed R) (h : Sl u sz R w T A xs) (hb : Below w.heap.size w w') : Sl u sz R w' T A xs :=
  h.frame hR (S := fun _ => False) (Chg.of_below hb) (fun _ _ hf => hf)
theorem Sl.wider (h : Sl u sz R w T A xs) (hT : ∀ b, T b → T' b) : Sl u sz R w T' A xs := by
  intro hn
  obtain ⟨g, o, F, hA, hg, hsep, he⟩ := h hn
  exact ⟨g, o, F, hA, hg, ⟨hT g hsep.1, fun k b hb => hT b (hsep.2.1 k b hb), hsep.2.2⟩, he⟩
theorem Sl.weak {R' : Rel α} (h : Sl u sz R w T A xs) (hr : ∀ F g o x, R w F g o x → R' w F g o x) : Sl false sz R' w T A xs := by
  intro hn
  obtain ⟨g, o, F, hA, hg, hsep, he⟩ := h hn
  exact ⟨g, o, F, hA, hg, ⟨hsep.1, hsep.2.1, fun h => by cases h⟩, fun k hk => hr _ _ _ _ (he k hk)⟩
theorem Sl.at_ (h : Sl u sz R w T A xs) (k : Nat) (hk : k < xs.length) : ∃ g o F, A = some ⟨g, o, none⟩ ∧ g < w.heap.size ∧ R w F g (o + k * sz) xs[k] ∧ T g ∧ ∀ b, F b → T b := by
  obtain ⟨g, o, F, hA, hg, hsep, he⟩ := h (by intro h; subst h; simp at hk)
  exact ⟨g, o, F k, hA, hg, he k hk, hsep.1, hsep.2.1 k⟩
/- One element of a slice that is the caller's own. -/
theorem Sl.open_at (hL : Local sz R) (h : Sl true sz R w T A xs) (k : Nat) (hk : k < xs.length) : ∃ g o Fk, A = some ⟨g, o, none⟩ ∧ g < w.heap.size ∧ T g ∧ ¬ Fk g ∧ (∀ b, Fk b → T b) ∧ R w Fk g (o + k * sz) xs[k] ∧
    ∀ w' y, Chg (fun b => b = g ∨ Fk b) w w' → (∀ i, (i < o + k * sz ∨ o + k * sz + sz ≤ i) → w'.cell? ⟨g, i, none⟩ = w.cell? ⟨g, i, none⟩ ∧ w'.frozen? ⟨g, i, none⟩ = w.frozen? ⟨g, i, none⟩) → R w' Fk g (o + k * sz) y → Sl true sz R w' T A (xs.set k y) := by
  obtain ⟨g, o, F, hA, hg, hsep, he⟩ := h (by intro h; subst h; simp at hk)
  refine ⟨g, o, F k, hA, hg, hsep.1, (hsep.2.2 rfl).1 k, hsep.2.1 k, he k hk, fun w' y hc hcell hy hn => ?_⟩
  refine ⟨g, o, F, hA, Nat.lt_of_lt_of_le hg hc.size, hsep, fun j hj => ?_⟩
  rw [List.length_set] at hj
  by_cases hjk : k = j
  · subst hjk
    rw [List.getElem_set_self]
    exact hy
  · rw [List.getElem_set_ne hjk]
    refine hL (he j hj) hc.size (fun i hi => ?_) (fun b hb hF => hc.block b hb ?_)
    · have e : o + j * sz + i = o + j * sz + i := rfl
      refine hcell _ ?_
      rcases Nat.lt_or_ge j k with h1 | h1
      · left
        have : (j + 1) * sz ≤ k * sz := Nat.mul_le_mul_right sz h1
        rw [Nat.add_mul] at this
        omega
      · right
        have : (k + 1) * sz ≤ j * sz := Nat.mul_le_mul_right sz (by omega)
        rw [Nat.add_mul] at this
        omega
    · rintro (h1 | h1)
      · subst h1; exact (hsep.2.2 rfl).1 j hF
      · exact hjk ((hsep.2.2 rfl).2 _ _ b h1 hF)
/- One element more, in new blocks. -/
theorem Sl.snoc (hL : Local sz R) {Fn : Nat → Prop} {y : α} (h : Sl true sz R w T (some ⟨g, o, none⟩) xs) (hg : g < w.heap.size) (hTg : T g) (hT : ∀ b, T b → b < w.heap.size) (hFn : ∀ b, Fn b → w.heap.size ≤ b) (hc : Chg (fun b => b = g) w w')
    (hcell : ∀ i, i < o + xs.length * sz → w'.cell? ⟨g, i, none⟩ = w.cell? ⟨g, i, none⟩ ∧ w'.frozen? ⟨g, i, none⟩ = w.frozen? ⟨g, i, none⟩) (hy : R w' Fn g (o + xs.length * sz) y) : Sl true sz R w' (fun b => T b ∨ Fn b) (some ⟨g, o, none⟩) (xs ++ [y]) := by
  intro _
  have hF0 : ∃ F : Nat → Nat → Prop, (∀ k b, F k b → T b) ∧ (∀ k, ¬ F k g) ∧ (∀ j k b, F j b → F k b → j = k) ∧ Els sz R w g o F xs := by
    by_cases hn : xs = []
    · subst hn
      exact ⟨fun _ _ => False, fun _ _ h => h.elim, fun _ h => h, fun _ _ _ h => h.elim, fun k hk => absurd hk (by simp)⟩
    · obtain ⟨g', o', F, hA, _, hsep, he⟩ := h hn
      injection hA with hA
      injection hA with e1 e2
      subst e1 e2
      exact ⟨F, hsep.2.1, (hsep.2.2 rfl).1, (hsep.2.2 rfl).2, he⟩
  obtain ⟨F, f1, f2, f3, he⟩ := hF0
  refine ⟨g, o, fun k => if k < xs.length then F k else if k = xs.length then Fn else fun _ => False, rfl, Nat.lt_of_lt_of_le hg hc.size, ⟨.inl hTg, ?_, fun _ => ⟨?_, ?_⟩⟩, ?_⟩
  · intro k b hb
    split at hb
    · exact .inl (f1 k b hb)
    · split at hb
      · exact .inr hb
      · exact hb.elim
  · intro k hb
    split at hb
    · exact f2 k hb
    · split at hb
      · have := hFn g hb; omega
      · exact hb
  · intro j k b hj hk
    split at hj
    · split at hk
      · exact f3 j k b hj hk
      · split at hk
        · have h1 := hFn b hk; have h2 := hT b (f1 j b hj); omega
        · exact hk.elim
    · split at hj
      · split at hk
        · have h1 := hFn b hj; have h2 := hT b (f1 k b hk); omega
        · split at hk
          · omega
          · exact hk.elim
      · exact hj.elim
  · intro k hk
    rw [List.length_append, List.length_singleton] at hk
    by_cases hlt : k < xs.length
    · simp only [hlt, if_true]
      rw [List.getElem_append_left hlt]
      refine hL (he k hlt) hc.size (fun i hi => hcell _ ?_) (fun b hb hF => hc.block b hb ?_)
      · have : (k + 1) * sz ≤ xs.length * sz := Nat.mul_le_mul_right sz hlt
        rw [Nat.add_mul] at this
        omega
      · intro e; subst e; exact f2 k hF
    · obtain rfl : k = xs.length := by omega
      simp only [Nat.lt_irrefl, if_false, if_true]
      rw [List.getElem_append_right (Nat.le_refl _)]
      simpa using hy
theorem Sl.drop (h : Sl u sz R w T (some ⟨g, o, none⟩) xs) (k : Nat) : Sl u sz R w T (some ⟨g, o + k * sz, none⟩) (xs.drop k) := by
  intro hn
  obtain ⟨g', o', F, hA, hg, hsep, he⟩ := h (by intro h; subst h; simp at hn)
  injection hA with hA
  injection hA with e1 e2
  subst e1 e2
  refine ⟨g, o + k * sz, fun j => F (k + j), rfl, hg, ⟨hsep.1, fun j b hb => hsep.2.1 _ b hb, fun hu => ⟨fun j => (hsep.2.2 hu).1 _, fun i j b hi hj => ?_⟩⟩, fun j hj => ?_⟩
  · have := (hsep.2.2 hu).2 _ _ b hi hj
    omega
  · simp only [List.length_drop] at hj
    have := he (k + j) (by omega)
    rw [List.getElem_drop, Nat.add_assoc, ← Nat.add_mul]
    exact this
end

abbrev SlB (u : Bool) := @Sl (List Int) u 1 (EB u)
theorem SlB.read {u : Bool} {w : World} {T : Nat → Prop} {A : Option Addr} {xs : List (List Int)} (h : Sl u 1 (EB u) w T A xs) : Sl false 1 (EB false) w T A xs := h.weak fun _ _ _ _ h => h.read

/- how many cells a value has, as the laws count them -/
def sumL (xs : List (List Int)) : Nat := (xs.map List.length).sum
theorem sumL_nil : sumL [] = 0 := rfl
theorem sumL_snoc (xs : List (List Int)) (x : List Int) : sumL (xs ++ [x]) = sumL xs + x.length := by simp [sumL]
theorem sumL_take (xs : List (List Int)) (k : Nat) (h : k < xs.length) : sumL (xs.take (k + 1)) = sumL (xs.take k) + xs[k].length := by
  rw [List.take_add_one, List.getElem?_eq_getElem h]; exact sumL_snoc _ _
theorem sumL_le (xs : List (List Int)) (k : Nat) : sumL (xs.take k) ≤ sumL xs := by
  have : sumL xs = sumL (xs.take k) + sumL (xs.drop k) := by
    conv => lhs; rw [← List.take_append_drop k xs]
    simp [sumL, -List.take_append_drop]
  omega
theorem sumL_mem {xs : List (List Int)} {x : List Int} (h : x ∈ xs) : x.length ≤ sumL xs := by
  induction xs with
  | nil => cases h
  | cons y ys ih =>
    rcases List.mem_cons.1 h with rfl | h
    · simp [sumL]
    · have := ih h; simp [sumL] at this ⊢; omega
def szSS (xs : List (List Int)) : Nat := xs.length + sumL xs

end Go.Proofs.Ytnfgdgmmbddmgaa
