/- Kept traffic: slices of structs of a number, a bool, slices of bytes and a number; how they are read, and that a slice of them came in. -/
import Derived.Test.YtbfbjkcmehalhaaNF
import Derived.Test.YtbfbjkcmehalhaaNestO
namespace Go.Proofs.Ytbfbjkcmehalhaa
open Go.RowKit
set_option linter.unusedVariables false
set_option linter.unusedSimpArgs false

/- A slice whose elements are local is local itself. -/
theorem Sl.local_ {α : Type} {R : Rel α} {u : Bool} {sz : Nat} {w w' : World} {T : Nat → Prop} {A : Option Addr} {xs : List α} (hL : Local sz R) (h : Sl u sz R w T A xs) (hs : w.heap.size ≤ w'.heap.size) (hF : ∀ b, b < w.heap.size → T b → w'.heap[b]? = w.heap[b]?) : Sl u sz R w' T A xs := by
  intro hn
  obtain ⟨g, o, F, hA, hg, hsep, he⟩ := h hn
  have hb := hF g hg hsep.1
  exact ⟨g, o, F, hA, by omega, hsep, fun k hk => hL (he k hk) hs (fun i _ => ⟨World.cell?_of_block (a := ⟨g, o + k * sz + i, none⟩) hb, World.frozen?_of_block (a := ⟨g, o + k * sz + i, none⟩) hb⟩) (fun b hb' hf => hF b hb' (hsep.2.1 k b hf))⟩
/- An element that is a slice of slices of bytes. -/
def ESS (u : Bool) : Rel (List (List Int)) := fun w F g o x => ∃ A c, w.cell? ⟨g, o, none⟩ = some (.slice A x.length c) ∧ (u = true → w.frozen? ⟨g, o, none⟩ = false ∧ x.length ≤ c) ∧ Sl u 1 (EB u) w F A x
theorem ESS.local_ {u : Bool} : Local 1 (ESS u) := by
  rintro w w' F g o x ⟨A, c, h1, h2, h3⟩ hs hg hF
  have := hg 0 (by omega)
  exact ⟨A, c, this.1.trans h1, fun hu => ⟨this.2.trans (h2 hu).1, (h2 hu).2⟩, Sl.local_ EB.local_ h3 hs hF⟩
theorem ESS.read {u : Bool} {w : World} {F : Nat → Prop} {g o : Nat} {x : List (List Int)} (h : ESS u w F g o x) : ESS false w F g o x := by
  obtain ⟨A, c, h1, h2, h3⟩ := h
  exact ⟨A, c, h1, fun hu => (by cases hu), SlB.read h3⟩
structure KT where
  st : Int
  az : Bool
  fr : List (List Int)
  lo : Int
  deriving DecidableEq, Inhabited
def EK (u : Bool) : Rel KT := fun w F g o x => w.cell? ⟨g, o, none⟩ = some (.int .i64 x.st) ∧ w.cell? ⟨g, o + 1, none⟩ = some (.bool x.az) ∧ w.cell? ⟨g, o + 3, none⟩ = some (.int .i64 x.lo) ∧
  (u = true → w.frozen? ⟨g, o, none⟩ = false ∧ w.frozen? ⟨g, o + 1, none⟩ = false ∧ w.frozen? ⟨g, o + 3, none⟩ = false) ∧ ESS u w F g (o + 2) x.fr
theorem EK.local_ {u : Bool} : Local 4 (EK u) := by
  rintro w w' F g o x ⟨h1, h2, h3, h4, h5⟩ hs hg hF
  have e0 := hg 0 (by omega)
  have e1 := hg 1 (by omega)
  have e3 := hg 3 (by omega)
  refine ⟨e0.1.trans h1, e1.1.trans h2, e3.1.trans h3, fun hu => ⟨e0.2.trans (h4 hu).1, e1.2.trans (h4 hu).2.1, e3.2.trans (h4 hu).2.2⟩, ESS.local_ h5 hs (fun i hi => ?_) hF⟩
  obtain rfl : i = 0 := by omega
  exact hg 2 (by omega)
theorem EK.framed {u : Bool} : Framed (EK u) := EK.local_.framed
theorem EK.read {u : Bool} {w : World} {F : Nat → Prop} {g o : Nat} {x : KT} (h : EK u w F g o x) : EK false w F g o x := ⟨h.1, h.2.1, h.2.2.1, fun h => (by cases h), h.2.2.2.2.read⟩
theorem SlK.read {u : Bool} {w : World} {T : Nat → Prop} {A : Option Addr} {xs : List KT} (h : Sl u 4 (EK u) w T A xs) : Sl false 4 (EK false) w T A xs := h.weak fun _ _ _ _ h => h.read

/- how many cells -/
def sumK (xs : List KT) : Nat := (xs.map fun x => szSS x.fr).sum
theorem sumK_snoc (xs : List KT) (x : KT) : sumK (xs ++ [x]) = sumK xs + szSS x.fr := by simp [sumK]
theorem sumK_take (xs : List KT) (k : Nat) (h : k < xs.length) : sumK (xs.take (k + 1)) = sumK (xs.take k) + szSS xs[k].fr := by
  rw [List.take_add_one, List.getElem?_eq_getElem h]; exact sumK_snoc _ _
theorem sumK_le (xs : List KT) (k : Nat) : sumK (xs.take k) ≤ sumK xs := by
  have : sumK xs = sumK (xs.take k) + sumK (xs.drop k) := by
    conv => lhs; rw [← List.take_append_drop k xs]
    simp [sumK, -List.take_append_drop]
  omega
theorem sumK_mem {xs : List KT} {x : KT} (h : x ∈ xs) : szSS x.fr ≤ sumK xs := by
  induction xs with
  | nil => cases h
  | cons y ys ih =>
    rcases List.mem_cons.1 h with rfl | h
    · simp [sumK]
    · have := ih h; simp [sumK] at this ⊢; omega
def szK (xs : List KT) : Nat := xs.length + sumK xs
/- the bounds that every kept traffic that came in obeys -/
def KTok (x : KT) : Prop := I64 x.st ∧ I64 x.lo ∧ x.fr.length ≤ 9223372036854775807 ∧ ∀ f ∈ x.fr, f.length ≤ 9223372036854775807 ∧ ∀ z ∈ f, 0 ≤ z ∧ z ≤ 255

section
open Go.ChangeShapes Go.WideShapes Go.ChangeAt Go.Deep
variable {H : Type} {enc : TypeId × Value → H} {P : Program} {w : World} {base : Nat} {held : Bool}
/- A slice of slices of bytes at one cell of what came in. -/
theorem open_byteSS_cell {t e q : TypeId} {n : Nat} {v : Value} {y : DataW H × List MemPlace} (ht : P.underlying t = some (.slice e)) (he : P.underlying e = some (.slice q)) (hq : P.underlying q = some (.int .u8)) (ce : P.cellsOf e = 1) (cq : P.cellsOf q = 1)
    (hf : DataW.trod enc P w base (fun _ => true) held n t [v] = some y) :
    ∃ (A : Option Addr) (c : Nat) (xs : List (List Int)), v = .slice A xs.length c ∧ xs.length ≤ 9223372036854775807 ∧ Sl false 1 (EB false) w (fun g => g < w.heap.size) A xs ∧ ∀ x ∈ xs, x.length ≤ 9223372036854775807 ∧ ∀ y ∈ x, 0 ≤ y ∧ y ≤ 255 := by
  rcases Go.Deep.open_int_rows ht he hq ce cq hf with ⟨hcs, _⟩ | ⟨x, n', c', B, L, C, Z, hcs, _, hl, hm, _, hrow⟩
  · simp at hcs
    subst hcs
    exact ⟨none, 0, [], rfl, by simp, Sl.nil, by simp⟩
  · simp at hcs
    subst hcs
    refine ⟨some x, c', (List.range n').map fun r => (Z r).take (L r), by simp, by simp; unfold maxLen at hm; omega, ?_, ?_⟩
    · intro hne
      have hn : 0 < n' := by
        rcases Nat.eq_zero_or_pos n' with h | h
        · subst h; simp at hne
        · exact h
      obtain ⟨g, o, rfl⟩ := add_none (hrow 0 (by omega)).1
      have hcell : ∀ r, r < c' → w.cell? ⟨g, o + r, none⟩ = some (.slice (B r) (L r) (C r)) := by
        intro r hr
        have := (hrow r hr).1
        rwa [Go.WideShapes.add_plain] at this
      refine ⟨g, o, fun _ b => b < w.heap.size, rfl, lt_of_cell (hcell 0 (by omega)), ⟨lt_of_cell (hcell 0 (by omega)), fun _ _ h => h, fun h => by cases h⟩, ?_⟩
      intro k hk
      simp only [List.length_map, List.length_range] at hk
      obtain ⟨_, h2, h3, h4, h5, h6, h7⟩ := hrow k (by omega)
      have hlen : ((Z k).take (L k)).length = L k := by rw [List.length_take]; omega
      simp only [List.getElem_map, List.getElem_range, Nat.mul_one]
      refine ⟨B k, C k, by rw [hcell k (by omega), hlen], fun h => (by cases h), ?_⟩
      intro j hj
      rw [hlen] at hj
      obtain ⟨a', ha'⟩ : ∃ a', B k = some a' := by
        cases hB : B k with
        | none => have := h6 hB; omega
        | some a' => exact ⟨a', rfl⟩
      obtain ⟨g', o', rfl⟩ := add_none ((h7 a' ha').2 0 (by omega))
      have h9 := (h7 _ ha').2 j (by omega)
      rw [Go.WideShapes.add_plain] at h9
      refine ⟨g', o', ha', lt_of_cell h9, lt_of_cell h9, ?_, fun h => (by cases h)⟩
      rw [h9, List.getElem_take]
      simp [List.getD, List.getElem?_eq_getElem (show j < (Z k).length by omega)]
    · intro y hy
      simp only [List.mem_map, List.mem_range] at hy
      obtain ⟨k, hk, rfl⟩ := hy
      obtain ⟨_, h2, h3, h4, h5, h6, h7⟩ := hrow k (by omega)
      refine ⟨by rw [List.length_take]; unfold maxLen at h3; omega, fun z hz => bounds_u8 (h5 z (List.mem_of_mem_take hz))⟩
/- A slice of kept traffic at one cell of what came in. -/
theorem open_kts {t e r q : TypeId} {f0 f1 f2 f3 : Field} {n : Nat} {v : Value} {y : DataW H × List MemPlace} (ht : P.underlying t = some (.slice e)) (he : P.underlying e = some (.struct #[f0, f1, f2, f3])) (hone : oneCellFields P #[f0, f1, f2, f3] = true) (hC : P.cellsOf e = 4)
    (h0 : P.underlying f0.type = some (.int .i64)) (h1 : P.underlying f1.type = some .bool) (h2 : P.underlying f2.type = some (.slice r)) (hr : P.underlying r = some (.slice q)) (hq : P.underlying q = some (.int .u8)) (cr : P.cellsOf r = 1) (hcq : P.cellsOf q = 1) (h3 : P.underlying f3.type = some (.int .i64))
    (h : DataW.trod enc P w base (fun _ => true) held n t [v] = some y) :
    ∃ (A : Option Addr) (c : Nat) (xs : List KT), v = .slice A xs.length c ∧ xs.length ≤ 9223372036854775807 ∧ Sl false 4 (EK false) w (fun g => g < w.heap.size) A xs ∧ ∀ x ∈ xs, KTok x := by
  rcases open_slice_fields ht he hone hC h with ⟨hcs, _⟩ | ⟨a, len, cap, m, D, Pl, hcs, _, hl, hm, hmm, _, hrow⟩
  · simp at hcs
    subst hcs
    exact ⟨none, 0, [], rfl, by simp, Sl.nil, by simp⟩
  · simp only [if_true] at hmm
    subst hmm
    simp at hcs
    subst hcs
    have each : ∀ r, r < len → ∃ p : KT × Option Addr × Nat, w.cell? (a.add (r * 4)) = some (.int .i64 p.1.st) ∧ w.cell? (a.add (r * 4 + 1)) = some (.bool p.1.az) ∧ w.cell? (a.add (r * 4 + 3)) = some (.int .i64 p.1.lo) ∧
        w.cell? (a.add (r * 4 + 2)) = some (.slice p.2.1 p.1.fr.length p.2.2) ∧ Sl false 1 (EB false) w (fun g => g < w.heap.size) p.2.1 p.1.fr ∧ KTok p.1 := by
      intro r hr'
      obtain ⟨ys, n', _, _, _, hf⟩ := hrow r (by omega)
      obtain ⟨v0, y0, hc0, _, ht0⟩ := hf 0 f0 rfl
      obtain ⟨v1, y1, hc1, _, ht1⟩ := hf 1 f1 rfl
      obtain ⟨v2, y2, hc2, _, ht2⟩ := hf 2 f2 rfl
      obtain ⟨v3, y3, hc3, _, ht3⟩ := hf 3 f3 rfl
      obtain ⟨s, hs0, _, hs2⟩ := DataW.trod_int h0 ht0
      simp only [List.cons.injEq, and_true] at hs0
      subst hs0
      obtain ⟨b, hb0, _⟩ := DataW.trod_bool h1 ht1
      simp only [List.cons.injEq, and_true] at hb0
      subst hb0
      obtain ⟨l, hl0, _, hl2⟩ := DataW.trod_int h3 ht3
      simp only [List.cons.injEq, and_true] at hl0
      subst hl0
      obtain ⟨A, c, xs, rfl, q1, q2, q3⟩ := open_byteSS_cell h2 hr hq cr hcq ht2
      exact ⟨(⟨s, b, xs, l⟩, A, c), hc0, hc1, hc3, hc2, q2, bounds_i64 hs2, bounds_i64 hl2, q1, q3⟩
    obtain ⟨p, hp⟩ := choose_lt each
    refine ⟨some a, m, (List.range len).map fun r => (p r).1, by simp, by simp; unfold maxLen at hm; omega, ?_, ?_⟩
    · intro hne
      have hn : 0 < len := by
        rcases Nat.eq_zero_or_pos len with h | h
        · subst h; simp at hne
        · exact h
      have h00 := (hp 0 hn).1
      rw [Nat.zero_mul] at h00
      have hspot := World.cell?_spot h00
      obtain ⟨b, off, sp⟩ := a
      have : sp = none := by simpa [Addr.add] using hspot
      subst this
      have hcell : ∀ j v, w.cell? ((⟨b, off, none⟩ : Addr).add j) = some v → w.cell? ⟨b, off + j, none⟩ = some v := fun j v h => by rwa [Go.WideShapes.add_plain] at h
      have hb := lt_of_cell (hcell _ _ h00)
      refine ⟨b, off, fun _ k => k < w.heap.size, rfl, hb, ⟨hb, fun _ _ h => h, fun h => by cases h⟩, fun k hk => ?_⟩
      simp only [List.length_map, List.length_range] at hk
      obtain ⟨q1, q2, q3, q4, q5, q6⟩ := hp k hk
      simp only [List.getElem_map, List.getElem_range]
      exact ⟨hcell _ _ q1, hcell _ _ q2, hcell _ _ q3, fun h => (by cases h), (p k).2.1, (p k).2.2, hcell _ _ q4, fun h => (by cases h), q5⟩
    · intro x hx
      simp only [List.mem_map, List.mem_range] at hx
      obtain ⟨k, hk, rfl⟩ := hx
      exact (hp k hk).2.2.2.2.2
end

end Go.Proofs.Ytbfbjkcmehalhaa
