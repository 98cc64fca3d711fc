/- Numbered frames: slices of pairs of a number and bytes; how they are read, and that a slice of them came in. Lists of which the first elements have been replaced. -/
import Derived.Test.YtnfgdgmmbddmgaaNest
import Derived.Deep.Slices
import Derived.Deep.Fields
import Derived.ChangeSame
import Derived.ProofKit
import Derived.OpenShut
namespace Go.Proofs.Ytnfgdgmmbddmgaa
open Go.RowKit
set_option linter.unusedVariables false
set_option linter.unusedSimpArgs false

abbrev NF := Int × List Int
def EN (u : Bool) : Rel NF := fun w F g o x => w.cell? ⟨g, o, none⟩ = some (.int .i64 x.1) ∧ (u = true → w.frozen? ⟨g, o, none⟩ = false) ∧ EB u w F g (o + 1) x.2
theorem EN.local_ {u : Bool} : Local 2 (EN u) := by
  rintro w w' F g o x ⟨h1, h2, h3⟩ hs hg hF
  have e0 := hg 0 (by omega)
  refine ⟨e0.1.trans h1, fun hu => e0.2.trans (h2 hu), EB.local_ h3 hs (fun i hi => ?_) hF⟩
  obtain rfl : i = 0 := by omega
  exact hg 1 (by omega)
theorem EN.framed {u : Bool} : Framed (EN u) := EN.local_.framed
theorem EN.read {u : Bool} {w : World} {F : Nat → Prop} {g o : Nat} {x : NF} (h : EN u w F g o x) : EN false w F g o x := ⟨h.1, fun h => (by cases h), h.2.2.read⟩
theorem SlN.read {u : Bool} {w : World} {T : Nat → Prop} {A : Option Addr} {xs : List NF} (h : Sl u 2 (EN u) w T A xs) : Sl false 2 (EN false) w T A xs := h.weak fun _ _ _ _ h => h.read

/- Two worlds of the same size below, the same new blocks behind. -/
theorem chg_swap {W W' : World} {X : List Obj} {d d' n : Nat} (hn : n = W.heap.size) (hs : W'.heap.size = W.heap.size) (h1 : W'.os = W.os) (h2 : W'.tape = W.tape) (h3 : W'.output = W.output) : Chg (fun b => b < n) (World.ext W X d) (World.ext W' X d') := by
  subst hn
  exact ⟨h1, h2, h3, by simp [hs], fun k _ hk => by
    simp only [World.ext]
    rw [Array.getElem?_append_right (by omega), Array.getElem?_append_right (by omega), hs]⟩
/- stores into a block that is known whole -/
theorem set_block {w : World} {g a : Nat} {cur : Array Value} {e : TypeId} {v : Value} (h : w.heap[g]? = some (.cells cur e (0, 0))) : (w.setCell ⟨g, a, none⟩ v).heap[g]? = some (.cells (cur.setIfInBounds a v) e (0, 0)) := by
  simp only [World.setCell, Array.getElem?_modify, if_true]
  rw [h]
  rfl
theorem block_cell {w : World} {g : Nat} {cur : Array Value} {e : TypeId} (h : w.heap[g]? = some (.cells cur e (0, 0))) (k : Nat) : w.cell? ⟨g, k, none⟩ = cur[k]? ∧ w.frozen? ⟨g, k, none⟩ = false := by
  simp [World.cell?, World.frozen?, h]
/- the first i elements of ms, the rest of xs -/
def mixL {α : Type} (ms xs : List α) (i : Nat) : List α := ms.take i ++ xs.drop i
section
variable {α : Type} {ms xs : List α}
theorem mixL_len (h : ms.length = xs.length) (i : Nat) (hi : i ≤ xs.length) : (mixL ms xs i).length = xs.length := by simp [mixL]; omega
theorem mixL_zero : mixL ms xs 0 = xs := by simp [mixL]
theorem mixL_all (h : ms.length = xs.length) : mixL ms xs xs.length = ms := by simp [mixL, List.take_of_length_le, h]
theorem mixL_here (h : ms.length = xs.length) (i : Nat) (hi : i < xs.length) (h2 : i < (mixL ms xs i).length) : (mixL ms xs i)[i] = xs[i] := by
  have e : (mixL ms xs i)[i]? = xs[i]? := by
    rw [mixL, List.getElem?_append_right (by simp; omega)]
    simp [h, Nat.min_eq_left (Nat.le_of_lt hi)]
  rw [List.getElem?_eq_getElem h2, List.getElem?_eq_getElem hi] at e
  exact Option.some.inj e
theorem mixL_step (h : ms.length = xs.length) (i : Nat) (hi : i < xs.length) (m : α) (hm : ms[i]? = some m) : mixL ms xs (i + 1) = (mixL ms xs i).set i m := by
  apply List.ext_getElem?
  intro j
  rw [List.getElem?_set, mixL_len h i (by omega)]
  unfold mixL
  by_cases hj : i = j
  · subst hj
    rw [if_pos rfl, if_pos hi, List.getElem?_append_left (by simp; omega), List.getElem?_take, if_pos (by omega), hm]
  · rw [if_neg hj]
    rcases Nat.lt_or_ge j i with hlt | hge
    · rw [List.getElem?_append_left (by simp; omega), List.getElem?_append_left (by simp; omega), List.getElem?_take, List.getElem?_take, if_pos (by omega), if_pos hlt]
    · rw [List.getElem?_append_right (by simp; omega), List.getElem?_append_right (by simp; omega), List.getElem?_drop, List.getElem?_drop]
      simp only [List.length_take, h]
      congr 1
      omega
end

/- how many cells -/
def sumN (xs : List NF) : Nat := (xs.map fun x => x.2.length).sum
theorem sumN_snoc (xs : List NF) (x : NF) : sumN (xs ++ [x]) = sumN xs + x.2.length := by simp [sumN]
theorem sumN_take (xs : List NF) (k : Nat) (h : k < xs.length) : sumN (xs.take (k + 1)) = sumN (xs.take k) + xs[k].2.length := by
  rw [List.take_add_one, List.getElem?_eq_getElem h]; exact sumN_snoc _ _
theorem sumN_le (xs : List NF) (k : Nat) : sumN (xs.take k) ≤ sumN xs := by
  have : sumN xs = sumN (xs.take k) + sumN (xs.drop k) := by
    conv => lhs; rw [← List.take_append_drop k xs]
    simp [sumN, -List.take_append_drop]
  omega
theorem sumN_mem {xs : List NF} {x : NF} (h : x ∈ xs) : x.2.length ≤ sumN xs := by
  induction xs with
  | nil => cases h
  | cons y ys ih =>
    rcases List.mem_cons.1 h with rfl | h
    · simp [sumN]
    · have := ih h; simp [sumN] at this ⊢; omega
def szN (xs : List NF) : Nat := xs.length + sumN xs

section
open Go.ChangeShapes Go.WideShapes Go.ChangeAt Go.Deep
variable {H : Type} {enc : TypeId × Value → H} {P : Program} {w : World} {base : Nat} {spare : Nat → Bool} {held : Bool}
theorem open_slice_fields {t e : TypeId} {fs : Array Field} {fuel : Nat} {cs : List Value} {x : DataW H × List MemPlace} (ht : P.underlying t = some (.slice e)) (he : P.underlying e = some (.struct fs))
    (hone : oneCellFields P fs = true) (hC : P.cellsOf e = fs.size) (h : DataW.trod enc P w base spare held fuel t cs = some x) :
    (cs = [.slice none 0 0] ∧ x = (.nil, [])) ∨
    ∃ (a : Addr) (len cap m : Nat) (D : Nat → DataW H) (Pl : Nat → List MemPlace), cs = [.slice (some a) len cap] ∧ base ≤ a.block ∧ len ≤ cap ∧ cap ≤ maxLen ∧ m = (if spare a.block then cap else len) ∧
      x = (.slice ((List.range len).map D) ((List.range (m - len)).map fun j => D (len + j)), MemPlace.row a (m * fs.size) ++ (List.range m).flatMap Pl) ∧
      ∀ i, i < m → ∃ (ys : List (DataW H × List MemPlace)) (n : Nat), D i = .agg (ys.map (·.1)) ∧ Pl i = ys.flatMap (·.2) ∧ ys.length = fs.size ∧
        ∀ (j : Nat) (f : Field), fs[j]? = some f → ∃ (v : Value) (y : DataW H × List MemPlace), w.cell? (a.add (i * fs.size + j)) = some v ∧ ys[j]? = some y ∧ DataW.trod enc P w base spare held n f.type [v] = some y := by
  rcases open_slice ht h with h0 | ⟨a, len, cap, m, n, D, Pl, hcs, hb, hl, hm, hmm, hx, hi⟩
  · exact .inl h0
  · refine .inr ⟨a, len, cap, m, D, Pl, hcs, hb, hl, hm, hmm, by rw [hC] at hx; exact hx, fun i him => ?_⟩
    obtain ⟨cs', hc, ht'⟩ := hi i him
    rw [hC] at hc
    obtain ⟨ys, n', hn', hy, hlen, hyl, hf⟩ := DataW.trod_struct he ht'
    obtain ⟨_, hcl, hat⟩ := World.cells?_some hc
    simp only [Prod.mk.injEq] at hy
    refine ⟨ys, n', hy.1, hy.2, hyl, fun j f hj => ?_⟩
    obtain ⟨ho, hk⟩ := hone_of hone j f hj
    have hjl : j < fs.size := (Array.getElem?_eq_some_iff.1 hj).1
    have hcell := hat j hjl
    have hv : cs'[j]? = some (cs'[j]'(by omega)) := List.getElem?_eq_getElem (by omega)
    have h1 := hf j f hj
    rw [ho, hk] at h1
    have hone' : (cs'.drop j).take 1 = [cs'[j]'(by omega)] := by
      rw [List.drop_eq_getElem_cons (by omega)]
      rfl
    rw [hone'] at h1
    have hys : ys[j]? = some (ys[j]'(by omega)) := List.getElem?_eq_getElem (by omega)
    refine ⟨_, _, ?_, hys, h1.trans hys⟩
    rw [← Go.Deep.add_add, hcell, hv]
/- A slice of bytes at one cell of what came in. -/
theorem open_bytes_cell {t e : TypeId} {n : Nat} {v : Value} {y : DataW H × List MemPlace} (ht : P.underlying t = some (.slice e)) (he : P.underlying e = some (.int .u8)) (hc : P.cellsOf e = 1) (h : DataW.trod enc P w base (fun _ => true) held n t [v] = some y) :
    ∃ (A : Option Addr) (c : Nat) (xs : List Int), v = .slice A xs.length c ∧ xs.length ≤ 9223372036854775807 ∧ Rw false .u8 w (fun g => g < w.heap.size) A xs ∧ ∀ x ∈ xs, 0 ≤ x ∧ x ≤ 255 := by
  rcases open_ints ht he hc h with ⟨hcs, _⟩ | ⟨x, l, c', zs, hcs, _, hl, hm, hz, _, hcell, hwz⟩
  · simp at hcs
    subst hcs
    exact ⟨none, 0, [], rfl, by simp, Rw.nil, by simp⟩
  · simp at hcs hz
    subst hcs
    have hlen : (zs.take l).length = l := by rw [List.length_take]; omega
    refine ⟨some x, c', zs.take l, by rw [hlen], by rw [hlen]; unfold maxLen at hm; omega, ?_, fun y hy => bounds_u8 (hwz y (List.mem_of_mem_take hy))⟩
    intro k hk
    rw [hlen] at hk
    obtain ⟨b, off, rfl, hat⟩ := ints_at hcell (by omega)
    have := hat k (by omega)
    refine ⟨b, off, rfl, lt_of_cell this, lt_of_cell this, ?_, fun h => by cases h⟩
    rw [this, List.getElem_take]
    simp [List.getD, List.getElem?_eq_getElem (show k < zs.length by omega)]
/- A slice of numbered frames at one cell of what came in. -/
theorem open_nfs {t e t0 t1 q : TypeId} {f0 f1 : Field} {n : Nat} {v : Value} {y : DataW H × List MemPlace} (ht : P.underlying t = some (.slice e)) (he : P.underlying e = some (.struct #[f0, f1])) (hone : oneCellFields P #[f0, f1] = true) (hC : P.cellsOf e = 2)
    (h0 : P.underlying f0.type = some (.int .i64)) (h1 : P.underlying f1.type = some (.slice q)) (hq : P.underlying q = some (.int .u8)) (hcq : P.cellsOf q = 1) (h : DataW.trod enc P w base (fun _ => true) held n t [v] = some y) :
    ∃ (A : Option Addr) (c : Nat) (xs : List NF), v = .slice A xs.length c ∧ xs.length ≤ 9223372036854775807 ∧ Sl false 2 (EN false) w (fun g => g < w.heap.size) A xs ∧ ∀ x ∈ xs, I64 x.1 ∧ x.2.length ≤ 9223372036854775807 ∧ ∀ z ∈ x.2, 0 ≤ z ∧ z ≤ 255 := by
  rcases open_slice_fields ht he hone hC h with ⟨hcs, _⟩ | ⟨a, len, cap, m, D, Pl, hcs, _, hl, hm, hmm, _, hrow⟩
  · simp at hcs
    subst hcs
    exact ⟨none, 0, [], rfl, by simp, Sl.nil, by simp⟩
  · simp only [if_true] at hmm
    subst hmm
    simp at hcs
    subst hcs
    have each : ∀ r, r < len → ∃ p : NF × Option Addr × Nat, w.cell? (a.add (r * 2)) = some (.int .i64 p.1.1) ∧ I64 p.1.1 ∧ w.cell? (a.add (r * 2 + 1)) = some (.slice p.2.1 p.1.2.length p.2.2) ∧ p.1.2.length ≤ 9223372036854775807 ∧ Rw false .u8 w (fun g => g < w.heap.size) p.2.1 p.1.2 ∧ ∀ z ∈ p.1.2, 0 ≤ z ∧ z ≤ 255 := by
      intro r hr
      obtain ⟨ys, n', _, _, _, hf⟩ := hrow r (by omega)
      obtain ⟨v0, y0, hc0, _, ht0⟩ := hf 0 f0 rfl
      obtain ⟨v1, y1, hc1, _, ht1⟩ := hf 1 f1 rfl
      obtain ⟨s, hs0, _, hs2⟩ := DataW.trod_int h0 ht0
      simp only [List.cons.injEq, and_true] at hs0
      subst hs0
      obtain ⟨A, c, xs, rfl, q1, q2, q3⟩ := open_bytes_cell h1 hq hcq ht1
      exact ⟨((s, xs), A, c), hc0, bounds_i64 hs2, hc1, q1, q2, q3⟩
    obtain ⟨p, hp⟩ := choose_lt each
    refine ⟨some a, m, (List.range len).map fun r => (p r).1, by simp, by simp; unfold maxLen at hm; omega, ?_, ?_⟩
    · intro hne
      have hn : 0 < len := by
        rcases Nat.eq_zero_or_pos len with h | h
        · subst h; simp at hne
        · exact h
      have h00 := (hp 0 hn).1
      rw [Nat.zero_mul] at h00
      have hspot := World.cell?_spot h00
      obtain ⟨b, off, sp⟩ := a
      have : sp = none := by simpa [Addr.add] using hspot
      subst this
      have hcell : ∀ j v, w.cell? ((⟨b, off, none⟩ : Addr).add j) = some v → w.cell? ⟨b, off + j, none⟩ = some v := fun j v h => by rwa [Go.WideShapes.add_plain] at h
      have hb := lt_of_cell (hcell _ _ h00)
      refine ⟨b, off, fun _ k => k < w.heap.size, rfl, hb, ⟨hb, fun _ _ h => h, fun h => by cases h⟩, fun k hk => ?_⟩
      simp only [List.length_map, List.length_range] at hk
      obtain ⟨q1, q2, q3, q4, q5, q6⟩ := hp k hk
      simp only [List.getElem_map, List.getElem_range]
      exact ⟨hcell _ _ q1, fun h => (by cases h), (p k).2.1, (p k).2.2, hcell _ _ q3, fun h => (by cases h), q5⟩
    · intro x hx
      simp only [List.mem_map, List.mem_range] at hx
      obtain ⟨k, hk, rfl⟩ := hx
      obtain ⟨q1, q2, q3, q4, q5, q6⟩ := hp k hk
      exact ⟨q2, q4, q6⟩
end

end Go.Proofs.Ytnfgdgmmbddmgaa
