/- What a call reads and writes: rows of integers at an address, and worlds that differ in a set of blocks alone. -/
import Derived.Test.YtnfgdgmmbddmgaaOwn
namespace Go.Proofs.Ytnfgdgmmbddmgaa
open Go.RowKit
set_option linter.unusedVariables false

/- A row of integers of kind K at the address A, its block in T; u: it may be written. -/
def Rw (u : Bool) (K : IntKind) (w : World) (T : Nat → Prop) (A : Option Addr) (xs : List Int) : Prop :=
  ∀ k (_ : k < xs.length), ∃ g o, A = some ⟨g, o, none⟩ ∧ T g ∧ g < w.heap.size ∧ w.cell? ⟨g, o + k, none⟩ = some (.int K xs[k]) ∧ (u = true → w.frozen? ⟨g, o + k, none⟩ = false)

/- Only blocks in S have changed, and what is new. -/
structure Chg (S : Nat → Prop) (w w' : World) : Prop where
  os : w'.os = w.os
  tape : w'.tape = w.tape
  output : w'.output = w.output
  size : w.heap.size ≤ w'.heap.size
  block : ∀ k, k < w.heap.size → ¬ S k → w'.heap[k]? = w.heap[k]?

theorem Chg.refl (S : Nat → Prop) (w : World) : Chg S w w := ⟨rfl, rfl, rfl, Nat.le_refl _, fun _ _ _ => rfl⟩
theorem Chg.trans {S : Nat → Prop} {a b c : World} (h : Chg S a b) (k : Chg S b c) : Chg S a c :=
  ⟨k.os.trans h.os, k.tape.trans h.tape, k.output.trans h.output, Nat.le_trans h.size k.size, fun i hi hs => (k.block i (Nat.lt_of_lt_of_le hi h.size) hs).trans (h.block i hi hs)⟩
theorem Chg.mono {S S' : Nat → Prop} {a b : World} (h : Chg S a b) (hs : ∀ k, k < a.heap.size → S k → S' k) : Chg S' a b :=
  ⟨h.os, h.tape, h.output, h.size, fun k hk hn => h.block k hk (fun hk' => hn (hs k hk hk'))⟩
theorem Chg.of_below {S : Nat → Prop} {a b : World} (h : Below a.heap.size a b) : Chg S a b := ⟨h.os, h.tape, h.output, h.size, fun k hk _ => h.block k hk⟩
theorem Chg.below {S : Nat → Prop} {a b : World} {B : Nat} (h : Chg S a b) (hB : B ≤ a.heap.size) (hs : ∀ k, S k → B ≤ k) : Below B a b :=
  ⟨h.os, h.tape, h.output, h.size, fun k hk => h.block k (by omega) (fun hk' => by have := hs k hk'; omega)⟩
theorem Chg.drewN_ {S : Nat → Prop} {a b : World} (h : Chg S a b) (n : Nat) : Chg S a (b.drewN n) := ⟨h.os, h.tape, h.output, h.size, h.block⟩
theorem Chg.setCell_ {S : Nat → Prop} {a b : World} (h : Chg S a b) {p : Addr} (hp : S p.block) (v : Value) : Chg S a (b.setCell p v) :=
  ⟨h.os, h.tape, h.output, by simpa [World.setCell] using h.size, fun k hk hn => (Below.heap_setCell b p v k (fun e => hn (e ▸ hp))).trans (h.block k hk hn)⟩
theorem Chg.cell {S : Nat → Prop} {a b : World} (h : Chg S a b) {p : Addr} (hp : p.block < a.heap.size) (hs : ¬ S p.block) : b.cell? p = a.cell? p := World.cell?_of_block (h.block p.block hp hs)
theorem Chg.frozen {S : Nat → Prop} {a b : World} (h : Chg S a b) {p : Addr} (hp : p.block < a.heap.size) (hs : ¬ S p.block) : b.frozen? p = a.frozen? p := World.frozen?_of_block (h.block p.block hp hs)

theorem Rw.frame {u : Bool} {K : IntKind} {w w' : World} {T S : Nat → Prop} {A : Option Addr} {xs : List Int} (h : Rw u K w T A xs) (hc : Chg S w w') (hd : ∀ k, T k → ¬ S k) : Rw u K w' T A xs := by
  intro k hk
  obtain ⟨g, o, h1, h2, h3, h4, h5⟩ := h k hk
  exact ⟨g, o, h1, h2, Nat.lt_of_lt_of_le h3 hc.size, (hc.cell h3 (hd g h2)).trans h4, fun hu => (hc.frozen h3 (hd g h2)).trans (h5 hu)⟩
theorem Rw.below {u : Bool} {K : IntKind} {w w' : World} {T : Nat → Prop} {A : Option Addr} {xs : List Int} (h : Rw u K w T A xs) (hb : Below w.heap.size w w') : Rw u K w' T A xs :=
  h.frame (S := fun _ => False) (Chg.of_below hb) (fun _ _ hf => hf)
theorem Rw.read {u : Bool} {K : IntKind} {w : World} {T : Nat → Prop} {A : Option Addr} {xs : List Int} (h : Rw u K w T A xs) : Rw false K w T A xs := by
  intro k hk
  obtain ⟨g, o, h1, h2, h3, h4, h5⟩ := h k hk
  exact ⟨g, o, h1, h2, h3, h4, fun hu => by cases hu⟩
theorem Rw.wider {u : Bool} {K : IntKind} {w : World} {T T' : Nat → Prop} {A : Option Addr} {xs : List Int} (h : Rw u K w T A xs) (hT : ∀ k, T k → T' k) : Rw u K w T' A xs := by
  intro k hk
  obtain ⟨g, o, h1, h2, h3⟩ := h k hk
  exact ⟨g, o, h1, hT g h2, h3⟩
theorem Rw.nil {u : Bool} {K : IntKind} {w : World} {T : Nat → Prop} {A : Option Addr} : Rw u K w T A [] := fun k hk => absurd hk (by simp)
/- A row that the call owns. -/
theorem Rw.of_own {w : World} {base : Nat} {e : TypeId} {K : IntKind} {A : Option Addr} {c : Nat} {xs : List Int} (h : w.ownsRow base e 1 (.slice A xs.length c) xs.length (xs.map (Value.int K))) : Rw true K w (fun g => base ≤ g ∧ A = some ⟨g, 0, none⟩) A xs := by
  intro k hk
  rcases h.2 with ⟨h0, h1⟩ | ⟨g, cap, cur, hv, hb, hg, hr⟩
  · omega
  · injection hv with hA _ _
    subst hA
    have hlt : g < w.heap.size := by
      rcases Nat.lt_or_ge g w.heap.size with h | h
      · exact h
      · rw [Array.getElem?_eq_none h] at hg; cases hg
    refine ⟨g, 0, rfl, ⟨hb, rfl⟩, hlt, ?_, fun _ => by simp [World.frozen?, hg]⟩
    have hc := h.cells (g := g) rfl k (.int K xs[k]) (by simp [List.getElem?_eq_getElem hk])
    rw [Nat.zero_add]
    simpa [go_sem] using hc

theorem setCell_cell {w : World} {g o k j : Nat} {v x u : Value} (hx : w.cell? ⟨g, o + j, none⟩ = some x) (hu : w.cell? ⟨g, o + k, none⟩ = some u) :
    (w.setCell ⟨g, o + k, none⟩ v).cell? ⟨g, o + j, none⟩ = some (if j = k then v else x) := by
  by_cases h : j = k
  · subst h
    rw [if_pos rfl, World.cell?_setCell_same _ _ _ hu]
  · rw [if_neg h, World.cell?_setCell_other _ _ _ _ (fun e => h (by injection e with _ e2; omega)), hx]

end Go.Proofs.Ytnfgdgmmbddmgaa
