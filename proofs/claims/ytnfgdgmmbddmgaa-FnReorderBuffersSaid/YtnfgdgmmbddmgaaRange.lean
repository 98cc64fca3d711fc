/- The contracts of the two range tests. -/
import Derived.Test.YtnfgdgmmbddmgaaProg
import Derived.WalkKit
import Derived.WalkSpells
import Derived.WalkLawsBesides
import Derived.Handy
import Derived.Lib.Hide
import Derived.Deep.QuietTactic
import Derived.BigQuiet
namespace Go.Proofs.Ytnfgdgmmbddmgaa
open Go.RowKit

def I64 (n : Int) : Prop := -9223372036854775808 ≤ n ∧ n ≤ 9223372036854775807

def inR (n lo hi : Int) : Bool := decide (lo ≤ n ∧ n ≤ hi)
theorem inR_true {n lo hi : Int} (h : inR n lo hi = true) : lo ≤ n ∧ n ≤ hi := of_decide_eq_true h
theorem inR_false {n lo hi : Int} (h : inR n lo hi = false) : ¬ (lo ≤ n ∧ n ≤ hi) := of_decide_eq_false h
theorem inR_of {n lo hi : Int} (h : lo ≤ n ∧ n ≤ hi) : inR n lo hi = true := decide_eq_true h
theorem inR_not {n lo hi : Int} (h : ¬ (lo ≤ n ∧ n ≤ hi)) : inR n lo hi = false := decide_eq_false h

theorem bcell {W w1 : World} (hb : Below W.heap.size W w1) : (∀ b o, b < W.heap.size → w1.cell? ⟨b, o, none⟩ = W.cell? ⟨b, o, none⟩) ∧ (∀ b o, b < W.heap.size → w1.frozen? ⟨b, o, none⟩ = W.frozen? ⟨b, o, none⟩) :=
  ⟨fun b o h => hb.cell (p := ⟨b, o, none⟩) h, fun b o h => hb.frozen (p := ⟨b, o, none⟩) h⟩

/- A world that a contract leaves, written out: what was there, new blocks behind it. So stores and loads of the caller's own blocks go on by the walk's own rules. -/
def World.ext (w : World) (X : List Obj) (d : Nat) : World := { w with heap := w.heap ++ X.toArray, drawn := d }
theorem Below.ext_ {w w' : World} (h : Below w.heap.size w w') : ∃ X d, w' = World.ext w X d := by
  refine ⟨(w'.heap.extract w.heap.size w'.heap.size).toList, w'.drawn, ?_⟩
  have hh : w'.heap = w.heap ++ w'.heap.extract w.heap.size w'.heap.size := by
    apply Array.ext_getElem?
    intro i
    have hs := h.size
    by_cases hi : i < w.heap.size
    · rw [h.block i hi, Array.getElem?_append_left hi]
    · rw [Array.getElem?_append_right (by omega), Array.getElem?_extract]
      by_cases h2 : i < w'.heap.size
      · rw [if_pos (by omega)]
        congr 1
        omega
      · rw [if_neg (by omega), Array.getElem?_eq_none (by omega)]
  obtain ⟨hp, tp, dr, os, ou⟩ := w'
  simp only [World.ext, Array.toArray_toList]
  have e1 := h.os; have e2 := h.tape; have e3 := h.output
  simp only at e1 e2 e3 hh
  subst e1 e2 e3
  exact congrArg (fun H => _root_.Go.World.mk H w.tape dr w.os w.output) hh
section
variable (w : World) (X : List Obj) (d b i : Nat) (v : Value)
@[simp, go_sem] theorem World.size_ext : (World.ext w X d).heap.size = w.heap.size + X.length := by simp [World.ext]
@[go_sem] theorem World.cell?_ext (h : b < w.heap.size) : (World.ext w X d).cell? ⟨b, i, none⟩ = w.cell? ⟨b, i, none⟩ := by
  simp only [World.cell?, World.ext, Array.getElem?_append_left h]
@[go_sem] theorem World.frozen?_ext (h : b < w.heap.size) : (World.ext w X d).frozen? ⟨b, i, none⟩ = w.frozen? ⟨b, i, none⟩ := by
  simp only [World.frozen?, World.ext, Array.getElem?_append_left h]
@[go_sem] theorem World.setCell_ext (h : b < w.heap.size) : (World.ext w X d).setCell ⟨b, i, none⟩ v = World.ext (w.setCell ⟨b, i, none⟩ v) X d := by
  simp only [World.setCell, World.ext, World.mk.injEq, and_true]
  apply Array.ext_getElem?
  intro k
  simp only [Array.getElem?_modify, Array.getElem?_append, Array.size_modify]
  by_cases hk : b = k
  · subst hk; simp [h]
  · simp [hk]
@[go_sem] theorem World.drew_ext : (World.ext w X d).drew = World.ext w X (d + 1) := rfl
@[go_sem] theorem World.drewN_ext (n : Nat) : (World.ext w X d).drewN n = World.ext w X (d + n) := rfl
@[go_sem] theorem World.ext_drewN (n : Nat) : World.ext (w.drewN n) X d = World.ext w X d := rfl
@[go_sem] theorem World.ext_drew : World.ext w.drew X d = World.ext w X d := rfl
end
@[go_sem] theorem lt_fam0 {a : Nat} : (a < a + 1) = True := eq_true (by omega)
@[go_sem] theorem lt_fam1 {a x0 : Nat} : (a < a + 1 + x0) = True := eq_true (by omega)
@[go_sem] theorem lt_fam2 {a x0 x1 : Nat} : (a < a + 1 + x0 + x1) = True := eq_true (by omega)
@[go_sem] theorem lt_fam3 {a x0 x1 x2 : Nat} : (a < a + 1 + x0 + x1 + x2) = True := eq_true (by omega)
@[go_sem] theorem lt_fam4 {a x0 x1 x2 x3 : Nat} : (a < a + 1 + x0 + x1 + x2 + x3) = True := eq_true (by omega)
@[go_sem] theorem lt_fam5 {a x0 x1 x2 x3 x4 : Nat} : (a < a + 1 + x0 + x1 + x2 + x3 + x4) = True := eq_true (by omega)
@[go_sem] theorem lt_fam6 {a x0 x1 x2 x3 x4 x5 : Nat} : (a < a + 1 + x0 + x1 + x2 + x3 + x4 + x5) = True := eq_true (by omega)
@[go_sem] theorem lt_fam7 {a x0 x1 x2 x3 x4 x5 x6 : Nat} : (a < a + 1 + x0 + x1 + x2 + x3 + x4 + x5 + x6) = True := eq_true (by omega)
@[go_sem] theorem lt_fam8 {a x0 x1 x2 x3 x4 x5 x6 x7 : Nat} : (a < a + 1 + x0 + x1 + x2 + x3 + x4 + x5 + x6 + x7) = True := eq_true (by omega)
@[go_sem] theorem lt_fam9 {a x0 x1 x2 x3 x4 x5 x6 x7 x8 : Nat} : (a < a + 1 + x0 + x1 + x2 + x3 + x4 + x5 + x6 + x7 + x8) = True := eq_true (by omega)
@[go_sem] theorem lt_fam10 {a x0 x1 x2 x3 x4 x5 x6 x7 x8 x9 : Nat} : (a < a + 1 + x0 + x1 + x2 + x3 + x4 + x5 + x6 + x7 + x8 + x9) = True := eq_true (by omega)
@[go_sem] theorem lt_fam11 {a x0 x1 x2 x3 x4 x5 x6 x7 x8 x9 x10 : Nat} : (a < a + 1 + x0 + x1 + x2 + x3 + x4 + x5 + x6 + x7 + x8 + x9 + x10) = True := eq_true (by omega)
@[go_sem] theorem lt_fam12 {a x0 x1 x2 x3 x4 x5 x6 x7 x8 x9 x10 x11 : Nat} : (a < a + 1 + x0 + x1 + x2 + x3 + x4 + x5 + x6 + x7 + x8 + x9 + x10 + x11) = True := eq_true (by omega)
theorem World.ext_alloc (w : World) (o : Obj) (X : List Obj) (d : Nat) : World.ext (w.alloc o) X d = World.ext w (o :: X) d := by
  simp only [World.ext, World.alloc, World.mk.injEq, and_true]
  apply Array.ext'
  simp
theorem World.heap_ext (w : World) (X : List Obj) (d b : Nat) (h : b < w.heap.size) : (World.ext w X d).heap[b]? = w.heap[b]? := by
  simp only [World.ext]; exact Array.getElem?_append_left h
theorem World.heap_new (w : World) (o : Obj) (n : Nat) (h : n = w.heap.size) : (w.alloc o).heap[n]? = some o := by
  subst h; show (w.heap.push o)[_]? = _; simp
theorem Below.drewN_ {B : Nat} {a w : World} (h : Below B a w) (n : Nat) : Below B a (w.drewN n) := ⟨h.os, h.tape, h.output, h.size, h.block⟩
theorem Below.ext {B : Nat} {a w : World} (h : Below B a w) (hB : B ≤ w.heap.size) (X : List Obj) (d : Nat) : Below B a (World.ext w X d) :=
  h.trans ⟨rfl, rfl, rfl, by simp, fun k hk => by simp only [World.ext]; exact Array.getElem?_append_left (by omega)⟩

/- The same world, some draws later. -/
def Dr (w w' : World) : Prop := ∃ m, w' = w.drewN m
theorem Dr.refl (w : World) : Dr w w := ⟨0, rfl⟩
theorem Dr.mk (w : World) (n : Nat) : Dr w (w.drewN n) := ⟨n, rfl⟩
theorem Dr.one (w : World) : Dr w w.drew := ⟨1, rfl⟩
theorem Dr.trans {a b c : World} (h : Dr a b) (k : Dr b c) : Dr a c := by
  obtain ⟨m, rfl⟩ := h
  obtain ⟨n, rfl⟩ := k
  exact ⟨m + n, by rw [World.drewN_drewN]⟩
theorem Dr.drewN {a w : World} (h : Dr a w) (n : Nat) : Dr a (w.drewN n) := h.trans (Dr.mk w n)
theorem Dr.drew {a w : World} (h : Dr a w) : Dr a w.drew := h.trans (Dr.one w)
theorem Dr.below {w w' : World} (h : Dr w w') : Below w.heap.size w w' := by
  obtain ⟨m, rfl⟩ := h
  exact ⟨rfl, rfl, rfl, Nat.le_refl _, fun _ _ => rfl⟩
theorem Dr.size {w w' : World} (h : Dr w w') : w'.heap.size = w.heap.size := by obtain ⟨m, rfl⟩ := h; rfl
theorem Dr.cell {w w' : World} (h : Dr w w') (p : Addr) : w'.cell? p = w.cell? p := by obtain ⟨m, rfl⟩ := h; rfl
theorem Dr.heap {w w' : World} (h : Dr w w') : w'.heap = w.heap := by obtain ⟨m, rfl⟩ := h; rfl

theorem inRange_any (n lo hi : Int) (w : World) :
    Calls Try.prog 60 #[.int .i64 n, .int .i64 lo, .int .i64 hi] w fun e w' => e = .returned (.bool (inR n lo hi)) ∧ w = w' := by
  unfold inR
  by_cases h1 : lo ≤ n <;> by_cases h2 : n ≤ hi
  all_goals
    go_enter Try.func60, Try.ntmps60
    go_wp2
    go_ret
    exact ⟨by simp [h1, h2], rfl⟩

theorem inRange_q (n lo hi : Int) (w : World) :
    Calls Try.prog 60 #[.int .i64 n, .int .i64 lo, .int .i64 hi] w fun e w' => e = .returned (.bool (inR n lo hi)) ∧ w' = w :=
  (inRange_any n lo hi w).mono fun _ _ ⟨a, b⟩ => ⟨a, b.symm⟩

theorem l1In_any (n lo hi : Int) (w : World) :
    Calls Try.prog 54 #[.int .i64 n, .int .i64 lo, .int .i64 hi] w fun e w' => e = .returned (.bool (inR n lo hi)) ∧ w = w' := by
  unfold inR
  by_cases h1 : lo ≤ n <;> by_cases h2 : n ≤ hi
  all_goals
    go_enter Try.func54, Try.ntmps54
    go_wp2
    go_ret
    exact ⟨by simp [h1, h2], rfl⟩

theorem l1In_q (n lo hi : Int) (w : World) :
    Calls Try.prog 54 #[.int .i64 n, .int .i64 lo, .int .i64 hi] w fun e w' => e = .returned (.bool (inR n lo hi)) ∧ w' = w :=
  (l1In_any n lo hi w).mono fun _ _ ⟨a, b⟩ => ⟨a, b.symm⟩

end Go.Proofs.Ytnfgdgmmbddmgaa
