/- PollFrame: the plain part; the first element taken off a slice. -/
import Derived.Test.YtbfbjkcmehalhaaPkb
namespace Go.Proofs.Ytbfbjkcmehalhaa
open Go.RowKit
set_option linter.unusedVariables false
set_option linter.unusedSimpArgs false

theorem Sl.uncons {α : Type} {sz : Nat} {R : Rel α} {w : World} {T : Nat → Prop} {A : Option Addr} {x : α} {xs : List α} (h : Sl true sz R w T A (x :: xs)) : ∃ g o F0, A = some ⟨g, o, none⟩ ∧ g < w.heap.size ∧ T g ∧ ¬ F0 g ∧ (∀ b, F0 b → T b) ∧ R w F0 g o x ∧ Sl true sz R w (fun b => T b ∧ ¬ F0 b) (some ⟨g, o + sz, none⟩) xs := by
  obtain ⟨g, o, F, hA, hg, hsep, he⟩ := h (by simp)
  refine ⟨g, o, F 0, hA, hg, hsep.1, (hsep.2.2 rfl).1 0, hsep.2.1 0, ?_, fun hn => ?_⟩
  · have := he 0 (by simp)
    rw [Nat.zero_mul, Nat.add_zero] at this
    exact this
  · refine ⟨g, o + sz, fun j => F (j + 1), rfl, hg, ⟨⟨hsep.1, (hsep.2.2 rfl).1 0⟩, fun j b hb => ⟨hsep.2.1 _ b hb, fun h0 => ?_⟩, fun _ => ⟨fun j => (hsep.2.2 rfl).1 _, fun i j b h1 h2 => ?_⟩⟩, fun j hj => ?_⟩
    · have := (hsep.2.2 rfl).2 _ _ b hb h0; omega
    · have := (hsep.2.2 rfl).2 _ _ b h1 h2; omega
    · have := he (j + 1) (by simpa using hj)
      rw [Nat.add_mul, Nat.one_mul] at this
      rw [show o + sz + j * sz = o + (j * sz + sz) by omega]
      exact this
/- s[1:] -/
theorem run_tail {P : Program} {t e : TypeId} (ht : P.underlying t = some (.slice e)) (hz : ∀ w, (Go.sizeOf e).run P w = .ok 1 w) (g o n m c : Nat) (hn : n = m + 1) (hc : n ≤ c) : ∃ A, (∀ W, (Instr.slice t (.slice (some ⟨g, o, none⟩) n c) (some (.int .i64 1)) none none).run P W = .ok (.slice A m (c - 1)) W) ∧ (0 < m → A = some ⟨g, o + 1, none⟩) := by
  have ht' : P.underlying t = some (.slice (P.elem t)) := by simp [Program.elem, ht]
  have he : P.elem t = e := by simp [Program.elem, ht]
  refine ⟨if c = 1 then some ⟨g, o, none⟩ else some ⟨g, o + 1, none⟩, fun W => ?_, fun hm => by rw [if_neg (by omega)]⟩
  rw [run_slice_l W t _ _ _ ht' .i64 1 (by omega) (by omega), he, hz]
  subst hn
  simp only [Result.andThen, sliced]
  by_cases h1 : c = 1
  · subst h1; simp
  · simp [h1, Addr.add]
def pollR (s : Int) (xs : List KT) : List KT × List Int × Bool × Bool :=
  match xs[(fV s xs).toNat]? with
  | none => (xs, [], false, false)
  | some x => if 0 ≤ fV s xs then (match x.fr with | [] => (xs, [], false, false) | f :: r => (xs.set (fV s xs).toNat ⟨x.st, x.az, r, x.lo⟩, f, decide (0 < r.length), true)) else (xs, [], false, false)
theorem pollR_no {s : Int} {xs : List KT} (h : fV s xs = -1) : pollR s xs = (xs, [], false, false) := by
  unfold pollR; rw [h]; split
  · rfl
  · rw [if_neg (by simp)]
theorem pollR_nil {s : Int} {xs : List KT} {i : Nat} (hi : i < xs.length) (h : fV s xs = (i : Int)) (ha : xs[i].fr = []) : pollR s xs = (xs, [], false, false) := by
  unfold pollR; rw [h, Int.toNat_natCast, List.getElem?_eq_getElem hi]
  simp [ha]
theorem pollR_yes {s : Int} {xs : List KT} {i : Nat} {f : List Int} {r : List (List Int)} (hi : i < xs.length) (h : fV s xs = (i : Int)) (ha : xs[i].fr = f :: r) : pollR s xs = (xs.set i ⟨xs[i].st, xs[i].az, r, xs[i].lo⟩, f, decide (0 < r.length), true) := by
  unfold pollR; rw [h, Int.toNat_natCast, List.getElem?_eq_getElem hi]
  simp [ha]
def PollV (A : Option Addr) (c : Nat) (B : Option Addr) (d : Nat) (r : List KT × List Int × Bool × Bool) : Value := .tuple #[.agg #[.slice A r.1.length c], .slice B r.2.1.length d, .bool r.2.2.1, .bool r.2.2.2]
def CpP (w : World) (r : List KT × List Int × Bool × Bool) (e : Ending) (w' : World) : Prop := ∃ A c B d T2, e = .returned (PollV A c B d r) ∧ Below w.heap.size w w' ∧ (∀ b, T2 b → w.heap.size ≤ b ∧ b < w'.heap.size) ∧
  Sl true 4 (EK true) w' (fun b => (w.heap.size ≤ b ∧ b < w'.heap.size) ∧ ¬ T2 b) A r.1 ∧ Rw true .u8 w' T2 B r.2.1

end Go.Proofs.Ytbfbjkcmehalhaa
