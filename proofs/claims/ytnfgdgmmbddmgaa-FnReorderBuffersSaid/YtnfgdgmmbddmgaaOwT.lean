/- Own rows of structs: more lemmas; the first element taken off; numbered frames may be moved. -/
import Derived.Test.YtnfgdgmmbddmgaaOwS
import Derived.Test.YtnfgdgmmbddmgaaOwN
import Derived.Test.YtnfgdgmmbddmgaaNF
import Derived.Test.YtnfgdgmmbddmgaaCopy
namespace Go.Proofs.Ytnfgdgmmbddmgaa
open Go.RowKit
set_option linter.unusedVariables false
set_option linter.unusedSimpArgs false

theorem EN.mov {u : Bool} : Mov 2 (EN u) := by
  rintro w w' F g o g' o' x ⟨h1, h2, h3⟩ hs hg hF
  have e0 := hg 0 (by omega)
  refine ⟨e0.1.trans h1, fun _ => e0.2, EB.mov h3 hs (fun i hi => ?_) hF⟩
  obtain rfl : i = 0 := by omega
  exact hg 1 (by omega)
theorem Sl.mono {α : Type} {R R' : Rel α} {u : Bool} {sz : Nat} {w : World} {T : Nat → Prop} {A : Option Addr} {xs : List α} (h : Sl u sz R w T A xs) (hr : ∀ F g o x, R w F g o x → R' w F g o x) : Sl u sz R' w T A xs := by
  intro hn
  obtain ⟨g, o, F, hA, hg, hsep, he⟩ := h hn
  exact ⟨g, o, F, hA, hg, hsep, fun k hk => hr _ _ _ _ (he k hk)⟩
section
variable {α : Type} {R : Rel α} {u : Bool} {sz : Nat} {e : TypeId} {w w' : World} {T T' : Nat → Prop} {base g c : Nat} {A : Option Addr} {xs : List α}
theorem OwS.local_ (hL : Local sz R) (h : OwS u sz R e w T base A c xs) (hs : w.heap.size ≤ w'.heap.size) (hF : ∀ b, b < w.heap.size → T b → w'.heap[b]? = w.heap[b]?) (hA : ∀ a, A = some a → a.block < w.heap.size → w'.heap[a.block]? = w.heap[a.block]?) : OwS u sz R e w' T base A c xs := by
  obtain ⟨vs, F, h1, h2, h3, h4⟩ := h
  refine ⟨vs, F, OwS.row_keep h1 (fun g hg hlt => hA _ hg hlt), fun k b hb => ⟨(h2 k b hb).1, by have := (h2 k b hb).2.1; omega, (h2 k b hb).2.2⟩, h3, fun k hk => ?_⟩
  obtain ⟨g, hg, hr⟩ := h4 k hk
  have hlt : g < w.heap.size := by
    subst hg
    exact own_lt h1
  have hb := hA _ hg hlt
  exact ⟨g, hg, hL hr hs (fun i _ => ⟨World.cell?_of_block (a := ⟨g, k * sz + i, none⟩) hb, World.frozen?_of_block (a := ⟨g, k * sz + i, none⟩) hb⟩) (fun b hb' hf => hF b hb' (h2 k b hf).1)⟩
theorem OwS.widerT (h : OwS u sz R e w T base A c xs) (hT : ∀ b, T b → b < w.heap.size → T' b) : OwS u sz R e w T' base A c xs := by
  obtain ⟨vs, F, h1, h2, h3⟩ := h
  exact ⟨vs, F, h1, fun k b hb => ⟨hT b (h2 k b hb).1 (h2 k b hb).2.1, (h2 k b hb).2⟩, h3⟩
theorem OwS.slT (h : OwS u sz R e w T base A c xs) (hT : ∀ a, A = some a → T a.block) : Sl u sz R w T A xs := by
  obtain ⟨vs, F, h1, h2, h3, h4⟩ := h
  intro hn
  obtain ⟨g, hA, _⟩ := h4 0 (List.length_pos_iff.2 hn)
  subst hA
  refine ⟨g, 0, F, rfl, own_lt h1, ⟨hT _ rfl, fun k b hb => (h2 k b hb).1, fun hu => ⟨fun k hk => (h2 k g hk).2.2 _ rfl rfl, h3 hu⟩⟩, fun k hk => ?_⟩
  obtain ⟨g', hg, hr⟩ := h4 k hk
  injection hg with hg
  injection hg with hg
  subst hg
  rw [Nat.zero_add]
  exact hr
theorem OwS.cap (h : OwS u sz R e w T base (some ⟨g, 0, none⟩) c xs) : xs.length ≤ c := by
  obtain ⟨vs, F, h1, _⟩ := h
  rcases h1.2 with ⟨h0, _⟩ | ⟨g', cap', cur, hv, _, _, h3, _⟩
  · cases h0
  · injection hv with _ _ hc; omega
theorem OwS.of_sl {vs : List Value} (h1 : w.ownsRow base e sz (.slice (some ⟨g, 0, none⟩) xs.length c) xs.length vs) (h : Sl true sz R w T (some ⟨g, 0, none⟩) xs) (hT : ∀ b, T b → b < w.heap.size) : OwS true sz R e w T base (some ⟨g, 0, none⟩) c xs := by
  by_cases hn : xs = []
  · subst hn
    exact ⟨vs, fun _ _ => False, h1, fun _ _ h => h.elim, fun _ _ _ _ h => h.elim, fun k hk => absurd hk (by simp)⟩
  · obtain ⟨g', o', F, hA, hg, hsep, he⟩ := h hn
    injection hA with hA
    injection hA with e1 e2
    subst e1 e2
    refine ⟨vs, F, h1, fun k b hb => ⟨hsep.2.1 k b hb, hT b (hsep.2.1 k b hb), fun a ha => ?_⟩, fun _ => (hsep.2.2 rfl).2, fun k hk => ⟨g, rfl, ?_⟩⟩
    · injection ha with ha
      subst ha
      intro hbe
      simp only at hbe
      subst hbe
      exact (hsep.2.2 rfl).1 k hb
    · have := he k hk
      rwa [Nat.zero_add] at this
end
theorem Sl.uncons {α : Type} {sz : Nat} {R : Rel α} {w : World} {T : Nat → Prop} {A : Option Addr} {x : α} {xs : List α} (h : Sl true sz R w T A (x :: xs)) : ∃ g o F0, A = some ⟨g, o, none⟩ ∧ g < w.heap.size ∧ T g ∧ ¬ F0 g ∧ (∀ b, F0 b → T b) ∧ R w F0 g o x ∧ Sl true sz R w (fun b => T b ∧ ¬ F0 b) (some ⟨g, o + sz, none⟩) xs := by
  obtain ⟨g, o, F, hA, hg, hsep, he⟩ := h (by simp)
  refine ⟨g, o, F 0, hA, hg, hsep.1, (hsep.2.2 rfl).1 0, hsep.2.1 0, ?_, fun hn => ?_⟩
  · have := he 0 (by simp)
    rw [Nat.zero_mul, Nat.add_zero] at this
    exact this
  · refine ⟨g, o + sz, fun j => F (j + 1), rfl, hg, ⟨⟨hsep.1, (hsep.2.2 rfl).1 0⟩, fun j b hb => ⟨hsep.2.1 _ b hb, fun h0 => ?_⟩, fun _ => ⟨fun j => (hsep.2.2 rfl).1 _, fun i j b h1 h2 => ?_⟩⟩, fun j hj => ?_⟩
    · have := (hsep.2.2 rfl).2 _ _ b hb h0; omega
    · have := (hsep.2.2 rfl).2 _ _ b h1 h2; omega
    · have := he (j + 1) (by simpa using hj)
      rw [Nat.add_mul, Nat.one_mul] at this
      rw [show o + sz + j * sz = o + (j * sz + sz) by omega]
      exact this
/- s[1:] -/
theorem run_tail {P : Program} {t e : TypeId} (ht : P.underlying t = some (.slice e)) (hz : ∀ w, (Go.sizeOf e).run P w = .ok 1 w) (g o n m c : Nat) (hn : n = m + 1) (hc : n ≤ c) : ∃ A, (∀ W, (Instr.slice t (.slice (some ⟨g, o, none⟩) n c) (some (.int .i64 1)) none none).run P W = .ok (.slice A m (c - 1)) W) ∧ (0 < m → A = some ⟨g, o + 1, none⟩) := by
  have ht' : P.underlying t = some (.slice (P.elem t)) := by simp [Program.elem, ht]
  have he : P.elem t = e := by simp [Program.elem, ht]
  refine ⟨if c = 1 then some ⟨g, o, none⟩ else some ⟨g, o + 1, none⟩, fun W => ?_, fun hm => by rw [if_neg (by omega)]⟩
  rw [run_slice_l W t _ _ _ ht' .i64 1 (by omega) (by omega), he, hz]
  subst hn
  simp only [Result.andThen, sliced]
  by_cases h1 : c = 1
  · subst h1; simp
  · simp [h1, Addr.add]
theorem NewB.owr {w w' : World} {e : Ending} {xs : List Int} (h : NewB w e w' xs) : ∃ g c, e = .returned (.slice (some ⟨g, 0, none⟩) xs.length c) ∧ Below w.heap.size w w' ∧ OwR (Value.int .u8) 5 w' w.heap.size g c xs := by
  obtain ⟨g, c, X, d, h1, rfl, h3, h4⟩ := h
  exact ⟨g, c, h1, Below.ext (Below.refl _ _) (Nat.le_refl _) X d, h4⟩

theorem OwS.off_new {A : Option Addr} {g' n k : Nat} (h : A = some ⟨g', 0, none⟩ ∨ g' = n) (hA : Off A k) (hk : k < n) : Off (some ⟨g', 0, none⟩) k := by
  intro a ha
  injection ha with ha
  subst ha
  rcases h with h | h
  · exact hA _ h
  · simp only; omega
theorem Chg.row_cell {A : Option Addr} {w w' : World} (h : Chg (fun b => ∃ a, A = some a ∧ b = a.block) w w') {p : Addr} (hp : p.block < w.heap.size) (hA : Off A p.block) : w'.cell? p = w.cell? p ∧ w'.frozen? p = w.frozen? p :=
  ⟨h.cell hp (fun ⟨a, ha, hb⟩ => hA a ha hb), h.frozen hp (fun ⟨a, ha, hb⟩ => hA a ha hb)⟩

theorem chg_above {B : Nat} {a b : World} (h : Below B a b) (hB : B ≤ a.heap.size) : Chg (fun k => B ≤ k) a b := ⟨h.os, h.tape, h.output, h.size, fun k hk hn => h.block k (by omega)⟩

end Go.Proofs.Ytnfgdgmmbddmgaa
