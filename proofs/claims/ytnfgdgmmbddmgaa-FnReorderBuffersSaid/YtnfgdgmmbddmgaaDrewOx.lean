/- Draws with the world kept opaque: what a draw leaves alone. -/
import Derived.Test.YtnfgdgmmbddmgaaCurx
import Derived.Test.YtnfgdgmmbddmgaaMem
namespace Go.Proofs.Ytnfgdgmmbddmgaa
open Go.RowKit
set_option linter.unusedVariables false
set_option linter.unusedSimpArgs false

section
variable {w W W' : World} {g n cap : Nat} {A : Option Addr}
theorem Drew.chg_ (h : Drew w g A n cap W) : Chg (fun b => b = g) w W := by
  obtain ⟨i, h', X, d, rfl, _, _⟩ := h
  refine ⟨rfl, rfl, rfl, by simp, fun k hk hg => ?_⟩
  rw [World.heap_ext _ _ _ _ (by simpa using hk)]
  exact World.heap_put_ne _ _ _ _ hg
/- what is written behind the world's old end does not matter -/
theorem Drew.up (h : Drew w g A n cap W) (hc : Chg (fun b => w.heap.size ≤ b) W W') : Drew w g A n cap W' := by
  obtain ⟨i, h', X, d, rfl, h0, h1⟩ := h
  refine Drew.mk_put (i := i) (h := h') ?_ h0 h1
  have hs := hc.size
  simp only [World.size_ext, World.size_put] at hs
  refine ⟨hc.os, hc.tape, hc.output, by simp; omega, fun k hk => ?_⟩
  have hk' : k < (World.put w g (curO A n cap i h')).heap.size := by simpa using hk
  rw [hc.block k (by simp; omega) (by omega)]
  exact World.heap_ext _ _ _ _ hk'
theorem Drew.then_ (hcu : Cuu w g A n cap) (h : Drew w g A n cap W) (h2 : Drew W g A n cap W') : Drew w g A n cap W' := Drew.trans hcu.lt h h2
theorem Drew.below_ (h : Drew w g A n cap W) (hb : Below W.heap.size W W') (hl : w.heap.size ≤ W.heap.size) : Drew w g A n cap W' := h.up ((Chg.of_below (S := fun _ => False) hb).mono (fun _ _ h => h.elim))
theorem Drew.size_ (h : Drew w g A n cap W) : w.heap.size ≤ W.heap.size := h.chg_.size
end

end Go.Proofs.Ytnfgdgmmbddmgaa
