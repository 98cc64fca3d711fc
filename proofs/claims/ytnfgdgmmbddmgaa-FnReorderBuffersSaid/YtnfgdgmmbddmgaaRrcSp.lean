/- ReceiveNumbered of the reference: the plain part. -/
import Derived.Test.YtnfgdgmmbddmgaaRrcP
import Derived.Test.YtnfgdgmmbddmgaaRsum
import Derived.Test.YtnfgdgmmbddmgaaHeldL
import Derived.Test.YtnfgdgmmbddmgaaOwW
namespace Go.Proofs.Ytnfgdgmmbddmgaa
open Go.RowKit
set_option linter.unusedVariables false
set_option linter.unusedSimpArgs false


theorem insS_hit (st : Int) (f : NF) : ∀ (ys : List NF) (k : Nat) {x : NF}, ys[k]? = some x → x.1 = f.1 → ¬ seqD st x.1 < seqD st f.1 → (∀ j y, j < k → ys[j]? = some y → seqD st y.1 < seqD st f.1) → insS st f ys = none
  | [], k, x, h, _, _, _ => by simp at h
  | y :: ys, 0, x, h, h1, h2, _ => by
    injection h with h
    subst h
    rw [insS, if_neg h2, if_pos h1]
  | y :: ys, k + 1, x, h, h1, h2, h3 => by
    rw [insS, if_pos (h3 0 y (by omega) rfl), insS_hit st f ys k (by simpa using h) h1 h2 (fun j z hj hz => h3 (j + 1) z (by omega) (by simpa using hz))]
    rfl
theorem insS_miss (st : Int) (f : NF) : ∀ (ys : List NF) (k : Nat), k ≤ ys.length → (∀ j y, j < k → ys[j]? = some y → seqD st y.1 < seqD st f.1) → (∀ x, ys[k]? = some x → ¬ seqD st x.1 < seqD st f.1 ∧ ¬ x.1 = f.1) → insS st f ys = some (ys.take k ++ f :: ys.drop k)
  | [], k, hk, _, _ => by simp [insS]
  | y :: ys, 0, _, _, h => by
    have := h y rfl
    rw [insS, if_neg this.1, if_neg this.2]
    rfl
  | y :: ys, k + 1, hk, h3, h => by
    rw [insS, if_pos (h3 0 y (by omega) rfl), insS_miss st f ys k (by simpa using hk) (fun j z hj hz => h3 (j + 1) z (by omega) (by simpa using hz)) (fun x hx => h x (by simpa using hx))]
    rfl


end Go.Proofs.Ytnfgdgmmbddmgaa
