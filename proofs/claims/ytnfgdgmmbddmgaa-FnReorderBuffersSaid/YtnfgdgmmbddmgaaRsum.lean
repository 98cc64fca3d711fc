/- Sums over what MoveStart hands over; two contracts without draws. -/
import Derived.Test.YtnfgdgmmbddmgaaNFe
import Derived.Test.YtnfgdgmmbddmgaaNFm
import Derived.Test.YtnfgdgmmbddmgaaSSe
import Derived.Test.YtnfgdgmmbddmgaaSSm
import Derived.Test.YtnfgdgmmbddmgaaRmsS
namespace Go.Proofs.Ytnfgdgmmbddmgaa
open Go.RowKit
set_option linter.unusedVariables false
set_option linter.unusedSimpArgs false

theorem relR_sum : ∀ (ys : List NF) (st : Int) (bs : List (List Int)), sumL (relR st ys bs).2.2 + sumN (relR st ys bs).2.1 = sumL bs + sumN ys ∧ (relR st ys bs).2.2.length + (relR st ys bs).2.1.length = bs.length + ys.length
  | [], st, bs => ⟨rfl, rfl⟩
  | x :: xs, st, bs => by
    unfold relR
    split
    · have := relR_sum xs (seqN st) (bs ++ [x.2])
      rw [this.1, this.2]
      simp [sumL_snoc, sumN]; omega
    · exact ⟨rfl, rfl⟩
theorem movR_sum (st d : Int) : ∀ (ys : List NF) (bs : List (List Int)), sumL (movR st d ys bs).2 + sumN (movR st d ys bs).1 = sumL bs + sumN ys
  | [], bs => rfl
  | x :: xs, bs => by
    unfold movR
    split
    · rw [movR_sum st d xs]
      simp [sumL_snoc, sumN]; omega
    · rfl
theorem moveR_sum (st q : Int) (xs : List NF) : sumL (moveR st q xs).2.2 + sumN (moveR st q xs).2.1 = sumN xs ∧ (moveR st q xs).2.2.length + (moveR st q xs).2.1.length = xs.length := by
  unfold moveR
  split
  · have h1 := relR_sum (movR st (seqD st q) xs []).1 q (movR st (seqD st q) xs []).2
    have h2 := movR_sum st (seqD st q) xs []
    have h3 := movR_len st (seqD st q) xs []
    rw [h1.1, h1.2, h2, h3]
    simp [sumL]
  · simp [sumL]
theorem eqSSb {T1 T2 : Nat → Prop} (A B : Option Addr) (c1 c2 : Nat) (xs : List (List Int)) (w : World) (hx : Sl false 1 (EB false) w T1 A xs) (hy : Sl false 1 (EB false) w T2 B xs) (hm : xs.length ≤ 1000000000000) (hmx : ∀ x ∈ xs, x.length ≤ 1000000000000) :
    Calls Try.prog 17 #[.slice A xs.length c1, .slice B xs.length c2] w fun e w' => e = .returned (.bool true) ∧ Below w.heap.size w w' :=
  (eqByteSS_q A B c1 c2 xs xs w hx hy hm hm hmx hmx).mono fun _ _ ⟨h1, h2⟩ => ⟨by rw [h1]; simp, h2.below⟩
theorem heldSSb {T : Nat → Prop} (A : Option Addr) (n c : Nat) (xs : List (List Int)) (k : Int) (w : World) (hn : n = xs.length) (hx : Sl false 1 (EB false) w T A (marksSS k xs)) (hm : xs.length ≤ 1000000000000) (hs : sumL xs ≤ 1000000000000) (hk0 : 0 ≤ k) (hk1 : k ≤ 1000000000000) (hks : k + (sumL xs : Int) ≤ 1000000000000) :
    Calls Try.prog 21 #[.slice A n c, .int .i64 k] w fun e w' => e = .returned (.int .i64 (k + (sumL xs : Int))) ∧ Below w.heap.size w w' :=
  (heldByteSS_q A n c xs k w hn hx hm hs hk0 hk1 hks).mono fun _ _ ⟨h1, h2⟩ => ⟨h1, h2.below⟩

end Go.Proofs.Ytnfgdgmmbddmgaa
