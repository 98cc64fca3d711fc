/- IsValidPowerBuffer: the plain part. -/
import Derived.Test.YtbfbjkcmehalhaaPtim
namespace Go.Proofs.Ytbfbjkcmehalhaa
open Go.RowKit
set_option linter.unusedVariables false
set_option linter.unusedSimpArgs false

def shortL (f : List (List Int)) : Bool := f.all fun x => decide (x.length ≤ 100)
def okK (b : Int) (x : KT) : Bool := inR x.st 0 15 && (decide (b < x.st) && (decide (0 ≤ x.lo) && (decide (x.fr.length ≤ 6) && ((x.az || decide (x.fr.length = 0)) && shortL x.fr))))
def vChK : Int → List KT → Bool
  | _, [] => true
  | b, x :: xs => okK b x && vChK x.st xs
theorem okK_mk (b s : Int) (a : Bool) (f : List (List Int)) (l : Int) : okK b ⟨s, a, f, l⟩ = (inR s 0 15 && (decide (b < s) && (decide (0 ≤ l) && (decide (f.length ≤ 6) && ((a || decide (f.length = 0)) && shortL f))))) := rfl
theorem l1In_qb (n lo hi : Int) (b : Bool) (h : inR n lo hi = b) (w : World) :
    Calls Try.prog 34 #[.int .i64 n, .int .i64 lo, .int .i64 hi] w fun e w' => e = .returned (.bool b) ∧ w' = w :=
  (l1In_any n lo hi w).mono fun _ _ ⟨a, b⟩ => ⟨by rw [a, h], b.symm⟩
theorem shortL_drop {f : List (List Int)} {j : Nat} (h : j < f.length) : shortL (f.drop j) = (decide (f[j].length ≤ 100) && shortL (f.drop (j + 1))) := by
  rw [List.drop_eq_getElem_cons h]; rfl
end Go.Proofs.Ytbfbjkcmehalhaa
