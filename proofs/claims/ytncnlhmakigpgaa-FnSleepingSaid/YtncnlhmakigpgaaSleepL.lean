/- FnSleeping: contracts with the answers written out, plain facts. -/
import Derived.Test.YtncnlhmakigpgaaDrawT
import Derived.Test.YtncnlhmakigpgaaLawM
namespace Go.Proofs.Ytncnlhmakigpgaa
open Go.RowKit
set_option linter.unusedVariables false
set_option linter.unusedSimpArgs false

theorem befL {l b p : Int} {a g : Bool} {l' b' p' : Int} {a' g' : Bool} (h : sBefore ⟨l, a, b, p, g⟩ = ⟨l', a', b', p', g'⟩) (w : World) : Calls Try.prog 25 #[.agg #[.int .i64 l, .bool a, .int .i64 b, .int .i64 p, .bool g]] w fun e w' => e = .returned (.agg #[.int .i64 l', .bool a', .int .i64 b', .int .i64 p', .bool g']) ∧ Below w.heap.size w w' :=
  (implBefore_any ⟨l, a, b, p, g⟩ w).mono fun e w' ⟨h1, h2⟩ => ⟨by rw [h1, h], h2⟩
theorem misL {l b p : Int} {a g : Bool} {l' b' p' : Int} {a' g' : Bool} (h : sMissed ⟨l, a, b, p, g⟩ = ⟨l', a', b', p', g'⟩) (w : World) : Calls Try.prog 23 #[.agg #[.int .i64 l, .bool a, .int .i64 b, .int .i64 p, .bool g]] w fun e w' => e = .returned (.agg #[.int .i64 l', .bool a', .int .i64 b', .int .i64 p', .bool g']) ∧ Below w.heap.size w w' :=
  (implMissed_any ⟨l, a, b, p, g⟩ w).mono fun e w' ⟨h1, h2⟩ => ⟨by rw [h1, h], h2⟩
theorem wakL {l b p : Int} {a g : Bool} {n : Int} (h : sWakes ⟨l, a, b, p, g⟩ = n) (w : World) : Calls Try.prog 19 #[.agg #[.int .i64 l, .bool a, .int .i64 b, .int .i64 p, .bool g]] w fun e w' => e = .returned (.int .i64 n) ∧ Below w.heap.size w w' :=
  (implWakes_any ⟨l, a, b, p, g⟩ w).mono fun e w' ⟨h1, h2⟩ => ⟨by rw [h1, h], h2⟩
theorem trfL {l b p : Int} {a g : Bool} {l' b' p' : Int} {a' g' : Bool} {m q : Bool} (h : sTraffic ⟨l, a, b, p, g⟩ m = ⟨l', a', b', p', g'⟩) (hq : sTrafficB ⟨l, a, b, p, g⟩ m = q) (w : World) : Calls Try.prog 27 #[.agg #[.int .i64 l, .bool a, .int .i64 b, .int .i64 p, .bool g], .bool m] w fun e w' => e = .returned (.tuple #[.agg #[.int .i64 l', .bool a', .int .i64 b', .int .i64 p', .bool g'], .bool q]) ∧ Below w.heap.size w w' :=
  (implTraffic_any ⟨l, a, b, p, g⟩ m w).mono fun e w' ⟨h1, h2⟩ => ⟨by rw [h1, h, hq], h2⟩
theorem hearL {l b p : Int} {a g : Bool} {l' b' p' : Int} {a' g' : Bool} {bf bs bc bp bt self : Int} {bg vb tc q : Bool} (hv : vBeac bf bs bc bp bg bt = vb) (ht : timB bt self = tc) (h : sHear ⟨l, a, b, p, g⟩ vb bg tc = ⟨l', a', b', p', g'⟩) (hq : sHearB ⟨l, a, b, p, g⟩ vb tc = q) (w : World) :
    Calls Try.prog 30 #[.agg #[.int .i64 l, .bool a, .int .i64 b, .int .i64 p, .bool g], .agg #[.int .i64 bf, .int .i64 bs, .int .i64 bc, .int .i64 bp, .bool bg, .int .i64 bt], .int .i64 self] w fun e w' => e = .returned (.tuple #[.agg #[.int .i64 l', .bool a', .int .i64 b', .int .i64 p', .bool g'], .bool q]) ∧ Below w.heap.size w w' :=
  (implHear_any ⟨l, a, b, p, g⟩ bf bs bc bp bg bt self w).mono fun e w' ⟨h1, h2⟩ => ⟨by rw [h1, hv, ht, h, hq], h2⟩
theorem valL {l b p : Int} {a g : Bool} {q : Bool} (h : vSleep l a b p g = q) (w : World) : Calls Try.prog 14 #[.agg #[.int .i64 l, .bool a, .int .i64 b, .int .i64 p, .bool g]] w fun e w' => e = .returned (.bool q) ∧ Below w.heap.size w w' :=
  (implValid_any l a b p g w).mono fun e w' ⟨h1, h2⟩ => ⟨by rw [h1, h], h2⟩
theorem valS {l b p : Int} {a g : Bool} {q : Bool} (h : vSleep l a b p g = q) (w : World) : Calls Try.prog 12 #[.agg #[.int .i64 l, .bool a, .int .i64 b, .int .i64 p, .bool g]] w fun e w' => e = .returned (.bool q) ∧ Below w.heap.size w w' :=
  (specValid_any l a b p g w).mono fun e w' ⟨h1, h2⟩ => ⟨by rw [h1, h], h2⟩
theorem timL {f sl c p t st : Int} {gt q : Bool} (h : timB t st = q) (w : World) : Calls Try.prog 34 #[.agg #[.int .i64 f, .int .i64 sl, .int .i64 c, .int .i64 p, .bool gt, .int .i64 t], .int .i64 st] w fun e w' => e = .returned (.bool q) ∧ Below w.heap.size w w' :=
  (implTim_any f sl c p gt t st w).mono fun e w' ⟨h1, h2⟩ => ⟨by rw [h1, h], h2⟩

end Go.Proofs.Ytncnlhmakigpgaa
