/-
  No cell of these rows narrows 'for every input' (looked for: loops, veiled, ifaces, maps, wideKeys, modest, calm, conditions, laid).
  DERIVED. THE GIVEN ROWS OF THIS SEAT. 5 by the template 'for every input the law returns true; each argument reads behind the call as it read before'; 0 by the template 'total and deterministic' (their statements: YtgplllomchbkdaaTotals.lean).
  GIVEN WITH THE SEED: the statements are not yours to turn. If you find one false, say at which input.
  Laid BY PROGRAM, IN A SANDBOX (cutbox-rows.mjs): the forced cells as the released guide's own fill.sh prints them over the translation 1c36ba119d516b6f… (all of the seat's roots in one cut). By AI agents, Wed Nov 11 2026. No macro, syntax, notation, axiom, sorry.
-/
import Derived.Test.YtgplllomchbkdaaChecked
import GoSem.Claim
import GoSem.ClaimJoined
import GoSem.ClaimMapViews
import Derived.JoinedTies
import Derived.KernelRfl
namespace Go.Proofs.Ytgplllomchbkdaa
/- THE CELL 'sum', in the pinned program and in every row, IS THE sha256 OF THE DUMP (.gsa) THAT YtgplllomchbkdaaProg.lean LOADS. Nothing in Lean hashes anything: it is a label: what it is worth is what the hold of that sum in a sandbox is worth. -/
noncomputable def Try.pinned : Pinned := { name := "ytgplllomchbkdaa", sum := "1c36ba119d516b6f0c3f56ec7687e8f11eb5c1b1ae2d2cd22f2defd1a29097a8", checked := Try.checked }
namespace Rows
def none {H : Type} : Left H := { results := [], args := [] }

/-- 'laws.FnExactParseDelimiter': WHATEVER THE INPUT: true; the input reads as it did. -/
def fnExactParseDelimiterSpec : ChangeSpec := { name := "fnExactParseDelimiter", fn := fun _ => fun
  | [d1, d2] => { results := [.lit (.bool true)], args := [d1, d2] }
  | _ => none }
def fnExactParseDelimiterRow : OpenClaim := { program := "ytgplllomchbkdaa", sum := "1c36ba119d516b6f0c3f56ec7687e8f11eb5c1b1ae2d2cd22f2defd1a29097a8", func := "loop.example/g00511/laws.FnExactParseDelimiter", spec := "fnExactParseDelimiter", apart := false }
def FnExactParseDelimiterSaid : Prop := fnExactParseDelimiterRow.holds Try.pinned (OpenSpec.ofChange fnExactParseDelimiterSpec)

/-- ITS FALSE NEIGHBOUR: 'it returns false'. Refute it at one input. -/
def fnExactParseDelimiterWrong : ChangeSpec := { name := "fnExactParseDelimiter", fn := fun _ => fun
  | [d1, d2] => { results := [.lit (.bool false)], args := [d1, d2] }
  | _ => none }
def FnExactParseDelimiterWrongFalsely : Prop := fnExactParseDelimiterRow.holds Try.pinned (OpenSpec.ofChange fnExactParseDelimiterWrong)

/-- 'laws.FnDamagedAggregates': WHATEVER THE INPUT: true; the input reads as it did. -/
def fnDamagedAggregatesSpec : ChangeSpec := { name := "fnDamagedAggregates", fn := fun _ => fun
  | [d] => { results := [.lit (.bool true)], args := [d] }
  | _ => none }
def fnDamagedAggregatesRow : OpenClaim := { program := "ytgplllomchbkdaa", sum := "1c36ba119d516b6f0c3f56ec7687e8f11eb5c1b1ae2d2cd22f2defd1a29097a8", func := "loop.example/g00511/laws.FnDamagedAggregates", spec := "fnDamagedAggregates", apart := false }
def FnDamagedAggregatesSaid : Prop := fnDamagedAggregatesRow.holds Try.pinned (OpenSpec.ofChange fnDamagedAggregatesSpec)

/-- ITS FALSE NEIGHBOUR: 'it returns false'. Refute it at one input. -/
def fnDamagedAggregatesWrong : ChangeSpec := { name := "fnDamagedAggregates", fn := fun _ => fun
  | [d] => { results := [.lit (.bool false)], args := [d] }
  | _ => none }
def FnDamagedAggregatesWrongFalsely : Prop := fnDamagedAggregatesRow.holds Try.pinned (OpenSpec.ofChange fnDamagedAggregatesWrong)

/-- 'laws.FnExactAggregateFrames': WHATEVER THE INPUT: true; the input reads as it did. -/
def fnExactAggregateFramesSpec : ChangeSpec := { name := "fnExactAggregateFrames", fn := fun _ => fun
  | [d] => { results := [.lit (.bool true)], args := [d] }
  | _ => none }
def fnExactAggregateFramesRow : OpenClaim := { program := "ytgplllomchbkdaa", sum := "1c36ba119d516b6f0c3f56ec7687e8f11eb5c1b1ae2d2cd22f2defd1a29097a8", func := "loop.example/g00511/laws.FnExactAggregateFrames", spec := "fnExactAggregateFrames", apart := false }
def FnExactAggregateFramesSaid : Prop := fnExactAggregateFramesRow.holds Try.pinned (OpenSpec.ofChange fnExactAggregateFramesSpec)

/-- ITS FALSE NEIGHBOUR: 'it returns false'. Refute it at one input. -/
def fnExactAggregateFramesWrong : ChangeSpec := { name := "fnExactAggregateFrames", fn := fun _ => fun
  | [d] => { results := [.lit (.bool false)], args := [d] }
  | _ => none }
def FnExactAggregateFramesWrongFalsely : Prop := fnExactAggregateFramesRow.holds Try.pinned (OpenSpec.ofChange fnExactAggregateFramesWrong)

/-- 'laws.FnAggregates': WHATEVER THE INPUT: true; the input reads as it did. -/
def fnAggregatesSpec : ChangeSpec := { name := "fnAggregates", fn := fun _ => fun
  | [d] => { results := [.lit (.bool true)], args := [d] }
  | _ => none }
def fnAggregatesRow : OpenClaim := { program := "ytgplllomchbkdaa", sum := "1c36ba119d516b6f0c3f56ec7687e8f11eb5c1b1ae2d2cd22f2defd1a29097a8", func := "loop.example/g00511/laws.FnAggregates", spec := "fnAggregates", apart := false }
def FnAggregatesSaid : Prop := fnAggregatesRow.holds Try.pinned (OpenSpec.ofChange fnAggregatesSpec)

/-- ITS FALSE NEIGHBOUR: 'it returns false'. Refute it at one input. -/
def fnAggregatesWrong : ChangeSpec := { name := "fnAggregates", fn := fun _ => fun
  | [d] => { results := [.lit (.bool false)], args := [d] }
  | _ => none }
def FnAggregatesWrongFalsely : Prop := fnAggregatesRow.holds Try.pinned (OpenSpec.ofChange fnAggregatesWrong)

/-- 'laws.FnExactSplitAggregate': WHATEVER THE INPUT: true; the input reads as it did. -/
def fnExactSplitAggregateSpec : ChangeSpec := { name := "fnExactSplitAggregate", fn := fun _ => fun
  | [d] => { results := [.lit (.bool true)], args := [d] }
  | _ => none }
def fnExactSplitAggregateRow : OpenClaim := { program := "ytgplllomchbkdaa", sum := "1c36ba119d516b6f0c3f56ec7687e8f11eb5c1b1ae2d2cd22f2defd1a29097a8", func := "loop.example/g00511/laws.FnExactSplitAggregate", spec := "fnExactSplitAggregate", apart := false }
def FnExactSplitAggregateSaid : Prop := fnExactSplitAggregateRow.holds Try.pinned (OpenSpec.ofChange fnExactSplitAggregateSpec)

/-- ITS FALSE NEIGHBOUR: 'it returns false'. Refute it at one input. -/
def fnExactSplitAggregateWrong : ChangeSpec := { name := "fnExactSplitAggregate", fn := fun _ => fun
  | [d] => { results := [.lit (.bool false)], args := [d] }
  | _ => none }
def FnExactSplitAggregateWrongFalsely : Prop := fnExactSplitAggregateRow.holds Try.pinned (OpenSpec.ofChange fnExactSplitAggregateWrong)

/- THE SECOND FORM. 'bulk': how many values and letters a reading holds, each counted each time it is reached (what is shared counts as often as it is met; a slice's spare places count too). A statement '..UptoSaid' is the law's where the arguments, and the package variables that the reading takes, are together of bulk at most 1048576: NARROWER than '..Said'. Prove '..Said' where nothing that the law and all that it calls make is longer than what came in: it says more and counts as full. Else prove '..UptoSaid'. A law counts once. -/
mutual
def uptoBulk {H : Type} : DataW H → Nat
  | .lit (.string bytes) => bytes.length + 1
  | .lit _ => 1
  | .nil => 1
  | .ptr d => uptoBulk d + 1
  | .slice elems spare => uptoBulkAll elems + uptoBulkAll spare + 1
  | .agg parts => uptoBulkAll parts + 1
  | .iface _ d => uptoBulk d + 1
  | .map entries => uptoBulkEntries entries + 1
  | .held _ => 1
def uptoBulkAll {H : Type} : List (DataW H) → Nat
  | [] => 0
  | d :: r => uptoBulk d + uptoBulkAll r
def uptoBulkEntries {H : Type} : List (Lit × DataW H) → Nat
  | [] => 0
  | x :: r => uptoBulkEntry x + uptoBulkEntries r
def uptoBulkEntry {H : Type} : Lit × DataW H → Nat
  | (.string bytes, d) => bytes.length + uptoBulk d + 1
  | (_, d) => uptoBulk d + 1
 end
def uptoSmall : (H : Type) → List (DataW H) → Bool := fun _ ds => decide (uptoBulkAll ds ≤ 1048576)
def OpenSpec.upto (s : _root_.Go.ChangeSpec) : _root_.Go.OpenSpec := { _root_.Go.OpenSpec.ofChange s with cond := some uptoSmall }

/-- 'laws.FnExactParseDelimiter', WHERE WHAT IT READS IS OF BULK AT MOST 1048576: true; the input reads as it did. -/
def fnExactParseDelimiterUptoRow : OpenClaim := { program := "ytgplllomchbkdaa", sum := "1c36ba119d516b6f0c3f56ec7687e8f11eb5c1b1ae2d2cd22f2defd1a29097a8", func := "loop.example/g00511/laws.FnExactParseDelimiter", spec := "fnExactParseDelimiter", apart := false, narrowed := true }
def FnExactParseDelimiterUptoSaid : Prop := fnExactParseDelimiterUptoRow.holds Try.pinned (OpenSpec.upto fnExactParseDelimiterSpec)

/-- 'laws.FnDamagedAggregates', WHERE WHAT IT READS IS OF BULK AT MOST 1048576: true; the input reads as it did. -/
def fnDamagedAggregatesUptoRow : OpenClaim := { program := "ytgplllomchbkdaa", sum := "1c36ba119d516b6f0c3f56ec7687e8f11eb5c1b1ae2d2cd22f2defd1a29097a8", func := "loop.example/g00511/laws.FnDamagedAggregates", spec := "fnDamagedAggregates", apart := false, narrowed := true }
def FnDamagedAggregatesUptoSaid : Prop := fnDamagedAggregatesUptoRow.holds Try.pinned (OpenSpec.upto fnDamagedAggregatesSpec)

/-- 'laws.FnExactAggregateFrames', WHERE WHAT IT READS IS OF BULK AT MOST 1048576: true; the input reads as it did. -/
def fnExactAggregateFramesUptoRow : OpenClaim := { program := "ytgplllomchbkdaa", sum := "1c36ba119d516b6f0c3f56ec7687e8f11eb5c1b1ae2d2cd22f2defd1a29097a8", func := "loop.example/g00511/laws.FnExactAggregateFrames", spec := "fnExactAggregateFrames", apart := false, narrowed := true }
def FnExactAggregateFramesUptoSaid : Prop := fnExactAggregateFramesUptoRow.holds Try.pinned (OpenSpec.upto fnExactAggregateFramesSpec)

/-- 'laws.FnAggregates', WHERE WHAT IT READS IS OF BULK AT MOST 1048576: true; the input reads as it did. -/
def fnAggregatesUptoRow : OpenClaim := { program := "ytgplllomchbkdaa", sum := "1c36ba119d516b6f0c3f56ec7687e8f11eb5c1b1ae2d2cd22f2defd1a29097a8", func := "loop.example/g00511/laws.FnAggregates", spec := "fnAggregates", apart := false, narrowed := true }
def FnAggregatesUptoSaid : Prop := fnAggregatesUptoRow.holds Try.pinned (OpenSpec.upto fnAggregatesSpec)

/-- 'laws.FnExactSplitAggregate', WHERE WHAT IT READS IS OF BULK AT MOST 1048576: true; the input reads as it did. -/
def fnExactSplitAggregateUptoRow : OpenClaim := { program := "ytgplllomchbkdaa", sum := "1c36ba119d516b6f0c3f56ec7687e8f11eb5c1b1ae2d2cd22f2defd1a29097a8", func := "loop.example/g00511/laws.FnExactSplitAggregate", spec := "fnExactSplitAggregate", apart := false, narrowed := true }
def FnExactSplitAggregateUptoSaid : Prop := fnExactSplitAggregateUptoRow.holds Try.pinned (OpenSpec.upto fnExactSplitAggregateSpec)

end Rows
end Go.Proofs.Ytgplllomchbkdaa
