/-
  No cell of these rows narrows 'for every input' (looked for: loops, veiled, ifaces, maps, wideKeys, modest, calm, conditions, laid).
  DERIVED. THE GIVEN ROWS OF THIS SEAT. 7 by the template 'for every input the law returns true; each argument reads behind the call as it read before'; 0 by the template 'total and deterministic' (their statements: YtbfbjkcmehalhaaTotals.lean).
  GIVEN WITH THE SEED: the statements are not yours to turn. If you find one false, say at which input.
  Laid BY PROGRAM, IN A SANDBOX (cutbox-rows.mjs): the forced cells as the released guide's own fill.sh prints them over the translation 0dbb5a98edc5a1f9… (all of the seat's roots in one cut). By AI agents, Wed Nov 11 2026. No macro, syntax, notation, axiom, sorry.
-/
import Derived.Test.YtbfbjkcmehalhaaChecked
import GoSem.Claim
import GoSem.ClaimJoined
import GoSem.ClaimMapViews
import Derived.JoinedTies
import Derived.KernelRfl
namespace Go.Proofs.Ytbfbjkcmehalhaa
/- THE CELL 'sum', in the pinned program and in every row, IS THE sha256 OF THE DUMP (.gsa) THAT YtbfbjkcmehalhaaProg.lean LOADS. Nothing in Lean hashes anything: it is a label: what it is worth is what the hold of that sum in a sandbox is worth. -/
noncomputable def Try.pinned : Pinned := { name := "ytbfbjkcmehalhaa", sum := "0dbb5a98edc5a1f9626b351d2627dc5da663be23c8a9ef355f80201d627dc937", checked := Try.checked }
namespace Rows
def none {H : Type} : Left H := { results := [], args := [] }

/-- 'laws.FnExactTimOf': WHATEVER THE INPUT: true; the input reads as it did. -/
def fnExactTimOfSpec : ChangeSpec := { name := "fnExactTimOf", fn := fun _ => fun
  | [d] => { results := [.lit (.bool true)], args := [d] }
  | _ => none }
def fnExactTimOfRow : OpenClaim := { program := "ytbfbjkcmehalhaa", sum := "0dbb5a98edc5a1f9626b351d2627dc5da663be23c8a9ef355f80201d627dc937", func := "loop.example/g00511/laws.FnExactTimOf", spec := "fnExactTimOf", apart := false }
def FnExactTimOfSaid : Prop := fnExactTimOfRow.holds Try.pinned (OpenSpec.ofChange fnExactTimOfSpec)

/-- ITS FALSE NEIGHBOUR: 'it returns false'. Refute it at one input. -/
def fnExactTimOfWrong : ChangeSpec := { name := "fnExactTimOf", fn := fun _ => fun
  | [d] => { results := [.lit (.bool false)], args := [d] }
  | _ => none }
def FnExactTimOfWrongFalsely : Prop := fnExactTimOfRow.holds Try.pinned (OpenSpec.ofChange fnExactTimOfWrong)

/-- 'laws.FnExactKeptFrames': WHATEVER THE INPUT: true; the input reads as it did. -/
def fnExactKeptFramesSpec : ChangeSpec := { name := "fnExactKeptFrames", fn := fun _ => fun
  | [d1, d2] => { results := [.lit (.bool true)], args := [d1, d2] }
  | _ => none }
def fnExactKeptFramesRow : OpenClaim := { program := "ytbfbjkcmehalhaa", sum := "0dbb5a98edc5a1f9626b351d2627dc5da663be23c8a9ef355f80201d627dc937", func := "loop.example/g00511/laws.FnExactKeptFrames", spec := "fnExactKeptFrames", apart := false }
def FnExactKeptFramesSaid : Prop := fnExactKeptFramesRow.holds Try.pinned (OpenSpec.ofChange fnExactKeptFramesSpec)

/-- ITS FALSE NEIGHBOUR: 'it returns false'. Refute it at one input. -/
def fnExactKeptFramesWrong : ChangeSpec := { name := "fnExactKeptFrames", fn := fun _ => fun
  | [d1, d2] => { results := [.lit (.bool false)], args := [d1, d2] }
  | _ => none }
def FnExactKeptFramesWrongFalsely : Prop := fnExactKeptFramesRow.holds Try.pinned (OpenSpec.ofChange fnExactKeptFramesWrong)

/-- 'laws.FnExactIsValidPowerBuffer': WHATEVER THE INPUT: true; the input reads as it did. -/
def fnExactIsValidPowerBufferSpec : ChangeSpec := { name := "fnExactIsValidPowerBuffer", fn := fun _ => fun
  | [d] => { results := [.lit (.bool true)], args := [d] }
  | _ => none }
def fnExactIsValidPowerBufferRow : OpenClaim := { program := "ytbfbjkcmehalhaa", sum := "0dbb5a98edc5a1f9626b351d2627dc5da663be23c8a9ef355f80201d627dc937", func := "loop.example/g00511/laws.FnExactIsValidPowerBuffer", spec := "fnExactIsValidPowerBuffer", apart := false }
def FnExactIsValidPowerBufferSaid : Prop := fnExactIsValidPowerBufferRow.holds Try.pinned (OpenSpec.ofChange fnExactIsValidPowerBufferSpec)

/-- ITS FALSE NEIGHBOUR: 'it returns false'. Refute it at one input. -/
def fnExactIsValidPowerBufferWrong : ChangeSpec := { name := "fnExactIsValidPowerBuffer", fn := fun _ => fun
  | [d] => { results := [.lit (.bool false)], args := [d] }
  | _ => none }
def FnExactIsValidPowerBufferWrongFalsely : Prop := fnExactIsValidPowerBufferRow.holds Try.pinned (OpenSpec.ofChange fnExactIsValidPowerBufferWrong)

/-- 'laws.FnExactEqualPowerBuffers': WHATEVER THE INPUT: true; the input reads as it did. -/
def fnExactEqualPowerBuffersSpec : ChangeSpec := { name := "fnExactEqualPowerBuffers", fn := fun _ => fun
  | [d1, d2] => { results := [.lit (.bool true)], args := [d1, d2] }
  | _ => none }
def fnExactEqualPowerBuffersRow : OpenClaim := { program := "ytbfbjkcmehalhaa", sum := "0dbb5a98edc5a1f9626b351d2627dc5da663be23c8a9ef355f80201d627dc937", func := "loop.example/g00511/laws.FnExactEqualPowerBuffers", spec := "fnExactEqualPowerBuffers", apart := false }
def FnExactEqualPowerBuffersSaid : Prop := fnExactEqualPowerBuffersRow.holds Try.pinned (OpenSpec.ofChange fnExactEqualPowerBuffersSpec)

/-- ITS FALSE NEIGHBOUR: 'it returns false'. Refute it at one input. -/
def fnExactEqualPowerBuffersWrong : ChangeSpec := { name := "fnExactEqualPowerBuffers", fn := fun _ => fun
  | [d1, d2] => { results := [.lit (.bool false)], args := [d1, d2] }
  | _ => none }
def FnExactEqualPowerBuffersWrongFalsely : Prop := fnExactEqualPowerBuffersRow.holds Try.pinned (OpenSpec.ofChange fnExactEqualPowerBuffersWrong)

/-- 'laws.FnExactDropStation': WHATEVER THE INPUT: true; the input reads as it did. -/
def fnExactDropStationSpec : ChangeSpec := { name := "fnExactDropStation", fn := fun _ => fun
  | [d1, d2] => { results := [.lit (.bool true)], args := [d1, d2] }
  | _ => none }
def fnExactDropStationRow : OpenClaim := { program := "ytbfbjkcmehalhaa", sum := "0dbb5a98edc5a1f9626b351d2627dc5da663be23c8a9ef355f80201d627dc937", func := "loop.example/g00511/laws.FnExactDropStation", spec := "fnExactDropStation", apart := false }
def FnExactDropStationSaid : Prop := fnExactDropStationRow.holds Try.pinned (OpenSpec.ofChange fnExactDropStationSpec)

/-- ITS FALSE NEIGHBOUR: 'it returns false'. Refute it at one input. -/
def fnExactDropStationWrong : ChangeSpec := { name := "fnExactDropStation", fn := fun _ => fun
  | [d1, d2] => { results := [.lit (.bool false)], args := [d1, d2] }
  | _ => none }
def FnExactDropStationWrongFalsely : Prop := fnExactDropStationRow.holds Try.pinned (OpenSpec.ofChange fnExactDropStationWrong)

/-- 'laws.FnExactPollFrame': WHATEVER THE INPUT: true; the input reads as it did. -/
def fnExactPollFrameSpec : ChangeSpec := { name := "fnExactPollFrame", fn := fun _ => fun
  | [d1, d2] => { results := [.lit (.bool true)], args := [d1, d2] }
  | _ => none }
def fnExactPollFrameRow : OpenClaim := { program := "ytbfbjkcmehalhaa", sum := "0dbb5a98edc5a1f9626b351d2627dc5da663be23c8a9ef355f80201d627dc937", func := "loop.example/g00511/laws.FnExactPollFrame", spec := "fnExactPollFrame", apart := false }
def FnExactPollFrameSaid : Prop := fnExactPollFrameRow.holds Try.pinned (OpenSpec.ofChange fnExactPollFrameSpec)

/-- ITS FALSE NEIGHBOUR: 'it returns false'. Refute it at one input. -/
def fnExactPollFrameWrong : ChangeSpec := { name := "fnExactPollFrame", fn := fun _ => fun
  | [d1, d2] => { results := [.lit (.bool false)], args := [d1, d2] }
  | _ => none }
def FnExactPollFrameWrongFalsely : Prop := fnExactPollFrameRow.holds Try.pinned (OpenSpec.ofChange fnExactPollFrameWrong)

/-- 'laws.FnExactKeepFrame': WHATEVER THE INPUT: true; the input reads as it did. -/
def fnExactKeepFrameSpec : ChangeSpec := { name := "fnExactKeepFrame", fn := fun _ => fun
  | [d1, d2, d3] => { results := [.lit (.bool true)], args := [d1, d2, d3] }
  | _ => none }
def fnExactKeepFrameRow : OpenClaim := { program := "ytbfbjkcmehalhaa", sum := "0dbb5a98edc5a1f9626b351d2627dc5da663be23c8a9ef355f80201d627dc937", func := "loop.example/g00511/laws.FnExactKeepFrame", spec := "fnExactKeepFrame", apart := false }
def FnExactKeepFrameSaid : Prop := fnExactKeepFrameRow.holds Try.pinned (OpenSpec.ofChange fnExactKeepFrameSpec)

/-- ITS FALSE NEIGHBOUR: 'it returns false'. Refute it at one input. -/
def fnExactKeepFrameWrong : ChangeSpec := { name := "fnExactKeepFrame", fn := fun _ => fun
  | [d1, d2, d3] => { results := [.lit (.bool false)], args := [d1, d2, d3] }
  | _ => none }
def FnExactKeepFrameWrongFalsely : Prop := fnExactKeepFrameRow.holds Try.pinned (OpenSpec.ofChange fnExactKeepFrameWrong)

/- THE SECOND FORM. 'bulk': how many values and letters a reading holds, each counted each time it is reached (what is shared counts as often as it is met; a slice's spare places count too). A statement '..UptoSaid' is the law's where the arguments, and the package variables that the reading takes, are together of bulk at most 1048576: NARROWER than '..Said'. Prove '..Said' where nothing that the law and all that it calls make is longer than what came in: it says more and counts as full. Else prove '..UptoSaid'. A law counts once. -/
mutual
def uptoBulk {H : Type} : DataW H → Nat
  | .lit (.string bytes) => bytes.length + 1
  | .lit _ => 1
  | .nil => 1
  | .ptr d => uptoBulk d + 1
  | .slice elems spare => uptoBulkAll elems + uptoBulkAll spare + 1
  | .agg parts => uptoBulkAll parts + 1
  | .iface _ d => uptoBulk d + 1
  | .map entries => uptoBulkEntries entries + 1
  | .held _ => 1
def uptoBulkAll {H : Type} : List (DataW H) → Nat
  | [] => 0
  | d :: r => uptoBulk d + uptoBulkAll r
def uptoBulkEntries {H : Type} : List (Lit × DataW H) → Nat
  | [] => 0
  | x :: r => uptoBulkEntry x + uptoBulkEntries r
def uptoBulkEntry {H : Type} : Lit × DataW H → Nat
  | (.string bytes, d) => bytes.length + uptoBulk d + 1
  | (_, d) => uptoBulk d + 1
 end
def uptoSmall : (H : Type) → List (DataW H) → Bool := fun _ ds => decide (uptoBulkAll ds ≤ 1048576)
def OpenSpec.upto (s : _root_.Go.ChangeSpec) : _root_.Go.OpenSpec := { _root_.Go.OpenSpec.ofChange s with cond := some uptoSmall }

/-- 'laws.FnExactTimOf', WHERE WHAT IT READS IS OF BULK AT MOST 1048576: true; the input reads as it did. -/
def fnExactTimOfUptoRow : OpenClaim := { program := "ytbfbjkcmehalhaa", sum := "0dbb5a98edc5a1f9626b351d2627dc5da663be23c8a9ef355f80201d627dc937", func := "loop.example/g00511/laws.FnExactTimOf", spec := "fnExactTimOf", apart := false, narrowed := true }
def FnExactTimOfUptoSaid : Prop := fnExactTimOfUptoRow.holds Try.pinned (OpenSpec.upto fnExactTimOfSpec)

/-- 'laws.FnExactKeptFrames', WHERE WHAT IT READS IS OF BULK AT MOST 1048576: true; the input reads as it did. -/
def fnExactKeptFramesUptoRow : OpenClaim := { program := "ytbfbjkcmehalhaa", sum := "0dbb5a98edc5a1f9626b351d2627dc5da663be23c8a9ef355f80201d627dc937", func := "loop.example/g00511/laws.FnExactKeptFrames", spec := "fnExactKeptFrames", apart := false, narrowed := true }
def FnExactKeptFramesUptoSaid : Prop := fnExactKeptFramesUptoRow.holds Try.pinned (OpenSpec.upto fnExactKeptFramesSpec)

/-- 'laws.FnExactIsValidPowerBuffer', WHERE WHAT IT READS IS OF BULK AT MOST 1048576: true; the input reads as it did. -/
def fnExactIsValidPowerBufferUptoRow : OpenClaim := { program := "ytbfbjkcmehalhaa", sum := "0dbb5a98edc5a1f9626b351d2627dc5da663be23c8a9ef355f80201d627dc937", func := "loop.example/g00511/laws.FnExactIsValidPowerBuffer", spec := "fnExactIsValidPowerBuffer", apart := false, narrowed := true }
def FnExactIsValidPowerBufferUptoSaid : Prop := fnExactIsValidPowerBufferUptoRow.holds Try.pinned (OpenSpec.upto fnExactIsValidPowerBufferSpec)

/-- 'laws.FnExactEqualPowerBuffers', WHERE WHAT IT READS IS OF BULK AT MOST 1048576: true; the input reads as it did. -/
def fnExactEqualPowerBuffersUptoRow : OpenClaim := { program := "ytbfbjkcmehalhaa", sum := "0dbb5a98edc5a1f9626b351d2627dc5da663be23c8a9ef355f80201d627dc937", func := "loop.example/g00511/laws.FnExactEqualPowerBuffers", spec := "fnExactEqualPowerBuffers", apart := false, narrowed := true }
def FnExactEqualPowerBuffersUptoSaid : Prop := fnExactEqualPowerBuffersUptoRow.holds Try.pinned (OpenSpec.upto fnExactEqualPowerBuffersSpec)

/-- 'laws.FnExactDropStation', WHERE WHAT IT READS IS OF BULK AT MOST 1048576: true; the input reads as it did. -/
def fnExactDropStationUptoRow : OpenClaim := { program := "ytbfbjkcmehalhaa", sum := "0dbb5a98edc5a1f9626b351d2627dc5da663be23c8a9ef355f80201d627dc937", func := "loop.example/g00511/laws.FnExactDropStation", spec := "fnExactDropStation", apart := false, narrowed := true }
def FnExactDropStationUptoSaid : Prop := fnExactDropStationUptoRow.holds Try.pinned (OpenSpec.upto fnExactDropStationSpec)

/-- 'laws.FnExactPollFrame', WHERE WHAT IT READS IS OF BULK AT MOST 1048576: true; the input reads as it did. -/
def fnExactPollFrameUptoRow : OpenClaim := { program := "ytbfbjkcmehalhaa", sum := "0dbb5a98edc5a1f9626b351d2627dc5da663be23c8a9ef355f80201d627dc937", func := "loop.example/g00511/laws.FnExactPollFrame", spec := "fnExactPollFrame", apart := false, narrowed := true }
def FnExactPollFrameUptoSaid : Prop := fnExactPollFrameUptoRow.holds Try.pinned (OpenSpec.upto fnExactPollFrameSpec)

/-- 'laws.FnExactKeepFrame', WHERE WHAT IT READS IS OF BULK AT MOST 1048576: true; the input reads as it did. -/
def fnExactKeepFrameUptoRow : OpenClaim := { program := "ytbfbjkcmehalhaa", sum := "0dbb5a98edc5a1f9626b351d2627dc5da663be23c8a9ef355f80201d627dc937", func := "loop.example/g00511/laws.FnExactKeepFrame", spec := "fnExactKeepFrame", apart := false, narrowed := true }
def FnExactKeepFrameUptoSaid : Prop := fnExactKeepFrameUptoRow.holds Try.pinned (OpenSpec.upto fnExactKeepFrameSpec)

end Rows
end Go.Proofs.Ytbfbjkcmehalhaa
