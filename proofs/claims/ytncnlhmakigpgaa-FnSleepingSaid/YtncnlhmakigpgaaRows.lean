/-
  No cell of these rows narrows 'for every input' (looked for: loops, veiled, ifaces, maps, wideKeys, modest, calm, conditions, laid).
  DERIVED. THE GIVEN ROWS OF THIS SEAT. 9 by the template 'for every input the law returns true; each argument reads behind the call as it read before'; 0 by the template 'total and deterministic' (their statements: YtncnlhmakigpgaaTotals.lean).
  GIVEN WITH THE SEED: the statements are not yours to turn. If you find one false, say at which input.
  Laid BY PROGRAM, IN A SANDBOX (cutbox-rows.mjs): the forced cells as the released guide's own fill.sh prints them over the translation 2880d8065f3e33b7… (all of the seat's roots in one cut). By AI agents, Wed Nov 11 2026. No macro, syntax, notation, axiom, sorry.
-/
import Derived.Test.YtncnlhmakigpgaaChecked
import GoSem.Claim
import GoSem.ClaimJoined
import GoSem.ClaimMapViews
import Derived.JoinedTies
import Derived.KernelRfl
namespace Go.Proofs.Ytncnlhmakigpgaa
/- THE CELL 'sum', in the pinned program and in every row, IS THE sha256 OF THE DUMP (.gsa) THAT YtncnlhmakigpgaaProg.lean LOADS. Nothing in Lean hashes anything: it is a label: what it is worth is what the hold of that sum in a sandbox is worth. -/
noncomputable def Try.pinned : Pinned := { name := "ytncnlhmakigpgaa", sum := "2880d8065f3e33b7685eab17ba035cb67bbfd34962fff6993c2db1f8d6f49bfa", checked := Try.checked }
namespace Rows
def none {H : Type} : Left H := { results := [], args := [] }

/-- 'laws.FnExactIsValidSleepState': WHATEVER THE INPUT: true; the input reads as it did. -/
def fnExactIsValidSleepStateSpec : ChangeSpec := { name := "fnExactIsValidSleepState", fn := fun _ => fun
  | [d] => { results := [.lit (.bool true)], args := [d] }
  | _ => none }
def fnExactIsValidSleepStateRow : OpenClaim := { program := "ytncnlhmakigpgaa", sum := "2880d8065f3e33b7685eab17ba035cb67bbfd34962fff6993c2db1f8d6f49bfa", func := "loop.example/g00511/laws.FnExactIsValidSleepState", spec := "fnExactIsValidSleepState", apart := false }
def FnExactIsValidSleepStateSaid : Prop := fnExactIsValidSleepStateRow.holds Try.pinned (OpenSpec.ofChange fnExactIsValidSleepStateSpec)

/-- ITS FALSE NEIGHBOUR: 'it returns false'. Refute it at one input. -/
def fnExactIsValidSleepStateWrong : ChangeSpec := { name := "fnExactIsValidSleepState", fn := fun _ => fun
  | [d] => { results := [.lit (.bool false)], args := [d] }
  | _ => none }
def FnExactIsValidSleepStateWrongFalsely : Prop := fnExactIsValidSleepStateRow.holds Try.pinned (OpenSpec.ofChange fnExactIsValidSleepStateWrong)

/-- 'laws.FnExactNewSleepState': WHATEVER THE INPUT: true; the input reads as it did. -/
def fnExactNewSleepStateSpec : ChangeSpec := { name := "fnExactNewSleepState", fn := fun _ => fun
  | [d] => { results := [.lit (.bool true)], args := [d] }
  | _ => none }
def fnExactNewSleepStateRow : OpenClaim := { program := "ytncnlhmakigpgaa", sum := "2880d8065f3e33b7685eab17ba035cb67bbfd34962fff6993c2db1f8d6f49bfa", func := "loop.example/g00511/laws.FnExactNewSleepState", spec := "fnExactNewSleepState", apart := false }
def FnExactNewSleepStateSaid : Prop := fnExactNewSleepStateRow.holds Try.pinned (OpenSpec.ofChange fnExactNewSleepStateSpec)

/-- ITS FALSE NEIGHBOUR: 'it returns false'. Refute it at one input. -/
def fnExactNewSleepStateWrong : ChangeSpec := { name := "fnExactNewSleepState", fn := fun _ => fun
  | [d] => { results := [.lit (.bool false)], args := [d] }
  | _ => none }
def FnExactNewSleepStateWrongFalsely : Prop := fnExactNewSleepStateRow.holds Try.pinned (OpenSpec.ofChange fnExactNewSleepStateWrong)

/-- 'laws.FnExactWakesBy': WHATEVER THE INPUT: true; the input reads as it did. -/
def fnExactWakesBySpec : ChangeSpec := { name := "fnExactWakesBy", fn := fun _ => fun
  | [d] => { results := [.lit (.bool true)], args := [d] }
  | _ => none }
def fnExactWakesByRow : OpenClaim := { program := "ytncnlhmakigpgaa", sum := "2880d8065f3e33b7685eab17ba035cb67bbfd34962fff6993c2db1f8d6f49bfa", func := "loop.example/g00511/laws.FnExactWakesBy", spec := "fnExactWakesBy", apart := false }
def FnExactWakesBySaid : Prop := fnExactWakesByRow.holds Try.pinned (OpenSpec.ofChange fnExactWakesBySpec)

/-- ITS FALSE NEIGHBOUR: 'it returns false'. Refute it at one input. -/
def fnExactWakesByWrong : ChangeSpec := { name := "fnExactWakesBy", fn := fun _ => fun
  | [d] => { results := [.lit (.bool false)], args := [d] }
  | _ => none }
def FnExactWakesByWrongFalsely : Prop := fnExactWakesByRow.holds Try.pinned (OpenSpec.ofChange fnExactWakesByWrong)

/-- 'laws.FnExactGroupDone': WHATEVER THE INPUT: true; the input reads as it did. -/
def fnExactGroupDoneSpec : ChangeSpec := { name := "fnExactGroupDone", fn := fun _ => fun
  | [d] => { results := [.lit (.bool true)], args := [d] }
  | _ => none }
def fnExactGroupDoneRow : OpenClaim := { program := "ytncnlhmakigpgaa", sum := "2880d8065f3e33b7685eab17ba035cb67bbfd34962fff6993c2db1f8d6f49bfa", func := "loop.example/g00511/laws.FnExactGroupDone", spec := "fnExactGroupDone", apart := false }
def FnExactGroupDoneSaid : Prop := fnExactGroupDoneRow.holds Try.pinned (OpenSpec.ofChange fnExactGroupDoneSpec)

/-- ITS FALSE NEIGHBOUR: 'it returns false'. Refute it at one input. -/
def fnExactGroupDoneWrong : ChangeSpec := { name := "fnExactGroupDone", fn := fun _ => fun
  | [d] => { results := [.lit (.bool false)], args := [d] }
  | _ => none }
def FnExactGroupDoneWrongFalsely : Prop := fnExactGroupDoneRow.holds Try.pinned (OpenSpec.ofChange fnExactGroupDoneWrong)

/-- 'laws.FnExactMissedBeacon': WHATEVER THE INPUT: true; the input reads as it did. -/
def fnExactMissedBeaconSpec : ChangeSpec := { name := "fnExactMissedBeacon", fn := fun _ => fun
  | [d] => { results := [.lit (.bool true)], args := [d] }
  | _ => none }
def fnExactMissedBeaconRow : OpenClaim := { program := "ytncnlhmakigpgaa", sum := "2880d8065f3e33b7685eab17ba035cb67bbfd34962fff6993c2db1f8d6f49bfa", func := "loop.example/g00511/laws.FnExactMissedBeacon", spec := "fnExactMissedBeacon", apart := false }
def FnExactMissedBeaconSaid : Prop := fnExactMissedBeaconRow.holds Try.pinned (OpenSpec.ofChange fnExactMissedBeaconSpec)

/-- ITS FALSE NEIGHBOUR: 'it returns false'. Refute it at one input. -/
def fnExactMissedBeaconWrong : ChangeSpec := { name := "fnExactMissedBeacon", fn := fun _ => fun
  | [d] => { results := [.lit (.bool false)], args := [d] }
  | _ => none }
def FnExactMissedBeaconWrongFalsely : Prop := fnExactMissedBeaconRow.holds Try.pinned (OpenSpec.ofChange fnExactMissedBeaconWrong)

/-- 'laws.FnExactBeforeBeacon': WHATEVER THE INPUT: true; the input reads as it did. -/
def fnExactBeforeBeaconSpec : ChangeSpec := { name := "fnExactBeforeBeacon", fn := fun _ => fun
  | [d] => { results := [.lit (.bool true)], args := [d] }
  | _ => none }
def fnExactBeforeBeaconRow : OpenClaim := { program := "ytncnlhmakigpgaa", sum := "2880d8065f3e33b7685eab17ba035cb67bbfd34962fff6993c2db1f8d6f49bfa", func := "loop.example/g00511/laws.FnExactBeforeBeacon", spec := "fnExactBeforeBeacon", apart := false }
def FnExactBeforeBeaconSaid : Prop := fnExactBeforeBeaconRow.holds Try.pinned (OpenSpec.ofChange fnExactBeforeBeaconSpec)

/-- ITS FALSE NEIGHBOUR: 'it returns false'. Refute it at one input. -/
def fnExactBeforeBeaconWrong : ChangeSpec := { name := "fnExactBeforeBeacon", fn := fun _ => fun
  | [d] => { results := [.lit (.bool false)], args := [d] }
  | _ => none }
def FnExactBeforeBeaconWrongFalsely : Prop := fnExactBeforeBeaconRow.holds Try.pinned (OpenSpec.ofChange fnExactBeforeBeaconWrong)

/-- 'laws.FnExactHearTraffic': WHATEVER THE INPUT: true; the input reads as it did. -/
def fnExactHearTrafficSpec : ChangeSpec := { name := "fnExactHearTraffic", fn := fun _ => fun
  | [d1, d2] => { results := [.lit (.bool true)], args := [d1, d2] }
  | _ => none }
def fnExactHearTrafficRow : OpenClaim := { program := "ytncnlhmakigpgaa", sum := "2880d8065f3e33b7685eab17ba035cb67bbfd34962fff6993c2db1f8d6f49bfa", func := "loop.example/g00511/laws.FnExactHearTraffic", spec := "fnExactHearTraffic", apart := false }
def FnExactHearTrafficSaid : Prop := fnExactHearTrafficRow.holds Try.pinned (OpenSpec.ofChange fnExactHearTrafficSpec)

/-- ITS FALSE NEIGHBOUR: 'it returns false'. Refute it at one input. -/
def fnExactHearTrafficWrong : ChangeSpec := { name := "fnExactHearTraffic", fn := fun _ => fun
  | [d1, d2] => { results := [.lit (.bool false)], args := [d1, d2] }
  | _ => none }
def FnExactHearTrafficWrongFalsely : Prop := fnExactHearTrafficRow.holds Try.pinned (OpenSpec.ofChange fnExactHearTrafficWrong)

/-- 'laws.FnExactHearBeacon': WHATEVER THE INPUT: true; the input reads as it did. -/
def fnExactHearBeaconSpec : ChangeSpec := { name := "fnExactHearBeacon", fn := fun _ => fun
  | [d1, d2, d3] => { results := [.lit (.bool true)], args := [d1, d2, d3] }
  | _ => none }
def fnExactHearBeaconRow : OpenClaim := { program := "ytncnlhmakigpgaa", sum := "2880d8065f3e33b7685eab17ba035cb67bbfd34962fff6993c2db1f8d6f49bfa", func := "loop.example/g00511/laws.FnExactHearBeacon", spec := "fnExactHearBeacon", apart := false }
def FnExactHearBeaconSaid : Prop := fnExactHearBeaconRow.holds Try.pinned (OpenSpec.ofChange fnExactHearBeaconSpec)

/-- ITS FALSE NEIGHBOUR: 'it returns false'. Refute it at one input. -/
def fnExactHearBeaconWrong : ChangeSpec := { name := "fnExactHearBeacon", fn := fun _ => fun
  | [d1, d2, d3] => { results := [.lit (.bool false)], args := [d1, d2, d3] }
  | _ => none }
def FnExactHearBeaconWrongFalsely : Prop := fnExactHearBeaconRow.holds Try.pinned (OpenSpec.ofChange fnExactHearBeaconWrong)

/-- 'laws.FnSleeping': WHATEVER THE INPUT: true; the input reads as it did. -/
def fnSleepingSpec : ChangeSpec := { name := "fnSleeping", fn := fun _ => fun
  | [d] => { results := [.lit (.bool true)], args := [d] }
  | _ => none }
def fnSleepingRow : OpenClaim := { program := "ytncnlhmakigpgaa", sum := "2880d8065f3e33b7685eab17ba035cb67bbfd34962fff6993c2db1f8d6f49bfa", func := "loop.example/g00511/laws.FnSleeping", spec := "fnSleeping", apart := false }
def FnSleepingSaid : Prop := fnSleepingRow.holds Try.pinned (OpenSpec.ofChange fnSleepingSpec)

/-- ITS FALSE NEIGHBOUR: 'it returns false'. Refute it at one input. -/
def fnSleepingWrong : ChangeSpec := { name := "fnSleeping", fn := fun _ => fun
  | [d] => { results := [.lit (.bool false)], args := [d] }
  | _ => none }
def FnSleepingWrongFalsely : Prop := fnSleepingRow.holds Try.pinned (OpenSpec.ofChange fnSleepingWrong)

/- THE SECOND FORM. 'bulk': how many values and letters a reading holds, each counted each time it is reached (what is shared counts as often as it is met; a slice's spare places count too). A statement '..UptoSaid' is the law's where the arguments, and the package variables that the reading takes, are together of bulk at most 1048576: NARROWER than '..Said'. Prove '..Said' where nothing that the law and all that it calls make is longer than what came in: it says more and counts as full. Else prove '..UptoSaid'. A law counts once. -/
mutual
def uptoBulk {H : Type} : DataW H → Nat
  | .lit (.string bytes) => bytes.length + 1
  | .lit _ => 1
  | .nil => 1
  | .ptr d => uptoBulk d + 1
  | .slice elems spare => uptoBulkAll elems + uptoBulkAll spare + 1
  | .agg parts => uptoBulkAll parts + 1
  | .iface _ d => uptoBulk d + 1
  | .map entries => uptoBulkEntries entries + 1
  | .held _ => 1
def uptoBulkAll {H : Type} : List (DataW H) → Nat
  | [] => 0
  | d :: r => uptoBulk d + uptoBulkAll r
def uptoBulkEntries {H : Type} : List (Lit × DataW H) → Nat
  | [] => 0
  | x :: r => uptoBulkEntry x + uptoBulkEntries r
def uptoBulkEntry {H : Type} : Lit × DataW H → Nat
  | (.string bytes, d) => bytes.length + uptoBulk d + 1
  | (_, d) => uptoBulk d + 1
 end
def uptoSmall : (H : Type) → List (DataW H) → Bool := fun _ ds => decide (uptoBulkAll ds ≤ 1048576)
def OpenSpec.upto (s : _root_.Go.ChangeSpec) : _root_.Go.OpenSpec := { _root_.Go.OpenSpec.ofChange s with cond := some uptoSmall }

/-- 'laws.FnExactIsValidSleepState', WHERE WHAT IT READS IS OF BULK AT MOST 1048576: true; the input reads as it did. -/
def fnExactIsValidSleepStateUptoRow : OpenClaim := { program := "ytncnlhmakigpgaa", sum := "2880d8065f3e33b7685eab17ba035cb67bbfd34962fff6993c2db1f8d6f49bfa", func := "loop.example/g00511/laws.FnExactIsValidSleepState", spec := "fnExactIsValidSleepState", apart := false, narrowed := true }
def FnExactIsValidSleepStateUptoSaid : Prop := fnExactIsValidSleepStateUptoRow.holds Try.pinned (OpenSpec.upto fnExactIsValidSleepStateSpec)

/-- 'laws.FnExactNewSleepState', WHERE WHAT IT READS IS OF BULK AT MOST 1048576: true; the input reads as it did. -/
def fnExactNewSleepStateUptoRow : OpenClaim := { program := "ytncnlhmakigpgaa", sum := "2880d8065f3e33b7685eab17ba035cb67bbfd34962fff6993c2db1f8d6f49bfa", func := "loop.example/g00511/laws.FnExactNewSleepState", spec := "fnExactNewSleepState", apart := false, narrowed := true }
def FnExactNewSleepStateUptoSaid : Prop := fnExactNewSleepStateUptoRow.holds Try.pinned (OpenSpec.upto fnExactNewSleepStateSpec)

/-- 'laws.FnExactWakesBy', WHERE WHAT IT READS IS OF BULK AT MOST 1048576: true; the input reads as it did. -/
def fnExactWakesByUptoRow : OpenClaim := { program := "ytncnlhmakigpgaa", sum := "2880d8065f3e33b7685eab17ba035cb67bbfd34962fff6993c2db1f8d6f49bfa", func := "loop.example/g00511/laws.FnExactWakesBy", spec := "fnExactWakesBy", apart := false, narrowed := true }
def FnExactWakesByUptoSaid : Prop := fnExactWakesByUptoRow.holds Try.pinned (OpenSpec.upto fnExactWakesBySpec)

/-- 'laws.FnExactGroupDone', WHERE WHAT IT READS IS OF BULK AT MOST 1048576: true; the input reads as it did. -/
def fnExactGroupDoneUptoRow : OpenClaim := { program := "ytncnlhmakigpgaa", sum := "2880d8065f3e33b7685eab17ba035cb67bbfd34962fff6993c2db1f8d6f49bfa", func := "loop.example/g00511/laws.FnExactGroupDone", spec := "fnExactGroupDone", apart := false, narrowed := true }
def FnExactGroupDoneUptoSaid : Prop := fnExactGroupDoneUptoRow.holds Try.pinned (OpenSpec.upto fnExactGroupDoneSpec)

/-- 'laws.FnExactMissedBeacon', WHERE WHAT IT READS IS OF BULK AT MOST 1048576: true; the input reads as it did. -/
def fnExactMissedBeaconUptoRow : OpenClaim := { program := "ytncnlhmakigpgaa", sum := "2880d8065f3e33b7685eab17ba035cb67bbfd34962fff6993c2db1f8d6f49bfa", func := "loop.example/g00511/laws.FnExactMissedBeacon", spec := "fnExactMissedBeacon", apart := false, narrowed := true }
def FnExactMissedBeaconUptoSaid : Prop := fnExactMissedBeaconUptoRow.holds Try.pinned (OpenSpec.upto fnExactMissedBeaconSpec)

/-- 'laws.FnExactBeforeBeacon', WHERE WHAT IT READS IS OF BULK AT MOST 1048576: true; the input reads as it did. -/
def fnExactBeforeBeaconUptoRow : OpenClaim := { program := "ytncnlhmakigpgaa", sum := "2880d8065f3e33b7685eab17ba035cb67bbfd34962fff6993c2db1f8d6f49bfa", func := "loop.example/g00511/laws.FnExactBeforeBeacon", spec := "fnExactBeforeBeacon", apart := false, narrowed := true }
def FnExactBeforeBeaconUptoSaid : Prop := fnExactBeforeBeaconUptoRow.holds Try.pinned (OpenSpec.upto fnExactBeforeBeaconSpec)

/-- 'laws.FnExactHearTraffic', WHERE WHAT IT READS IS OF BULK AT MOST 1048576: true; the input reads as it did. -/
def fnExactHearTrafficUptoRow : OpenClaim := { program := "ytncnlhmakigpgaa", sum := "2880d8065f3e33b7685eab17ba035cb67bbfd34962fff6993c2db1f8d6f49bfa", func := "loop.example/g00511/laws.FnExactHearTraffic", spec := "fnExactHearTraffic", apart := false, narrowed := true }
def FnExactHearTrafficUptoSaid : Prop := fnExactHearTrafficUptoRow.holds Try.pinned (OpenSpec.upto fnExactHearTrafficSpec)

/-- 'laws.FnExactHearBeacon', WHERE WHAT IT READS IS OF BULK AT MOST 1048576: true; the input reads as it did. -/
def fnExactHearBeaconUptoRow : OpenClaim := { program := "ytncnlhmakigpgaa", sum := "2880d8065f3e33b7685eab17ba035cb67bbfd34962fff6993c2db1f8d6f49bfa", func := "loop.example/g00511/laws.FnExactHearBeacon", spec := "fnExactHearBeacon", apart := false, narrowed := true }
def FnExactHearBeaconUptoSaid : Prop := fnExactHearBeaconUptoRow.holds Try.pinned (OpenSpec.upto fnExactHearBeaconSpec)

/-- 'laws.FnSleeping', WHERE WHAT IT READS IS OF BULK AT MOST 1048576: true; the input reads as it did. -/
def fnSleepingUptoRow : OpenClaim := { program := "ytncnlhmakigpgaa", sum := "2880d8065f3e33b7685eab17ba035cb67bbfd34962fff6993c2db1f8d6f49bfa", func := "loop.example/g00511/laws.FnSleeping", spec := "fnSleeping", apart := false, narrowed := true }
def FnSleepingUptoSaid : Prop := fnSleepingUptoRow.holds Try.pinned (OpenSpec.upto fnSleepingSpec)

end Rows
end Go.Proofs.Ytncnlhmakigpgaa
