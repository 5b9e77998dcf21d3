/-
  No cell of these rows narrows 'for every input' (looked for: loops, veiled, ifaces, maps, wideKeys, modest, calm, conditions, laid).
  DERIVED. THE GIVEN ROWS OF THIS SEAT. 5 by the template 'for every input the law returns true; each argument reads behind the call as it read before'; 0 by the template 'total and deterministic' (their statements: YtcfckhccphgafaaTotals.lean).
  GIVEN WITH THE SEED: the statements are not yours to turn. If you find one false, say at which input.
  Laid BY PROGRAM, IN A SANDBOX (cutbox-rows.mjs): the forced cells as the released guide's own fill.sh prints them over the translation b3518120a0eaafec… (all of the seat's roots in one cut). By AI agents, Wed Nov 11 2026. No macro, syntax, notation, axiom, sorry.
-/
import Derived.Test.YtcfckhccphgafaaChecked
import GoSem.Claim
import GoSem.ClaimJoined
import GoSem.ClaimMapViews
import Derived.JoinedTies
import Derived.KernelRfl
namespace Go.Proofs.Ytcfckhccphgafaa
/- THE CELL 'sum', in the pinned program and in every row, IS THE sha256 OF THE DUMP (.gsa) THAT YtcfckhccphgafaaProg.lean LOADS. Nothing in Lean hashes anything: it is a label: what it is worth is what the hold of that sum in a sandbox is worth. -/
noncomputable def Try.pinned : Pinned := { name := "ytcfckhccphgafaa", sum := "b3518120a0eaafecf8b6244af4250ee13eb345a5a2787bcbdece26b664521b92", checked := Try.checked }
namespace Rows
def none {H : Type} : Left H := { results := [], args := [] }

/-- 'laws.FnExactCallsFor': WHATEVER THE INPUT: true; the input reads as it did. -/
def fnExactCallsForSpec : ChangeSpec := { name := "fnExactCallsFor", fn := fun _ => fun
  | [d] => { results := [.lit (.bool true)], args := [d] }
  | _ => none }
def fnExactCallsForRow : OpenClaim := { program := "ytcfckhccphgafaa", sum := "b3518120a0eaafecf8b6244af4250ee13eb345a5a2787bcbdece26b664521b92", func := "loop.example/g00499/laws.FnExactCallsFor", spec := "fnExactCallsFor", recurses := true, apart := false }
def FnExactCallsForSaid : Prop := fnExactCallsForRow.holds Try.pinned (OpenSpec.ofChange fnExactCallsForSpec)

/-- ITS FALSE NEIGHBOUR: 'it returns false'. Refute it at one input. -/
def fnExactCallsForWrong : ChangeSpec := { name := "fnExactCallsFor", fn := fun _ => fun
  | [d] => { results := [.lit (.bool false)], args := [d] }
  | _ => none }
def FnExactCallsForWrongFalsely : Prop := fnExactCallsForRow.holds Try.pinned (OpenSpec.ofChange fnExactCallsForWrong)

/-- 'laws.FnExactBoundFor': WHATEVER THE INPUT: true; the input reads as it did. -/
def fnExactBoundForSpec : ChangeSpec := { name := "fnExactBoundFor", fn := fun _ => fun
  | [d] => { results := [.lit (.bool true)], args := [d] }
  | _ => none }
def fnExactBoundForRow : OpenClaim := { program := "ytcfckhccphgafaa", sum := "b3518120a0eaafecf8b6244af4250ee13eb345a5a2787bcbdece26b664521b92", func := "loop.example/g00499/laws.FnExactBoundFor", spec := "fnExactBoundFor", recurses := true, apart := false }
def FnExactBoundForSaid : Prop := fnExactBoundForRow.holds Try.pinned (OpenSpec.ofChange fnExactBoundForSpec)

/-- ITS FALSE NEIGHBOUR: 'it returns false'. Refute it at one input. -/
def fnExactBoundForWrong : ChangeSpec := { name := "fnExactBoundFor", fn := fun _ => fun
  | [d] => { results := [.lit (.bool false)], args := [d] }
  | _ => none }
def FnExactBoundForWrongFalsely : Prop := fnExactBoundForRow.holds Try.pinned (OpenSpec.ofChange fnExactBoundForWrong)

/-- 'laws.FnExactLogSeen': WHATEVER THE INPUT: true; the input reads as it did. -/
def fnExactLogSeenSpec : ChangeSpec := { name := "fnExactLogSeen", fn := fun _ => fun
  | [d] => { results := [.lit (.bool true)], args := [d] }
  | _ => none }
def fnExactLogSeenRow : OpenClaim := { program := "ytcfckhccphgafaa", sum := "b3518120a0eaafecf8b6244af4250ee13eb345a5a2787bcbdece26b664521b92", func := "loop.example/g00499/laws.FnExactLogSeen", spec := "fnExactLogSeen", recurses := true, apart := false }
def FnExactLogSeenSaid : Prop := fnExactLogSeenRow.holds Try.pinned (OpenSpec.ofChange fnExactLogSeenSpec)

/-- ITS FALSE NEIGHBOUR: 'it returns false'. Refute it at one input. -/
def fnExactLogSeenWrong : ChangeSpec := { name := "fnExactLogSeen", fn := fun _ => fun
  | [d] => { results := [.lit (.bool false)], args := [d] }
  | _ => none }
def FnExactLogSeenWrongFalsely : Prop := fnExactLogSeenRow.holds Try.pinned (OpenSpec.ofChange fnExactLogSeenWrong)

/-- 'laws.FnExactEagerMake': WHATEVER THE INPUT: true; the input reads as it did. -/
def fnExactEagerMakeSpec : ChangeSpec := { name := "fnExactEagerMake", fn := fun _ => fun
  | [d1, d2, d3, d4] => { results := [.lit (.bool true)], args := [d1, d2, d3, d4] }
  | _ => none }
def fnExactEagerMakeRow : OpenClaim := { program := "ytcfckhccphgafaa", sum := "b3518120a0eaafecf8b6244af4250ee13eb345a5a2787bcbdece26b664521b92", func := "loop.example/g00499/laws.FnExactEagerMake", spec := "fnExactEagerMake", inPlace := ["slices.overlaps[loop.example/g00499/impl.Handle]", "slices.overlaps[loop.example/g00499/impl.Room]"], unfollowed := true, recurses := true, apart := false }
def FnExactEagerMakeSaid : Prop := fnExactEagerMakeRow.holds Try.pinned (OpenSpec.ofChange fnExactEagerMakeSpec)

/-- ITS FALSE NEIGHBOUR: 'it returns false'. Refute it at one input. -/
def fnExactEagerMakeWrong : ChangeSpec := { name := "fnExactEagerMake", fn := fun _ => fun
  | [d1, d2, d3, d4] => { results := [.lit (.bool false)], args := [d1, d2, d3, d4] }
  | _ => none }
def FnExactEagerMakeWrongFalsely : Prop := fnExactEagerMakeRow.holds Try.pinned (OpenSpec.ofChange fnExactEagerMakeWrong)

/-- 'laws.FnExactSeen': WHATEVER THE INPUT: true; the input reads as it did. -/
def fnExactSeenSpec : ChangeSpec := { name := "fnExactSeen", fn := fun _ => fun
  | [d] => { results := [.lit (.bool true)], args := [d] }
  | _ => none }
def fnExactSeenRow : OpenClaim := { program := "ytcfckhccphgafaa", sum := "b3518120a0eaafecf8b6244af4250ee13eb345a5a2787bcbdece26b664521b92", func := "loop.example/g00499/laws.FnExactSeen", spec := "fnExactSeen", recurses := true, apart := false }
def FnExactSeenSaid : Prop := fnExactSeenRow.holds Try.pinned (OpenSpec.ofChange fnExactSeenSpec)

/-- ITS FALSE NEIGHBOUR: 'it returns false'. Refute it at one input. -/
def fnExactSeenWrong : ChangeSpec := { name := "fnExactSeen", fn := fun _ => fun
  | [d] => { results := [.lit (.bool false)], args := [d] }
  | _ => none }
def FnExactSeenWrongFalsely : Prop := fnExactSeenRow.holds Try.pinned (OpenSpec.ofChange fnExactSeenWrong)

/- THE SECOND FORM. 'bulk': how many values and letters a reading holds, each counted each time it is reached (what is shared counts as often as it is met; a slice's spare places count too). A statement '..UptoSaid' is the law's where the arguments, and the package variables that the reading takes, are together of bulk at most 1048576: NARROWER than '..Said'. Prove '..Said' where nothing that the law and all that it calls make is longer than what came in: it says more and counts as full. Else prove '..UptoSaid'. A law counts once. -/
mutual
def uptoBulk {H : Type} : DataW H → Nat
  | .lit (.string bytes) => bytes.length + 1
  | .lit _ => 1
  | .nil => 1
  | .ptr d => uptoBulk d + 1
  | .slice elems spare => uptoBulkAll elems + uptoBulkAll spare + 1
  | .agg parts => uptoBulkAll parts + 1
  | .iface _ d => uptoBulk d + 1
  | .map entries => uptoBulkEntries entries + 1
  | .held _ => 1
def uptoBulkAll {H : Type} : List (DataW H) → Nat
  | [] => 0
  | d :: r => uptoBulk d + uptoBulkAll r
def uptoBulkEntries {H : Type} : List (Lit × DataW H) → Nat
  | [] => 0
  | x :: r => uptoBulkEntry x + uptoBulkEntries r
def uptoBulkEntry {H : Type} : Lit × DataW H → Nat
  | (.string bytes, d) => bytes.length + uptoBulk d + 1
  | (_, d) => uptoBulk d + 1
 end
def uptoSmall : (H : Type) → List (DataW H) → Bool := fun _ ds => decide (uptoBulkAll ds ≤ 1048576)
def OpenSpec.upto (s : _root_.Go.ChangeSpec) : _root_.Go.OpenSpec := { _root_.Go.OpenSpec.ofChange s with cond := some uptoSmall }

/-- 'laws.FnExactCallsFor', WHERE WHAT IT READS IS OF BULK AT MOST 1048576: true; the input reads as it did. -/
def fnExactCallsForUptoRow : OpenClaim := { program := "ytcfckhccphgafaa", sum := "b3518120a0eaafecf8b6244af4250ee13eb345a5a2787bcbdece26b664521b92", func := "loop.example/g00499/laws.FnExactCallsFor", spec := "fnExactCallsFor", recurses := true, apart := false, narrowed := true }
def FnExactCallsForUptoSaid : Prop := fnExactCallsForUptoRow.holds Try.pinned (OpenSpec.upto fnExactCallsForSpec)

/-- 'laws.FnExactBoundFor', WHERE WHAT IT READS IS OF BULK AT MOST 1048576: true; the input reads as it did. -/
def fnExactBoundForUptoRow : OpenClaim := { program := "ytcfckhccphgafaa", sum := "b3518120a0eaafecf8b6244af4250ee13eb345a5a2787bcbdece26b664521b92", func := "loop.example/g00499/laws.FnExactBoundFor", spec := "fnExactBoundFor", recurses := true, apart := false, narrowed := true }
def FnExactBoundForUptoSaid : Prop := fnExactBoundForUptoRow.holds Try.pinned (OpenSpec.upto fnExactBoundForSpec)

/-- 'laws.FnExactLogSeen', WHERE WHAT IT READS IS OF BULK AT MOST 1048576: true; the input reads as it did. -/
def fnExactLogSeenUptoRow : OpenClaim := { program := "ytcfckhccphgafaa", sum := "b3518120a0eaafecf8b6244af4250ee13eb345a5a2787bcbdece26b664521b92", func := "loop.example/g00499/laws.FnExactLogSeen", spec := "fnExactLogSeen", recurses := true, apart := false, narrowed := true }
def FnExactLogSeenUptoSaid : Prop := fnExactLogSeenUptoRow.holds Try.pinned (OpenSpec.upto fnExactLogSeenSpec)

/-- 'laws.FnExactEagerMake', WHERE WHAT IT READS IS OF BULK AT MOST 1048576: true; the input reads as it did. -/
def fnExactEagerMakeUptoRow : OpenClaim := { program := "ytcfckhccphgafaa", sum := "b3518120a0eaafecf8b6244af4250ee13eb345a5a2787bcbdece26b664521b92", func := "loop.example/g00499/laws.FnExactEagerMake", spec := "fnExactEagerMake", inPlace := ["slices.overlaps[loop.example/g00499/impl.Handle]", "slices.overlaps[loop.example/g00499/impl.Room]"], unfollowed := true, recurses := true, apart := false, narrowed := true }
def FnExactEagerMakeUptoSaid : Prop := fnExactEagerMakeUptoRow.holds Try.pinned (OpenSpec.upto fnExactEagerMakeSpec)

/-- 'laws.FnExactSeen', WHERE WHAT IT READS IS OF BULK AT MOST 1048576: true; the input reads as it did. -/
def fnExactSeenUptoRow : OpenClaim := { program := "ytcfckhccphgafaa", sum := "b3518120a0eaafecf8b6244af4250ee13eb345a5a2787bcbdece26b664521b92", func := "loop.example/g00499/laws.FnExactSeen", spec := "fnExactSeen", recurses := true, apart := false, narrowed := true }
def FnExactSeenUptoSaid : Prop := fnExactSeenUptoRow.holds Try.pinned (OpenSpec.upto fnExactSeenSpec)

end Rows
end Go.Proofs.Ytcfckhccphgafaa
