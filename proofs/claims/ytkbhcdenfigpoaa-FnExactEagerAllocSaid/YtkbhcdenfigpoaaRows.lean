/-
  No cell of these rows narrows 'for every input' (looked for: loops, veiled, ifaces, maps, wideKeys, modest, calm, conditions, laid).
  DERIVED. THE GIVEN ROWS OF THIS SEAT. 12 by the template 'for every input the law returns true; each argument reads behind the call as it read before'; 0 by the template 'total and deterministic' (their statements: YtkbhcdenfigpoaaTotals.lean).
  GIVEN WITH THE SEED: the statements are not yours to turn. If you find one false, say at which input.
  Laid BY PROGRAM, IN A SANDBOX (cutbox-rows.mjs): the forced cells as the released guide's own fill.sh prints them over the translation 48f210f5a963b17b… (all of the seat's roots in one cut). By AI agents, Wed Nov 11 2026. No macro, syntax, notation, axiom, sorry.
-/
import Derived.Test.YtkbhcdenfigpoaaChecked
import GoSem.Claim
import GoSem.ClaimJoined
import GoSem.ClaimMapViews
import Derived.JoinedTies
import Derived.KernelRfl
namespace Go.Proofs.Ytkbhcdenfigpoaa
/- THE CELL 'sum', in the pinned program and in every row, IS THE sha256 OF THE DUMP (.gsa) THAT YtkbhcdenfigpoaaProg.lean LOADS. Nothing in Lean hashes anything: it is a label: what it is worth is what the hold of that sum in a sandbox is worth. -/
noncomputable def Try.pinned : Pinned := { name := "ytkbhcdenfigpoaa", sum := "48f210f5a963b17bd10dd7fed391e6f2b5a470682b4feef40d5dd4656ebb37f7", checked := Try.checked }
namespace Rows
def none {H : Type} : Left H := { results := [], args := [] }

/-- 'laws.FnExactReused': WHATEVER THE INPUT: true; the input reads as it did. -/
def fnExactReusedSpec : ChangeSpec := { name := "fnExactReused", fn := fun _ => fun
  | [d1, d2] => { results := [.lit (.bool true)], args := [d1, d2] }
  | _ => none }
def fnExactReusedRow : OpenClaim := { program := "ytkbhcdenfigpoaa", sum := "48f210f5a963b17bd10dd7fed391e6f2b5a470682b4feef40d5dd4656ebb37f7", func := "loop.example/g00499/laws.FnExactReused", spec := "fnExactReused", apart := false }
def FnExactReusedSaid : Prop := fnExactReusedRow.holds Try.pinned (OpenSpec.ofChange fnExactReusedSpec)

/-- ITS FALSE NEIGHBOUR: 'it returns false'. Refute it at one input. -/
def fnExactReusedWrong : ChangeSpec := { name := "fnExactReused", fn := fun _ => fun
  | [d1, d2] => { results := [.lit (.bool false)], args := [d1, d2] }
  | _ => none }
def FnExactReusedWrongFalsely : Prop := fnExactReusedRow.holds Try.pinned (OpenSpec.ofChange fnExactReusedWrong)

/-- 'laws.FnExactEagerRead': WHATEVER THE INPUT: true; the input reads as it did. -/
def fnExactEagerReadSpec : ChangeSpec := { name := "fnExactEagerRead", fn := fun _ => fun
  | [d1, d2, d3, d4] => { results := [.lit (.bool true)], args := [d1, d2, d3, d4] }
  | _ => none }
def fnExactEagerReadRow : OpenClaim := { program := "ytkbhcdenfigpoaa", sum := "48f210f5a963b17bd10dd7fed391e6f2b5a470682b4feef40d5dd4656ebb37f7", func := "loop.example/g00499/laws.FnExactEagerRead", spec := "fnExactEagerRead", unfollowed := true, recurses := true, apart := false }
def FnExactEagerReadSaid : Prop := fnExactEagerReadRow.holds Try.pinned (OpenSpec.ofChange fnExactEagerReadSpec)

/-- ITS FALSE NEIGHBOUR: 'it returns false'. Refute it at one input. -/
def fnExactEagerReadWrong : ChangeSpec := { name := "fnExactEagerRead", fn := fun _ => fun
  | [d1, d2, d3, d4] => { results := [.lit (.bool false)], args := [d1, d2, d3, d4] }
  | _ => none }
def FnExactEagerReadWrongFalsely : Prop := fnExactEagerReadRow.holds Try.pinned (OpenSpec.ofChange fnExactEagerReadWrong)

/-- 'laws.FnExactOneOf': WHATEVER THE INPUT: true; the input reads as it did. -/
def fnExactOneOfSpec : ChangeSpec := { name := "fnExactOneOf", fn := fun _ => fun
  | [d1, d2] => { results := [.lit (.bool true)], args := [d1, d2] }
  | _ => none }
def fnExactOneOfRow : OpenClaim := { program := "ytkbhcdenfigpoaa", sum := "48f210f5a963b17bd10dd7fed391e6f2b5a470682b4feef40d5dd4656ebb37f7", func := "loop.example/g00499/laws.FnExactOneOf", spec := "fnExactOneOf", apart := false }
def FnExactOneOfSaid : Prop := fnExactOneOfRow.holds Try.pinned (OpenSpec.ofChange fnExactOneOfSpec)

/-- ITS FALSE NEIGHBOUR: 'it returns false'. Refute it at one input. -/
def fnExactOneOfWrong : ChangeSpec := { name := "fnExactOneOf", fn := fun _ => fun
  | [d1, d2] => { results := [.lit (.bool false)], args := [d1, d2] }
  | _ => none }
def FnExactOneOfWrongFalsely : Prop := fnExactOneOfRow.holds Try.pinned (OpenSpec.ofChange fnExactOneOfWrong)

/-- 'laws.FnExactRoomAt': WHATEVER THE INPUT: true; the input reads as it did. -/
def fnExactRoomAtSpec : ChangeSpec := { name := "fnExactRoomAt", fn := fun _ => fun
  | [d1, d2] => { results := [.lit (.bool true)], args := [d1, d2] }
  | _ => none }
def fnExactRoomAtRow : OpenClaim := { program := "ytkbhcdenfigpoaa", sum := "48f210f5a963b17bd10dd7fed391e6f2b5a470682b4feef40d5dd4656ebb37f7", func := "loop.example/g00499/laws.FnExactRoomAt", spec := "fnExactRoomAt", unfollowed := true, recurses := true, apart := false }
def FnExactRoomAtSaid : Prop := fnExactRoomAtRow.holds Try.pinned (OpenSpec.ofChange fnExactRoomAtSpec)

/-- ITS FALSE NEIGHBOUR: 'it returns false'. Refute it at one input. -/
def fnExactRoomAtWrong : ChangeSpec := { name := "fnExactRoomAt", fn := fun _ => fun
  | [d1, d2] => { results := [.lit (.bool false)], args := [d1, d2] }
  | _ => none }
def FnExactRoomAtWrongFalsely : Prop := fnExactRoomAtRow.holds Try.pinned (OpenSpec.ofChange fnExactRoomAtWrong)

/-- 'laws.FnExactFullFor': WHATEVER THE INPUT: true; the input reads as it did. -/
def fnExactFullForSpec : ChangeSpec := { name := "fnExactFullFor", fn := fun _ => fun
  | [d1, d2] => { results := [.lit (.bool true)], args := [d1, d2] }
  | _ => none }
def fnExactFullForRow : OpenClaim := { program := "ytkbhcdenfigpoaa", sum := "48f210f5a963b17bd10dd7fed391e6f2b5a470682b4feef40d5dd4656ebb37f7", func := "loop.example/g00499/laws.FnExactFullFor", spec := "fnExactFullFor", apart := false }
def FnExactFullForSaid : Prop := fnExactFullForRow.holds Try.pinned (OpenSpec.ofChange fnExactFullForSpec)

/-- ITS FALSE NEIGHBOUR: 'it returns false'. Refute it at one input. -/
def fnExactFullForWrong : ChangeSpec := { name := "fnExactFullFor", fn := fun _ => fun
  | [d1, d2] => { results := [.lit (.bool false)], args := [d1, d2] }
  | _ => none }
def FnExactFullForWrongFalsely : Prop := fnExactFullForRow.holds Try.pinned (OpenSpec.ofChange fnExactFullForWrong)

/-- 'laws.FnExactStillGone': WHATEVER THE INPUT: true; the input reads as it did. -/
def fnExactStillGoneSpec : ChangeSpec := { name := "fnExactStillGone", fn := fun _ => fun
  | [d1, d2] => { results := [.lit (.bool true)], args := [d1, d2] }
  | _ => none }
def fnExactStillGoneRow : OpenClaim := { program := "ytkbhcdenfigpoaa", sum := "48f210f5a963b17bd10dd7fed391e6f2b5a470682b4feef40d5dd4656ebb37f7", func := "loop.example/g00499/laws.FnExactStillGone", spec := "fnExactStillGone", apart := false }
def FnExactStillGoneSaid : Prop := fnExactStillGoneRow.holds Try.pinned (OpenSpec.ofChange fnExactStillGoneSpec)

/-- ITS FALSE NEIGHBOUR: 'it returns false'. Refute it at one input. -/
def fnExactStillGoneWrong : ChangeSpec := { name := "fnExactStillGone", fn := fun _ => fun
  | [d1, d2] => { results := [.lit (.bool false)], args := [d1, d2] }
  | _ => none }
def FnExactStillGoneWrongFalsely : Prop := fnExactStillGoneRow.holds Try.pinned (OpenSpec.ofChange fnExactStillGoneWrong)

/-- 'laws.FnExactCallsFor': WHATEVER THE INPUT: true; the input reads as it did. -/
def fnExactCallsForSpec : ChangeSpec := { name := "fnExactCallsFor", fn := fun _ => fun
  | [d] => { results := [.lit (.bool true)], args := [d] }
  | _ => none }
def fnExactCallsForRow : OpenClaim := { program := "ytkbhcdenfigpoaa", sum := "48f210f5a963b17bd10dd7fed391e6f2b5a470682b4feef40d5dd4656ebb37f7", func := "loop.example/g00499/laws.FnExactCallsFor", spec := "fnExactCallsFor", recurses := true, apart := false }
def FnExactCallsForSaid : Prop := fnExactCallsForRow.holds Try.pinned (OpenSpec.ofChange fnExactCallsForSpec)

/-- ITS FALSE NEIGHBOUR: 'it returns false'. Refute it at one input. -/
def fnExactCallsForWrong : ChangeSpec := { name := "fnExactCallsFor", fn := fun _ => fun
  | [d] => { results := [.lit (.bool false)], args := [d] }
  | _ => none }
def FnExactCallsForWrongFalsely : Prop := fnExactCallsForRow.holds Try.pinned (OpenSpec.ofChange fnExactCallsForWrong)

/-- 'laws.FnExactBoundFor': WHATEVER THE INPUT: true; the input reads as it did. -/
def fnExactBoundForSpec : ChangeSpec := { name := "fnExactBoundFor", fn := fun _ => fun
  | [d] => { results := [.lit (.bool true)], args := [d] }
  | _ => none }
def fnExactBoundForRow : OpenClaim := { program := "ytkbhcdenfigpoaa", sum := "48f210f5a963b17bd10dd7fed391e6f2b5a470682b4feef40d5dd4656ebb37f7", func := "loop.example/g00499/laws.FnExactBoundFor", spec := "fnExactBoundFor", recurses := true, apart := false }
def FnExactBoundForSaid : Prop := fnExactBoundForRow.holds Try.pinned (OpenSpec.ofChange fnExactBoundForSpec)

/-- ITS FALSE NEIGHBOUR: 'it returns false'. Refute it at one input. -/
def fnExactBoundForWrong : ChangeSpec := { name := "fnExactBoundFor", fn := fun _ => fun
  | [d] => { results := [.lit (.bool false)], args := [d] }
  | _ => none }
def FnExactBoundForWrongFalsely : Prop := fnExactBoundForRow.holds Try.pinned (OpenSpec.ofChange fnExactBoundForWrong)

/-- 'laws.FnExactEagerTag': WHATEVER THE INPUT: true; the input reads as it did. -/
def fnExactEagerTagSpec : ChangeSpec := { name := "fnExactEagerTag", fn := fun _ => fun
  | [d1, d2, d3] => { results := [.lit (.bool true)], args := [d1, d2, d3] }
  | _ => none }
def fnExactEagerTagRow : OpenClaim := { program := "ytkbhcdenfigpoaa", sum := "48f210f5a963b17bd10dd7fed391e6f2b5a470682b4feef40d5dd4656ebb37f7", func := "loop.example/g00499/laws.FnExactEagerTag", spec := "fnExactEagerTag", unfollowed := true, recurses := true, apart := false }
def FnExactEagerTagSaid : Prop := fnExactEagerTagRow.holds Try.pinned (OpenSpec.ofChange fnExactEagerTagSpec)

/-- ITS FALSE NEIGHBOUR: 'it returns false'. Refute it at one input. -/
def fnExactEagerTagWrong : ChangeSpec := { name := "fnExactEagerTag", fn := fun _ => fun
  | [d1, d2, d3] => { results := [.lit (.bool false)], args := [d1, d2, d3] }
  | _ => none }
def FnExactEagerTagWrongFalsely : Prop := fnExactEagerTagRow.holds Try.pinned (OpenSpec.ofChange fnExactEagerTagWrong)

/-- 'laws.FnExactEagerWrite': WHATEVER THE INPUT: true; the input reads as it did. -/
def fnExactEagerWriteSpec : ChangeSpec := { name := "fnExactEagerWrite", fn := fun _ => fun
  | [d1, d2, d3, d4] => { results := [.lit (.bool true)], args := [d1, d2, d3, d4] }
  | _ => none }
def fnExactEagerWriteRow : OpenClaim := { program := "ytkbhcdenfigpoaa", sum := "48f210f5a963b17bd10dd7fed391e6f2b5a470682b4feef40d5dd4656ebb37f7", func := "loop.example/g00499/laws.FnExactEagerWrite", spec := "fnExactEagerWrite", unfollowed := true, recurses := true, apart := false }
def FnExactEagerWriteSaid : Prop := fnExactEagerWriteRow.holds Try.pinned (OpenSpec.ofChange fnExactEagerWriteSpec)

/-- ITS FALSE NEIGHBOUR: 'it returns false'. Refute it at one input. -/
def fnExactEagerWriteWrong : ChangeSpec := { name := "fnExactEagerWrite", fn := fun _ => fun
  | [d1, d2, d3, d4] => { results := [.lit (.bool false)], args := [d1, d2, d3, d4] }
  | _ => none }
def FnExactEagerWriteWrongFalsely : Prop := fnExactEagerWriteRow.holds Try.pinned (OpenSpec.ofChange fnExactEagerWriteWrong)

/-- 'laws.FnExactEagerGive': WHATEVER THE INPUT: true; the input reads as it did. -/
def fnExactEagerGiveSpec : ChangeSpec := { name := "fnExactEagerGive", fn := fun _ => fun
  | [d1, d2, d3] => { results := [.lit (.bool true)], args := [d1, d2, d3] }
  | _ => none }
def fnExactEagerGiveRow : OpenClaim := { program := "ytkbhcdenfigpoaa", sum := "48f210f5a963b17bd10dd7fed391e6f2b5a470682b4feef40d5dd4656ebb37f7", func := "loop.example/g00499/laws.FnExactEagerGive", spec := "fnExactEagerGive", unfollowed := true, recurses := true, apart := false }
def FnExactEagerGiveSaid : Prop := fnExactEagerGiveRow.holds Try.pinned (OpenSpec.ofChange fnExactEagerGiveSpec)

/-- ITS FALSE NEIGHBOUR: 'it returns false'. Refute it at one input. -/
def fnExactEagerGiveWrong : ChangeSpec := { name := "fnExactEagerGive", fn := fun _ => fun
  | [d1, d2, d3] => { results := [.lit (.bool false)], args := [d1, d2, d3] }
  | _ => none }
def FnExactEagerGiveWrongFalsely : Prop := fnExactEagerGiveRow.holds Try.pinned (OpenSpec.ofChange fnExactEagerGiveWrong)

/-- 'laws.FnExactEagerAlloc': WHATEVER THE INPUT: true; the input reads as it did. -/
def fnExactEagerAllocSpec : ChangeSpec := { name := "fnExactEagerAlloc", fn := fun _ => fun
  | [d1, d2, d3, d4, d5] => { results := [.lit (.bool true)], args := [d1, d2, d3, d4, d5] }
  | _ => none }
def fnExactEagerAllocRow : OpenClaim := { program := "ytkbhcdenfigpoaa", sum := "48f210f5a963b17bd10dd7fed391e6f2b5a470682b4feef40d5dd4656ebb37f7", func := "loop.example/g00499/laws.FnExactEagerAlloc", spec := "fnExactEagerAlloc", unfollowed := true, recurses := true, apart := false }
def FnExactEagerAllocSaid : Prop := fnExactEagerAllocRow.holds Try.pinned (OpenSpec.ofChange fnExactEagerAllocSpec)

/-- ITS FALSE NEIGHBOUR: 'it returns false'. Refute it at one input. -/
def fnExactEagerAllocWrong : ChangeSpec := { name := "fnExactEagerAlloc", fn := fun _ => fun
  | [d1, d2, d3, d4, d5] => { results := [.lit (.bool false)], args := [d1, d2, d3, d4, d5] }
  | _ => none }
def FnExactEagerAllocWrongFalsely : Prop := fnExactEagerAllocRow.holds Try.pinned (OpenSpec.ofChange fnExactEagerAllocWrong)

/- THE SECOND FORM. 'bulk': how many values and letters a reading holds, each counted each time it is reached (what is shared counts as often as it is met; a slice's spare places count too). A statement '..UptoSaid' is the law's where the arguments, and the package variables that the reading takes, are together of bulk at most 1048576: NARROWER than '..Said'. Prove '..Said' where nothing that the law and all that it calls make is longer than what came in: it says more and counts as full. Else prove '..UptoSaid'. A law counts once. -/
mutual
def uptoBulk {H : Type} : DataW H → Nat
  | .lit (.string bytes) => bytes.length + 1
  | .lit _ => 1
  | .nil => 1
  | .ptr d => uptoBulk d + 1
  | .slice elems spare => uptoBulkAll elems + uptoBulkAll spare + 1
  | .agg parts => uptoBulkAll parts + 1
  | .iface _ d => uptoBulk d + 1
  | .map entries => uptoBulkEntries entries + 1
  | .held _ => 1
def uptoBulkAll {H : Type} : List (DataW H) → Nat
  | [] => 0
  | d :: r => uptoBulk d + uptoBulkAll r
def uptoBulkEntries {H : Type} : List (Lit × DataW H) → Nat
  | [] => 0
  | x :: r => uptoBulkEntry x + uptoBulkEntries r
def uptoBulkEntry {H : Type} : Lit × DataW H → Nat
  | (.string bytes, d) => bytes.length + uptoBulk d + 1
  | (_, d) => uptoBulk d + 1
 end
def uptoSmall : (H : Type) → List (DataW H) → Bool := fun _ ds => decide (uptoBulkAll ds ≤ 1048576)
def OpenSpec.upto (s : _root_.Go.ChangeSpec) : _root_.Go.OpenSpec := { _root_.Go.OpenSpec.ofChange s with cond := some uptoSmall }

/-- 'laws.FnExactReused', WHERE WHAT IT READS IS OF BULK AT MOST 1048576: true; the input reads as it did. -/
def fnExactReusedUptoRow : OpenClaim := { program := "ytkbhcdenfigpoaa", sum := "48f210f5a963b17bd10dd7fed391e6f2b5a470682b4feef40d5dd4656ebb37f7", func := "loop.example/g00499/laws.FnExactReused", spec := "fnExactReused", apart := false, narrowed := true }
def FnExactReusedUptoSaid : Prop := fnExactReusedUptoRow.holds Try.pinned (OpenSpec.upto fnExactReusedSpec)

/-- 'laws.FnExactEagerRead', WHERE WHAT IT READS IS OF BULK AT MOST 1048576: true; the input reads as it did. -/
def fnExactEagerReadUptoRow : OpenClaim := { program := "ytkbhcdenfigpoaa", sum := "48f210f5a963b17bd10dd7fed391e6f2b5a470682b4feef40d5dd4656ebb37f7", func := "loop.example/g00499/laws.FnExactEagerRead", spec := "fnExactEagerRead", unfollowed := true, recurses := true, apart := false, narrowed := true }
def FnExactEagerReadUptoSaid : Prop := fnExactEagerReadUptoRow.holds Try.pinned (OpenSpec.upto fnExactEagerReadSpec)

/-- 'laws.FnExactOneOf', WHERE WHAT IT READS IS OF BULK AT MOST 1048576: true; the input reads as it did. -/
def fnExactOneOfUptoRow : OpenClaim := { program := "ytkbhcdenfigpoaa", sum := "48f210f5a963b17bd10dd7fed391e6f2b5a470682b4feef40d5dd4656ebb37f7", func := "loop.example/g00499/laws.FnExactOneOf", spec := "fnExactOneOf", apart := false, narrowed := true }
def FnExactOneOfUptoSaid : Prop := fnExactOneOfUptoRow.holds Try.pinned (OpenSpec.upto fnExactOneOfSpec)

/-- 'laws.FnExactRoomAt', WHERE WHAT IT READS IS OF BULK AT MOST 1048576: true; the input reads as it did. -/
def fnExactRoomAtUptoRow : OpenClaim := { program := "ytkbhcdenfigpoaa", sum := "48f210f5a963b17bd10dd7fed391e6f2b5a470682b4feef40d5dd4656ebb37f7", func := "loop.example/g00499/laws.FnExactRoomAt", spec := "fnExactRoomAt", unfollowed := true, recurses := true, apart := false, narrowed := true }
def FnExactRoomAtUptoSaid : Prop := fnExactRoomAtUptoRow.holds Try.pinned (OpenSpec.upto fnExactRoomAtSpec)

/-- 'laws.FnExactFullFor', WHERE WHAT IT READS IS OF BULK AT MOST 1048576: true; the input reads as it did. -/
def fnExactFullForUptoRow : OpenClaim := { program := "ytkbhcdenfigpoaa", sum := "48f210f5a963b17bd10dd7fed391e6f2b5a470682b4feef40d5dd4656ebb37f7", func := "loop.example/g00499/laws.FnExactFullFor", spec := "fnExactFullFor", apart := false, narrowed := true }
def FnExactFullForUptoSaid : Prop := fnExactFullForUptoRow.holds Try.pinned (OpenSpec.upto fnExactFullForSpec)

/-- 'laws.FnExactStillGone', WHERE WHAT IT READS IS OF BULK AT MOST 1048576: true; the input reads as it did. -/
def fnExactStillGoneUptoRow : OpenClaim := { program := "ytkbhcdenfigpoaa", sum := "48f210f5a963b17bd10dd7fed391e6f2b5a470682b4feef40d5dd4656ebb37f7", func := "loop.example/g00499/laws.FnExactStillGone", spec := "fnExactStillGone", apart := false, narrowed := true }
def FnExactStillGoneUptoSaid : Prop := fnExactStillGoneUptoRow.holds Try.pinned (OpenSpec.upto fnExactStillGoneSpec)

/-- 'laws.FnExactCallsFor', WHERE WHAT IT READS IS OF BULK AT MOST 1048576: true; the input reads as it did. -/
def fnExactCallsForUptoRow : OpenClaim := { program := "ytkbhcdenfigpoaa", sum := "48f210f5a963b17bd10dd7fed391e6f2b5a470682b4feef40d5dd4656ebb37f7", func := "loop.example/g00499/laws.FnExactCallsFor", spec := "fnExactCallsFor", recurses := true, apart := false, narrowed := true }
def FnExactCallsForUptoSaid : Prop := fnExactCallsForUptoRow.holds Try.pinned (OpenSpec.upto fnExactCallsForSpec)

/-- 'laws.FnExactBoundFor', WHERE WHAT IT READS IS OF BULK AT MOST 1048576: true; the input reads as it did. -/
def fnExactBoundForUptoRow : OpenClaim := { program := "ytkbhcdenfigpoaa", sum := "48f210f5a963b17bd10dd7fed391e6f2b5a470682b4feef40d5dd4656ebb37f7", func := "loop.example/g00499/laws.FnExactBoundFor", spec := "fnExactBoundFor", recurses := true, apart := false, narrowed := true }
def FnExactBoundForUptoSaid : Prop := fnExactBoundForUptoRow.holds Try.pinned (OpenSpec.upto fnExactBoundForSpec)

/-- 'laws.FnExactEagerTag', WHERE WHAT IT READS IS OF BULK AT MOST 1048576: true; the input reads as it did. -/
def fnExactEagerTagUptoRow : OpenClaim := { program := "ytkbhcdenfigpoaa", sum := "48f210f5a963b17bd10dd7fed391e6f2b5a470682b4feef40d5dd4656ebb37f7", func := "loop.example/g00499/laws.FnExactEagerTag", spec := "fnExactEagerTag", unfollowed := true, recurses := true, apart := false, narrowed := true }
def FnExactEagerTagUptoSaid : Prop := fnExactEagerTagUptoRow.holds Try.pinned (OpenSpec.upto fnExactEagerTagSpec)

/-- 'laws.FnExactEagerWrite', WHERE WHAT IT READS IS OF BULK AT MOST 1048576: true; the input reads as it did. -/
def fnExactEagerWriteUptoRow : OpenClaim := { program := "ytkbhcdenfigpoaa", sum := "48f210f5a963b17bd10dd7fed391e6f2b5a470682b4feef40d5dd4656ebb37f7", func := "loop.example/g00499/laws.FnExactEagerWrite", spec := "fnExactEagerWrite", unfollowed := true, recurses := true, apart := false, narrowed := true }
def FnExactEagerWriteUptoSaid : Prop := fnExactEagerWriteUptoRow.holds Try.pinned (OpenSpec.upto fnExactEagerWriteSpec)

/-- 'laws.FnExactEagerGive', WHERE WHAT IT READS IS OF BULK AT MOST 1048576: true; the input reads as it did. -/
def fnExactEagerGiveUptoRow : OpenClaim := { program := "ytkbhcdenfigpoaa", sum := "48f210f5a963b17bd10dd7fed391e6f2b5a470682b4feef40d5dd4656ebb37f7", func := "loop.example/g00499/laws.FnExactEagerGive", spec := "fnExactEagerGive", unfollowed := true, recurses := true, apart := false, narrowed := true }
def FnExactEagerGiveUptoSaid : Prop := fnExactEagerGiveUptoRow.holds Try.pinned (OpenSpec.upto fnExactEagerGiveSpec)

/-- 'laws.FnExactEagerAlloc', WHERE WHAT IT READS IS OF BULK AT MOST 1048576: true; the input reads as it did. -/
def fnExactEagerAllocUptoRow : OpenClaim := { program := "ytkbhcdenfigpoaa", sum := "48f210f5a963b17bd10dd7fed391e6f2b5a470682b4feef40d5dd4656ebb37f7", func := "loop.example/g00499/laws.FnExactEagerAlloc", spec := "fnExactEagerAlloc", unfollowed := true, recurses := true, apart := false, narrowed := true }
def FnExactEagerAllocUptoSaid : Prop := fnExactEagerAllocUptoRow.holds Try.pinned (OpenSpec.upto fnExactEagerAllocSpec)

end Rows
end Go.Proofs.Ytkbhcdenfigpoaa
