/-
  No cell of these rows narrows 'for every input' (looked for: loops, veiled, ifaces, maps, wideKeys, modest, calm, conditions, laid).
  DERIVED. THE GIVEN ROWS OF THIS SEAT. 12 by the template 'for every input the law returns true; each argument reads behind the call as it read before'; 0 by the template 'total and deterministic' (their statements: YtphbidnhhhgmjaaTotals.lean).
  GIVEN WITH THE SEED: the statements are not yours to turn. If you find one false, say at which input.
  Laid BY PROGRAM, IN A SANDBOX (cutbox-rows.mjs): the forced cells as the released guide's own fill.sh prints them over the translation 61aebc7102378862… (all of the seat's roots in one cut). By AI agents, Wed Nov 11 2026. No macro, syntax, notation, axiom, sorry.
-/
import Derived.Test.YtphbidnhhhgmjaaChecked
import GoSem.Claim
import GoSem.ClaimJoined
import GoSem.ClaimMapViews
import Derived.JoinedTies
import Derived.KernelRfl
namespace Go.Proofs.Ytphbidnhhhgmjaa
/- THE CELL 'sum', in the pinned program and in every row, IS THE sha256 OF THE DUMP (.gsa) THAT YtphbidnhhhgmjaaProg.lean LOADS. Nothing in Lean hashes anything: it is a label: what it is worth is what the hold of that sum in a sandbox is worth. -/
noncomputable def Try.pinned : Pinned := { name := "ytphbidnhhhgmjaa", sum := "61aebc7102378862b65ab356ddbe9d00b34bbd809a19c3eb85e8bca89b856885", checked := Try.checked }
namespace Rows
def none {H : Type} : Left H := { results := [], args := [] }

/-- 'laws.FnExactSameAns': WHATEVER THE INPUT: true; the input reads as it did. -/
def fnExactSameAnsSpec : ChangeSpec := { name := "fnExactSameAns", fn := fun _ => fun
  | [d1, d2] => { results := [.lit (.bool true)], args := [d1, d2] }
  | _ => none }
def fnExactSameAnsRow : OpenClaim := { program := "ytphbidnhhhgmjaa", sum := "61aebc7102378862b65ab356ddbe9d00b34bbd809a19c3eb85e8bca89b856885", func := "loop.example/g00499/laws.FnExactSameAns", spec := "fnExactSameAns", apart := false }
def FnExactSameAnsSaid : Prop := fnExactSameAnsRow.holds Try.pinned (OpenSpec.ofChange fnExactSameAnsSpec)

/-- ITS FALSE NEIGHBOUR: 'it returns false'. Refute it at one input. -/
def fnExactSameAnsWrong : ChangeSpec := { name := "fnExactSameAns", fn := fun _ => fun
  | [d1, d2] => { results := [.lit (.bool false)], args := [d1, d2] }
  | _ => none }
def FnExactSameAnsWrongFalsely : Prop := fnExactSameAnsRow.holds Try.pinned (OpenSpec.ofChange fnExactSameAnsWrong)

/-- 'laws.FnExactBared': WHATEVER THE INPUT: true; the input reads as it did. -/
def fnExactBaredSpec : ChangeSpec := { name := "fnExactBared", fn := fun _ => fun
  | [d] => { results := [.lit (.bool true)], args := [d] }
  | _ => none }
def fnExactBaredRow : OpenClaim := { program := "ytphbidnhhhgmjaa", sum := "61aebc7102378862b65ab356ddbe9d00b34bbd809a19c3eb85e8bca89b856885", func := "loop.example/g00499/laws.FnExactBared", spec := "fnExactBared", apart := false }
def FnExactBaredSaid : Prop := fnExactBaredRow.holds Try.pinned (OpenSpec.ofChange fnExactBaredSpec)

/-- ITS FALSE NEIGHBOUR: 'it returns false'. Refute it at one input. -/
def fnExactBaredWrong : ChangeSpec := { name := "fnExactBared", fn := fun _ => fun
  | [d] => { results := [.lit (.bool false)], args := [d] }
  | _ => none }
def FnExactBaredWrongFalsely : Prop := fnExactBaredRow.holds Try.pinned (OpenSpec.ofChange fnExactBaredWrong)

/-- 'laws.FnExactModelNew': WHATEVER THE INPUT: true; the input reads as it did. -/
def fnExactModelNewSpec : ChangeSpec := { name := "fnExactModelNew", fn := fun _ => fun
  | [d] => { results := [.lit (.bool true)], args := [d] }
  | _ => none }
def fnExactModelNewRow : OpenClaim := { program := "ytphbidnhhhgmjaa", sum := "61aebc7102378862b65ab356ddbe9d00b34bbd809a19c3eb85e8bca89b856885", func := "loop.example/g00499/laws.FnExactModelNew", spec := "fnExactModelNew", apart := false }
def FnExactModelNewSaid : Prop := fnExactModelNewRow.holds Try.pinned (OpenSpec.ofChange fnExactModelNewSpec)

/-- ITS FALSE NEIGHBOUR: 'it returns false'. Refute it at one input. -/
def fnExactModelNewWrong : ChangeSpec := { name := "fnExactModelNew", fn := fun _ => fun
  | [d] => { results := [.lit (.bool false)], args := [d] }
  | _ => none }
def FnExactModelNewWrongFalsely : Prop := fnExactModelNewRow.holds Try.pinned (OpenSpec.ofChange fnExactModelNewWrong)

/-- 'laws.FnExactTakenBy': WHATEVER THE INPUT: true; the input reads as it did. -/
def fnExactTakenBySpec : ChangeSpec := { name := "fnExactTakenBy", fn := fun _ => fun
  | [d] => { results := [.lit (.bool true)], args := [d] }
  | _ => none }
def fnExactTakenByRow : OpenClaim := { program := "ytphbidnhhhgmjaa", sum := "61aebc7102378862b65ab356ddbe9d00b34bbd809a19c3eb85e8bca89b856885", func := "loop.example/g00499/laws.FnExactTakenBy", spec := "fnExactTakenBy", apart := false }
def FnExactTakenBySaid : Prop := fnExactTakenByRow.holds Try.pinned (OpenSpec.ofChange fnExactTakenBySpec)

/-- ITS FALSE NEIGHBOUR: 'it returns false'. Refute it at one input. -/
def fnExactTakenByWrong : ChangeSpec := { name := "fnExactTakenBy", fn := fun _ => fun
  | [d] => { results := [.lit (.bool false)], args := [d] }
  | _ => none }
def FnExactTakenByWrongFalsely : Prop := fnExactTakenByRow.holds Try.pinned (OpenSpec.ofChange fnExactTakenByWrong)

/-- 'laws.FnExactRoomOf': WHATEVER THE INPUT: true; the input reads as it did. -/
def fnExactRoomOfSpec : ChangeSpec := { name := "fnExactRoomOf", fn := fun _ => fun
  | [d1, d2] => { results := [.lit (.bool true)], args := [d1, d2] }
  | _ => none }
def fnExactRoomOfRow : OpenClaim := { program := "ytphbidnhhhgmjaa", sum := "61aebc7102378862b65ab356ddbe9d00b34bbd809a19c3eb85e8bca89b856885", func := "loop.example/g00499/laws.FnExactRoomOf", spec := "fnExactRoomOf", unfollowed := true, recurses := true, apart := false }
def FnExactRoomOfSaid : Prop := fnExactRoomOfRow.holds Try.pinned (OpenSpec.ofChange fnExactRoomOfSpec)

/-- ITS FALSE NEIGHBOUR: 'it returns false'. Refute it at one input. -/
def fnExactRoomOfWrong : ChangeSpec := { name := "fnExactRoomOf", fn := fun _ => fun
  | [d1, d2] => { results := [.lit (.bool false)], args := [d1, d2] }
  | _ => none }
def FnExactRoomOfWrongFalsely : Prop := fnExactRoomOfRow.holds Try.pinned (OpenSpec.ofChange fnExactRoomOfWrong)

/-- 'laws.FnExactDeepIn': WHATEVER THE INPUT: true; the input reads as it did. -/
def fnExactDeepInSpec : ChangeSpec := { name := "fnExactDeepIn", fn := fun _ => fun
  | [d1, d2] => { results := [.lit (.bool true)], args := [d1, d2] }
  | _ => none }
def fnExactDeepInRow : OpenClaim := { program := "ytphbidnhhhgmjaa", sum := "61aebc7102378862b65ab356ddbe9d00b34bbd809a19c3eb85e8bca89b856885", func := "loop.example/g00499/laws.FnExactDeepIn", spec := "fnExactDeepIn", unfollowed := true, recurses := true, apart := false }
def FnExactDeepInSaid : Prop := fnExactDeepInRow.holds Try.pinned (OpenSpec.ofChange fnExactDeepInSpec)

/-- ITS FALSE NEIGHBOUR: 'it returns false'. Refute it at one input. -/
def fnExactDeepInWrong : ChangeSpec := { name := "fnExactDeepIn", fn := fun _ => fun
  | [d1, d2] => { results := [.lit (.bool false)], args := [d1, d2] }
  | _ => none }
def FnExactDeepInWrongFalsely : Prop := fnExactDeepInRow.holds Try.pinned (OpenSpec.ofChange fnExactDeepInWrong)

/-- 'laws.FnExactSameModel': WHATEVER THE INPUT: true; the input reads as it did. -/
def fnExactSameModelSpec : ChangeSpec := { name := "fnExactSameModel", fn := fun _ => fun
  | [d1, d2] => { results := [.lit (.bool true)], args := [d1, d2] }
  | _ => none }
def fnExactSameModelRow : OpenClaim := { program := "ytphbidnhhhgmjaa", sum := "61aebc7102378862b65ab356ddbe9d00b34bbd809a19c3eb85e8bca89b856885", func := "loop.example/g00499/laws.FnExactSameModel", spec := "fnExactSameModel", unfollowed := true, recurses := true, apart := false }
def FnExactSameModelSaid : Prop := fnExactSameModelRow.holds Try.pinned (OpenSpec.ofChange fnExactSameModelSpec)

/-- ITS FALSE NEIGHBOUR: 'it returns false'. Refute it at one input. -/
def fnExactSameModelWrong : ChangeSpec := { name := "fnExactSameModel", fn := fun _ => fun
  | [d1, d2] => { results := [.lit (.bool false)], args := [d1, d2] }
  | _ => none }
def FnExactSameModelWrongFalsely : Prop := fnExactSameModelRow.holds Try.pinned (OpenSpec.ofChange fnExactSameModelWrong)

/-- 'laws.FnExactReused': WHATEVER THE INPUT: true; the input reads as it did. -/
def fnExactReusedSpec : ChangeSpec := { name := "fnExactReused", fn := fun _ => fun
  | [d1, d2] => { results := [.lit (.bool true)], args := [d1, d2] }
  | _ => none }
def fnExactReusedRow : OpenClaim := { program := "ytphbidnhhhgmjaa", sum := "61aebc7102378862b65ab356ddbe9d00b34bbd809a19c3eb85e8bca89b856885", func := "loop.example/g00499/laws.FnExactReused", spec := "fnExactReused", apart := false }
def FnExactReusedSaid : Prop := fnExactReusedRow.holds Try.pinned (OpenSpec.ofChange fnExactReusedSpec)

/-- ITS FALSE NEIGHBOUR: 'it returns false'. Refute it at one input. -/
def fnExactReusedWrong : ChangeSpec := { name := "fnExactReused", fn := fun _ => fun
  | [d1, d2] => { results := [.lit (.bool false)], args := [d1, d2] }
  | _ => none }
def FnExactReusedWrongFalsely : Prop := fnExactReusedRow.holds Try.pinned (OpenSpec.ofChange fnExactReusedWrong)

/-- 'laws.FnExactEagerRead': WHATEVER THE INPUT: true; the input reads as it did. -/
def fnExactEagerReadSpec : ChangeSpec := { name := "fnExactEagerRead", fn := fun _ => fun
  | [d1, d2, d3, d4] => { results := [.lit (.bool true)], args := [d1, d2, d3, d4] }
  | _ => none }
def fnExactEagerReadRow : OpenClaim := { program := "ytphbidnhhhgmjaa", sum := "61aebc7102378862b65ab356ddbe9d00b34bbd809a19c3eb85e8bca89b856885", func := "loop.example/g00499/laws.FnExactEagerRead", spec := "fnExactEagerRead", unfollowed := true, recurses := true, apart := false }
def FnExactEagerReadSaid : Prop := fnExactEagerReadRow.holds Try.pinned (OpenSpec.ofChange fnExactEagerReadSpec)

/-- ITS FALSE NEIGHBOUR: 'it returns false'. Refute it at one input. -/
def fnExactEagerReadWrong : ChangeSpec := { name := "fnExactEagerRead", fn := fun _ => fun
  | [d1, d2, d3, d4] => { results := [.lit (.bool false)], args := [d1, d2, d3, d4] }
  | _ => none }
def FnExactEagerReadWrongFalsely : Prop := fnExactEagerReadRow.holds Try.pinned (OpenSpec.ofChange fnExactEagerReadWrong)

/-- 'laws.FnExactOneOf': WHATEVER THE INPUT: true; the input reads as it did. -/
def fnExactOneOfSpec : ChangeSpec := { name := "fnExactOneOf", fn := fun _ => fun
  | [d1, d2] => { results := [.lit (.bool true)], args := [d1, d2] }
  | _ => none }
def fnExactOneOfRow : OpenClaim := { program := "ytphbidnhhhgmjaa", sum := "61aebc7102378862b65ab356ddbe9d00b34bbd809a19c3eb85e8bca89b856885", func := "loop.example/g00499/laws.FnExactOneOf", spec := "fnExactOneOf", apart := false }
def FnExactOneOfSaid : Prop := fnExactOneOfRow.holds Try.pinned (OpenSpec.ofChange fnExactOneOfSpec)

/-- ITS FALSE NEIGHBOUR: 'it returns false'. Refute it at one input. -/
def fnExactOneOfWrong : ChangeSpec := { name := "fnExactOneOf", fn := fun _ => fun
  | [d1, d2] => { results := [.lit (.bool false)], args := [d1, d2] }
  | _ => none }
def FnExactOneOfWrongFalsely : Prop := fnExactOneOfRow.holds Try.pinned (OpenSpec.ofChange fnExactOneOfWrong)

/-- 'laws.FnExactRoomAt': WHATEVER THE INPUT: true; the input reads as it did. -/
def fnExactRoomAtSpec : ChangeSpec := { name := "fnExactRoomAt", fn := fun _ => fun
  | [d1, d2] => { results := [.lit (.bool true)], args := [d1, d2] }
  | _ => none }
def fnExactRoomAtRow : OpenClaim := { program := "ytphbidnhhhgmjaa", sum := "61aebc7102378862b65ab356ddbe9d00b34bbd809a19c3eb85e8bca89b856885", func := "loop.example/g00499/laws.FnExactRoomAt", spec := "fnExactRoomAt", unfollowed := true, recurses := true, apart := false }
def FnExactRoomAtSaid : Prop := fnExactRoomAtRow.holds Try.pinned (OpenSpec.ofChange fnExactRoomAtSpec)

/-- ITS FALSE NEIGHBOUR: 'it returns false'. Refute it at one input. -/
def fnExactRoomAtWrong : ChangeSpec := { name := "fnExactRoomAt", fn := fun _ => fun
  | [d1, d2] => { results := [.lit (.bool false)], args := [d1, d2] }
  | _ => none }
def FnExactRoomAtWrongFalsely : Prop := fnExactRoomAtRow.holds Try.pinned (OpenSpec.ofChange fnExactRoomAtWrong)

/-- 'laws.FnExactFullFor': WHATEVER THE INPUT: true; the input reads as it did. -/
def fnExactFullForSpec : ChangeSpec := { name := "fnExactFullFor", fn := fun _ => fun
  | [d1, d2] => { results := [.lit (.bool true)], args := [d1, d2] }
  | _ => none }
def fnExactFullForRow : OpenClaim := { program := "ytphbidnhhhgmjaa", sum := "61aebc7102378862b65ab356ddbe9d00b34bbd809a19c3eb85e8bca89b856885", func := "loop.example/g00499/laws.FnExactFullFor", spec := "fnExactFullFor", apart := false }
def FnExactFullForSaid : Prop := fnExactFullForRow.holds Try.pinned (OpenSpec.ofChange fnExactFullForSpec)

/-- ITS FALSE NEIGHBOUR: 'it returns false'. Refute it at one input. -/
def fnExactFullForWrong : ChangeSpec := { name := "fnExactFullFor", fn := fun _ => fun
  | [d1, d2] => { results := [.lit (.bool false)], args := [d1, d2] }
  | _ => none }
def FnExactFullForWrongFalsely : Prop := fnExactFullForRow.holds Try.pinned (OpenSpec.ofChange fnExactFullForWrong)

/- THE SECOND FORM. 'bulk': how many values and letters a reading holds, each counted each time it is reached (what is shared counts as often as it is met; a slice's spare places count too). A statement '..UptoSaid' is the law's where the arguments, and the package variables that the reading takes, are together of bulk at most 1048576: NARROWER than '..Said'. Prove '..Said' where nothing that the law and all that it calls make is longer than what came in: it says more and counts as full. Else prove '..UptoSaid'. A law counts once. -/
mutual
def uptoBulk {H : Type} : DataW H → Nat
  | .lit (.string bytes) => bytes.length + 1
  | .lit _ => 1
  | .nil => 1
  | .ptr d => uptoBulk d + 1
  | .slice elems spare => uptoBulkAll elems + uptoBulkAll spare + 1
  | .agg parts => uptoBulkAll parts + 1
  | .iface _ d => uptoBulk d + 1
  | .map entries => uptoBulkEntries entries + 1
  | .held _ => 1
def uptoBulkAll {H : Type} : List (DataW H) → Nat
  | [] => 0
  | d :: r => uptoBulk d + uptoBulkAll r
def uptoBulkEntries {H : Type} : List (Lit × DataW H) → Nat
  | [] => 0
  | x :: r => uptoBulkEntry x + uptoBulkEntries r
def uptoBulkEntry {H : Type} : Lit × DataW H → Nat
  | (.string bytes, d) => bytes.length + uptoBulk d + 1
  | (_, d) => uptoBulk d + 1
 end
def uptoSmall : (H : Type) → List (DataW H) → Bool := fun _ ds => decide (uptoBulkAll ds ≤ 1048576)
def OpenSpec.upto (s : _root_.Go.ChangeSpec) : _root_.Go.OpenSpec := { _root_.Go.OpenSpec.ofChange s with cond := some uptoSmall }

/-- 'laws.FnExactSameAns', WHERE WHAT IT READS IS OF BULK AT MOST 1048576: true; the input reads as it did. -/
def fnExactSameAnsUptoRow : OpenClaim := { program := "ytphbidnhhhgmjaa", sum := "61aebc7102378862b65ab356ddbe9d00b34bbd809a19c3eb85e8bca89b856885", func := "loop.example/g00499/laws.FnExactSameAns", spec := "fnExactSameAns", apart := false, narrowed := true }
def FnExactSameAnsUptoSaid : Prop := fnExactSameAnsUptoRow.holds Try.pinned (OpenSpec.upto fnExactSameAnsSpec)

/-- 'laws.FnExactBared', WHERE WHAT IT READS IS OF BULK AT MOST 1048576: true; the input reads as it did. -/
def fnExactBaredUptoRow : OpenClaim := { program := "ytphbidnhhhgmjaa", sum := "61aebc7102378862b65ab356ddbe9d00b34bbd809a19c3eb85e8bca89b856885", func := "loop.example/g00499/laws.FnExactBared", spec := "fnExactBared", apart := false, narrowed := true }
def FnExactBaredUptoSaid : Prop := fnExactBaredUptoRow.holds Try.pinned (OpenSpec.upto fnExactBaredSpec)

/-- 'laws.FnExactModelNew', WHERE WHAT IT READS IS OF BULK AT MOST 1048576: true; the input reads as it did. -/
def fnExactModelNewUptoRow : OpenClaim := { program := "ytphbidnhhhgmjaa", sum := "61aebc7102378862b65ab356ddbe9d00b34bbd809a19c3eb85e8bca89b856885", func := "loop.example/g00499/laws.FnExactModelNew", spec := "fnExactModelNew", apart := false, narrowed := true }
def FnExactModelNewUptoSaid : Prop := fnExactModelNewUptoRow.holds Try.pinned (OpenSpec.upto fnExactModelNewSpec)

/-- 'laws.FnExactTakenBy', WHERE WHAT IT READS IS OF BULK AT MOST 1048576: true; the input reads as it did. -/
def fnExactTakenByUptoRow : OpenClaim := { program := "ytphbidnhhhgmjaa", sum := "61aebc7102378862b65ab356ddbe9d00b34bbd809a19c3eb85e8bca89b856885", func := "loop.example/g00499/laws.FnExactTakenBy", spec := "fnExactTakenBy", apart := false, narrowed := true }
def FnExactTakenByUptoSaid : Prop := fnExactTakenByUptoRow.holds Try.pinned (OpenSpec.upto fnExactTakenBySpec)

/-- 'laws.FnExactRoomOf', WHERE WHAT IT READS IS OF BULK AT MOST 1048576: true; the input reads as it did. -/
def fnExactRoomOfUptoRow : OpenClaim := { program := "ytphbidnhhhgmjaa", sum := "61aebc7102378862b65ab356ddbe9d00b34bbd809a19c3eb85e8bca89b856885", func := "loop.example/g00499/laws.FnExactRoomOf", spec := "fnExactRoomOf", unfollowed := true, recurses := true, apart := false, narrowed := true }
def FnExactRoomOfUptoSaid : Prop := fnExactRoomOfUptoRow.holds Try.pinned (OpenSpec.upto fnExactRoomOfSpec)

/-- 'laws.FnExactDeepIn', WHERE WHAT IT READS IS OF BULK AT MOST 1048576: true; the input reads as it did. -/
def fnExactDeepInUptoRow : OpenClaim := { program := "ytphbidnhhhgmjaa", sum := "61aebc7102378862b65ab356ddbe9d00b34bbd809a19c3eb85e8bca89b856885", func := "loop.example/g00499/laws.FnExactDeepIn", spec := "fnExactDeepIn", unfollowed := true, recurses := true, apart := false, narrowed := true }
def FnExactDeepInUptoSaid : Prop := fnExactDeepInUptoRow.holds Try.pinned (OpenSpec.upto fnExactDeepInSpec)

/-- 'laws.FnExactSameModel', WHERE WHAT IT READS IS OF BULK AT MOST 1048576: true; the input reads as it did. -/
def fnExactSameModelUptoRow : OpenClaim := { program := "ytphbidnhhhgmjaa", sum := "61aebc7102378862b65ab356ddbe9d00b34bbd809a19c3eb85e8bca89b856885", func := "loop.example/g00499/laws.FnExactSameModel", spec := "fnExactSameModel", unfollowed := true, recurses := true, apart := false, narrowed := true }
def FnExactSameModelUptoSaid : Prop := fnExactSameModelUptoRow.holds Try.pinned (OpenSpec.upto fnExactSameModelSpec)

/-- 'laws.FnExactReused', WHERE WHAT IT READS IS OF BULK AT MOST 1048576: true; the input reads as it did. -/
def fnExactReusedUptoRow : OpenClaim := { program := "ytphbidnhhhgmjaa", sum := "61aebc7102378862b65ab356ddbe9d00b34bbd809a19c3eb85e8bca89b856885", func := "loop.example/g00499/laws.FnExactReused", spec := "fnExactReused", apart := false, narrowed := true }
def FnExactReusedUptoSaid : Prop := fnExactReusedUptoRow.holds Try.pinned (OpenSpec.upto fnExactReusedSpec)

/-- 'laws.FnExactEagerRead', WHERE WHAT IT READS IS OF BULK AT MOST 1048576: true; the input reads as it did. -/
def fnExactEagerReadUptoRow : OpenClaim := { program := "ytphbidnhhhgmjaa", sum := "61aebc7102378862b65ab356ddbe9d00b34bbd809a19c3eb85e8bca89b856885", func := "loop.example/g00499/laws.FnExactEagerRead", spec := "fnExactEagerRead", unfollowed := true, recurses := true, apart := false, narrowed := true }
def FnExactEagerReadUptoSaid : Prop := fnExactEagerReadUptoRow.holds Try.pinned (OpenSpec.upto fnExactEagerReadSpec)

/-- 'laws.FnExactOneOf', WHERE WHAT IT READS IS OF BULK AT MOST 1048576: true; the input reads as it did. -/
def fnExactOneOfUptoRow : OpenClaim := { program := "ytphbidnhhhgmjaa", sum := "61aebc7102378862b65ab356ddbe9d00b34bbd809a19c3eb85e8bca89b856885", func := "loop.example/g00499/laws.FnExactOneOf", spec := "fnExactOneOf", apart := false, narrowed := true }
def FnExactOneOfUptoSaid : Prop := fnExactOneOfUptoRow.holds Try.pinned (OpenSpec.upto fnExactOneOfSpec)

/-- 'laws.FnExactRoomAt', WHERE WHAT IT READS IS OF BULK AT MOST 1048576: true; the input reads as it did. -/
def fnExactRoomAtUptoRow : OpenClaim := { program := "ytphbidnhhhgmjaa", sum := "61aebc7102378862b65ab356ddbe9d00b34bbd809a19c3eb85e8bca89b856885", func := "loop.example/g00499/laws.FnExactRoomAt", spec := "fnExactRoomAt", unfollowed := true, recurses := true, apart := false, narrowed := true }
def FnExactRoomAtUptoSaid : Prop := fnExactRoomAtUptoRow.holds Try.pinned (OpenSpec.upto fnExactRoomAtSpec)

/-- 'laws.FnExactFullFor', WHERE WHAT IT READS IS OF BULK AT MOST 1048576: true; the input reads as it did. -/
def fnExactFullForUptoRow : OpenClaim := { program := "ytphbidnhhhgmjaa", sum := "61aebc7102378862b65ab356ddbe9d00b34bbd809a19c3eb85e8bca89b856885", func := "loop.example/g00499/laws.FnExactFullFor", spec := "fnExactFullFor", apart := false, narrowed := true }
def FnExactFullForUptoSaid : Prop := fnExactFullForUptoRow.holds Try.pinned (OpenSpec.upto fnExactFullForSpec)

end Rows
end Go.Proofs.Ytphbidnhhhgmjaa
