/-
  No cell of these rows narrows 'for every input' (looked for: loops, veiled, ifaces, maps, wideKeys, modest, calm, conditions, laid).
  DERIVED. THE GIVEN ROWS OF THIS SEAT. 3 by the template 'for every input the law returns true; each argument reads behind the call as it read before'; 0 by the template 'total and deterministic' (their statements: YtoeibgpehaaidaaGreatTotals.lean).
  GIVEN WITH THE SEED: the statements are not yours to turn. If you find one false, say at which input.
  Laid BY PROGRAM, IN A SANDBOX (cutbox-rows.mjs): the forced cells as the released guide's own fill.sh prints them over the translation ef5778b0fe297f9b… (all of the seat's roots in one cut). By AI agents, Wed Nov 11 2026. No macro, syntax, notation, axiom, sorry.
-/
import Derived.Test.YtoeibgpehaaidaaGreatChecked
import GoSem.Claim
import GoSem.ClaimJoined
import GoSem.ClaimMapViews
import Derived.JoinedTies
import Derived.KernelRfl
namespace Go.Proofs.YtoeibgpehaaidaaGreat
/- THE CELL 'sum', in the pinned program and in every row, IS THE sha256 OF THE DUMP (.gsa) THAT YtoeibgpehaaidaaGreatProg.lean LOADS. Nothing in Lean hashes anything: it is a label: what it is worth is what the hold of that sum in a sandbox is worth. -/
noncomputable def Tryz.pinned : Pinned := { name := "ytoeibgpehaaidaagreat", sum := "ef5778b0fe297f9bb5dc1b281594c10fa05c336cdc7132d8ef75d49c4713a62f", checked := Tryz.checked }
namespace Rows
def none {H : Type} : Left H := { results := [], args := [] }

/-- 'laws.FnExactEagerPlay': WHATEVER THE INPUT: true; the input reads as it did. -/
def fnExactEagerPlaySpec : ChangeSpec := { name := "fnExactEagerPlay", fn := fun _ => fun
  | [d1, d2, d3] => { results := [.lit (.bool true)], args := [d1, d2, d3] }
  | _ => none }
def fnExactEagerPlayRow : OpenClaim := { program := "ytoeibgpehaaidaagreat", sum := "ef5778b0fe297f9bb5dc1b281594c10fa05c336cdc7132d8ef75d49c4713a62f", func := "loop.example/g00499/laws.FnExactEagerPlay", spec := "fnExactEagerPlay", inPlace := ["slices.overlaps[loop.example/g00499/impl.Handle]", "slices.overlaps[loop.example/g00499/impl.Room]"], unfollowed := true, recurses := true, apart := false }
def FnExactEagerPlaySaid : Prop := fnExactEagerPlayRow.holds Tryz.pinned (OpenSpec.ofChange fnExactEagerPlaySpec)

/-- ITS FALSE NEIGHBOUR: 'it returns false'. Refute it at one input. -/
def fnExactEagerPlayWrong : ChangeSpec := { name := "fnExactEagerPlay", fn := fun _ => fun
  | [d1, d2, d3] => { results := [.lit (.bool false)], args := [d1, d2, d3] }
  | _ => none }
def FnExactEagerPlayWrongFalsely : Prop := fnExactEagerPlayRow.holds Tryz.pinned (OpenSpec.ofChange fnExactEagerPlayWrong)

/-- 'laws.FnExactAllFree': WHATEVER THE INPUT: true; the input reads as it did. -/
def fnExactAllFreeSpec : ChangeSpec := { name := "fnExactAllFree", fn := fun _ => fun
  | [d] => { results := [.lit (.bool true)], args := [d] }
  | _ => none }
def fnExactAllFreeRow : OpenClaim := { program := "ytoeibgpehaaidaagreat", sum := "ef5778b0fe297f9bb5dc1b281594c10fa05c336cdc7132d8ef75d49c4713a62f", func := "loop.example/g00499/laws.FnExactAllFree", spec := "fnExactAllFree", inPlace := ["slices.overlaps[loop.example/g00499/impl.Waste]"], unfollowed := true, recurses := true, apart := false }
def FnExactAllFreeSaid : Prop := fnExactAllFreeRow.holds Tryz.pinned (OpenSpec.ofChange fnExactAllFreeSpec)

/-- ITS FALSE NEIGHBOUR: 'it returns false'. Refute it at one input. -/
def fnExactAllFreeWrong : ChangeSpec := { name := "fnExactAllFree", fn := fun _ => fun
  | [d] => { results := [.lit (.bool false)], args := [d] }
  | _ => none }
def FnExactAllFreeWrongFalsely : Prop := fnExactAllFreeRow.holds Tryz.pinned (OpenSpec.ofChange fnExactAllFreeWrong)

/-- 'laws.FnExactScattered': WHATEVER THE INPUT: true; the input reads as it did. -/
def fnExactScatteredSpec : ChangeSpec := { name := "fnExactScattered", fn := fun _ => fun
  | [d1, d2] => { results := [.lit (.bool true)], args := [d1, d2] }
  | _ => none }
def fnExactScatteredRow : OpenClaim := { program := "ytoeibgpehaaidaagreat", sum := "ef5778b0fe297f9bb5dc1b281594c10fa05c336cdc7132d8ef75d49c4713a62f", func := "loop.example/g00499/laws.FnExactScattered", spec := "fnExactScattered", inPlace := ["slices.overlaps[loop.example/g00499/impl.Waste]"], unfollowed := true, recurses := true, apart := false }
def FnExactScatteredSaid : Prop := fnExactScatteredRow.holds Tryz.pinned (OpenSpec.ofChange fnExactScatteredSpec)

/-- ITS FALSE NEIGHBOUR: 'it returns false'. Refute it at one input. -/
def fnExactScatteredWrong : ChangeSpec := { name := "fnExactScattered", fn := fun _ => fun
  | [d1, d2] => { results := [.lit (.bool false)], args := [d1, d2] }
  | _ => none }
def FnExactScatteredWrongFalsely : Prop := fnExactScatteredRow.holds Tryz.pinned (OpenSpec.ofChange fnExactScatteredWrong)

/- THE SECOND FORM. 'bulk': how many values and letters a reading holds, each counted each time it is reached (what is shared counts as often as it is met; a slice's spare places count too). A statement '..UptoSaid' is the law's where the arguments, and the package variables that the reading takes, are together of bulk at most 1048576: NARROWER than '..Said'. Prove '..Said' where nothing that the law and all that it calls make is longer than what came in: it says more and counts as full. Else prove '..UptoSaid'. A law counts once. -/
mutual
def uptoBulk {H : Type} : DataW H → Nat
  | .lit (.string bytes) => bytes.length + 1
  | .lit _ => 1
  | .nil => 1
  | .ptr d => uptoBulk d + 1
  | .slice elems spare => uptoBulkAll elems + uptoBulkAll spare + 1
  | .agg parts => uptoBulkAll parts + 1
  | .iface _ d => uptoBulk d + 1
  | .map entries => uptoBulkEntries entries + 1
  | .held _ => 1
def uptoBulkAll {H : Type} : List (DataW H) → Nat
  | [] => 0
  | d :: r => uptoBulk d + uptoBulkAll r
def uptoBulkEntries {H : Type} : List (Lit × DataW H) → Nat
  | [] => 0
  | x :: r => uptoBulkEntry x + uptoBulkEntries r
def uptoBulkEntry {H : Type} : Lit × DataW H → Nat
  | (.string bytes, d) => bytes.length + uptoBulk d + 1
  | (_, d) => uptoBulk d + 1
 end
def uptoSmall : (H : Type) → List (DataW H) → Bool := fun _ ds => decide (uptoBulkAll ds ≤ 1048576)
def OpenSpec.upto (s : _root_.Go.ChangeSpec) : _root_.Go.OpenSpec := { _root_.Go.OpenSpec.ofChange s with cond := some uptoSmall }

/-- 'laws.FnExactEagerPlay', WHERE WHAT IT READS IS OF BULK AT MOST 1048576: true; the input reads as it did. -/
def fnExactEagerPlayUptoRow : OpenClaim := { program := "ytoeibgpehaaidaagreat", sum := "ef5778b0fe297f9bb5dc1b281594c10fa05c336cdc7132d8ef75d49c4713a62f", func := "loop.example/g00499/laws.FnExactEagerPlay", spec := "fnExactEagerPlay", inPlace := ["slices.overlaps[loop.example/g00499/impl.Handle]", "slices.overlaps[loop.example/g00499/impl.Room]"], unfollowed := true, recurses := true, apart := false, narrowed := true }
def FnExactEagerPlayUptoSaid : Prop := fnExactEagerPlayUptoRow.holds Tryz.pinned (OpenSpec.upto fnExactEagerPlaySpec)

/-- 'laws.FnExactAllFree', WHERE WHAT IT READS IS OF BULK AT MOST 1048576: true; the input reads as it did. -/
def fnExactAllFreeUptoRow : OpenClaim := { program := "ytoeibgpehaaidaagreat", sum := "ef5778b0fe297f9bb5dc1b281594c10fa05c336cdc7132d8ef75d49c4713a62f", func := "loop.example/g00499/laws.FnExactAllFree", spec := "fnExactAllFree", inPlace := ["slices.overlaps[loop.example/g00499/impl.Waste]"], unfollowed := true, recurses := true, apart := false, narrowed := true }
def FnExactAllFreeUptoSaid : Prop := fnExactAllFreeUptoRow.holds Tryz.pinned (OpenSpec.upto fnExactAllFreeSpec)

/-- 'laws.FnExactScattered', WHERE WHAT IT READS IS OF BULK AT MOST 1048576: true; the input reads as it did. -/
def fnExactScatteredUptoRow : OpenClaim := { program := "ytoeibgpehaaidaagreat", sum := "ef5778b0fe297f9bb5dc1b281594c10fa05c336cdc7132d8ef75d49c4713a62f", func := "loop.example/g00499/laws.FnExactScattered", spec := "fnExactScattered", inPlace := ["slices.overlaps[loop.example/g00499/impl.Waste]"], unfollowed := true, recurses := true, apart := false, narrowed := true }
def FnExactScatteredUptoSaid : Prop := fnExactScatteredUptoRow.holds Tryz.pinned (OpenSpec.upto fnExactScatteredSpec)

end Rows
end Go.Proofs.YtoeibgpehaaidaaGreat
