/-
  No cell of these rows narrows 'for every input' (looked for: loops, veiled, ifaces, maps, wideKeys, modest, calm, conditions, laid).
  DERIVED. THE GIVEN ROWS OF THIS SEAT. 6 by the template 'for every input the law returns true; each argument reads behind the call as it read before'; 0 by the template 'total and deterministic' (their statements: YtmjnjdoegjdlhaaTotals.lean).
  GIVEN WITH THE SEED: the statements are not yours to turn. If you find one false, say at which input.
  Laid BY PROGRAM, IN A SANDBOX (cutbox-rows.mjs): the forced cells as the released guide's own fill.sh prints them over the translation 50e15ea8fe9886d3… (all of the seat's roots in one cut). By AI agents, Wed Nov 11 2026. No macro, syntax, notation, axiom, sorry.
-/
import Derived.Test.YtmjnjdoegjdlhaaChecked
import GoSem.Claim
import GoSem.ClaimJoined
import GoSem.ClaimMapViews
import Derived.JoinedTies
import Derived.KernelRfl
namespace Go.Proofs.Ytmjnjdoegjdlhaa
/- THE CELL 'sum', in the pinned program and in every row, IS THE sha256 OF THE DUMP (.gsa) THAT YtmjnjdoegjdlhaaProg.lean LOADS. Nothing in Lean hashes anything: it is a label: what it is worth is what the hold of that sum in a sandbox is worth. -/
noncomputable def Try.pinned : Pinned := { name := "ytmjnjdoegjdlhaa", sum := "50e15ea8fe9886d31577f93faed6c81527a95445a85b9750cff05a91c3339665", checked := Try.checked }
namespace Rows
def none {H : Type} : Left H := { results := [], args := [] }

/-- 'laws.FnExactValidShape': WHATEVER THE INPUT: true; the input reads as it did. -/
def fnExactValidShapeSpec : ChangeSpec := { name := "fnExactValidShape", fn := fun _ => fun
  | [d] => { results := [.lit (.bool true)], args := [d] }
  | _ => none }
def fnExactValidShapeRow : OpenClaim := { program := "ytmjnjdoegjdlhaa", sum := "50e15ea8fe9886d31577f93faed6c81527a95445a85b9750cff05a91c3339665", func := "loop.example/g01081/laws.FnExactValidShape", spec := "fnExactValidShape", apart := false }
def FnExactValidShapeSaid : Prop := fnExactValidShapeRow.holds Try.pinned (OpenSpec.ofChange fnExactValidShapeSpec)

/-- ITS FALSE NEIGHBOUR: 'it returns false'. Refute it at one input. -/
def fnExactValidShapeWrong : ChangeSpec := { name := "fnExactValidShape", fn := fun _ => fun
  | [d] => { results := [.lit (.bool false)], args := [d] }
  | _ => none }
def FnExactValidShapeWrongFalsely : Prop := fnExactValidShapeRow.holds Try.pinned (OpenSpec.ofChange fnExactValidShapeWrong)

/-- 'laws.FnExactHomeShape': WHATEVER THE INPUT: true; the input reads as it did. -/
def fnExactHomeShapeSpec : ChangeSpec := { name := "fnExactHomeShape", fn := fun _ => fun
  | [d] => { results := [.lit (.bool true)], args := [d] }
  | _ => none }
def fnExactHomeShapeRow : OpenClaim := { program := "ytmjnjdoegjdlhaa", sum := "50e15ea8fe9886d31577f93faed6c81527a95445a85b9750cff05a91c3339665", func := "loop.example/g01081/laws.FnExactHomeShape", spec := "fnExactHomeShape", apart := false }
def FnExactHomeShapeSaid : Prop := fnExactHomeShapeRow.holds Try.pinned (OpenSpec.ofChange fnExactHomeShapeSpec)

/-- ITS FALSE NEIGHBOUR: 'it returns false'. Refute it at one input. -/
def fnExactHomeShapeWrong : ChangeSpec := { name := "fnExactHomeShape", fn := fun _ => fun
  | [d] => { results := [.lit (.bool false)], args := [d] }
  | _ => none }
def FnExactHomeShapeWrongFalsely : Prop := fnExactHomeShapeRow.holds Try.pinned (OpenSpec.ofChange fnExactHomeShapeWrong)

/-- 'laws.FnExactTurnShape': WHATEVER THE INPUT: true; the input reads as it did. -/
def fnExactTurnShapeSpec : ChangeSpec := { name := "fnExactTurnShape", fn := fun _ => fun
  | [d1, d2] => { results := [.lit (.bool true)], args := [d1, d2] }
  | _ => none }
def fnExactTurnShapeRow : OpenClaim := { program := "ytmjnjdoegjdlhaa", sum := "50e15ea8fe9886d31577f93faed6c81527a95445a85b9750cff05a91c3339665", func := "loop.example/g01081/laws.FnExactTurnShape", spec := "fnExactTurnShape", unfollowed := true, recurses := true, apart := false }
def FnExactTurnShapeSaid : Prop := fnExactTurnShapeRow.holds Try.pinned (OpenSpec.ofChange fnExactTurnShapeSpec)

/-- ITS FALSE NEIGHBOUR: 'it returns false'. Refute it at one input. -/
def fnExactTurnShapeWrong : ChangeSpec := { name := "fnExactTurnShape", fn := fun _ => fun
  | [d1, d2] => { results := [.lit (.bool false)], args := [d1, d2] }
  | _ => none }
def FnExactTurnShapeWrongFalsely : Prop := fnExactTurnShapeRow.holds Try.pinned (OpenSpec.ofChange fnExactTurnShapeWrong)

/-- 'laws.FnExactSymmetriesOf': WHATEVER THE INPUT: true; the input reads as it did. -/
def fnExactSymmetriesOfSpec : ChangeSpec := { name := "fnExactSymmetriesOf", fn := fun _ => fun
  | [d] => { results := [.lit (.bool true)], args := [d] }
  | _ => none }
def fnExactSymmetriesOfRow : OpenClaim := { program := "ytmjnjdoegjdlhaa", sum := "50e15ea8fe9886d31577f93faed6c81527a95445a85b9750cff05a91c3339665", func := "loop.example/g01081/laws.FnExactSymmetriesOf", spec := "fnExactSymmetriesOf", unfollowed := true, recurses := true, apart := false }
def FnExactSymmetriesOfSaid : Prop := fnExactSymmetriesOfRow.holds Try.pinned (OpenSpec.ofChange fnExactSymmetriesOfSpec)

/-- ITS FALSE NEIGHBOUR: 'it returns false'. Refute it at one input. -/
def fnExactSymmetriesOfWrong : ChangeSpec := { name := "fnExactSymmetriesOf", fn := fun _ => fun
  | [d] => { results := [.lit (.bool false)], args := [d] }
  | _ => none }
def FnExactSymmetriesOfWrongFalsely : Prop := fnExactSymmetriesOfRow.holds Try.pinned (OpenSpec.ofChange fnExactSymmetriesOfWrong)

/-- 'laws.FnExactScaleShape': WHATEVER THE INPUT: true; the input reads as it did. -/
def fnExactScaleShapeSpec : ChangeSpec := { name := "fnExactScaleShape", fn := fun _ => fun
  | [d1, d2] => { results := [.lit (.bool true)], args := [d1, d2] }
  | _ => none }
def fnExactScaleShapeRow : OpenClaim := { program := "ytmjnjdoegjdlhaa", sum := "50e15ea8fe9886d31577f93faed6c81527a95445a85b9750cff05a91c3339665", func := "loop.example/g01081/laws.FnExactScaleShape", spec := "fnExactScaleShape", unfollowed := true, recurses := true, apart := false }
def FnExactScaleShapeSaid : Prop := fnExactScaleShapeRow.holds Try.pinned (OpenSpec.ofChange fnExactScaleShapeSpec)

/-- ITS FALSE NEIGHBOUR: 'it returns false'. Refute it at one input. -/
def fnExactScaleShapeWrong : ChangeSpec := { name := "fnExactScaleShape", fn := fun _ => fun
  | [d1, d2] => { results := [.lit (.bool false)], args := [d1, d2] }
  | _ => none }
def FnExactScaleShapeWrongFalsely : Prop := fnExactScaleShapeRow.holds Try.pinned (OpenSpec.ofChange fnExactScaleShapeWrong)

/-- 'laws.FnExactUnscaleShape': WHATEVER THE INPUT: true; the input reads as it did. -/
def fnExactUnscaleShapeSpec : ChangeSpec := { name := "fnExactUnscaleShape", fn := fun _ => fun
  | [d1, d2] => { results := [.lit (.bool true)], args := [d1, d2] }
  | _ => none }
def fnExactUnscaleShapeRow : OpenClaim := { program := "ytmjnjdoegjdlhaa", sum := "50e15ea8fe9886d31577f93faed6c81527a95445a85b9750cff05a91c3339665", func := "loop.example/g01081/laws.FnExactUnscaleShape", spec := "fnExactUnscaleShape", unfollowed := true, recurses := true, apart := false }
def FnExactUnscaleShapeSaid : Prop := fnExactUnscaleShapeRow.holds Try.pinned (OpenSpec.ofChange fnExactUnscaleShapeSpec)

/-- ITS FALSE NEIGHBOUR: 'it returns false'. Refute it at one input. -/
def fnExactUnscaleShapeWrong : ChangeSpec := { name := "fnExactUnscaleShape", fn := fun _ => fun
  | [d1, d2] => { results := [.lit (.bool false)], args := [d1, d2] }
  | _ => none }
def FnExactUnscaleShapeWrongFalsely : Prop := fnExactUnscaleShapeRow.holds Try.pinned (OpenSpec.ofChange fnExactUnscaleShapeWrong)

/- THE SECOND FORM. 'bulk': how many values and letters a reading holds, each counted each time it is reached (what is shared counts as often as it is met; a slice's spare places count too). A statement '..UptoSaid' is the law's where the arguments, and the package variables that the reading takes, are together of bulk at most 1048576: NARROWER than '..Said'. Prove '..Said' where nothing that the law and all that it calls make is longer than what came in: it says more and counts as full. Else prove '..UptoSaid'. A law counts once. -/
mutual
def uptoBulk {H : Type} : DataW H → Nat
  | .lit (.string bytes) => bytes.length + 1
  | .lit _ => 1
  | .nil => 1
  | .ptr d => uptoBulk d + 1
  | .slice elems spare => uptoBulkAll elems + uptoBulkAll spare + 1
  | .agg parts => uptoBulkAll parts + 1
  | .iface _ d => uptoBulk d + 1
  | .map entries => uptoBulkEntries entries + 1
  | .held _ => 1
def uptoBulkAll {H : Type} : List (DataW H) → Nat
  | [] => 0
  | d :: r => uptoBulk d + uptoBulkAll r
def uptoBulkEntries {H : Type} : List (Lit × DataW H) → Nat
  | [] => 0
  | x :: r => uptoBulkEntry x + uptoBulkEntries r
def uptoBulkEntry {H : Type} : Lit × DataW H → Nat
  | (.string bytes, d) => bytes.length + uptoBulk d + 1
  | (_, d) => uptoBulk d + 1
 end
def uptoSmall : (H : Type) → List (DataW H) → Bool := fun _ ds => decide (uptoBulkAll ds ≤ 1048576)
def OpenSpec.upto (s : _root_.Go.ChangeSpec) : _root_.Go.OpenSpec := { _root_.Go.OpenSpec.ofChange s with cond := some uptoSmall }

/-- 'laws.FnExactValidShape', WHERE WHAT IT READS IS OF BULK AT MOST 1048576: true; the input reads as it did. -/
def fnExactValidShapeUptoRow : OpenClaim := { program := "ytmjnjdoegjdlhaa", sum := "50e15ea8fe9886d31577f93faed6c81527a95445a85b9750cff05a91c3339665", func := "loop.example/g01081/laws.FnExactValidShape", spec := "fnExactValidShape", apart := false, narrowed := true }
def FnExactValidShapeUptoSaid : Prop := fnExactValidShapeUptoRow.holds Try.pinned (OpenSpec.upto fnExactValidShapeSpec)

/-- 'laws.FnExactHomeShape', WHERE WHAT IT READS IS OF BULK AT MOST 1048576: true; the input reads as it did. -/
def fnExactHomeShapeUptoRow : OpenClaim := { program := "ytmjnjdoegjdlhaa", sum := "50e15ea8fe9886d31577f93faed6c81527a95445a85b9750cff05a91c3339665", func := "loop.example/g01081/laws.FnExactHomeShape", spec := "fnExactHomeShape", apart := false, narrowed := true }
def FnExactHomeShapeUptoSaid : Prop := fnExactHomeShapeUptoRow.holds Try.pinned (OpenSpec.upto fnExactHomeShapeSpec)

/-- 'laws.FnExactTurnShape', WHERE WHAT IT READS IS OF BULK AT MOST 1048576: true; the input reads as it did. -/
def fnExactTurnShapeUptoRow : OpenClaim := { program := "ytmjnjdoegjdlhaa", sum := "50e15ea8fe9886d31577f93faed6c81527a95445a85b9750cff05a91c3339665", func := "loop.example/g01081/laws.FnExactTurnShape", spec := "fnExactTurnShape", unfollowed := true, recurses := true, apart := false, narrowed := true }
def FnExactTurnShapeUptoSaid : Prop := fnExactTurnShapeUptoRow.holds Try.pinned (OpenSpec.upto fnExactTurnShapeSpec)

/-- 'laws.FnExactSymmetriesOf', WHERE WHAT IT READS IS OF BULK AT MOST 1048576: true; the input reads as it did. -/
def fnExactSymmetriesOfUptoRow : OpenClaim := { program := "ytmjnjdoegjdlhaa", sum := "50e15ea8fe9886d31577f93faed6c81527a95445a85b9750cff05a91c3339665", func := "loop.example/g01081/laws.FnExactSymmetriesOf", spec := "fnExactSymmetriesOf", unfollowed := true, recurses := true, apart := false, narrowed := true }
def FnExactSymmetriesOfUptoSaid : Prop := fnExactSymmetriesOfUptoRow.holds Try.pinned (OpenSpec.upto fnExactSymmetriesOfSpec)

/-- 'laws.FnExactScaleShape', WHERE WHAT IT READS IS OF BULK AT MOST 1048576: true; the input reads as it did. -/
def fnExactScaleShapeUptoRow : OpenClaim := { program := "ytmjnjdoegjdlhaa", sum := "50e15ea8fe9886d31577f93faed6c81527a95445a85b9750cff05a91c3339665", func := "loop.example/g01081/laws.FnExactScaleShape", spec := "fnExactScaleShape", unfollowed := true, recurses := true, apart := false, narrowed := true }
def FnExactScaleShapeUptoSaid : Prop := fnExactScaleShapeUptoRow.holds Try.pinned (OpenSpec.upto fnExactScaleShapeSpec)

/-- 'laws.FnExactUnscaleShape', WHERE WHAT IT READS IS OF BULK AT MOST 1048576: true; the input reads as it did. -/
def fnExactUnscaleShapeUptoRow : OpenClaim := { program := "ytmjnjdoegjdlhaa", sum := "50e15ea8fe9886d31577f93faed6c81527a95445a85b9750cff05a91c3339665", func := "loop.example/g01081/laws.FnExactUnscaleShape", spec := "fnExactUnscaleShape", unfollowed := true, recurses := true, apart := false, narrowed := true }
def FnExactUnscaleShapeUptoSaid : Prop := fnExactUnscaleShapeUptoRow.holds Try.pinned (OpenSpec.upto fnExactUnscaleShapeSpec)

end Rows
end Go.Proofs.Ytmjnjdoegjdlhaa
