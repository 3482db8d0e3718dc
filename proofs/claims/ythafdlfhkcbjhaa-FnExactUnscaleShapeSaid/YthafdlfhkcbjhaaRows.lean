/-
  No cell of these rows narrows 'for every input' (looked for: loops, veiled, ifaces, maps, wideKeys, modest, calm, conditions, laid).
  DERIVED. THE GIVEN ROWS OF THIS SEAT. 4 by the template 'for every input the law returns true; each argument reads behind the call as it read before'; 0 by the template 'total and deterministic' (their statements: YthafdlfhkcbjhaaTotals.lean).
  GIVEN WITH THE SEED: the statements are not yours to turn. If you find one false, say at which input.
  Laid BY PROGRAM, IN A SANDBOX (cutbox-rows.mjs): the forced cells as the released guide's own fill.sh prints them over the translation d77de21981a72856… (all of the seat's roots in one cut). By AI agents, Wed Nov 11 2026. No macro, syntax, notation, axiom, sorry.
-/
import Derived.Test.YthafdlfhkcbjhaaChecked
import GoSem.Claim
import GoSem.ClaimJoined
import GoSem.ClaimMapViews
import Derived.JoinedTies
import Derived.KernelRfl
namespace Go.Proofs.Ythafdlfhkcbjhaa
/- THE CELL 'sum', in the pinned program and in every row, IS THE sha256 OF THE DUMP (.gsa) THAT YthafdlfhkcbjhaaProg.lean LOADS. Nothing in Lean hashes anything: it is a label: what it is worth is what the hold of that sum in a sandbox is worth. -/
noncomputable def Try.pinned : Pinned := { name := "ythafdlfhkcbjhaa", sum := "d77de21981a7285688a0002c138e20630197adb74d22fd06062d1bc3bec55ff0", checked := Try.checked }
namespace Rows
def none {H : Type} : Left H := { results := [], args := [] }

/-- 'laws.FnExactDigitsOf': WHATEVER THE INPUT: true; the input reads as it did. -/
def fnExactDigitsOfSpec : ChangeSpec := { name := "fnExactDigitsOf", fn := fun _ => fun
  | [d1, d2, d3] => { results := [.lit (.bool true)], args := [d1, d2, d3] }
  | _ => none }
def fnExactDigitsOfRow : OpenClaim := { program := "ythafdlfhkcbjhaa", sum := "d77de21981a7285688a0002c138e20630197adb74d22fd06062d1bc3bec55ff0", func := "loop.example/g01081/laws.FnExactDigitsOf", spec := "fnExactDigitsOf", unfollowed := true, recurses := true, apart := false }
def FnExactDigitsOfSaid : Prop := fnExactDigitsOfRow.holds Try.pinned (OpenSpec.ofChange fnExactDigitsOfSpec)

/-- ITS FALSE NEIGHBOUR: 'it returns false'. Refute it at one input. -/
def fnExactDigitsOfWrong : ChangeSpec := { name := "fnExactDigitsOf", fn := fun _ => fun
  | [d1, d2, d3] => { results := [.lit (.bool false)], args := [d1, d2, d3] }
  | _ => none }
def FnExactDigitsOfWrongFalsely : Prop := fnExactDigitsOfRow.holds Try.pinned (OpenSpec.ofChange fnExactDigitsOfWrong)

/-- 'laws.FnExactSplitLines': WHATEVER THE INPUT: true; the input reads as it did. -/
def fnExactSplitLinesSpec : ChangeSpec := { name := "fnExactSplitLines", fn := fun _ => fun
  | [d] => { results := [.lit (.bool true)], args := [d] }
  | _ => none }
def fnExactSplitLinesRow : OpenClaim := { program := "ythafdlfhkcbjhaa", sum := "d77de21981a7285688a0002c138e20630197adb74d22fd06062d1bc3bec55ff0", func := "loop.example/g01081/laws.FnExactSplitLines", spec := "fnExactSplitLines", inPlace := ["internal/bytealg.IndexByteString"], unfollowed := true, recurses := true, apart := false }
def FnExactSplitLinesSaid : Prop := fnExactSplitLinesRow.holds Try.pinned (OpenSpec.ofChange fnExactSplitLinesSpec)

/-- ITS FALSE NEIGHBOUR: 'it returns false'. Refute it at one input. -/
def fnExactSplitLinesWrong : ChangeSpec := { name := "fnExactSplitLines", fn := fun _ => fun
  | [d] => { results := [.lit (.bool false)], args := [d] }
  | _ => none }
def FnExactSplitLinesWrongFalsely : Prop := fnExactSplitLinesRow.holds Try.pinned (OpenSpec.ofChange fnExactSplitLinesWrong)

/-- 'laws.FnExactSameProof': WHATEVER THE INPUT: true; the input reads as it did. -/
def fnExactSameProofSpec : ChangeSpec := { name := "fnExactSameProof", fn := fun _ => fun
  | [d1, d2] => { results := [.lit (.bool true)], args := [d1, d2] }
  | _ => none }
def fnExactSameProofRow : OpenClaim := { program := "ythafdlfhkcbjhaa", sum := "d77de21981a7285688a0002c138e20630197adb74d22fd06062d1bc3bec55ff0", func := "loop.example/g01081/laws.FnExactSameProof", spec := "fnExactSameProof", unfollowed := true, recurses := true, apart := false }
def FnExactSameProofSaid : Prop := fnExactSameProofRow.holds Try.pinned (OpenSpec.ofChange fnExactSameProofSpec)

/-- ITS FALSE NEIGHBOUR: 'it returns false'. Refute it at one input. -/
def fnExactSameProofWrong : ChangeSpec := { name := "fnExactSameProof", fn := fun _ => fun
  | [d1, d2] => { results := [.lit (.bool false)], args := [d1, d2] }
  | _ => none }
def FnExactSameProofWrongFalsely : Prop := fnExactSameProofRow.holds Try.pinned (OpenSpec.ofChange fnExactSameProofWrong)

/-- 'laws.FnExactUnscaleShape': WHATEVER THE INPUT: true; the input reads as it did. -/
def fnExactUnscaleShapeSpec : ChangeSpec := { name := "fnExactUnscaleShape", fn := fun _ => fun
  | [d1, d2] => { results := [.lit (.bool true)], args := [d1, d2] }
  | _ => none }
def fnExactUnscaleShapeRow : OpenClaim := { program := "ythafdlfhkcbjhaa", sum := "d77de21981a7285688a0002c138e20630197adb74d22fd06062d1bc3bec55ff0", func := "loop.example/g01081/laws.FnExactUnscaleShape", spec := "fnExactUnscaleShape", unfollowed := true, recurses := true, apart := false }
def FnExactUnscaleShapeSaid : Prop := fnExactUnscaleShapeRow.holds Try.pinned (OpenSpec.ofChange fnExactUnscaleShapeSpec)

/-- ITS FALSE NEIGHBOUR: 'it returns false'. Refute it at one input. -/
def fnExactUnscaleShapeWrong : ChangeSpec := { name := "fnExactUnscaleShape", fn := fun _ => fun
  | [d1, d2] => { results := [.lit (.bool false)], args := [d1, d2] }
  | _ => none }
def FnExactUnscaleShapeWrongFalsely : Prop := fnExactUnscaleShapeRow.holds Try.pinned (OpenSpec.ofChange fnExactUnscaleShapeWrong)

/- THE SECOND FORM. 'bulk': how many values and letters a reading holds, each counted each time it is reached (what is shared counts as often as it is met; a slice's spare places count too). A statement '..UptoSaid' is the law's where the arguments, and the package variables that the reading takes, are together of bulk at most 1048576: NARROWER than '..Said'. Prove '..Said' where nothing that the law and all that it calls make is longer than what came in: it says more and counts as full. Else prove '..UptoSaid'. A law counts once. -/
mutual
def uptoBulk {H : Type} : DataW H → Nat
  | .lit (.string bytes) => bytes.length + 1
  | .lit _ => 1
  | .nil => 1
  | .ptr d => uptoBulk d + 1
  | .slice elems spare => uptoBulkAll elems + uptoBulkAll spare + 1
  | .agg parts => uptoBulkAll parts + 1
  | .iface _ d => uptoBulk d + 1
  | .map entries => uptoBulkEntries entries + 1
  | .held _ => 1
def uptoBulkAll {H : Type} : List (DataW H) → Nat
  | [] => 0
  | d :: r => uptoBulk d + uptoBulkAll r
def uptoBulkEntries {H : Type} : List (Lit × DataW H) → Nat
  | [] => 0
  | x :: r => uptoBulkEntry x + uptoBulkEntries r
def uptoBulkEntry {H : Type} : Lit × DataW H → Nat
  | (.string bytes, d) => bytes.length + uptoBulk d + 1
  | (_, d) => uptoBulk d + 1
 end
def uptoSmall : (H : Type) → List (DataW H) → Bool := fun _ ds => decide (uptoBulkAll ds ≤ 1048576)
def OpenSpec.upto (s : _root_.Go.ChangeSpec) : _root_.Go.OpenSpec := { _root_.Go.OpenSpec.ofChange s with cond := some uptoSmall }

/-- 'laws.FnExactDigitsOf', WHERE WHAT IT READS IS OF BULK AT MOST 1048576: true; the input reads as it did. -/
def fnExactDigitsOfUptoRow : OpenClaim := { program := "ythafdlfhkcbjhaa", sum := "d77de21981a7285688a0002c138e20630197adb74d22fd06062d1bc3bec55ff0", func := "loop.example/g01081/laws.FnExactDigitsOf", spec := "fnExactDigitsOf", unfollowed := true, recurses := true, apart := false, narrowed := true }
def FnExactDigitsOfUptoSaid : Prop := fnExactDigitsOfUptoRow.holds Try.pinned (OpenSpec.upto fnExactDigitsOfSpec)

/-- 'laws.FnExactSplitLines', WHERE WHAT IT READS IS OF BULK AT MOST 1048576: true; the input reads as it did. -/
def fnExactSplitLinesUptoRow : OpenClaim := { program := "ythafdlfhkcbjhaa", sum := "d77de21981a7285688a0002c138e20630197adb74d22fd06062d1bc3bec55ff0", func := "loop.example/g01081/laws.FnExactSplitLines", spec := "fnExactSplitLines", inPlace := ["internal/bytealg.IndexByteString"], unfollowed := true, recurses := true, apart := false, narrowed := true }
def FnExactSplitLinesUptoSaid : Prop := fnExactSplitLinesUptoRow.holds Try.pinned (OpenSpec.upto fnExactSplitLinesSpec)

/-- 'laws.FnExactSameProof', WHERE WHAT IT READS IS OF BULK AT MOST 1048576: true; the input reads as it did. -/
def fnExactSameProofUptoRow : OpenClaim := { program := "ythafdlfhkcbjhaa", sum := "d77de21981a7285688a0002c138e20630197adb74d22fd06062d1bc3bec55ff0", func := "loop.example/g01081/laws.FnExactSameProof", spec := "fnExactSameProof", unfollowed := true, recurses := true, apart := false, narrowed := true }
def FnExactSameProofUptoSaid : Prop := fnExactSameProofUptoRow.holds Try.pinned (OpenSpec.upto fnExactSameProofSpec)

/-- 'laws.FnExactUnscaleShape', WHERE WHAT IT READS IS OF BULK AT MOST 1048576: true; the input reads as it did. -/
def fnExactUnscaleShapeUptoRow : OpenClaim := { program := "ythafdlfhkcbjhaa", sum := "d77de21981a7285688a0002c138e20630197adb74d22fd06062d1bc3bec55ff0", func := "loop.example/g01081/laws.FnExactUnscaleShape", spec := "fnExactUnscaleShape", unfollowed := true, recurses := true, apart := false, narrowed := true }
def FnExactUnscaleShapeUptoSaid : Prop := fnExactUnscaleShapeUptoRow.holds Try.pinned (OpenSpec.upto fnExactUnscaleShapeSpec)

end Rows
end Go.Proofs.Ythafdlfhkcbjhaa
