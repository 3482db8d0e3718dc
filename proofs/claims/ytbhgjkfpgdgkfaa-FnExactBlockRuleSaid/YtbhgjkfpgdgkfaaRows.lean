/-
  No cell of these rows narrows 'for every input' (looked for: loops, veiled, ifaces, maps, wideKeys, modest, calm, conditions, laid).
  DERIVED. THE GIVEN ROWS OF THIS SEAT. 12 by the template 'for every input the law returns true; each argument reads behind the call as it read before'; 0 by the template 'total and deterministic' (their statements: YtbhgjkfpgdgkfaaTotals.lean).
  GIVEN WITH THE SEED: the statements are not yours to turn. If you find one false, say at which input.
  Laid BY PROGRAM, IN A SANDBOX (cutbox-rows.mjs): the forced cells as the released guide's own fill.sh prints them over the translation 48eadf46efaa47fd… (all of the seat's roots in one cut). By AI agents, Wed Nov 11 2026. No macro, syntax, notation, axiom, sorry.
-/
import Derived.Test.YtbhgjkfpgdgkfaaChecked
import GoSem.Claim
import GoSem.ClaimJoined
import GoSem.ClaimMapViews
import Derived.JoinedTies
import Derived.KernelRfl
namespace Go.Proofs.Ytbhgjkfpgdgkfaa
/- THE CELL 'sum', in the pinned program and in every row, IS THE sha256 OF THE DUMP (.gsa) THAT YtbhgjkfpgdgkfaaProg.lean LOADS. Nothing in Lean hashes anything: it is a label: what it is worth is what the hold of that sum in a sandbox is worth. -/
noncomputable def Try.pinned : Pinned := { name := "ytbhgjkfpgdgkfaa", sum := "48eadf46efaa47fdd8ecf3f9bd113c2f68fffab734d8a7991b7f9f79389041c5", checked := Try.checked }
namespace Rows
def none {H : Type} : Left H := { results := [], args := [] }

/-- 'laws.FnExactValidFrac': WHATEVER THE INPUT: true; the input reads as it did. -/
def fnExactValidFracSpec : ChangeSpec := { name := "fnExactValidFrac", fn := fun _ => fun
  | [d] => { results := [.lit (.bool true)], args := [d] }
  | _ => none }
def fnExactValidFracRow : OpenClaim := { program := "ytbhgjkfpgdgkfaa", sum := "48eadf46efaa47fdd8ecf3f9bd113c2f68fffab734d8a7991b7f9f79389041c5", func := "loop.example/g01081/laws.FnExactValidFrac", spec := "fnExactValidFrac", apart := false }
def FnExactValidFracSaid : Prop := fnExactValidFracRow.holds Try.pinned (OpenSpec.ofChange fnExactValidFracSpec)

/-- ITS FALSE NEIGHBOUR: 'it returns false'. Refute it at one input. -/
def fnExactValidFracWrong : ChangeSpec := { name := "fnExactValidFrac", fn := fun _ => fun
  | [d] => { results := [.lit (.bool false)], args := [d] }
  | _ => none }
def FnExactValidFracWrongFalsely : Prop := fnExactValidFracRow.holds Try.pinned (OpenSpec.ofChange fnExactValidFracWrong)

/-- 'laws.FnExactMakeFrac': WHATEVER THE INPUT: true; the input reads as it did. -/
def fnExactMakeFracSpec : ChangeSpec := { name := "fnExactMakeFrac", fn := fun _ => fun
  | [d1, d2] => { results := [.lit (.bool true)], args := [d1, d2] }
  | _ => none }
def fnExactMakeFracRow : OpenClaim := { program := "ytbhgjkfpgdgkfaa", sum := "48eadf46efaa47fdd8ecf3f9bd113c2f68fffab734d8a7991b7f9f79389041c5", func := "loop.example/g01081/laws.FnExactMakeFrac", spec := "fnExactMakeFrac", apart := false }
def FnExactMakeFracSaid : Prop := fnExactMakeFracRow.holds Try.pinned (OpenSpec.ofChange fnExactMakeFracSpec)

/-- ITS FALSE NEIGHBOUR: 'it returns false'. Refute it at one input. -/
def fnExactMakeFracWrong : ChangeSpec := { name := "fnExactMakeFrac", fn := fun _ => fun
  | [d1, d2] => { results := [.lit (.bool false)], args := [d1, d2] }
  | _ => none }
def FnExactMakeFracWrongFalsely : Prop := fnExactMakeFracRow.holds Try.pinned (OpenSpec.ofChange fnExactMakeFracWrong)

/-- 'laws.FnExactMulFrac': WHATEVER THE INPUT: true; the input reads as it did. -/
def fnExactMulFracSpec : ChangeSpec := { name := "fnExactMulFrac", fn := fun _ => fun
  | [d1, d2] => { results := [.lit (.bool true)], args := [d1, d2] }
  | _ => none }
def fnExactMulFracRow : OpenClaim := { program := "ytbhgjkfpgdgkfaa", sum := "48eadf46efaa47fdd8ecf3f9bd113c2f68fffab734d8a7991b7f9f79389041c5", func := "loop.example/g01081/laws.FnExactMulFrac", spec := "fnExactMulFrac", apart := false }
def FnExactMulFracSaid : Prop := fnExactMulFracRow.holds Try.pinned (OpenSpec.ofChange fnExactMulFracSpec)

/-- ITS FALSE NEIGHBOUR: 'it returns false'. Refute it at one input. -/
def fnExactMulFracWrong : ChangeSpec := { name := "fnExactMulFrac", fn := fun _ => fun
  | [d1, d2] => { results := [.lit (.bool false)], args := [d1, d2] }
  | _ => none }
def FnExactMulFracWrongFalsely : Prop := fnExactMulFracRow.holds Try.pinned (OpenSpec.ofChange fnExactMulFracWrong)

/-- 'laws.FnExactCompareFrac': WHATEVER THE INPUT: true; the input reads as it did. -/
def fnExactCompareFracSpec : ChangeSpec := { name := "fnExactCompareFrac", fn := fun _ => fun
  | [d1, d2] => { results := [.lit (.bool true)], args := [d1, d2] }
  | _ => none }
def fnExactCompareFracRow : OpenClaim := { program := "ytbhgjkfpgdgkfaa", sum := "48eadf46efaa47fdd8ecf3f9bd113c2f68fffab734d8a7991b7f9f79389041c5", func := "loop.example/g01081/laws.FnExactCompareFrac", spec := "fnExactCompareFrac", apart := false }
def FnExactCompareFracSaid : Prop := fnExactCompareFracRow.holds Try.pinned (OpenSpec.ofChange fnExactCompareFracSpec)

/-- ITS FALSE NEIGHBOUR: 'it returns false'. Refute it at one input. -/
def fnExactCompareFracWrong : ChangeSpec := { name := "fnExactCompareFrac", fn := fun _ => fun
  | [d1, d2] => { results := [.lit (.bool false)], args := [d1, d2] }
  | _ => none }
def FnExactCompareFracWrongFalsely : Prop := fnExactCompareFracRow.holds Try.pinned (OpenSpec.ofChange fnExactCompareFracWrong)

/-- 'laws.FnExactAddFrac': WHATEVER THE INPUT: true; the input reads as it did. -/
def fnExactAddFracSpec : ChangeSpec := { name := "fnExactAddFrac", fn := fun _ => fun
  | [d1, d2] => { results := [.lit (.bool true)], args := [d1, d2] }
  | _ => none }
def fnExactAddFracRow : OpenClaim := { program := "ytbhgjkfpgdgkfaa", sum := "48eadf46efaa47fdd8ecf3f9bd113c2f68fffab734d8a7991b7f9f79389041c5", func := "loop.example/g01081/laws.FnExactAddFrac", spec := "fnExactAddFrac", apart := false }
def FnExactAddFracSaid : Prop := fnExactAddFracRow.holds Try.pinned (OpenSpec.ofChange fnExactAddFracSpec)

/-- ITS FALSE NEIGHBOUR: 'it returns false'. Refute it at one input. -/
def fnExactAddFracWrong : ChangeSpec := { name := "fnExactAddFrac", fn := fun _ => fun
  | [d1, d2] => { results := [.lit (.bool false)], args := [d1, d2] }
  | _ => none }
def FnExactAddFracWrongFalsely : Prop := fnExactAddFracRow.holds Try.pinned (OpenSpec.ofChange fnExactAddFracWrong)

/-- 'laws.FnExactDivFrac': WHATEVER THE INPUT: true; the input reads as it did. -/
def fnExactDivFracSpec : ChangeSpec := { name := "fnExactDivFrac", fn := fun _ => fun
  | [d1, d2] => { results := [.lit (.bool true)], args := [d1, d2] }
  | _ => none }
def fnExactDivFracRow : OpenClaim := { program := "ytbhgjkfpgdgkfaa", sum := "48eadf46efaa47fdd8ecf3f9bd113c2f68fffab734d8a7991b7f9f79389041c5", func := "loop.example/g01081/laws.FnExactDivFrac", spec := "fnExactDivFrac", apart := false }
def FnExactDivFracSaid : Prop := fnExactDivFracRow.holds Try.pinned (OpenSpec.ofChange fnExactDivFracSpec)

/-- ITS FALSE NEIGHBOUR: 'it returns false'. Refute it at one input. -/
def fnExactDivFracWrong : ChangeSpec := { name := "fnExactDivFrac", fn := fun _ => fun
  | [d1, d2] => { results := [.lit (.bool false)], args := [d1, d2] }
  | _ => none }
def FnExactDivFracWrongFalsely : Prop := fnExactDivFracRow.holds Try.pinned (OpenSpec.ofChange fnExactDivFracWrong)

/-- 'laws.FnExactSameShape': WHATEVER THE INPUT: true; the input reads as it did. -/
def fnExactSameShapeSpec : ChangeSpec := { name := "fnExactSameShape", fn := fun _ => fun
  | [d1, d2] => { results := [.lit (.bool true)], args := [d1, d2] }
  | _ => none }
def fnExactSameShapeRow : OpenClaim := { program := "ytbhgjkfpgdgkfaa", sum := "48eadf46efaa47fdd8ecf3f9bd113c2f68fffab734d8a7991b7f9f79389041c5", func := "loop.example/g01081/laws.FnExactSameShape", spec := "fnExactSameShape", apart := false }
def FnExactSameShapeSaid : Prop := fnExactSameShapeRow.holds Try.pinned (OpenSpec.ofChange fnExactSameShapeSpec)

/-- ITS FALSE NEIGHBOUR: 'it returns false'. Refute it at one input. -/
def fnExactSameShapeWrong : ChangeSpec := { name := "fnExactSameShape", fn := fun _ => fun
  | [d1, d2] => { results := [.lit (.bool false)], args := [d1, d2] }
  | _ => none }
def FnExactSameShapeWrongFalsely : Prop := fnExactSameShapeRow.holds Try.pinned (OpenSpec.ofChange fnExactSameShapeWrong)

/-- 'laws.FnExactRectangleShape': WHATEVER THE INPUT: true; the input reads as it did. -/
def fnExactRectangleShapeSpec : ChangeSpec := { name := "fnExactRectangleShape", fn := fun _ => fun
  | [d1, d2] => { results := [.lit (.bool true)], args := [d1, d2] }
  | _ => none }
def fnExactRectangleShapeRow : OpenClaim := { program := "ytbhgjkfpgdgkfaa", sum := "48eadf46efaa47fdd8ecf3f9bd113c2f68fffab734d8a7991b7f9f79389041c5", func := "loop.example/g01081/laws.FnExactRectangleShape", spec := "fnExactRectangleShape", apart := false }
def FnExactRectangleShapeSaid : Prop := fnExactRectangleShapeRow.holds Try.pinned (OpenSpec.ofChange fnExactRectangleShapeSpec)

/-- ITS FALSE NEIGHBOUR: 'it returns false'. Refute it at one input. -/
def fnExactRectangleShapeWrong : ChangeSpec := { name := "fnExactRectangleShape", fn := fun _ => fun
  | [d1, d2] => { results := [.lit (.bool false)], args := [d1, d2] }
  | _ => none }
def FnExactRectangleShapeWrongFalsely : Prop := fnExactRectangleShapeRow.holds Try.pinned (OpenSpec.ofChange fnExactRectangleShapeWrong)

/-- 'laws.FnExactValidRule': WHATEVER THE INPUT: true; the input reads as it did. -/
def fnExactValidRuleSpec : ChangeSpec := { name := "fnExactValidRule", fn := fun _ => fun
  | [d] => { results := [.lit (.bool true)], args := [d] }
  | _ => none }
def fnExactValidRuleRow : OpenClaim := { program := "ytbhgjkfpgdgkfaa", sum := "48eadf46efaa47fdd8ecf3f9bd113c2f68fffab734d8a7991b7f9f79389041c5", func := "loop.example/g01081/laws.FnExactValidRule", spec := "fnExactValidRule", unfollowed := true, recurses := true, apart := false }
def FnExactValidRuleSaid : Prop := fnExactValidRuleRow.holds Try.pinned (OpenSpec.ofChange fnExactValidRuleSpec)

/-- ITS FALSE NEIGHBOUR: 'it returns false'. Refute it at one input. -/
def fnExactValidRuleWrong : ChangeSpec := { name := "fnExactValidRule", fn := fun _ => fun
  | [d] => { results := [.lit (.bool false)], args := [d] }
  | _ => none }
def FnExactValidRuleWrongFalsely : Prop := fnExactValidRuleRow.holds Try.pinned (OpenSpec.ofChange fnExactValidRuleWrong)

/-- 'laws.FnExactBlockRule': WHATEVER THE INPUT: true; the input reads as it did. -/
def fnExactBlockRuleSpec : ChangeSpec := { name := "fnExactBlockRule", fn := fun _ => fun
  | [d] => { results := [.lit (.bool true)], args := [d] }
  | _ => none }
def fnExactBlockRuleRow : OpenClaim := { program := "ytbhgjkfpgdgkfaa", sum := "48eadf46efaa47fdd8ecf3f9bd113c2f68fffab734d8a7991b7f9f79389041c5", func := "loop.example/g01081/laws.FnExactBlockRule", spec := "fnExactBlockRule", apart := false }
def FnExactBlockRuleSaid : Prop := fnExactBlockRuleRow.holds Try.pinned (OpenSpec.ofChange fnExactBlockRuleSpec)

/-- ITS FALSE NEIGHBOUR: 'it returns false'. Refute it at one input. -/
def fnExactBlockRuleWrong : ChangeSpec := { name := "fnExactBlockRule", fn := fun _ => fun
  | [d] => { results := [.lit (.bool false)], args := [d] }
  | _ => none }
def FnExactBlockRuleWrongFalsely : Prop := fnExactBlockRuleRow.holds Try.pinned (OpenSpec.ofChange fnExactBlockRuleWrong)

/-- 'laws.FnExactDigitsOf': WHATEVER THE INPUT: true; the input reads as it did. -/
def fnExactDigitsOfSpec : ChangeSpec := { name := "fnExactDigitsOf", fn := fun _ => fun
  | [d1, d2, d3] => { results := [.lit (.bool true)], args := [d1, d2, d3] }
  | _ => none }
def fnExactDigitsOfRow : OpenClaim := { program := "ytbhgjkfpgdgkfaa", sum := "48eadf46efaa47fdd8ecf3f9bd113c2f68fffab734d8a7991b7f9f79389041c5", func := "loop.example/g01081/laws.FnExactDigitsOf", spec := "fnExactDigitsOf", unfollowed := true, recurses := true, apart := false }
def FnExactDigitsOfSaid : Prop := fnExactDigitsOfRow.holds Try.pinned (OpenSpec.ofChange fnExactDigitsOfSpec)

/-- ITS FALSE NEIGHBOUR: 'it returns false'. Refute it at one input. -/
def fnExactDigitsOfWrong : ChangeSpec := { name := "fnExactDigitsOf", fn := fun _ => fun
  | [d1, d2, d3] => { results := [.lit (.bool false)], args := [d1, d2, d3] }
  | _ => none }
def FnExactDigitsOfWrongFalsely : Prop := fnExactDigitsOfRow.holds Try.pinned (OpenSpec.ofChange fnExactDigitsOfWrong)

/-- 'laws.FnExactStepElementary': WHATEVER THE INPUT: true; the input reads as it did. -/
def fnExactStepElementarySpec : ChangeSpec := { name := "fnExactStepElementary", fn := fun _ => fun
  | [d1, d2] => { results := [.lit (.bool true)], args := [d1, d2] }
  | _ => none }
def fnExactStepElementaryRow : OpenClaim := { program := "ytbhgjkfpgdgkfaa", sum := "48eadf46efaa47fdd8ecf3f9bd113c2f68fffab734d8a7991b7f9f79389041c5", func := "loop.example/g01081/laws.FnExactStepElementary", spec := "fnExactStepElementary", unfollowed := true, recurses := true, apart := false }
def FnExactStepElementarySaid : Prop := fnExactStepElementaryRow.holds Try.pinned (OpenSpec.ofChange fnExactStepElementarySpec)

/-- ITS FALSE NEIGHBOUR: 'it returns false'. Refute it at one input. -/
def fnExactStepElementaryWrong : ChangeSpec := { name := "fnExactStepElementary", fn := fun _ => fun
  | [d1, d2] => { results := [.lit (.bool false)], args := [d1, d2] }
  | _ => none }
def FnExactStepElementaryWrongFalsely : Prop := fnExactStepElementaryRow.holds Try.pinned (OpenSpec.ofChange fnExactStepElementaryWrong)

/- THE SECOND FORM. 'bulk': how many values and letters a reading holds, each counted each time it is reached (what is shared counts as often as it is met; a slice's spare places count too). A statement '..UptoSaid' is the law's where the arguments, and the package variables that the reading takes, are together of bulk at most 1048576: NARROWER than '..Said'. Prove '..Said' where nothing that the law and all that it calls make is longer than what came in: it says more and counts as full. Else prove '..UptoSaid'. A law counts once. -/
mutual
def uptoBulk {H : Type} : DataW H → Nat
  | .lit (.string bytes) => bytes.length + 1
  | .lit _ => 1
  | .nil => 1
  | .ptr d => uptoBulk d + 1
  | .slice elems spare => uptoBulkAll elems + uptoBulkAll spare + 1
  | .agg parts => uptoBulkAll parts + 1
  | .iface _ d => uptoBulk d + 1
  | .map entries => uptoBulkEntries entries + 1
  | .held _ => 1
def uptoBulkAll {H : Type} : List (DataW H) → Nat
  | [] => 0
  | d :: r => uptoBulk d + uptoBulkAll r
def uptoBulkEntries {H : Type} : List (Lit × DataW H) → Nat
  | [] => 0
  | x :: r => uptoBulkEntry x + uptoBulkEntries r
def uptoBulkEntry {H : Type} : Lit × DataW H → Nat
  | (.string bytes, d) => bytes.length + uptoBulk d + 1
  | (_, d) => uptoBulk d + 1
 end
def uptoSmall : (H : Type) → List (DataW H) → Bool := fun _ ds => decide (uptoBulkAll ds ≤ 1048576)
def OpenSpec.upto (s : _root_.Go.ChangeSpec) : _root_.Go.OpenSpec := { _root_.Go.OpenSpec.ofChange s with cond := some uptoSmall }

/-- 'laws.FnExactValidFrac', WHERE WHAT IT READS IS OF BULK AT MOST 1048576: true; the input reads as it did. -/
def fnExactValidFracUptoRow : OpenClaim := { program := "ytbhgjkfpgdgkfaa", sum := "48eadf46efaa47fdd8ecf3f9bd113c2f68fffab734d8a7991b7f9f79389041c5", func := "loop.example/g01081/laws.FnExactValidFrac", spec := "fnExactValidFrac", apart := false, narrowed := true }
def FnExactValidFracUptoSaid : Prop := fnExactValidFracUptoRow.holds Try.pinned (OpenSpec.upto fnExactValidFracSpec)

/-- 'laws.FnExactMakeFrac', WHERE WHAT IT READS IS OF BULK AT MOST 1048576: true; the input reads as it did. -/
def fnExactMakeFracUptoRow : OpenClaim := { program := "ytbhgjkfpgdgkfaa", sum := "48eadf46efaa47fdd8ecf3f9bd113c2f68fffab734d8a7991b7f9f79389041c5", func := "loop.example/g01081/laws.FnExactMakeFrac", spec := "fnExactMakeFrac", apart := false, narrowed := true }
def FnExactMakeFracUptoSaid : Prop := fnExactMakeFracUptoRow.holds Try.pinned (OpenSpec.upto fnExactMakeFracSpec)

/-- 'laws.FnExactMulFrac', WHERE WHAT IT READS IS OF BULK AT MOST 1048576: true; the input reads as it did. -/
def fnExactMulFracUptoRow : OpenClaim := { program := "ytbhgjkfpgdgkfaa", sum := "48eadf46efaa47fdd8ecf3f9bd113c2f68fffab734d8a7991b7f9f79389041c5", func := "loop.example/g01081/laws.FnExactMulFrac", spec := "fnExactMulFrac", apart := false, narrowed := true }
def FnExactMulFracUptoSaid : Prop := fnExactMulFracUptoRow.holds Try.pinned (OpenSpec.upto fnExactMulFracSpec)

/-- 'laws.FnExactCompareFrac', WHERE WHAT IT READS IS OF BULK AT MOST 1048576: true; the input reads as it did. -/
def fnExactCompareFracUptoRow : OpenClaim := { program := "ytbhgjkfpgdgkfaa", sum := "48eadf46efaa47fdd8ecf3f9bd113c2f68fffab734d8a7991b7f9f79389041c5", func := "loop.example/g01081/laws.FnExactCompareFrac", spec := "fnExactCompareFrac", apart := false, narrowed := true }
def FnExactCompareFracUptoSaid : Prop := fnExactCompareFracUptoRow.holds Try.pinned (OpenSpec.upto fnExactCompareFracSpec)

/-- 'laws.FnExactAddFrac', WHERE WHAT IT READS IS OF BULK AT MOST 1048576: true; the input reads as it did. -/
def fnExactAddFracUptoRow : OpenClaim := { program := "ytbhgjkfpgdgkfaa", sum := "48eadf46efaa47fdd8ecf3f9bd113c2f68fffab734d8a7991b7f9f79389041c5", func := "loop.example/g01081/laws.FnExactAddFrac", spec := "fnExactAddFrac", apart := false, narrowed := true }
def FnExactAddFracUptoSaid : Prop := fnExactAddFracUptoRow.holds Try.pinned (OpenSpec.upto fnExactAddFracSpec)

/-- 'laws.FnExactDivFrac', WHERE WHAT IT READS IS OF BULK AT MOST 1048576: true; the input reads as it did. -/
def fnExactDivFracUptoRow : OpenClaim := { program := "ytbhgjkfpgdgkfaa", sum := "48eadf46efaa47fdd8ecf3f9bd113c2f68fffab734d8a7991b7f9f79389041c5", func := "loop.example/g01081/laws.FnExactDivFrac", spec := "fnExactDivFrac", apart := false, narrowed := true }
def FnExactDivFracUptoSaid : Prop := fnExactDivFracUptoRow.holds Try.pinned (OpenSpec.upto fnExactDivFracSpec)

/-- 'laws.FnExactSameShape', WHERE WHAT IT READS IS OF BULK AT MOST 1048576: true; the input reads as it did. -/
def fnExactSameShapeUptoRow : OpenClaim := { program := "ytbhgjkfpgdgkfaa", sum := "48eadf46efaa47fdd8ecf3f9bd113c2f68fffab734d8a7991b7f9f79389041c5", func := "loop.example/g01081/laws.FnExactSameShape", spec := "fnExactSameShape", apart := false, narrowed := true }
def FnExactSameShapeUptoSaid : Prop := fnExactSameShapeUptoRow.holds Try.pinned (OpenSpec.upto fnExactSameShapeSpec)

/-- 'laws.FnExactRectangleShape', WHERE WHAT IT READS IS OF BULK AT MOST 1048576: true; the input reads as it did. -/
def fnExactRectangleShapeUptoRow : OpenClaim := { program := "ytbhgjkfpgdgkfaa", sum := "48eadf46efaa47fdd8ecf3f9bd113c2f68fffab734d8a7991b7f9f79389041c5", func := "loop.example/g01081/laws.FnExactRectangleShape", spec := "fnExactRectangleShape", apart := false, narrowed := true }
def FnExactRectangleShapeUptoSaid : Prop := fnExactRectangleShapeUptoRow.holds Try.pinned (OpenSpec.upto fnExactRectangleShapeSpec)

/-- 'laws.FnExactValidRule', WHERE WHAT IT READS IS OF BULK AT MOST 1048576: true; the input reads as it did. -/
def fnExactValidRuleUptoRow : OpenClaim := { program := "ytbhgjkfpgdgkfaa", sum := "48eadf46efaa47fdd8ecf3f9bd113c2f68fffab734d8a7991b7f9f79389041c5", func := "loop.example/g01081/laws.FnExactValidRule", spec := "fnExactValidRule", unfollowed := true, recurses := true, apart := false, narrowed := true }
def FnExactValidRuleUptoSaid : Prop := fnExactValidRuleUptoRow.holds Try.pinned (OpenSpec.upto fnExactValidRuleSpec)

/-- 'laws.FnExactBlockRule', WHERE WHAT IT READS IS OF BULK AT MOST 1048576: true; the input reads as it did. -/
def fnExactBlockRuleUptoRow : OpenClaim := { program := "ytbhgjkfpgdgkfaa", sum := "48eadf46efaa47fdd8ecf3f9bd113c2f68fffab734d8a7991b7f9f79389041c5", func := "loop.example/g01081/laws.FnExactBlockRule", spec := "fnExactBlockRule", apart := false, narrowed := true }
def FnExactBlockRuleUptoSaid : Prop := fnExactBlockRuleUptoRow.holds Try.pinned (OpenSpec.upto fnExactBlockRuleSpec)

/-- 'laws.FnExactDigitsOf', WHERE WHAT IT READS IS OF BULK AT MOST 1048576: true; the input reads as it did. -/
def fnExactDigitsOfUptoRow : OpenClaim := { program := "ytbhgjkfpgdgkfaa", sum := "48eadf46efaa47fdd8ecf3f9bd113c2f68fffab734d8a7991b7f9f79389041c5", func := "loop.example/g01081/laws.FnExactDigitsOf", spec := "fnExactDigitsOf", unfollowed := true, recurses := true, apart := false, narrowed := true }
def FnExactDigitsOfUptoSaid : Prop := fnExactDigitsOfUptoRow.holds Try.pinned (OpenSpec.upto fnExactDigitsOfSpec)

/-- 'laws.FnExactStepElementary', WHERE WHAT IT READS IS OF BULK AT MOST 1048576: true; the input reads as it did. -/
def fnExactStepElementaryUptoRow : OpenClaim := { program := "ytbhgjkfpgdgkfaa", sum := "48eadf46efaa47fdd8ecf3f9bd113c2f68fffab734d8a7991b7f9f79389041c5", func := "loop.example/g01081/laws.FnExactStepElementary", spec := "fnExactStepElementary", unfollowed := true, recurses := true, apart := false, narrowed := true }
def FnExactStepElementaryUptoSaid : Prop := fnExactStepElementaryUptoRow.holds Try.pinned (OpenSpec.upto fnExactStepElementarySpec)

end Rows
end Go.Proofs.Ytbhgjkfpgdgkfaa
