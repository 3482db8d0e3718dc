/-
  No cell of these rows narrows 'for every input' (looked for: loops, veiled, ifaces, maps, wideKeys, modest, calm, conditions, laid).
  DERIVED. THE GIVEN ROWS OF THIS SEAT. 10 by the template 'for every input the law returns true; each argument reads behind the call as it read before'; 0 by the template 'total and deterministic' (their statements: YtailhgleiefbkaaTotals.lean).
  GIVEN WITH THE SEED: the statements are not yours to turn. If you find one false, say at which input.
  Laid BY PROGRAM, IN A SANDBOX (cutbox-rows.mjs): the forced cells as the released guide's own fill.sh prints them over the translation 5de33b8de3eee65e… (all of the seat's roots in one cut). By AI agents, Wed Nov 11 2026. No macro, syntax, notation, axiom, sorry.
-/
import Derived.Test.YtailhgleiefbkaaChecked
import GoSem.Claim
import GoSem.ClaimJoined
import GoSem.ClaimMapViews
import Derived.JoinedTies
import Derived.KernelRfl
namespace Go.Proofs.Ytailhgleiefbkaa
/- THE CELL 'sum', in the pinned program and in every row, IS THE sha256 OF THE DUMP (.gsa) THAT YtailhgleiefbkaaProg.lean LOADS. Nothing in Lean hashes anything: it is a label: what it is worth is what the hold of that sum in a sandbox is worth. -/
noncomputable def Try.pinned : Pinned := { name := "ytailhgleiefbkaa", sum := "5de33b8de3eee65e7c8cd28222dbbf0f03f26041918a82f855059a64f5a7583e", checked := Try.checked }
namespace Rows
def none {H : Type} : Left H := { results := [], args := [] }

/-- 'laws.FnExactSameSet': WHATEVER THE INPUT: true; the input reads as it did. -/
def fnExactSameSetSpec : ChangeSpec := { name := "fnExactSameSet", fn := fun _ => fun
  | [d1, d2] => { results := [.lit (.bool true)], args := [d1, d2] }
  | _ => none }
def fnExactSameSetRow : OpenClaim := { program := "ytailhgleiefbkaa", sum := "5de33b8de3eee65e7c8cd28222dbbf0f03f26041918a82f855059a64f5a7583e", func := "loop.example/g01081/laws.FnExactSameSet", spec := "fnExactSameSet", unfollowed := true, recurses := true, apart := false }
def FnExactSameSetSaid : Prop := fnExactSameSetRow.holds Try.pinned (OpenSpec.ofChange fnExactSameSetSpec)

/-- ITS FALSE NEIGHBOUR: 'it returns false'. Refute it at one input. -/
def fnExactSameSetWrong : ChangeSpec := { name := "fnExactSameSet", fn := fun _ => fun
  | [d1, d2] => { results := [.lit (.bool false)], args := [d1, d2] }
  | _ => none }
def FnExactSameSetWrongFalsely : Prop := fnExactSameSetRow.holds Try.pinned (OpenSpec.ofChange fnExactSameSetWrong)

/-- 'laws.FnExactValidSet': WHATEVER THE INPUT: true; the input reads as it did. -/
def fnExactValidSetSpec : ChangeSpec := { name := "fnExactValidSet", fn := fun _ => fun
  | [d] => { results := [.lit (.bool true)], args := [d] }
  | _ => none }
def fnExactValidSetRow : OpenClaim := { program := "ytailhgleiefbkaa", sum := "5de33b8de3eee65e7c8cd28222dbbf0f03f26041918a82f855059a64f5a7583e", func := "loop.example/g01081/laws.FnExactValidSet", spec := "fnExactValidSet", unfollowed := true, recurses := true, apart := false }
def FnExactValidSetSaid : Prop := fnExactValidSetRow.holds Try.pinned (OpenSpec.ofChange fnExactValidSetSpec)

/-- ITS FALSE NEIGHBOUR: 'it returns false'. Refute it at one input. -/
def fnExactValidSetWrong : ChangeSpec := { name := "fnExactValidSet", fn := fun _ => fun
  | [d] => { results := [.lit (.bool false)], args := [d] }
  | _ => none }
def FnExactValidSetWrongFalsely : Prop := fnExactValidSetRow.holds Try.pinned (OpenSpec.ofChange fnExactValidSetWrong)

/-- 'laws.FnExactFindGlue': WHATEVER THE INPUT: true; the input reads as it did. -/
def fnExactFindGlueSpec : ChangeSpec := { name := "fnExactFindGlue", fn := fun _ => fun
  | [d1, d2] => { results := [.lit (.bool true)], args := [d1, d2] }
  | _ => none }
def fnExactFindGlueRow : OpenClaim := { program := "ytailhgleiefbkaa", sum := "5de33b8de3eee65e7c8cd28222dbbf0f03f26041918a82f855059a64f5a7583e", func := "loop.example/g01081/laws.FnExactFindGlue", spec := "fnExactFindGlue", unfollowed := true, recurses := true, apart := false }
def FnExactFindGlueSaid : Prop := fnExactFindGlueRow.holds Try.pinned (OpenSpec.ofChange fnExactFindGlueSpec)

/-- ITS FALSE NEIGHBOUR: 'it returns false'. Refute it at one input. -/
def fnExactFindGlueWrong : ChangeSpec := { name := "fnExactFindGlue", fn := fun _ => fun
  | [d1, d2] => { results := [.lit (.bool false)], args := [d1, d2] }
  | _ => none }
def FnExactFindGlueWrongFalsely : Prop := fnExactFindGlueRow.holds Try.pinned (OpenSpec.ofChange fnExactFindGlueWrong)

/-- 'laws.FnExactFindTile': WHATEVER THE INPUT: true; the input reads as it did. -/
def fnExactFindTileSpec : ChangeSpec := { name := "fnExactFindTile", fn := fun _ => fun
  | [d1, d2] => { results := [.lit (.bool true)], args := [d1, d2] }
  | _ => none }
def fnExactFindTileRow : OpenClaim := { program := "ytailhgleiefbkaa", sum := "5de33b8de3eee65e7c8cd28222dbbf0f03f26041918a82f855059a64f5a7583e", func := "loop.example/g01081/laws.FnExactFindTile", spec := "fnExactFindTile", unfollowed := true, recurses := true, apart := false }
def FnExactFindTileSaid : Prop := fnExactFindTileRow.holds Try.pinned (OpenSpec.ofChange fnExactFindTileSpec)

/-- ITS FALSE NEIGHBOUR: 'it returns false'. Refute it at one input. -/
def fnExactFindTileWrong : ChangeSpec := { name := "fnExactFindTile", fn := fun _ => fun
  | [d1, d2] => { results := [.lit (.bool false)], args := [d1, d2] }
  | _ => none }
def FnExactFindTileWrongFalsely : Prop := fnExactFindTileRow.holds Try.pinned (OpenSpec.ofChange fnExactFindTileWrong)

/-- 'laws.FnExactStrengthOf': WHATEVER THE INPUT: true; the input reads as it did. -/
def fnExactStrengthOfSpec : ChangeSpec := { name := "fnExactStrengthOf", fn := fun _ => fun
  | [d1, d2, d3] => { results := [.lit (.bool true)], args := [d1, d2, d3] }
  | _ => none }
def fnExactStrengthOfRow : OpenClaim := { program := "ytailhgleiefbkaa", sum := "5de33b8de3eee65e7c8cd28222dbbf0f03f26041918a82f855059a64f5a7583e", func := "loop.example/g01081/laws.FnExactStrengthOf", spec := "fnExactStrengthOf", unfollowed := true, recurses := true, apart := false }
def FnExactStrengthOfSaid : Prop := fnExactStrengthOfRow.holds Try.pinned (OpenSpec.ofChange fnExactStrengthOfSpec)

/-- ITS FALSE NEIGHBOUR: 'it returns false'. Refute it at one input. -/
def fnExactStrengthOfWrong : ChangeSpec := { name := "fnExactStrengthOf", fn := fun _ => fun
  | [d1, d2, d3] => { results := [.lit (.bool false)], args := [d1, d2, d3] }
  | _ => none }
def FnExactStrengthOfWrongFalsely : Prop := fnExactStrengthOfRow.holds Try.pinned (OpenSpec.ofChange fnExactStrengthOfWrong)

/-- 'laws.FnExactLonelySides': WHATEVER THE INPUT: true; the input reads as it did. -/
def fnExactLonelySidesSpec : ChangeSpec := { name := "fnExactLonelySides", fn := fun _ => fun
  | [d] => { results := [.lit (.bool true)], args := [d] }
  | _ => none }
def fnExactLonelySidesRow : OpenClaim := { program := "ytailhgleiefbkaa", sum := "5de33b8de3eee65e7c8cd28222dbbf0f03f26041918a82f855059a64f5a7583e", func := "loop.example/g01081/laws.FnExactLonelySides", spec := "fnExactLonelySides", unfollowed := true, recurses := true, apart := false }
def FnExactLonelySidesSaid : Prop := fnExactLonelySidesRow.holds Try.pinned (OpenSpec.ofChange fnExactLonelySidesSpec)

/-- ITS FALSE NEIGHBOUR: 'it returns false'. Refute it at one input. -/
def fnExactLonelySidesWrong : ChangeSpec := { name := "fnExactLonelySides", fn := fun _ => fun
  | [d] => { results := [.lit (.bool false)], args := [d] }
  | _ => none }
def FnExactLonelySidesWrongFalsely : Prop := fnExactLonelySidesRow.holds Try.pinned (OpenSpec.ofChange fnExactLonelySidesWrong)

/-- 'laws.FnExactBondOf': WHATEVER THE INPUT: true; the input reads as it did. -/
def fnExactBondOfSpec : ChangeSpec := { name := "fnExactBondOf", fn := fun _ => fun
  | [d1, d2, d3, d4] => { results := [.lit (.bool true)], args := [d1, d2, d3, d4] }
  | _ => none }
def fnExactBondOfRow : OpenClaim := { program := "ytailhgleiefbkaa", sum := "5de33b8de3eee65e7c8cd28222dbbf0f03f26041918a82f855059a64f5a7583e", func := "loop.example/g01081/laws.FnExactBondOf", spec := "fnExactBondOf", unfollowed := true, recurses := true, apart := false }
def FnExactBondOfSaid : Prop := fnExactBondOfRow.holds Try.pinned (OpenSpec.ofChange fnExactBondOfSpec)

/-- ITS FALSE NEIGHBOUR: 'it returns false'. Refute it at one input. -/
def fnExactBondOfWrong : ChangeSpec := { name := "fnExactBondOf", fn := fun _ => fun
  | [d1, d2, d3, d4] => { results := [.lit (.bool false)], args := [d1, d2, d3, d4] }
  | _ => none }
def FnExactBondOfWrongFalsely : Prop := fnExactBondOfRow.holds Try.pinned (OpenSpec.ofChange fnExactBondOfWrong)

/-- 'laws.FnExactTilesWith': WHATEVER THE INPUT: true; the input reads as it did. -/
def fnExactTilesWithSpec : ChangeSpec := { name := "fnExactTilesWith", fn := fun _ => fun
  | [d1, d2, d3] => { results := [.lit (.bool true)], args := [d1, d2, d3] }
  | _ => none }
def fnExactTilesWithRow : OpenClaim := { program := "ytailhgleiefbkaa", sum := "5de33b8de3eee65e7c8cd28222dbbf0f03f26041918a82f855059a64f5a7583e", func := "loop.example/g01081/laws.FnExactTilesWith", spec := "fnExactTilesWith", unfollowed := true, recurses := true, apart := false }
def FnExactTilesWithSaid : Prop := fnExactTilesWithRow.holds Try.pinned (OpenSpec.ofChange fnExactTilesWithSpec)

/-- ITS FALSE NEIGHBOUR: 'it returns false'. Refute it at one input. -/
def fnExactTilesWithWrong : ChangeSpec := { name := "fnExactTilesWith", fn := fun _ => fun
  | [d1, d2, d3] => { results := [.lit (.bool false)], args := [d1, d2, d3] }
  | _ => none }
def FnExactTilesWithWrongFalsely : Prop := fnExactTilesWithRow.holds Try.pinned (OpenSpec.ofChange fnExactTilesWithWrong)

/-- 'laws.FnExactTrimSet': WHATEVER THE INPUT: true; the input reads as it did. -/
def fnExactTrimSetSpec : ChangeSpec := { name := "fnExactTrimSet", fn := fun _ => fun
  | [d] => { results := [.lit (.bool true)], args := [d] }
  | _ => none }
def fnExactTrimSetRow : OpenClaim := { program := "ytailhgleiefbkaa", sum := "5de33b8de3eee65e7c8cd28222dbbf0f03f26041918a82f855059a64f5a7583e", func := "loop.example/g01081/laws.FnExactTrimSet", spec := "fnExactTrimSet", unfollowed := true, recurses := true, apart := false }
def FnExactTrimSetSaid : Prop := fnExactTrimSetRow.holds Try.pinned (OpenSpec.ofChange fnExactTrimSetSpec)

/-- ITS FALSE NEIGHBOUR: 'it returns false'. Refute it at one input. -/
def fnExactTrimSetWrong : ChangeSpec := { name := "fnExactTrimSet", fn := fun _ => fun
  | [d] => { results := [.lit (.bool false)], args := [d] }
  | _ => none }
def FnExactTrimSetWrongFalsely : Prop := fnExactTrimSetRow.holds Try.pinned (OpenSpec.ofChange fnExactTrimSetWrong)

/-- 'laws.FnExactSameSystem': WHATEVER THE INPUT: true; the input reads as it did. -/
def fnExactSameSystemSpec : ChangeSpec := { name := "fnExactSameSystem", fn := fun _ => fun
  | [d1, d2] => { results := [.lit (.bool true)], args := [d1, d2] }
  | _ => none }
def fnExactSameSystemRow : OpenClaim := { program := "ytailhgleiefbkaa", sum := "5de33b8de3eee65e7c8cd28222dbbf0f03f26041918a82f855059a64f5a7583e", func := "loop.example/g01081/laws.FnExactSameSystem", spec := "fnExactSameSystem", unfollowed := true, recurses := true, apart := false }
def FnExactSameSystemSaid : Prop := fnExactSameSystemRow.holds Try.pinned (OpenSpec.ofChange fnExactSameSystemSpec)

/-- ITS FALSE NEIGHBOUR: 'it returns false'. Refute it at one input. -/
def fnExactSameSystemWrong : ChangeSpec := { name := "fnExactSameSystem", fn := fun _ => fun
  | [d1, d2] => { results := [.lit (.bool false)], args := [d1, d2] }
  | _ => none }
def FnExactSameSystemWrongFalsely : Prop := fnExactSameSystemRow.holds Try.pinned (OpenSpec.ofChange fnExactSameSystemWrong)

/- THE SECOND FORM. 'bulk': how many values and letters a reading holds, each counted each time it is reached (what is shared counts as often as it is met; a slice's spare places count too). A statement '..UptoSaid' is the law's where the arguments, and the package variables that the reading takes, are together of bulk at most 1048576: NARROWER than '..Said'. Prove '..Said' where nothing that the law and all that it calls make is longer than what came in: it says more and counts as full. Else prove '..UptoSaid'. A law counts once. -/
mutual
def uptoBulk {H : Type} : DataW H → Nat
  | .lit (.string bytes) => bytes.length + 1
  | .lit _ => 1
  | .nil => 1
  | .ptr d => uptoBulk d + 1
  | .slice elems spare => uptoBulkAll elems + uptoBulkAll spare + 1
  | .agg parts => uptoBulkAll parts + 1
  | .iface _ d => uptoBulk d + 1
  | .map entries => uptoBulkEntries entries + 1
  | .held _ => 1
def uptoBulkAll {H : Type} : List (DataW H) → Nat
  | [] => 0
  | d :: r => uptoBulk d + uptoBulkAll r
def uptoBulkEntries {H : Type} : List (Lit × DataW H) → Nat
  | [] => 0
  | x :: r => uptoBulkEntry x + uptoBulkEntries r
def uptoBulkEntry {H : Type} : Lit × DataW H → Nat
  | (.string bytes, d) => bytes.length + uptoBulk d + 1
  | (_, d) => uptoBulk d + 1
 end
def uptoSmall : (H : Type) → List (DataW H) → Bool := fun _ ds => decide (uptoBulkAll ds ≤ 1048576)
def OpenSpec.upto (s : _root_.Go.ChangeSpec) : _root_.Go.OpenSpec := { _root_.Go.OpenSpec.ofChange s with cond := some uptoSmall }

/-- 'laws.FnExactSameSet', WHERE WHAT IT READS IS OF BULK AT MOST 1048576: true; the input reads as it did. -/
def fnExactSameSetUptoRow : OpenClaim := { program := "ytailhgleiefbkaa", sum := "5de33b8de3eee65e7c8cd28222dbbf0f03f26041918a82f855059a64f5a7583e", func := "loop.example/g01081/laws.FnExactSameSet", spec := "fnExactSameSet", unfollowed := true, recurses := true, apart := false, narrowed := true }
def FnExactSameSetUptoSaid : Prop := fnExactSameSetUptoRow.holds Try.pinned (OpenSpec.upto fnExactSameSetSpec)

/-- 'laws.FnExactValidSet', WHERE WHAT IT READS IS OF BULK AT MOST 1048576: true; the input reads as it did. -/
def fnExactValidSetUptoRow : OpenClaim := { program := "ytailhgleiefbkaa", sum := "5de33b8de3eee65e7c8cd28222dbbf0f03f26041918a82f855059a64f5a7583e", func := "loop.example/g01081/laws.FnExactValidSet", spec := "fnExactValidSet", unfollowed := true, recurses := true, apart := false, narrowed := true }
def FnExactValidSetUptoSaid : Prop := fnExactValidSetUptoRow.holds Try.pinned (OpenSpec.upto fnExactValidSetSpec)

/-- 'laws.FnExactFindGlue', WHERE WHAT IT READS IS OF BULK AT MOST 1048576: true; the input reads as it did. -/
def fnExactFindGlueUptoRow : OpenClaim := { program := "ytailhgleiefbkaa", sum := "5de33b8de3eee65e7c8cd28222dbbf0f03f26041918a82f855059a64f5a7583e", func := "loop.example/g01081/laws.FnExactFindGlue", spec := "fnExactFindGlue", unfollowed := true, recurses := true, apart := false, narrowed := true }
def FnExactFindGlueUptoSaid : Prop := fnExactFindGlueUptoRow.holds Try.pinned (OpenSpec.upto fnExactFindGlueSpec)

/-- 'laws.FnExactFindTile', WHERE WHAT IT READS IS OF BULK AT MOST 1048576: true; the input reads as it did. -/
def fnExactFindTileUptoRow : OpenClaim := { program := "ytailhgleiefbkaa", sum := "5de33b8de3eee65e7c8cd28222dbbf0f03f26041918a82f855059a64f5a7583e", func := "loop.example/g01081/laws.FnExactFindTile", spec := "fnExactFindTile", unfollowed := true, recurses := true, apart := false, narrowed := true }
def FnExactFindTileUptoSaid : Prop := fnExactFindTileUptoRow.holds Try.pinned (OpenSpec.upto fnExactFindTileSpec)

/-- 'laws.FnExactStrengthOf', WHERE WHAT IT READS IS OF BULK AT MOST 1048576: true; the input reads as it did. -/
def fnExactStrengthOfUptoRow : OpenClaim := { program := "ytailhgleiefbkaa", sum := "5de33b8de3eee65e7c8cd28222dbbf0f03f26041918a82f855059a64f5a7583e", func := "loop.example/g01081/laws.FnExactStrengthOf", spec := "fnExactStrengthOf", unfollowed := true, recurses := true, apart := false, narrowed := true }
def FnExactStrengthOfUptoSaid : Prop := fnExactStrengthOfUptoRow.holds Try.pinned (OpenSpec.upto fnExactStrengthOfSpec)

/-- 'laws.FnExactLonelySides', WHERE WHAT IT READS IS OF BULK AT MOST 1048576: true; the input reads as it did. -/
def fnExactLonelySidesUptoRow : OpenClaim := { program := "ytailhgleiefbkaa", sum := "5de33b8de3eee65e7c8cd28222dbbf0f03f26041918a82f855059a64f5a7583e", func := "loop.example/g01081/laws.FnExactLonelySides", spec := "fnExactLonelySides", unfollowed := true, recurses := true, apart := false, narrowed := true }
def FnExactLonelySidesUptoSaid : Prop := fnExactLonelySidesUptoRow.holds Try.pinned (OpenSpec.upto fnExactLonelySidesSpec)

/-- 'laws.FnExactBondOf', WHERE WHAT IT READS IS OF BULK AT MOST 1048576: true; the input reads as it did. -/
def fnExactBondOfUptoRow : OpenClaim := { program := "ytailhgleiefbkaa", sum := "5de33b8de3eee65e7c8cd28222dbbf0f03f26041918a82f855059a64f5a7583e", func := "loop.example/g01081/laws.FnExactBondOf", spec := "fnExactBondOf", unfollowed := true, recurses := true, apart := false, narrowed := true }
def FnExactBondOfUptoSaid : Prop := fnExactBondOfUptoRow.holds Try.pinned (OpenSpec.upto fnExactBondOfSpec)

/-- 'laws.FnExactTilesWith', WHERE WHAT IT READS IS OF BULK AT MOST 1048576: true; the input reads as it did. -/
def fnExactTilesWithUptoRow : OpenClaim := { program := "ytailhgleiefbkaa", sum := "5de33b8de3eee65e7c8cd28222dbbf0f03f26041918a82f855059a64f5a7583e", func := "loop.example/g01081/laws.FnExactTilesWith", spec := "fnExactTilesWith", unfollowed := true, recurses := true, apart := false, narrowed := true }
def FnExactTilesWithUptoSaid : Prop := fnExactTilesWithUptoRow.holds Try.pinned (OpenSpec.upto fnExactTilesWithSpec)

/-- 'laws.FnExactTrimSet', WHERE WHAT IT READS IS OF BULK AT MOST 1048576: true; the input reads as it did. -/
def fnExactTrimSetUptoRow : OpenClaim := { program := "ytailhgleiefbkaa", sum := "5de33b8de3eee65e7c8cd28222dbbf0f03f26041918a82f855059a64f5a7583e", func := "loop.example/g01081/laws.FnExactTrimSet", spec := "fnExactTrimSet", unfollowed := true, recurses := true, apart := false, narrowed := true }
def FnExactTrimSetUptoSaid : Prop := fnExactTrimSetUptoRow.holds Try.pinned (OpenSpec.upto fnExactTrimSetSpec)

/-- 'laws.FnExactSameSystem', WHERE WHAT IT READS IS OF BULK AT MOST 1048576: true; the input reads as it did. -/
def fnExactSameSystemUptoRow : OpenClaim := { program := "ytailhgleiefbkaa", sum := "5de33b8de3eee65e7c8cd28222dbbf0f03f26041918a82f855059a64f5a7583e", func := "loop.example/g01081/laws.FnExactSameSystem", spec := "fnExactSameSystem", unfollowed := true, recurses := true, apart := false, narrowed := true }
def FnExactSameSystemUptoSaid : Prop := fnExactSameSystemUptoRow.holds Try.pinned (OpenSpec.upto fnExactSameSystemSpec)

end Rows
end Go.Proofs.Ytailhgleiefbkaa
