/-
  No cell of these rows narrows 'for every input' (looked for: loops, veiled, ifaces, maps, wideKeys, modest, calm, conditions, laid).
  DERIVED. THE GIVEN ROWS OF THIS SEAT. 12 by the template 'for every input the law returns true; each argument reads behind the call as it read before'; 0 by the template 'total and deterministic' (their statements: YtcgnbmobemhkiaaTotals.lean).
  GIVEN WITH THE SEED: the statements are not yours to turn. If you find one false, say at which input.
  Laid BY PROGRAM, IN A SANDBOX (cutbox-rows.mjs): the forced cells as the released guide's own fill.sh prints them over the translation 6ee7b223b989b357… (all of the seat's roots in one cut). By AI agents, Wed Nov 11 2026. No macro, syntax, notation, axiom, sorry.
-/
import Derived.Test.YtcgnbmobemhkiaaChecked
import GoSem.Claim
import GoSem.ClaimJoined
import GoSem.ClaimMapViews
import Derived.JoinedTies
import Derived.KernelRfl
namespace Go.Proofs.Ytcgnbmobemhkiaa
/- THE CELL 'sum', in the pinned program and in every row, IS THE sha256 OF THE DUMP (.gsa) THAT YtcgnbmobemhkiaaProg.lean LOADS. Nothing in Lean hashes anything: it is a label: what it is worth is what the hold of that sum in a sandbox is worth. -/
noncomputable def Try.pinned : Pinned := { name := "ytcgnbmobemhkiaa", sum := "6ee7b223b989b3578f42fd4ea58eec9ae4069089240c8f13f2e24f57e6f6a37f", checked := Try.checked }
namespace Rows
def none {H : Type} : Left H := { results := [], args := [] }

/-- 'laws.FnExactConstants': WHATEVER THE INPUT: true; the input reads as it did. -/
def fnExactConstantsSpec : ChangeSpec := { name := "fnExactConstants", fn := fun _ => fun
  | [] => { results := [.lit (.bool true)], args := [] }
  | _ => none }
def fnExactConstantsRow : OpenClaim := { program := "ytcgnbmobemhkiaa", sum := "6ee7b223b989b3578f42fd4ea58eec9ae4069089240c8f13f2e24f57e6f6a37f", func := "loop.example/g01081/laws.FnExactConstants", spec := "fnExactConstants", apart := false }
def FnExactConstantsSaid : Prop := fnExactConstantsRow.holds Try.pinned (OpenSpec.ofChange fnExactConstantsSpec)

/-- ITS FALSE NEIGHBOUR: 'it returns false'. Refute it at one input. -/
def fnExactConstantsWrong : ChangeSpec := { name := "fnExactConstants", fn := fun _ => fun
  | [] => { results := [.lit (.bool false)], args := [] }
  | _ => none }
def FnExactConstantsWrongFalsely : Prop := fnExactConstantsRow.holds Try.pinned (OpenSpec.ofChange fnExactConstantsWrong)

/-- 'laws.FnExactProofName': WHATEVER THE INPUT: true; the input reads as it did. -/
def fnExactProofNameSpec : ChangeSpec := { name := "fnExactProofName", fn := fun _ => fun
  | [d] => { results := [.lit (.bool true)], args := [d] }
  | _ => none }
def fnExactProofNameRow : OpenClaim := { program := "ytcgnbmobemhkiaa", sum := "6ee7b223b989b3578f42fd4ea58eec9ae4069089240c8f13f2e24f57e6f6a37f", func := "loop.example/g01081/laws.FnExactProofName", spec := "fnExactProofName", apart := false }
def FnExactProofNameSaid : Prop := fnExactProofNameRow.holds Try.pinned (OpenSpec.ofChange fnExactProofNameSpec)

/-- ITS FALSE NEIGHBOUR: 'it returns false'. Refute it at one input. -/
def fnExactProofNameWrong : ChangeSpec := { name := "fnExactProofName", fn := fun _ => fun
  | [d] => { results := [.lit (.bool false)], args := [d] }
  | _ => none }
def FnExactProofNameWrongFalsely : Prop := fnExactProofNameRow.holds Try.pinned (OpenSpec.ofChange fnExactProofNameWrong)

/-- 'laws.FnExactValidPoint': WHATEVER THE INPUT: true; the input reads as it did. -/
def fnExactValidPointSpec : ChangeSpec := { name := "fnExactValidPoint", fn := fun _ => fun
  | [d] => { results := [.lit (.bool true)], args := [d] }
  | _ => none }
def fnExactValidPointRow : OpenClaim := { program := "ytcgnbmobemhkiaa", sum := "6ee7b223b989b3578f42fd4ea58eec9ae4069089240c8f13f2e24f57e6f6a37f", func := "loop.example/g01081/laws.FnExactValidPoint", spec := "fnExactValidPoint", apart := false }
def FnExactValidPointSaid : Prop := fnExactValidPointRow.holds Try.pinned (OpenSpec.ofChange fnExactValidPointSpec)

/-- ITS FALSE NEIGHBOUR: 'it returns false'. Refute it at one input. -/
def fnExactValidPointWrong : ChangeSpec := { name := "fnExactValidPoint", fn := fun _ => fun
  | [d] => { results := [.lit (.bool false)], args := [d] }
  | _ => none }
def FnExactValidPointWrongFalsely : Prop := fnExactValidPointRow.holds Try.pinned (OpenSpec.ofChange fnExactValidPointWrong)

/-- 'laws.FnExactDirName': WHATEVER THE INPUT: true; the input reads as it did. -/
def fnExactDirNameSpec : ChangeSpec := { name := "fnExactDirName", fn := fun _ => fun
  | [d] => { results := [.lit (.bool true)], args := [d] }
  | _ => none }
def fnExactDirNameRow : OpenClaim := { program := "ytcgnbmobemhkiaa", sum := "6ee7b223b989b3578f42fd4ea58eec9ae4069089240c8f13f2e24f57e6f6a37f", func := "loop.example/g01081/laws.FnExactDirName", spec := "fnExactDirName", apart := false }
def FnExactDirNameSaid : Prop := fnExactDirNameRow.holds Try.pinned (OpenSpec.ofChange fnExactDirNameSpec)

/-- ITS FALSE NEIGHBOUR: 'it returns false'. Refute it at one input. -/
def fnExactDirNameWrong : ChangeSpec := { name := "fnExactDirName", fn := fun _ => fun
  | [d] => { results := [.lit (.bool false)], args := [d] }
  | _ => none }
def FnExactDirNameWrongFalsely : Prop := fnExactDirNameRow.holds Try.pinned (OpenSpec.ofChange fnExactDirNameWrong)

/-- 'laws.FnExactIsName': WHATEVER THE INPUT: true; the input reads as it did. -/
def fnExactIsNameSpec : ChangeSpec := { name := "fnExactIsName", fn := fun _ => fun
  | [d] => { results := [.lit (.bool true)], args := [d] }
  | _ => none }
def fnExactIsNameRow : OpenClaim := { program := "ytcgnbmobemhkiaa", sum := "6ee7b223b989b3578f42fd4ea58eec9ae4069089240c8f13f2e24f57e6f6a37f", func := "loop.example/g01081/laws.FnExactIsName", spec := "fnExactIsName", apart := false }
def FnExactIsNameSaid : Prop := fnExactIsNameRow.holds Try.pinned (OpenSpec.ofChange fnExactIsNameSpec)

/-- ITS FALSE NEIGHBOUR: 'it returns false'. Refute it at one input. -/
def fnExactIsNameWrong : ChangeSpec := { name := "fnExactIsName", fn := fun _ => fun
  | [d] => { results := [.lit (.bool false)], args := [d] }
  | _ => none }
def FnExactIsNameWrongFalsely : Prop := fnExactIsNameRow.holds Try.pinned (OpenSpec.ofChange fnExactIsNameWrong)

/-- 'laws.FnExactCodeName': WHATEVER THE INPUT: true; the input reads as it did. -/
def fnExactCodeNameSpec : ChangeSpec := { name := "fnExactCodeName", fn := fun _ => fun
  | [d] => { results := [.lit (.bool true)], args := [d] }
  | _ => none }
def fnExactCodeNameRow : OpenClaim := { program := "ytcgnbmobemhkiaa", sum := "6ee7b223b989b3578f42fd4ea58eec9ae4069089240c8f13f2e24f57e6f6a37f", func := "loop.example/g01081/laws.FnExactCodeName", spec := "fnExactCodeName", apart := false }
def FnExactCodeNameSaid : Prop := fnExactCodeNameRow.holds Try.pinned (OpenSpec.ofChange fnExactCodeNameSpec)

/-- ITS FALSE NEIGHBOUR: 'it returns false'. Refute it at one input. -/
def fnExactCodeNameWrong : ChangeSpec := { name := "fnExactCodeName", fn := fun _ => fun
  | [d] => { results := [.lit (.bool false)], args := [d] }
  | _ => none }
def FnExactCodeNameWrongFalsely : Prop := fnExactCodeNameRow.holds Try.pinned (OpenSpec.ofChange fnExactCodeNameWrong)

/-- 'laws.FnExactOpposite': WHATEVER THE INPUT: true; the input reads as it did. -/
def fnExactOppositeSpec : ChangeSpec := { name := "fnExactOpposite", fn := fun _ => fun
  | [d] => { results := [.lit (.bool true)], args := [d] }
  | _ => none }
def fnExactOppositeRow : OpenClaim := { program := "ytcgnbmobemhkiaa", sum := "6ee7b223b989b3578f42fd4ea58eec9ae4069089240c8f13f2e24f57e6f6a37f", func := "loop.example/g01081/laws.FnExactOpposite", spec := "fnExactOpposite", apart := false }
def FnExactOppositeSaid : Prop := fnExactOppositeRow.holds Try.pinned (OpenSpec.ofChange fnExactOppositeSpec)

/-- ITS FALSE NEIGHBOUR: 'it returns false'. Refute it at one input. -/
def fnExactOppositeWrong : ChangeSpec := { name := "fnExactOpposite", fn := fun _ => fun
  | [d] => { results := [.lit (.bool false)], args := [d] }
  | _ => none }
def FnExactOppositeWrongFalsely : Prop := fnExactOppositeRow.holds Try.pinned (OpenSpec.ofChange fnExactOppositeWrong)

/-- 'laws.FnExactLessPoint': WHATEVER THE INPUT: true; the input reads as it did. -/
def fnExactLessPointSpec : ChangeSpec := { name := "fnExactLessPoint", fn := fun _ => fun
  | [d1, d2] => { results := [.lit (.bool true)], args := [d1, d2] }
  | _ => none }
def fnExactLessPointRow : OpenClaim := { program := "ytcgnbmobemhkiaa", sum := "6ee7b223b989b3578f42fd4ea58eec9ae4069089240c8f13f2e24f57e6f6a37f", func := "loop.example/g01081/laws.FnExactLessPoint", spec := "fnExactLessPoint", apart := false }
def FnExactLessPointSaid : Prop := fnExactLessPointRow.holds Try.pinned (OpenSpec.ofChange fnExactLessPointSpec)

/-- ITS FALSE NEIGHBOUR: 'it returns false'. Refute it at one input. -/
def fnExactLessPointWrong : ChangeSpec := { name := "fnExactLessPoint", fn := fun _ => fun
  | [d1, d2] => { results := [.lit (.bool false)], args := [d1, d2] }
  | _ => none }
def FnExactLessPointWrongFalsely : Prop := fnExactLessPointRow.holds Try.pinned (OpenSpec.ofChange fnExactLessPointWrong)

/-- 'laws.FnExactCounterTiles': WHATEVER THE INPUT: true; the input reads as it did. -/
def fnExactCounterTilesSpec : ChangeSpec := { name := "fnExactCounterTiles", fn := fun _ => fun
  | [d1, d2, d3] => { results := [.lit (.bool true)], args := [d1, d2, d3] }
  | _ => none }
def fnExactCounterTilesRow : OpenClaim := { program := "ytcgnbmobemhkiaa", sum := "6ee7b223b989b3578f42fd4ea58eec9ae4069089240c8f13f2e24f57e6f6a37f", func := "loop.example/g01081/laws.FnExactCounterTiles", spec := "fnExactCounterTiles", apart := false }
def FnExactCounterTilesSaid : Prop := fnExactCounterTilesRow.holds Try.pinned (OpenSpec.ofChange fnExactCounterTilesSpec)

/-- ITS FALSE NEIGHBOUR: 'it returns false'. Refute it at one input. -/
def fnExactCounterTilesWrong : ChangeSpec := { name := "fnExactCounterTiles", fn := fun _ => fun
  | [d1, d2, d3] => { results := [.lit (.bool false)], args := [d1, d2, d3] }
  | _ => none }
def FnExactCounterTilesWrongFalsely : Prop := fnExactCounterTilesRow.holds Try.pinned (OpenSpec.ofChange fnExactCounterTilesWrong)

/-- 'laws.FnExactValidSchedule': WHATEVER THE INPUT: true; the input reads as it did. -/
def fnExactValidScheduleSpec : ChangeSpec := { name := "fnExactValidSchedule", fn := fun _ => fun
  | [d] => { results := [.lit (.bool true)], args := [d] }
  | _ => none }
def fnExactValidScheduleRow : OpenClaim := { program := "ytcgnbmobemhkiaa", sum := "6ee7b223b989b3578f42fd4ea58eec9ae4069089240c8f13f2e24f57e6f6a37f", func := "loop.example/g01081/laws.FnExactValidSchedule", spec := "fnExactValidSchedule", unfollowed := true, recurses := true, apart := false }
def FnExactValidScheduleSaid : Prop := fnExactValidScheduleRow.holds Try.pinned (OpenSpec.ofChange fnExactValidScheduleSpec)

/-- ITS FALSE NEIGHBOUR: 'it returns false'. Refute it at one input. -/
def fnExactValidScheduleWrong : ChangeSpec := { name := "fnExactValidSchedule", fn := fun _ => fun
  | [d] => { results := [.lit (.bool false)], args := [d] }
  | _ => none }
def FnExactValidScheduleWrongFalsely : Prop := fnExactValidScheduleRow.holds Try.pinned (OpenSpec.ofChange fnExactValidScheduleWrong)

/-- 'laws.FnExactCountFrom': WHATEVER THE INPUT: true; the input reads as it did. -/
def fnExactCountFromSpec : ChangeSpec := { name := "fnExactCountFrom", fn := fun _ => fun
  | [d1, d2, d3, d4] => { results := [.lit (.bool true)], args := [d1, d2, d3, d4] }
  | _ => none }
def fnExactCountFromRow : OpenClaim := { program := "ytcgnbmobemhkiaa", sum := "6ee7b223b989b3578f42fd4ea58eec9ae4069089240c8f13f2e24f57e6f6a37f", func := "loop.example/g01081/laws.FnExactCountFrom", spec := "fnExactCountFrom", apart := false }
def FnExactCountFromSaid : Prop := fnExactCountFromRow.holds Try.pinned (OpenSpec.ofChange fnExactCountFromSpec)

/-- ITS FALSE NEIGHBOUR: 'it returns false'. Refute it at one input. -/
def fnExactCountFromWrong : ChangeSpec := { name := "fnExactCountFrom", fn := fun _ => fun
  | [d1, d2, d3, d4] => { results := [.lit (.bool false)], args := [d1, d2, d3, d4] }
  | _ => none }
def FnExactCountFromWrongFalsely : Prop := fnExactCountFromRow.holds Try.pinned (OpenSpec.ofChange fnExactCountFromWrong)

/-- 'laws.FnExactNumberOf': WHATEVER THE INPUT: true; the input reads as it did. -/
def fnExactNumberOfSpec : ChangeSpec := { name := "fnExactNumberOf", fn := fun _ => fun
  | [d1, d2] => { results := [.lit (.bool true)], args := [d1, d2] }
  | _ => none }
def fnExactNumberOfRow : OpenClaim := { program := "ytcgnbmobemhkiaa", sum := "6ee7b223b989b3578f42fd4ea58eec9ae4069089240c8f13f2e24f57e6f6a37f", func := "loop.example/g01081/laws.FnExactNumberOf", spec := "fnExactNumberOf", unfollowed := true, recurses := true, apart := false }
def FnExactNumberOfSaid : Prop := fnExactNumberOfRow.holds Try.pinned (OpenSpec.ofChange fnExactNumberOfSpec)

/-- ITS FALSE NEIGHBOUR: 'it returns false'. Refute it at one input. -/
def fnExactNumberOfWrong : ChangeSpec := { name := "fnExactNumberOf", fn := fun _ => fun
  | [d1, d2] => { results := [.lit (.bool false)], args := [d1, d2] }
  | _ => none }
def FnExactNumberOfWrongFalsely : Prop := fnExactNumberOfRow.holds Try.pinned (OpenSpec.ofChange fnExactNumberOfWrong)

/- THE SECOND FORM. 'bulk': how many values and letters a reading holds, each counted each time it is reached (what is shared counts as often as it is met; a slice's spare places count too). A statement '..UptoSaid' is the law's where the arguments, and the package variables that the reading takes, are together of bulk at most 1048576: NARROWER than '..Said'. Prove '..Said' where nothing that the law and all that it calls make is longer than what came in: it says more and counts as full. Else prove '..UptoSaid'. A law counts once. -/
mutual
def uptoBulk {H : Type} : DataW H → Nat
  | .lit (.string bytes) => bytes.length + 1
  | .lit _ => 1
  | .nil => 1
  | .ptr d => uptoBulk d + 1
  | .slice elems spare => uptoBulkAll elems + uptoBulkAll spare + 1
  | .agg parts => uptoBulkAll parts + 1
  | .iface _ d => uptoBulk d + 1
  | .map entries => uptoBulkEntries entries + 1
  | .held _ => 1
def uptoBulkAll {H : Type} : List (DataW H) → Nat
  | [] => 0
  | d :: r => uptoBulk d + uptoBulkAll r
def uptoBulkEntries {H : Type} : List (Lit × DataW H) → Nat
  | [] => 0
  | x :: r => uptoBulkEntry x + uptoBulkEntries r
def uptoBulkEntry {H : Type} : Lit × DataW H → Nat
  | (.string bytes, d) => bytes.length + uptoBulk d + 1
  | (_, d) => uptoBulk d + 1
 end
def uptoSmall : (H : Type) → List (DataW H) → Bool := fun _ ds => decide (uptoBulkAll ds ≤ 1048576)
def OpenSpec.upto (s : _root_.Go.ChangeSpec) : _root_.Go.OpenSpec := { _root_.Go.OpenSpec.ofChange s with cond := some uptoSmall }

/-- 'laws.FnExactConstants', WHERE WHAT IT READS IS OF BULK AT MOST 1048576: true; the input reads as it did. -/
def fnExactConstantsUptoRow : OpenClaim := { program := "ytcgnbmobemhkiaa", sum := "6ee7b223b989b3578f42fd4ea58eec9ae4069089240c8f13f2e24f57e6f6a37f", func := "loop.example/g01081/laws.FnExactConstants", spec := "fnExactConstants", apart := false, narrowed := true }
def FnExactConstantsUptoSaid : Prop := fnExactConstantsUptoRow.holds Try.pinned (OpenSpec.upto fnExactConstantsSpec)

/-- 'laws.FnExactProofName', WHERE WHAT IT READS IS OF BULK AT MOST 1048576: true; the input reads as it did. -/
def fnExactProofNameUptoRow : OpenClaim := { program := "ytcgnbmobemhkiaa", sum := "6ee7b223b989b3578f42fd4ea58eec9ae4069089240c8f13f2e24f57e6f6a37f", func := "loop.example/g01081/laws.FnExactProofName", spec := "fnExactProofName", apart := false, narrowed := true }
def FnExactProofNameUptoSaid : Prop := fnExactProofNameUptoRow.holds Try.pinned (OpenSpec.upto fnExactProofNameSpec)

/-- 'laws.FnExactValidPoint', WHERE WHAT IT READS IS OF BULK AT MOST 1048576: true; the input reads as it did. -/
def fnExactValidPointUptoRow : OpenClaim := { program := "ytcgnbmobemhkiaa", sum := "6ee7b223b989b3578f42fd4ea58eec9ae4069089240c8f13f2e24f57e6f6a37f", func := "loop.example/g01081/laws.FnExactValidPoint", spec := "fnExactValidPoint", apart := false, narrowed := true }
def FnExactValidPointUptoSaid : Prop := fnExactValidPointUptoRow.holds Try.pinned (OpenSpec.upto fnExactValidPointSpec)

/-- 'laws.FnExactDirName', WHERE WHAT IT READS IS OF BULK AT MOST 1048576: true; the input reads as it did. -/
def fnExactDirNameUptoRow : OpenClaim := { program := "ytcgnbmobemhkiaa", sum := "6ee7b223b989b3578f42fd4ea58eec9ae4069089240c8f13f2e24f57e6f6a37f", func := "loop.example/g01081/laws.FnExactDirName", spec := "fnExactDirName", apart := false, narrowed := true }
def FnExactDirNameUptoSaid : Prop := fnExactDirNameUptoRow.holds Try.pinned (OpenSpec.upto fnExactDirNameSpec)

/-- 'laws.FnExactIsName', WHERE WHAT IT READS IS OF BULK AT MOST 1048576: true; the input reads as it did. -/
def fnExactIsNameUptoRow : OpenClaim := { program := "ytcgnbmobemhkiaa", sum := "6ee7b223b989b3578f42fd4ea58eec9ae4069089240c8f13f2e24f57e6f6a37f", func := "loop.example/g01081/laws.FnExactIsName", spec := "fnExactIsName", apart := false, narrowed := true }
def FnExactIsNameUptoSaid : Prop := fnExactIsNameUptoRow.holds Try.pinned (OpenSpec.upto fnExactIsNameSpec)

/-- 'laws.FnExactCodeName', WHERE WHAT IT READS IS OF BULK AT MOST 1048576: true; the input reads as it did. -/
def fnExactCodeNameUptoRow : OpenClaim := { program := "ytcgnbmobemhkiaa", sum := "6ee7b223b989b3578f42fd4ea58eec9ae4069089240c8f13f2e24f57e6f6a37f", func := "loop.example/g01081/laws.FnExactCodeName", spec := "fnExactCodeName", apart := false, narrowed := true }
def FnExactCodeNameUptoSaid : Prop := fnExactCodeNameUptoRow.holds Try.pinned (OpenSpec.upto fnExactCodeNameSpec)

/-- 'laws.FnExactOpposite', WHERE WHAT IT READS IS OF BULK AT MOST 1048576: true; the input reads as it did. -/
def fnExactOppositeUptoRow : OpenClaim := { program := "ytcgnbmobemhkiaa", sum := "6ee7b223b989b3578f42fd4ea58eec9ae4069089240c8f13f2e24f57e6f6a37f", func := "loop.example/g01081/laws.FnExactOpposite", spec := "fnExactOpposite", apart := false, narrowed := true }
def FnExactOppositeUptoSaid : Prop := fnExactOppositeUptoRow.holds Try.pinned (OpenSpec.upto fnExactOppositeSpec)

/-- 'laws.FnExactLessPoint', WHERE WHAT IT READS IS OF BULK AT MOST 1048576: true; the input reads as it did. -/
def fnExactLessPointUptoRow : OpenClaim := { program := "ytcgnbmobemhkiaa", sum := "6ee7b223b989b3578f42fd4ea58eec9ae4069089240c8f13f2e24f57e6f6a37f", func := "loop.example/g01081/laws.FnExactLessPoint", spec := "fnExactLessPoint", apart := false, narrowed := true }
def FnExactLessPointUptoSaid : Prop := fnExactLessPointUptoRow.holds Try.pinned (OpenSpec.upto fnExactLessPointSpec)

/-- 'laws.FnExactCounterTiles', WHERE WHAT IT READS IS OF BULK AT MOST 1048576: true; the input reads as it did. -/
def fnExactCounterTilesUptoRow : OpenClaim := { program := "ytcgnbmobemhkiaa", sum := "6ee7b223b989b3578f42fd4ea58eec9ae4069089240c8f13f2e24f57e6f6a37f", func := "loop.example/g01081/laws.FnExactCounterTiles", spec := "fnExactCounterTiles", apart := false, narrowed := true }
def FnExactCounterTilesUptoSaid : Prop := fnExactCounterTilesUptoRow.holds Try.pinned (OpenSpec.upto fnExactCounterTilesSpec)

/-- 'laws.FnExactValidSchedule', WHERE WHAT IT READS IS OF BULK AT MOST 1048576: true; the input reads as it did. -/
def fnExactValidScheduleUptoRow : OpenClaim := { program := "ytcgnbmobemhkiaa", sum := "6ee7b223b989b3578f42fd4ea58eec9ae4069089240c8f13f2e24f57e6f6a37f", func := "loop.example/g01081/laws.FnExactValidSchedule", spec := "fnExactValidSchedule", unfollowed := true, recurses := true, apart := false, narrowed := true }
def FnExactValidScheduleUptoSaid : Prop := fnExactValidScheduleUptoRow.holds Try.pinned (OpenSpec.upto fnExactValidScheduleSpec)

/-- 'laws.FnExactCountFrom', WHERE WHAT IT READS IS OF BULK AT MOST 1048576: true; the input reads as it did. -/
def fnExactCountFromUptoRow : OpenClaim := { program := "ytcgnbmobemhkiaa", sum := "6ee7b223b989b3578f42fd4ea58eec9ae4069089240c8f13f2e24f57e6f6a37f", func := "loop.example/g01081/laws.FnExactCountFrom", spec := "fnExactCountFrom", apart := false, narrowed := true }
def FnExactCountFromUptoSaid : Prop := fnExactCountFromUptoRow.holds Try.pinned (OpenSpec.upto fnExactCountFromSpec)

/-- 'laws.FnExactNumberOf', WHERE WHAT IT READS IS OF BULK AT MOST 1048576: true; the input reads as it did. -/
def fnExactNumberOfUptoRow : OpenClaim := { program := "ytcgnbmobemhkiaa", sum := "6ee7b223b989b3578f42fd4ea58eec9ae4069089240c8f13f2e24f57e6f6a37f", func := "loop.example/g01081/laws.FnExactNumberOf", spec := "fnExactNumberOf", unfollowed := true, recurses := true, apart := false, narrowed := true }
def FnExactNumberOfUptoSaid : Prop := fnExactNumberOfUptoRow.holds Try.pinned (OpenSpec.upto fnExactNumberOfSpec)

end Rows
end Go.Proofs.Ytcgnbmobemhkiaa
