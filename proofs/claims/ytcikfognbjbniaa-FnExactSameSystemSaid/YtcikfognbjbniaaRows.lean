/-
  No cell of these rows narrows 'for every input' (looked for: loops, veiled, ifaces, maps, wideKeys, modest, calm, conditions, laid).
  DERIVED. THE GIVEN ROWS OF THIS SEAT. 5 by the template 'for every input the law returns true; each argument reads behind the call as it read before'; 0 by the template 'total and deterministic' (their statements: YtcikfognbjbniaaTotals.lean).
  GIVEN WITH THE SEED: the statements are not yours to turn. If you find one false, say at which input.
  Laid BY PROGRAM, IN A SANDBOX (cutbox-rows.mjs): the forced cells as the released guide's own fill.sh prints them over the translation 1546be4618ba5404… (all of the seat's roots in one cut). By AI agents, Wed Nov 11 2026. No macro, syntax, notation, axiom, sorry.
-/
import Derived.Test.YtcikfognbjbniaaChecked
import GoSem.Claim
import GoSem.ClaimJoined
import GoSem.ClaimMapViews
import Derived.JoinedTies
import Derived.KernelRfl
namespace Go.Proofs.Ytcikfognbjbniaa
/- THE CELL 'sum', in the pinned program and in every row, IS THE sha256 OF THE DUMP (.gsa) THAT YtcikfognbjbniaaProg.lean LOADS. Nothing in Lean hashes anything: it is a label: what it is worth is what the hold of that sum in a sandbox is worth. -/
noncomputable def Try.pinned : Pinned := { name := "ytcikfognbjbniaa", sum := "1546be4618ba5404e2f0e32a9cd31d124f6b29c3329e33848242d1af61e38b95", checked := Try.checked }
namespace Rows
def none {H : Type} : Left H := { results := [], args := [] }

/-- 'laws.FnExactSameSystem': WHATEVER THE INPUT: true; the input reads as it did. -/
def fnExactSameSystemSpec : ChangeSpec := { name := "fnExactSameSystem", fn := fun _ => fun
  | [d1, d2] => { results := [.lit (.bool true)], args := [d1, d2] }
  | _ => none }
def fnExactSameSystemRow : OpenClaim := { program := "ytcikfognbjbniaa", sum := "1546be4618ba5404e2f0e32a9cd31d124f6b29c3329e33848242d1af61e38b95", func := "loop.example/g01081/laws.FnExactSameSystem", spec := "fnExactSameSystem", unfollowed := true, recurses := true, apart := false }
def FnExactSameSystemSaid : Prop := fnExactSameSystemRow.holds Try.pinned (OpenSpec.ofChange fnExactSameSystemSpec)

/-- ITS FALSE NEIGHBOUR: 'it returns false'. Refute it at one input. -/
def fnExactSameSystemWrong : ChangeSpec := { name := "fnExactSameSystem", fn := fun _ => fun
  | [d1, d2] => { results := [.lit (.bool false)], args := [d1, d2] }
  | _ => none }
def FnExactSameSystemWrongFalsely : Prop := fnExactSameSystemRow.holds Try.pinned (OpenSpec.ofChange fnExactSameSystemWrong)

/-- 'laws.FnExactValidAssembly': WHATEVER THE INPUT: true; the input reads as it did. -/
def fnExactValidAssemblySpec : ChangeSpec := { name := "fnExactValidAssembly", fn := fun _ => fun
  | [d1, d2] => { results := [.lit (.bool true)], args := [d1, d2] }
  | _ => none }
def fnExactValidAssemblyRow : OpenClaim := { program := "ytcikfognbjbniaa", sum := "1546be4618ba5404e2f0e32a9cd31d124f6b29c3329e33848242d1af61e38b95", func := "loop.example/g01081/laws.FnExactValidAssembly", spec := "fnExactValidAssembly", unfollowed := true, recurses := true, apart := false }
def FnExactValidAssemblySaid : Prop := fnExactValidAssemblyRow.holds Try.pinned (OpenSpec.ofChange fnExactValidAssemblySpec)

/-- ITS FALSE NEIGHBOUR: 'it returns false'. Refute it at one input. -/
def fnExactValidAssemblyWrong : ChangeSpec := { name := "fnExactValidAssembly", fn := fun _ => fun
  | [d1, d2] => { results := [.lit (.bool false)], args := [d1, d2] }
  | _ => none }
def FnExactValidAssemblyWrongFalsely : Prop := fnExactValidAssemblyRow.holds Try.pinned (OpenSpec.ofChange fnExactValidAssemblyWrong)

/-- 'laws.FnExactValidWeights': WHATEVER THE INPUT: true; the input reads as it did. -/
def fnExactValidWeightsSpec : ChangeSpec := { name := "fnExactValidWeights", fn := fun _ => fun
  | [d1, d2] => { results := [.lit (.bool true)], args := [d1, d2] }
  | _ => none }
def fnExactValidWeightsRow : OpenClaim := { program := "ytcikfognbjbniaa", sum := "1546be4618ba5404e2f0e32a9cd31d124f6b29c3329e33848242d1af61e38b95", func := "loop.example/g01081/laws.FnExactValidWeights", spec := "fnExactValidWeights", unfollowed := true, recurses := true, apart := false }
def FnExactValidWeightsSaid : Prop := fnExactValidWeightsRow.holds Try.pinned (OpenSpec.ofChange fnExactValidWeightsSpec)

/-- ITS FALSE NEIGHBOUR: 'it returns false'. Refute it at one input. -/
def fnExactValidWeightsWrong : ChangeSpec := { name := "fnExactValidWeights", fn := fun _ => fun
  | [d1, d2] => { results := [.lit (.bool false)], args := [d1, d2] }
  | _ => none }
def FnExactValidWeightsWrongFalsely : Prop := fnExactValidWeightsRow.holds Try.pinned (OpenSpec.ofChange fnExactValidWeightsWrong)

/-- 'laws.FnExactCountTiles': WHATEVER THE INPUT: true; the input reads as it did. -/
def fnExactCountTilesSpec : ChangeSpec := { name := "fnExactCountTiles", fn := fun _ => fun
  | [d1, d2] => { results := [.lit (.bool true)], args := [d1, d2] }
  | _ => none }
def fnExactCountTilesRow : OpenClaim := { program := "ytcikfognbjbniaa", sum := "1546be4618ba5404e2f0e32a9cd31d124f6b29c3329e33848242d1af61e38b95", func := "loop.example/g01081/laws.FnExactCountTiles", spec := "fnExactCountTiles", unfollowed := true, recurses := true, apart := false }
def FnExactCountTilesSaid : Prop := fnExactCountTilesRow.holds Try.pinned (OpenSpec.ofChange fnExactCountTilesSpec)

/-- ITS FALSE NEIGHBOUR: 'it returns false'. Refute it at one input. -/
def fnExactCountTilesWrong : ChangeSpec := { name := "fnExactCountTiles", fn := fun _ => fun
  | [d1, d2] => { results := [.lit (.bool false)], args := [d1, d2] }
  | _ => none }
def FnExactCountTilesWrongFalsely : Prop := fnExactCountTilesRow.holds Try.pinned (OpenSpec.ofChange fnExactCountTilesWrong)

/-- 'laws.FnExactTrimSet': WHATEVER THE INPUT: true; the input reads as it did. -/
def fnExactTrimSetSpec : ChangeSpec := { name := "fnExactTrimSet", fn := fun _ => fun
  | [d] => { results := [.lit (.bool true)], args := [d] }
  | _ => none }
def fnExactTrimSetRow : OpenClaim := { program := "ytcikfognbjbniaa", sum := "1546be4618ba5404e2f0e32a9cd31d124f6b29c3329e33848242d1af61e38b95", func := "loop.example/g01081/laws.FnExactTrimSet", spec := "fnExactTrimSet", unfollowed := true, recurses := true, apart := false }
def FnExactTrimSetSaid : Prop := fnExactTrimSetRow.holds Try.pinned (OpenSpec.ofChange fnExactTrimSetSpec)

/-- ITS FALSE NEIGHBOUR: 'it returns false'. Refute it at one input. -/
def fnExactTrimSetWrong : ChangeSpec := { name := "fnExactTrimSet", fn := fun _ => fun
  | [d] => { results := [.lit (.bool false)], args := [d] }
  | _ => none }
def FnExactTrimSetWrongFalsely : Prop := fnExactTrimSetRow.holds Try.pinned (OpenSpec.ofChange fnExactTrimSetWrong)

/- THE SECOND FORM. 'bulk': how many values and letters a reading holds, each counted each time it is reached (what is shared counts as often as it is met; a slice's spare places count too). A statement '..UptoSaid' is the law's where the arguments, and the package variables that the reading takes, are together of bulk at most 1048576: NARROWER than '..Said'. Prove '..Said' where nothing that the law and all that it calls make is longer than what came in: it says more and counts as full. Else prove '..UptoSaid'. A law counts once. -/
mutual
def uptoBulk {H : Type} : DataW H → Nat
  | .lit (.string bytes) => bytes.length + 1
  | .lit _ => 1
  | .nil => 1
  | .ptr d => uptoBulk d + 1
  | .slice elems spare => uptoBulkAll elems + uptoBulkAll spare + 1
  | .agg parts => uptoBulkAll parts + 1
  | .iface _ d => uptoBulk d + 1
  | .map entries => uptoBulkEntries entries + 1
  | .held _ => 1
def uptoBulkAll {H : Type} : List (DataW H) → Nat
  | [] => 0
  | d :: r => uptoBulk d + uptoBulkAll r
def uptoBulkEntries {H : Type} : List (Lit × DataW H) → Nat
  | [] => 0
  | x :: r => uptoBulkEntry x + uptoBulkEntries r
def uptoBulkEntry {H : Type} : Lit × DataW H → Nat
  | (.string bytes, d) => bytes.length + uptoBulk d + 1
  | (_, d) => uptoBulk d + 1
 end
def uptoSmall : (H : Type) → List (DataW H) → Bool := fun _ ds => decide (uptoBulkAll ds ≤ 1048576)
def OpenSpec.upto (s : _root_.Go.ChangeSpec) : _root_.Go.OpenSpec := { _root_.Go.OpenSpec.ofChange s with cond := some uptoSmall }

/-- 'laws.FnExactSameSystem', WHERE WHAT IT READS IS OF BULK AT MOST 1048576: true; the input reads as it did. -/
def fnExactSameSystemUptoRow : OpenClaim := { program := "ytcikfognbjbniaa", sum := "1546be4618ba5404e2f0e32a9cd31d124f6b29c3329e33848242d1af61e38b95", func := "loop.example/g01081/laws.FnExactSameSystem", spec := "fnExactSameSystem", unfollowed := true, recurses := true, apart := false, narrowed := true }
def FnExactSameSystemUptoSaid : Prop := fnExactSameSystemUptoRow.holds Try.pinned (OpenSpec.upto fnExactSameSystemSpec)

/-- 'laws.FnExactValidAssembly', WHERE WHAT IT READS IS OF BULK AT MOST 1048576: true; the input reads as it did. -/
def fnExactValidAssemblyUptoRow : OpenClaim := { program := "ytcikfognbjbniaa", sum := "1546be4618ba5404e2f0e32a9cd31d124f6b29c3329e33848242d1af61e38b95", func := "loop.example/g01081/laws.FnExactValidAssembly", spec := "fnExactValidAssembly", unfollowed := true, recurses := true, apart := false, narrowed := true }
def FnExactValidAssemblyUptoSaid : Prop := fnExactValidAssemblyUptoRow.holds Try.pinned (OpenSpec.upto fnExactValidAssemblySpec)

/-- 'laws.FnExactValidWeights', WHERE WHAT IT READS IS OF BULK AT MOST 1048576: true; the input reads as it did. -/
def fnExactValidWeightsUptoRow : OpenClaim := { program := "ytcikfognbjbniaa", sum := "1546be4618ba5404e2f0e32a9cd31d124f6b29c3329e33848242d1af61e38b95", func := "loop.example/g01081/laws.FnExactValidWeights", spec := "fnExactValidWeights", unfollowed := true, recurses := true, apart := false, narrowed := true }
def FnExactValidWeightsUptoSaid : Prop := fnExactValidWeightsUptoRow.holds Try.pinned (OpenSpec.upto fnExactValidWeightsSpec)

/-- 'laws.FnExactCountTiles', WHERE WHAT IT READS IS OF BULK AT MOST 1048576: true; the input reads as it did. -/
def fnExactCountTilesUptoRow : OpenClaim := { program := "ytcikfognbjbniaa", sum := "1546be4618ba5404e2f0e32a9cd31d124f6b29c3329e33848242d1af61e38b95", func := "loop.example/g01081/laws.FnExactCountTiles", spec := "fnExactCountTiles", unfollowed := true, recurses := true, apart := false, narrowed := true }
def FnExactCountTilesUptoSaid : Prop := fnExactCountTilesUptoRow.holds Try.pinned (OpenSpec.upto fnExactCountTilesSpec)

/-- 'laws.FnExactTrimSet', WHERE WHAT IT READS IS OF BULK AT MOST 1048576: true; the input reads as it did. -/
def fnExactTrimSetUptoRow : OpenClaim := { program := "ytcikfognbjbniaa", sum := "1546be4618ba5404e2f0e32a9cd31d124f6b29c3329e33848242d1af61e38b95", func := "loop.example/g01081/laws.FnExactTrimSet", spec := "fnExactTrimSet", unfollowed := true, recurses := true, apart := false, narrowed := true }
def FnExactTrimSetUptoSaid : Prop := fnExactTrimSetUptoRow.holds Try.pinned (OpenSpec.upto fnExactTrimSetSpec)

end Rows
end Go.Proofs.Ytcikfognbjbniaa
