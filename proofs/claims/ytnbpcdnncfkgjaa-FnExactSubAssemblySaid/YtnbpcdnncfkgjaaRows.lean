/-
  No cell of these rows narrows 'for every input' (looked for: loops, veiled, ifaces, maps, wideKeys, modest, calm, conditions, laid).
  DERIVED. THE GIVEN ROWS OF THIS SEAT. 6 by the template 'for every input the law returns true; each argument reads behind the call as it read before'; 0 by the template 'total and deterministic' (their statements: YtnbpcdnncfkgjaaTotals.lean).
  GIVEN WITH THE SEED: the statements are not yours to turn. If you find one false, say at which input.
  Laid BY PROGRAM, IN A SANDBOX (cutbox-rows.mjs): the forced cells as the released guide's own fill.sh prints them over the translation ab849ddf53d131f8… (all of the seat's roots in one cut). By AI agents, Wed Nov 11 2026. No macro, syntax, notation, axiom, sorry.
-/
import Derived.Test.YtnbpcdnncfkgjaaChecked
import GoSem.Claim
import GoSem.ClaimJoined
import GoSem.ClaimMapViews
import Derived.JoinedTies
import Derived.KernelRfl
namespace Go.Proofs.Ytnbpcdnncfkgjaa
/- THE CELL 'sum', in the pinned program and in every row, IS THE sha256 OF THE DUMP (.gsa) THAT YtnbpcdnncfkgjaaProg.lean LOADS. Nothing in Lean hashes anything: it is a label: what it is worth is what the hold of that sum in a sandbox is worth. -/
noncomputable def Try.pinned : Pinned := { name := "ytnbpcdnncfkgjaa", sum := "ab849ddf53d131f8077da005795e15a53aa6c2f4cd5f47a63896b43683139112", checked := Try.checked }
namespace Rows
def none {H : Type} : Left H := { results := [], args := [] }

/-- 'laws.FnExactSameAssembly': WHATEVER THE INPUT: true; the input reads as it did. -/
def fnExactSameAssemblySpec : ChangeSpec := { name := "fnExactSameAssembly", fn := fun _ => fun
  | [d1, d2] => { results := [.lit (.bool true)], args := [d1, d2] }
  | _ => none }
def fnExactSameAssemblyRow : OpenClaim := { program := "ytnbpcdnncfkgjaa", sum := "ab849ddf53d131f8077da005795e15a53aa6c2f4cd5f47a63896b43683139112", func := "loop.example/g01081/laws.FnExactSameAssembly", spec := "fnExactSameAssembly", apart := false }
def FnExactSameAssemblySaid : Prop := fnExactSameAssemblyRow.holds Try.pinned (OpenSpec.ofChange fnExactSameAssemblySpec)

/-- ITS FALSE NEIGHBOUR: 'it returns false'. Refute it at one input. -/
def fnExactSameAssemblyWrong : ChangeSpec := { name := "fnExactSameAssembly", fn := fun _ => fun
  | [d1, d2] => { results := [.lit (.bool false)], args := [d1, d2] }
  | _ => none }
def FnExactSameAssemblyWrongFalsely : Prop := fnExactSameAssemblyRow.holds Try.pinned (OpenSpec.ofChange fnExactSameAssemblyWrong)

/-- 'laws.FnExactBoundsOf': WHATEVER THE INPUT: true; the input reads as it did. -/
def fnExactBoundsOfSpec : ChangeSpec := { name := "fnExactBoundsOf", fn := fun _ => fun
  | [d] => { results := [.lit (.bool true)], args := [d] }
  | _ => none }
def fnExactBoundsOfRow : OpenClaim := { program := "ytnbpcdnncfkgjaa", sum := "ab849ddf53d131f8077da005795e15a53aa6c2f4cd5f47a63896b43683139112", func := "loop.example/g01081/laws.FnExactBoundsOf", spec := "fnExactBoundsOf", apart := false }
def FnExactBoundsOfSaid : Prop := fnExactBoundsOfRow.holds Try.pinned (OpenSpec.ofChange fnExactBoundsOfSpec)

/-- ITS FALSE NEIGHBOUR: 'it returns false'. Refute it at one input. -/
def fnExactBoundsOfWrong : ChangeSpec := { name := "fnExactBoundsOf", fn := fun _ => fun
  | [d] => { results := [.lit (.bool false)], args := [d] }
  | _ => none }
def FnExactBoundsOfWrongFalsely : Prop := fnExactBoundsOfRow.holds Try.pinned (OpenSpec.ofChange fnExactBoundsOfWrong)

/-- 'laws.FnExactPointsOf': WHATEVER THE INPUT: true; the input reads as it did. -/
def fnExactPointsOfSpec : ChangeSpec := { name := "fnExactPointsOf", fn := fun _ => fun
  | [d] => { results := [.lit (.bool true)], args := [d] }
  | _ => none }
def fnExactPointsOfRow : OpenClaim := { program := "ytnbpcdnncfkgjaa", sum := "ab849ddf53d131f8077da005795e15a53aa6c2f4cd5f47a63896b43683139112", func := "loop.example/g01081/laws.FnExactPointsOf", spec := "fnExactPointsOf", apart := false }
def FnExactPointsOfSaid : Prop := fnExactPointsOfRow.holds Try.pinned (OpenSpec.ofChange fnExactPointsOfSpec)

/-- ITS FALSE NEIGHBOUR: 'it returns false'. Refute it at one input. -/
def fnExactPointsOfWrong : ChangeSpec := { name := "fnExactPointsOf", fn := fun _ => fun
  | [d] => { results := [.lit (.bool false)], args := [d] }
  | _ => none }
def FnExactPointsOfWrongFalsely : Prop := fnExactPointsOfRow.holds Try.pinned (OpenSpec.ofChange fnExactPointsOfWrong)

/-- 'laws.FnExactMoveAssembly': WHATEVER THE INPUT: true; the input reads as it did. -/
def fnExactMoveAssemblySpec : ChangeSpec := { name := "fnExactMoveAssembly", fn := fun _ => fun
  | [d1, d2] => { results := [.lit (.bool true)], args := [d1, d2] }
  | _ => none }
def fnExactMoveAssemblyRow : OpenClaim := { program := "ytnbpcdnncfkgjaa", sum := "ab849ddf53d131f8077da005795e15a53aa6c2f4cd5f47a63896b43683139112", func := "loop.example/g01081/laws.FnExactMoveAssembly", spec := "fnExactMoveAssembly", apart := false }
def FnExactMoveAssemblySaid : Prop := fnExactMoveAssemblyRow.holds Try.pinned (OpenSpec.ofChange fnExactMoveAssemblySpec)

/-- ITS FALSE NEIGHBOUR: 'it returns false'. Refute it at one input. -/
def fnExactMoveAssemblyWrong : ChangeSpec := { name := "fnExactMoveAssembly", fn := fun _ => fun
  | [d1, d2] => { results := [.lit (.bool false)], args := [d1, d2] }
  | _ => none }
def FnExactMoveAssemblyWrongFalsely : Prop := fnExactMoveAssemblyRow.holds Try.pinned (OpenSpec.ofChange fnExactMoveAssemblyWrong)

/-- 'laws.FnExactSubAssembly': WHATEVER THE INPUT: true; the input reads as it did. -/
def fnExactSubAssemblySpec : ChangeSpec := { name := "fnExactSubAssembly", fn := fun _ => fun
  | [d1, d2] => { results := [.lit (.bool true)], args := [d1, d2] }
  | _ => none }
def fnExactSubAssemblyRow : OpenClaim := { program := "ytnbpcdnncfkgjaa", sum := "ab849ddf53d131f8077da005795e15a53aa6c2f4cd5f47a63896b43683139112", func := "loop.example/g01081/laws.FnExactSubAssembly", spec := "fnExactSubAssembly", apart := false }
def FnExactSubAssemblySaid : Prop := fnExactSubAssemblyRow.holds Try.pinned (OpenSpec.ofChange fnExactSubAssemblySpec)

/-- ITS FALSE NEIGHBOUR: 'it returns false'. Refute it at one input. -/
def fnExactSubAssemblyWrong : ChangeSpec := { name := "fnExactSubAssembly", fn := fun _ => fun
  | [d1, d2] => { results := [.lit (.bool false)], args := [d1, d2] }
  | _ => none }
def FnExactSubAssemblyWrongFalsely : Prop := fnExactSubAssemblyRow.holds Try.pinned (OpenSpec.ofChange fnExactSubAssemblyWrong)

/-- 'laws.FnExactSameProof': WHATEVER THE INPUT: true; the input reads as it did. -/
def fnExactSameProofSpec : ChangeSpec := { name := "fnExactSameProof", fn := fun _ => fun
  | [d1, d2] => { results := [.lit (.bool true)], args := [d1, d2] }
  | _ => none }
def fnExactSameProofRow : OpenClaim := { program := "ytnbpcdnncfkgjaa", sum := "ab849ddf53d131f8077da005795e15a53aa6c2f4cd5f47a63896b43683139112", func := "loop.example/g01081/laws.FnExactSameProof", spec := "fnExactSameProof", unfollowed := true, recurses := true, apart := false }
def FnExactSameProofSaid : Prop := fnExactSameProofRow.holds Try.pinned (OpenSpec.ofChange fnExactSameProofSpec)

/-- ITS FALSE NEIGHBOUR: 'it returns false'. Refute it at one input. -/
def fnExactSameProofWrong : ChangeSpec := { name := "fnExactSameProof", fn := fun _ => fun
  | [d1, d2] => { results := [.lit (.bool false)], args := [d1, d2] }
  | _ => none }
def FnExactSameProofWrongFalsely : Prop := fnExactSameProofRow.holds Try.pinned (OpenSpec.ofChange fnExactSameProofWrong)

/- THE SECOND FORM. 'bulk': how many values and letters a reading holds, each counted each time it is reached (what is shared counts as often as it is met; a slice's spare places count too). A statement '..UptoSaid' is the law's where the arguments, and the package variables that the reading takes, are together of bulk at most 1048576: NARROWER than '..Said'. Prove '..Said' where nothing that the law and all that it calls make is longer than what came in: it says more and counts as full. Else prove '..UptoSaid'. A law counts once. -/
mutual
def uptoBulk {H : Type} : DataW H → Nat
  | .lit (.string bytes) => bytes.length + 1
  | .lit _ => 1
  | .nil => 1
  | .ptr d => uptoBulk d + 1
  | .slice elems spare => uptoBulkAll elems + uptoBulkAll spare + 1
  | .agg parts => uptoBulkAll parts + 1
  | .iface _ d => uptoBulk d + 1
  | .map entries => uptoBulkEntries entries + 1
  | .held _ => 1
def uptoBulkAll {H : Type} : List (DataW H) → Nat
  | [] => 0
  | d :: r => uptoBulk d + uptoBulkAll r
def uptoBulkEntries {H : Type} : List (Lit × DataW H) → Nat
  | [] => 0
  | x :: r => uptoBulkEntry x + uptoBulkEntries r
def uptoBulkEntry {H : Type} : Lit × DataW H → Nat
  | (.string bytes, d) => bytes.length + uptoBulk d + 1
  | (_, d) => uptoBulk d + 1
 end
def uptoSmall : (H : Type) → List (DataW H) → Bool := fun _ ds => decide (uptoBulkAll ds ≤ 1048576)
def OpenSpec.upto (s : _root_.Go.ChangeSpec) : _root_.Go.OpenSpec := { _root_.Go.OpenSpec.ofChange s with cond := some uptoSmall }

/-- 'laws.FnExactSameAssembly', WHERE WHAT IT READS IS OF BULK AT MOST 1048576: true; the input reads as it did. -/
def fnExactSameAssemblyUptoRow : OpenClaim := { program := "ytnbpcdnncfkgjaa", sum := "ab849ddf53d131f8077da005795e15a53aa6c2f4cd5f47a63896b43683139112", func := "loop.example/g01081/laws.FnExactSameAssembly", spec := "fnExactSameAssembly", apart := false, narrowed := true }
def FnExactSameAssemblyUptoSaid : Prop := fnExactSameAssemblyUptoRow.holds Try.pinned (OpenSpec.upto fnExactSameAssemblySpec)

/-- 'laws.FnExactBoundsOf', WHERE WHAT IT READS IS OF BULK AT MOST 1048576: true; the input reads as it did. -/
def fnExactBoundsOfUptoRow : OpenClaim := { program := "ytnbpcdnncfkgjaa", sum := "ab849ddf53d131f8077da005795e15a53aa6c2f4cd5f47a63896b43683139112", func := "loop.example/g01081/laws.FnExactBoundsOf", spec := "fnExactBoundsOf", apart := false, narrowed := true }
def FnExactBoundsOfUptoSaid : Prop := fnExactBoundsOfUptoRow.holds Try.pinned (OpenSpec.upto fnExactBoundsOfSpec)

/-- 'laws.FnExactPointsOf', WHERE WHAT IT READS IS OF BULK AT MOST 1048576: true; the input reads as it did. -/
def fnExactPointsOfUptoRow : OpenClaim := { program := "ytnbpcdnncfkgjaa", sum := "ab849ddf53d131f8077da005795e15a53aa6c2f4cd5f47a63896b43683139112", func := "loop.example/g01081/laws.FnExactPointsOf", spec := "fnExactPointsOf", apart := false, narrowed := true }
def FnExactPointsOfUptoSaid : Prop := fnExactPointsOfUptoRow.holds Try.pinned (OpenSpec.upto fnExactPointsOfSpec)

/-- 'laws.FnExactMoveAssembly', WHERE WHAT IT READS IS OF BULK AT MOST 1048576: true; the input reads as it did. -/
def fnExactMoveAssemblyUptoRow : OpenClaim := { program := "ytnbpcdnncfkgjaa", sum := "ab849ddf53d131f8077da005795e15a53aa6c2f4cd5f47a63896b43683139112", func := "loop.example/g01081/laws.FnExactMoveAssembly", spec := "fnExactMoveAssembly", apart := false, narrowed := true }
def FnExactMoveAssemblyUptoSaid : Prop := fnExactMoveAssemblyUptoRow.holds Try.pinned (OpenSpec.upto fnExactMoveAssemblySpec)

/-- 'laws.FnExactSubAssembly', WHERE WHAT IT READS IS OF BULK AT MOST 1048576: true; the input reads as it did. -/
def fnExactSubAssemblyUptoRow : OpenClaim := { program := "ytnbpcdnncfkgjaa", sum := "ab849ddf53d131f8077da005795e15a53aa6c2f4cd5f47a63896b43683139112", func := "loop.example/g01081/laws.FnExactSubAssembly", spec := "fnExactSubAssembly", apart := false, narrowed := true }
def FnExactSubAssemblyUptoSaid : Prop := fnExactSubAssemblyUptoRow.holds Try.pinned (OpenSpec.upto fnExactSubAssemblySpec)

/-- 'laws.FnExactSameProof', WHERE WHAT IT READS IS OF BULK AT MOST 1048576: true; the input reads as it did. -/
def fnExactSameProofUptoRow : OpenClaim := { program := "ytnbpcdnncfkgjaa", sum := "ab849ddf53d131f8077da005795e15a53aa6c2f4cd5f47a63896b43683139112", func := "loop.example/g01081/laws.FnExactSameProof", spec := "fnExactSameProof", unfollowed := true, recurses := true, apart := false, narrowed := true }
def FnExactSameProofUptoSaid : Prop := fnExactSameProofUptoRow.holds Try.pinned (OpenSpec.upto fnExactSameProofSpec)

end Rows
end Go.Proofs.Ytnbpcdnncfkgjaa
