/-
  DERIVED. GIVEN WITH THE SEED: THE CARDS: each row of YtfnihmmkbnkmnaaDoorRows.lean that lists a variable, with what it lists TIED to the program's text (the seventh form; the later family's looks); each row that meets fmt, with fmt's text TOLD by the authors' own Lean function (tested against real Go, not proved from fmt's source: count such statements apart). THE CARD IS WHAT COUNTS. Prove the row's statement (the work); the ties are given (YtfnihmmkbnkmnaaDoorTie.lean); close each card by the builder's one call (the guide's Derived/Test/ToyasCard.lean, 'card_holds'). Laid BY PROGRAM, IN A SANDBOX (cutbox-door.mjs). By AI agents, Wed Nov 11 2026. No macro, syntax, notation, axiom, sorry.
-/
import Derived.Test.YtfnihmmkbnkmnaaDoorRows
import GoSem.ClaimSeven
namespace Go.Proofs.YtfnihmmkbnkmnaaDoor
namespace Rows

/-- THE TIED CARD OF 'laws.FnExactReadShape'. -/
def fnExactReadShapeCard : Claim7 := { stood := { row := fnExactReadShapeRow, standIns := [], harness := (true, "472dc4ff022dd9f17e2bf0484ea98a1e3a1a1dd380d4c57f5e24d72790250841"), looks := false }, kinds := [], alts := [], laidByText := true, laidKinds := [.data, .pinned], laidTests := true, laidLooks := .later }
def FnExactReadShapeCardSaid : Prop := Claim7.holds Tryd.pinned (.plain (OpenSpec.ofChange fnExactReadShapeSpec)) fnExactReadShapeCard

/-- THE TIED CARD OF 'laws.FnExactSetText'. -/
def fnExactSetTextCard : Claim7 := { stood := { row := fnExactSetTextRow, standIns := [], harness := (true, "472dc4ff022dd9f17e2bf0484ea98a1e3a1a1dd380d4c57f5e24d72790250841"), looks := false }, kinds := [], alts := [], laidByText := true, laidKinds := [.data, .data, .data], laidTests := true, laidLooks := .later }
def FnExactSetTextCardSaid : Prop := Claim7.holds Tryd.pinned (.plain (OpenSpec.ofChange fnExactSetTextSpec)) fnExactSetTextCard

/-- THE TIED CARD OF 'laws.FnExactAssemblyText'. -/
def fnExactAssemblyTextCard : Claim7 := { stood := { row := fnExactAssemblyTextRow, standIns := [], harness := (true, "472dc4ff022dd9f17e2bf0484ea98a1e3a1a1dd380d4c57f5e24d72790250841"), looks := false }, kinds := [], alts := [], laidByText := true, laidKinds := [.data, .data, .data], laidTests := true, laidLooks := .later }
def FnExactAssemblyTextCardSaid : Prop := Claim7.holds Tryd.pinned (.plain (OpenSpec.ofChange fnExactAssemblyTextSpec)) fnExactAssemblyTextCard

/-- THE SECOND FORM's CARD OF 'laws.FnExactReadShape'. -/
def fnExactReadShapeUptoCard : Claim7 := { stood := { row := fnExactReadShapeUptoRow, standIns := [], harness := (true, "472dc4ff022dd9f17e2bf0484ea98a1e3a1a1dd380d4c57f5e24d72790250841"), looks := false }, kinds := [], alts := [], laidByText := true, laidKinds := [.data, .pinned], laidTests := true, laidLooks := .later }
def FnExactReadShapeUptoCardSaid : Prop := Claim7.holds Tryd.pinned (.plain (OpenSpec.upto fnExactReadShapeSpec)) fnExactReadShapeUptoCard

/-- THE SECOND FORM's CARD OF 'laws.FnExactSetText'. -/
def fnExactSetTextUptoCard : Claim7 := { stood := { row := fnExactSetTextUptoRow, standIns := [], harness := (true, "472dc4ff022dd9f17e2bf0484ea98a1e3a1a1dd380d4c57f5e24d72790250841"), looks := false }, kinds := [], alts := [], laidByText := true, laidKinds := [.data, .data, .data], laidTests := true, laidLooks := .later }
def FnExactSetTextUptoCardSaid : Prop := Claim7.holds Tryd.pinned (.plain (OpenSpec.upto fnExactSetTextSpec)) fnExactSetTextUptoCard

/-- THE SECOND FORM's CARD OF 'laws.FnExactAssemblyText'. -/
def fnExactAssemblyTextUptoCard : Claim7 := { stood := { row := fnExactAssemblyTextUptoRow, standIns := [], harness := (true, "472dc4ff022dd9f17e2bf0484ea98a1e3a1a1dd380d4c57f5e24d72790250841"), looks := false }, kinds := [], alts := [], laidByText := true, laidKinds := [.data, .data, .data], laidTests := true, laidLooks := .later }
def FnExactAssemblyTextUptoCardSaid : Prop := Claim7.holds Tryd.pinned (.plain (OpenSpec.upto fnExactAssemblyTextSpec)) fnExactAssemblyTextUptoCard
end Rows
end Go.Proofs.YtfnihmmkbnkmnaaDoor
