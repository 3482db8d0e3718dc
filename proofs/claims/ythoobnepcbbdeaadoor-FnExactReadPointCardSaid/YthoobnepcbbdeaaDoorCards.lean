/-
  DERIVED. GIVEN WITH THE SEED: THE CARDS: each row of YthoobnepcbbdeaaDoorRows.lean that lists a variable, with what it lists TIED to the program's text (the seventh form; the later family's looks); each row that meets fmt, with fmt's text TOLD by the authors' own Lean function (tested against real Go, not proved from fmt's source: count such statements apart). THE CARD IS WHAT COUNTS. Prove the row's statement (the work); the ties are given (YthoobnepcbbdeaaDoorTie.lean); close each card by the builder's one call (the guide's Derived/Test/ToyasCard.lean, 'card_holds'). Laid BY PROGRAM, IN A SANDBOX (cutbox-door.mjs). By AI agents, Wed Nov 11 2026. No macro, syntax, notation, axiom, sorry.
-/
import Derived.Test.YthoobnepcbbdeaaDoorRows
import GoSem.ClaimSeven
namespace Go.Proofs.YthoobnepcbbdeaaDoor
namespace Rows

/-- THE TIED CARD OF 'laws.FnExactDecimal'. -/
def fnExactDecimalCard : Claim7 := { stood := { row := fnExactDecimalRow, standIns := [], harness := (true, "1103c67c11831b1da890be7ed06dd2be625e9757ebd3b447a621858313e751a5"), looks := true }, kinds := [], alts := [], laidByText := true, laidKinds := [.data, .data, .data], laidTests := true, laidLooks := .later }
def FnExactDecimalCardSaid : Prop := Claim7.holds Tryd.pinned (.plain (OpenSpec.ofChange fnExactDecimalSpec)) fnExactDecimalCard

/-- THE TIED CARD OF 'laws.FnExactPointText'. -/
def fnExactPointTextCard : Claim7 := { stood := { row := fnExactPointTextRow, standIns := [], harness := (true, "1103c67c11831b1da890be7ed06dd2be625e9757ebd3b447a621858313e751a5"), looks := true }, kinds := [], alts := [], laidByText := true, laidKinds := [.data, .data, .data], laidTests := true, laidLooks := .later }
def FnExactPointTextCardSaid : Prop := Claim7.holds Tryd.pinned (.plain (OpenSpec.ofChange fnExactPointTextSpec)) fnExactPointTextCard

/-- THE TIED CARD OF 'laws.FnExactFracText'. -/
def fnExactFracTextCard : Claim7 := { stood := { row := fnExactFracTextRow, standIns := [], harness := (true, "1103c67c11831b1da890be7ed06dd2be625e9757ebd3b447a621858313e751a5"), looks := true }, kinds := [], alts := [], laidByText := true, laidKinds := [.data, .data, .data], laidTests := true, laidLooks := .later }
def FnExactFracTextCardSaid : Prop := Claim7.holds Tryd.pinned (.plain (OpenSpec.ofChange fnExactFracTextSpec)) fnExactFracTextCard

/-- THE TIED CARD OF 'laws.FnExactReadDecimal'. -/
def fnExactReadDecimalCard : Claim7 := { stood := { row := fnExactReadDecimalRow, standIns := [], harness := (true, "1103c67c11831b1da890be7ed06dd2be625e9757ebd3b447a621858313e751a5"), looks := true }, kinds := [], alts := [], laidByText := true, laidKinds := [.data, .data, .data, .sentinel, .sentinel], laidTests := true, laidLooks := .later }
def FnExactReadDecimalCardSaid : Prop := Claim7.holds Tryd.pinned (.plain (OpenSpec.ofChange fnExactReadDecimalSpec)) fnExactReadDecimalCard

/-- THE TIED CARD OF 'laws.FnExactReadPoint'. -/
def fnExactReadPointCard : Claim7 := { stood := { row := fnExactReadPointRow, standIns := [], harness := (true, "1103c67c11831b1da890be7ed06dd2be625e9757ebd3b447a621858313e751a5"), looks := true }, kinds := [], alts := [], laidByText := true, laidKinds := [.data, .data, .data, .sentinel, .sentinel], laidTests := true, laidLooks := .later }
def FnExactReadPointCardSaid : Prop := Claim7.holds Tryd.pinned (.plain (OpenSpec.ofChange fnExactReadPointSpec)) fnExactReadPointCard

/-- THE SECOND FORM's CARD OF 'laws.FnExactDecimal'. -/
def fnExactDecimalUptoCard : Claim7 := { stood := { row := fnExactDecimalUptoRow, standIns := [], harness := (true, "1103c67c11831b1da890be7ed06dd2be625e9757ebd3b447a621858313e751a5"), looks := true }, kinds := [], alts := [], laidByText := true, laidKinds := [.data, .data, .data], laidTests := true, laidLooks := .later }
def FnExactDecimalUptoCardSaid : Prop := Claim7.holds Tryd.pinned (.plain (OpenSpec.upto fnExactDecimalSpec)) fnExactDecimalUptoCard

/-- THE SECOND FORM's CARD OF 'laws.FnExactPointText'. -/
def fnExactPointTextUptoCard : Claim7 := { stood := { row := fnExactPointTextUptoRow, standIns := [], harness := (true, "1103c67c11831b1da890be7ed06dd2be625e9757ebd3b447a621858313e751a5"), looks := true }, kinds := [], alts := [], laidByText := true, laidKinds := [.data, .data, .data], laidTests := true, laidLooks := .later }
def FnExactPointTextUptoCardSaid : Prop := Claim7.holds Tryd.pinned (.plain (OpenSpec.upto fnExactPointTextSpec)) fnExactPointTextUptoCard

/-- THE SECOND FORM's CARD OF 'laws.FnExactFracText'. -/
def fnExactFracTextUptoCard : Claim7 := { stood := { row := fnExactFracTextUptoRow, standIns := [], harness := (true, "1103c67c11831b1da890be7ed06dd2be625e9757ebd3b447a621858313e751a5"), looks := true }, kinds := [], alts := [], laidByText := true, laidKinds := [.data, .data, .data], laidTests := true, laidLooks := .later }
def FnExactFracTextUptoCardSaid : Prop := Claim7.holds Tryd.pinned (.plain (OpenSpec.upto fnExactFracTextSpec)) fnExactFracTextUptoCard

/-- THE SECOND FORM's CARD OF 'laws.FnExactReadDecimal'. -/
def fnExactReadDecimalUptoCard : Claim7 := { stood := { row := fnExactReadDecimalUptoRow, standIns := [], harness := (true, "1103c67c11831b1da890be7ed06dd2be625e9757ebd3b447a621858313e751a5"), looks := true }, kinds := [], alts := [], laidByText := true, laidKinds := [.data, .data, .data, .sentinel, .sentinel], laidTests := true, laidLooks := .later }
def FnExactReadDecimalUptoCardSaid : Prop := Claim7.holds Tryd.pinned (.plain (OpenSpec.upto fnExactReadDecimalSpec)) fnExactReadDecimalUptoCard

/-- THE SECOND FORM's CARD OF 'laws.FnExactReadPoint'. -/
def fnExactReadPointUptoCard : Claim7 := { stood := { row := fnExactReadPointUptoRow, standIns := [], harness := (true, "1103c67c11831b1da890be7ed06dd2be625e9757ebd3b447a621858313e751a5"), looks := true }, kinds := [], alts := [], laidByText := true, laidKinds := [.data, .data, .data, .sentinel, .sentinel], laidTests := true, laidLooks := .later }
def FnExactReadPointUptoCardSaid : Prop := Claim7.holds Tryd.pinned (.plain (OpenSpec.upto fnExactReadPointSpec)) fnExactReadPointUptoCard
end Rows
end Go.Proofs.YthoobnepcbbdeaaDoor
