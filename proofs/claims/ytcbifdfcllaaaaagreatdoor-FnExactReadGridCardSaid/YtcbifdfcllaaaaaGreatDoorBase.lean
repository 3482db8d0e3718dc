/- Closed facts on the loaded program, and how a law's argument is opened. -/
import Derived.Test.YtcbifdfcllaaaaaGreatDoorRows
import Derived.Test.YtcbifdfcllaaaaaGreatDoorOpen
import Derived.WalkKit
import Derived.WalkSpells
import Derived.WalkLawsBesides
import Derived.Deep.QuietTactic
import Derived.BigQuiet
import Derived.Deep.RegionHeld3
import Derived.Deep.LoopGhost
import Derived.Lib.Hide
import Derived.Handy
namespace Go.Proofs.YtcbifdfcllaaaaaGreatDoor
open Go.RowKit Go.WideShapes Go.ChangeShapes Go.Deep

theorem prog_own : ownKnob Tryz.prog.godebug = none := by kernel_rfl
theorem prog_laid : laidOutB Tryz.prog = true := by kernel_rfl

end Go.Proofs.YtcbifdfcllaaaaaGreatDoor
