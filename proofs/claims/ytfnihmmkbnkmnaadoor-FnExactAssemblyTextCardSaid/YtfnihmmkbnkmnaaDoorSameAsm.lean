/- The contract of spec.SameAssembly. -/
import Derived.Test.YtfnihmmkbnkmnaaDoorAsm
namespace Go.Proofs.YtfnihmmkbnkmnaaDoor
open Go.RowKit Go.Deep
set_option linter.unusedVariables false
set_option linter.unusedSimpArgs false



end Go.Proofs.YtfnihmmkbnkmnaaDoor
