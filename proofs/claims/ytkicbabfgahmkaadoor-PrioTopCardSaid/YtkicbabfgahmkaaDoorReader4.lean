/- wire.Reader: Zeros. -/
import Derived.Test.YtkicbabfgahmkaaDoorReader3
import Derived.Deep.LoopGhost
set_option linter.all false
namespace Go.Proofs.YtkicbabfgahmkaaDoor
open Go.RowKit
end Go.Proofs.YtkicbabfgahmkaaDoor
