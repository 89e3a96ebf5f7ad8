/- The engine's small functions: fail, equal, mono, with, get, by contracts. -/
import Derived.Test.YtabikmkoajdhmaaDoorQ32
import Derived.Test.YtabikmkoajdhmaaDoorQ28
import Derived.Test.YtabikmkoajdhmaaDoorQ05
set_option linter.unusedVariables false
set_option linter.unusedSimpArgs false
namespace Go.Proofs.YtabikmkoajdhmaaDoor
open Go.RowKit
end Go.Proofs.YtabikmkoajdhmaaDoor
