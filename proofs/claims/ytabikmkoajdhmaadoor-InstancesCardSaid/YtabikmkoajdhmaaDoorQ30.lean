/- plain.env: names and types as a map; maps.Equal: it answers and touches nothing. -/
import Derived.Test.YtabikmkoajdhmaaDoorQ29
import Derived.Test.YtabikmkoajdhmaaDoorQ26
import Derived.Test.YtabikmkoajdhmaaDoorQ04
import Derived.Deep.LoopGhost
import Derived.Laws.IdiomRangeMap
import Derived.Maps.RangeRun
import Derived.Test.YtabikmkoajdhmaaDoorQ05
set_option linter.unusedVariables false
set_option linter.unusedSimpArgs false
namespace Go.Proofs.YtabikmkoajdhmaaDoor
open Go.RowKit

def typedV (t : Str) : Value := .agg #[.string (bs t)]
def envV (l : List (Str × Str)) : List (Str × Value) := l.map fun p => (p.1, typedV p.2)
theorem und_env : Tryd.prog.underlying 82 = some (.map 9 90) := by kernel_rfl
theorem zero_typed : ∀ w, (zeroValue 90).run Tryd.prog w = .ok (typedV []) w := fun w => by kernel_rfl
theorem run_mkenv (w : World) : (Instr.makeMap 82 none).run Tryd.prog w = .ok (.map (some w.heap.size)) (w.alloc (kmap kStr [])) := rfl
end Go.Proofs.YtabikmkoajdhmaaDoor
