/- types.Unify by a contract, for every fuel of its plain function. -/
import Derived.Test.YtabikmkoajdhmaaDoorQ26
import Derived.Test.YtabikmkoajdhmaaDoorQ24
import Derived.Test.YtabikmkoajdhmaaDoorQ23
import Derived.Test.YtabikmkoajdhmaaDoorQ22
import Derived.Deep.LoopGhost
set_option linter.unusedVariables false
set_option linter.unusedSimpArgs false
namespace Go.Proofs.YtabikmkoajdhmaaDoor
open Go.RowKit

end Go.Proofs.YtabikmkoajdhmaaDoor

/- types.Each by a contract, for every closure that keeps a state; Scheme.Any. -/
namespace Go.Proofs.YtabikmkoajdhmaaDoor
open Go.RowKit
end Go.Proofs.YtabikmkoajdhmaaDoor

/- types.Scheme.Any by a contract; schemes in memory. -/
namespace Go.Proofs.YtabikmkoajdhmaaDoor
open Go.RowKit

def unitV : Value := .agg #[]
def setEnts (l : List Nat) : List (Int × Value) := l.map fun (N : Nat) => ((N : Int), unitV)
/-- The variables of a scheme that stand for any type. -/
def AllG (G : GH) (mv : Value) (all : List Nat) : Prop := (mv = .map none ∧ all = []) ∨ ∃ m, mv = .map (some m) ∧ G m = some (kmap kInt (setEnts all))
theorem AllG.sub {G G' : GH} (hs : G.sub G') {mv : Value} {all : List Nat} (h : AllG G mv all) : AllG G' mv all := by
  rcases h with h | ⟨m, e, h⟩
  · exact .inl h
  · exact .inr ⟨m, e, hs _ _ h⟩
end Go.Proofs.YtabikmkoajdhmaaDoor
