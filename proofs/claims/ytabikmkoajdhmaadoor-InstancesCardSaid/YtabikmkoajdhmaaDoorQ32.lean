/- types.Unify: its plain function, on types with all that has been found out put in; what it leaves; words and plain lemmas. -/
import Derived.Test.YtabikmkoajdhmaaDoorQ28
import Derived.Test.YtabikmkoajdhmaaDoorQ04
import Derived.Test.YtabikmkoajdhmaaDoorQ22
import Derived.Deep.LoopGhost
set_option linter.unusedVariables false
set_option linter.unusedSimpArgs false
namespace Go.Proofs.YtabikmkoajdhmaaDoor
open Go.RowKit
/-- What has been found out is d. -/
structure DSame (G : GH) (A : GV) (n : Nat) (w : World) (d : Dl) (w' : World) : Prop where
  keep : Keep (isV A) w w'
  inv : TInv G A w' n
  tr : ∀ v t, TR G A w v t → TR G A w' v (app d t)
theorem DSame.trans {G : GH} {A : GV} {n : Nat} {a b c : World} {d e : Dl} (h : DSame G A n a d b) (k : DSame G A n b e c) : DSame G A n a (d ++ e) c :=
  ⟨h.keep.trans k.keep, k.inv, fun v t r => by rw [app_append]; exact k.tr _ _ (h.tr _ _ r)⟩
theorem DSame.trs {G : GH} {A : GV} {n : Nat} {w w' : World} {d : Dl} (h : DSame G A n w d w') : ∀ {vs : List Value} {ts : List Ty}, TRs G A w vs ts → TRs G A w' vs (ts.map (app d))
  | _, _, .nil => .nil
  | _, _, .cons a b => .cons (h.tr _ _ a) (h.trs b)
/-- A variable bound. -/
theorem DSame.bind {G : GH} {A : GV} {w : World} {n N b : Nat} {nm : Str} {u : Value} {s : Ty} (hi : TInv G A w n) (hN : A N = some (b, nm)) (hb : w.heap[b]? = some (varObj N .nilIface nm)) (hu : TR G A w u s) (hs : s.has N = false) : DSame G A n w [(N, s)] (w.setCell ⟨b, 1, none⟩ u) :=
  ⟨set_keep hN u, set_inv hi hN hb u, fun v t r => bind_all hi hN hb hu hs r⟩

end Go.Proofs.YtabikmkoajdhmaaDoor

/- types.Unify and types.same by contracts. -/
namespace Go.Proofs.YtabikmkoajdhmaaDoor
open Go.RowKit
theorem str_eq2 (a b : Str) : ((bs a).toList == (bs b).toList) = decide (a = b) := by
  have e : (bs b).toList = b := by rw [ByteArray.toList_eq]; exact bs_toList b
  rw [e, str_is]
theorem drop_cons {α : Type} {l : List α} {j : Nat} (h : j < l.length) : l.drop j = l[j] :: l.drop (j + 1) := by rw [List.drop_eq_getElem_cons h]
end Go.Proofs.YtabikmkoajdhmaaDoor

/- types.Unify by a contract, for every fuel of its plain function. -/
namespace Go.Proofs.YtabikmkoajdhmaaDoor
open Go.RowKit

end Go.Proofs.YtabikmkoajdhmaaDoor

/- types.Each by a contract, for every closure that keeps a state; Scheme.Any. -/
namespace Go.Proofs.YtabikmkoajdhmaaDoor
open Go.RowKit
end Go.Proofs.YtabikmkoajdhmaaDoor

/- types.Scheme.Any by a contract; schemes in memory. -/
namespace Go.Proofs.YtabikmkoajdhmaaDoor
open Go.RowKit

def unitV : Value := .agg #[]
def setEnts (l : List Nat) : List (Int × Value) := l.map fun (N : Nat) => ((N : Int), unitV)
/-- The variables of a scheme that stand for any type. -/
def AllG (G : GH) (mv : Value) (all : List Nat) : Prop := (mv = .map none ∧ all = []) ∨ ∃ m, mv = .map (some m) ∧ G m = some (kmap kInt (setEnts all))
theorem AllG.sub {G G' : GH} (hs : G.sub G') {mv : Value} {all : List Nat} (h : AllG G mv all) : AllG G' mv all := by
  rcases h with h | ⟨m, e, h⟩
  · exact .inl h
  · exact .inr ⟨m, e, hs _ _ h⟩
end Go.Proofs.YtabikmkoajdhmaaDoor
