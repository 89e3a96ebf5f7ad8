/- The eight sentinel errors as they lie in memory: words and plain lemmas. -/
import Derived.Test.YtabikmkoajdhmaaDoorErrAs
import Derived.Test.YtabikmkoajdhmaaDoorHeap
namespace Go.Proofs.YtabikmkoajdhmaaDoor
open Go.RowKit

theorem ErrTypeLaid.keep {S : Nat → Prop} {w w' : World} (h : ErrTypeLaid w) (k : Keep S w w') (hs : ¬ S 10) : ErrTypeLaid w' := let ⟨T, f, h⟩ := h; ⟨T, f, k.get h hs⟩
theorem asBase_keep (S : Nat → Prop) (TT : TypeId) (t : Addr) (w : World) : Keep S w (asBase TT t w) :=
  ((Keep.alloc S w _).trans' (Keep.alloc S _ _) (fun _ _ x => x) (fun _ _ x => x)).trans' (Keep.alloc S _ _) (fun _ _ x => x) (fun _ _ x => x)

/-- The eight sentinels' variables, and the numbers by which plain tells them. -/
def gno : Nat → Nat
  | 0 => 0 | 1 => 1 | 2 => 2 | 3 => 3 | 4 => 4 | 5 => 5 | 6 => 6 | _ => 7
def kno : Nat → Int
  | 0 => 1 | 1 => 3 | 2 => 6 | 3 => 7 | 4 => 8 | 5 => 9 | 6 => 10 | _ => 11
/-- The sentinel number j, as a value of type error. -/
def sen (p : Nat → Addr) (j : Nat) : Value := .iface 264 (.pointer (some (p j)))
structure Sents (p : Nat → Addr) (w : World) : Prop where
  glob : ∀ j, j < 8 → w.cell? ⟨gno j, 0, none⟩ = some (sen p j)
  blk : ∀ j, j < 8 → ∃ c T, w.heap[(p j).block]? = some (.cells c T (0, 0))
  inj : ∀ i j, i < 8 → j < 8 → i ≠ j → p i ≠ p j
  et : ErrTypeLaid w
/-- What a change may touch and leave the sentinels alone. -/
def Sents.off (p : Nat → Addr) (S : Nat → Prop) : Prop := (∀ j, j < 8 → ¬ S (gno j) ∧ ¬ S (p j).block) ∧ ¬ S 10
theorem Sents.keep {p : Nat → Addr} {S : Nat → Prop} {w w' : World} (h : Sents p w) (k : Keep S w w') (hs : Sents.off p S) : Sents p w' :=
  ⟨fun j hj => k.cell_some (h.glob j hj) (hs.1 j hj).1, fun j hj => let ⟨c, T, hc⟩ := h.blk j hj; ⟨c, T, k.get hc (hs.1 j hj).2⟩, h.inj, h.et.keep k hs.2⟩
theorem Sents.keep0 {p : Nat → Addr} {w w' : World} (h : Sents p w) (k : Keep none' w w') : Sents p w' := h.keep k ⟨fun _ _ => ⟨fun x => x, fun x => x⟩, fun x => x⟩

def faultV (what at' : Int) (s : ByteArray) (inner innerAt : Int) : Value := .agg #[.int .i64 what, .int .i64 at', .string s, .int .i64 inner, .int .i64 innerAt]

theorem keep3 {a b : World} (T : TypeId) (t : Addr) (h : b = asBase T t a) : Keep none' a b := by subst h; exact asBase_keep _ _ _ _

end Go.Proofs.YtabikmkoajdhmaaDoor
