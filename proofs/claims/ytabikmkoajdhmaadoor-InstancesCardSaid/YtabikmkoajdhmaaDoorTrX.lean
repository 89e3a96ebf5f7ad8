/- The reference's expressions in memory, and what its readers leave: words and plain lemmas. -/
import Derived.Test.YtabikmkoajdhmaaDoorTrRd
import Derived.Test.YtabikmkoajdhmaaDoorQ20
import Derived.Test.YtabikmkoajdhmaaDoorQ21
set_option linter.unusedVariables false
set_option linter.unusedSimpArgs false
set_option linter.unnecessarySimpa false
namespace Go.Proofs.YtabikmkoajdhmaaDoor
open Go.RowKit

def rAPP : Str := [97, 112, 112]
def rPAIR : Str := [112, 97, 105, 114]
def Ex.rop : Ex → Str
  | .name _ _ => rNAME
  | .num _ => rNUM
  | .fn _ _ => FUN
  | .app _ _ => rAPP
  | .pair _ _ => rPAIR
  | .lt _ _ _ => LET
  | .rc _ _ => REC
  | .ite _ _ _ => IF
def Ex.rnms : Ex → List Str
  | .name _ n => [n]
  | .num t => [t]
  | .fn n _ => [n]
  | .lt n _ _ => [n]
  | .rc bs _ => bs.names
  | _ => []
def Ex.rkids : Ex → List Ex
  | .fn _ b => [b]
  | .app f a => [f, a]
  | .pair a b => [a, b]
  | .lt _ a b => [a, b]
  | .rc bs e => bs.exprs ++ [e]
  | .ite c a b => [c, a, b]
  | _ => []
def xO (op : Str) (nv lv : Value) (at' : Int) : Obj := .cells #[.string (bs op), nv, lv, .int .i64 at'] 76
/-- Block b holds an expression. -/
inductive XR (G : GH) : Nat → Ex → Prop
  | mk {b : Nat} {x : Ex} {nv lv : Value} {at' : Int} {ks : List Nat} : G b = some (xO x.rop nv lv at') → SlR G nv (x.rnms.map fun n => .string (bs n)) → SlR G lv (ks.map ptr) → ks.length = x.rkids.length → (∀ i (h : i < ks.length) (h2 : i < x.rkids.length), XR G ks[i] x.rkids[i]) → XR G b x
theorem XR.sub {G G' : GH} (hs : G.sub G') {b : Nat} {x : Ex} (h : XR G b x) : XR G' b x := by
  induction h with
  | mk h1 h2 h3 h4 _ ih => exact .mk (hs _ _ h1) (h2.sub hs) (h3.sub hs) h4 ih
structure Rdr where
  x : Str
  T : List Tok
  tb : Nat
  arr : Array Value
  lv : Value
  rb : Nat
structure EInv (G : GH) (R : Rdr) (s : RS) (w : World) : Prop where
  holds : Holds G w
  off : G R.rb = none
  ri : RdI R.x R.T R.tb R.arr R.lv R.rb s w
def ExpPost (G : GH) (R : Rdr) (w : World) (q : Ex × RS) (e : Ending) (w' : World) : Prop :=
  Keep (one' R.rb) w w' ∧ ∃ b G', e = .returned (.pointer (some ⟨b, 0, none⟩)) ∧ Grew G w G' ∧ EInv G' R q.2 w' ∧ (∃ op nv lv at', G' b = some (xO op nv lv at')) ∧ (q.2.bad = none → XR G' b q.1)
theorem EInv.off1 {G : GH} {R : Rdr} {s : RS} {w : World} (h : EInv G R s w) : G.off (one' R.rb) := fun b o hb (e : b = R.rb) => by
  subst e; rw [h.off] at hb; cases hb
theorem EInv.step {G : GH} {R : Rdr} {s s' : RS} {w w' : World} (h : EInv G R s w) (k : RdPost R.x R.T R.tb R.arr R.lv R.rb s' w w') : EInv G R s' w' := ⟨h.holds.keep k.1 h.off1, h.off, k.2⟩
theorem EInv.keep0 {G : GH} {R : Rdr} {s : RS} {w w' : World} (h : EInv G R s w) (k : Keep none' w w') : EInv G R s w' := ⟨h.holds.keep0 k, h.off, h.ri.keep k (fun x => x) (fun x => x)⟩
theorem RdI.lt {x : Str} {T : List Tok} {tb : Nat} {arr : Array Value} {lv : Value} {rb : Nat} {s : RS} {w : World} (h : RdI x T tb arr lv rb s w) : rb < w.heap.size := by obtain ⟨_, _, _, hr⟩ := h.suf; exact lt_of_heap hr
theorem EInv.alloc {G : GH} {R : Rdr} {s : RS} {w : World} (h : EInv G R s w) (o : Obj) : Grew G w (G.put w.heap.size o) ∧ EInv (G.put w.heap.size o) R s (w.alloc o) := by
  have hf : G w.heap.size = none := h.holds.fresh (Nat.le_refl _)
  have hrb : R.rb ≠ w.heap.size := by have := h.ri.lt; omega
  exact ⟨⟨GH.sub_put hf, fun b hb => GH.put_other _ _ (by omega)⟩, (h.holds.keep0 (Keep.alloc none' w o)).put (heap_new w o), by rw [GH.put_other _ _ hrb]; exact h.off, h.ri.keep (Keep.alloc none' w o) (fun x => x) (fun x => x)⟩
def ExpOk (R : Rdr) (f : Nat) : Prop := ∀ (s : RS) (q : Ex × RS), rExp f s = some q → ∀ (G : GH) (w : World), EInv G R s w → Calls Tryd.prog 24 #[.pointer (some ⟨R.rb, 0, none⟩)] w (ExpPost G R w q)
theorem good_r {w : Str} (h : w ≠ rNAME ∧ w ≠ rNUM ∧ w ≠ rNONE ∧ w ≠ rEND) : goodR (.kw w) := fun v e => by cases e; exact h
theorem gr_LP : goodR (.kw LP) := good_r (by decide)
theorem gr_RP : goodR (.kw RP) := good_r (by decide)
theorem gr_COMMA : goodR (.kw COMMA) := good_r (by decide)
theorem gr_FUN : goodR (.kw FUN) := good_r (by decide)
theorem gr_IF : goodR (.kw IF) := good_r (by decide)
theorem gr_LET : goodR (.kw LET) := good_r (by decide)
theorem gr_REC : goodR (.kw REC) := good_r (by decide)
theorem gr_AND : goodR (.kw AND) := good_r (by decide)
theorem gr_IN : goodR (.kw IN) := good_r (by decide)
theorem gr_THEN : goodR (.kw THEN) := good_r (by decide)
theorem gr_ELSE : goodR (.kw ELSE) := good_r (by decide)
theorem gr_ARROW : goodR (.kw ARROW) := good_r (by decide)
theorem gr_EQ : goodR (.kw EQ) := good_r (by decide)
theorem gr_name : goodR .name := fun w e => by cases e
theorem gr_num : goodR .num := fun w e => by cases e
theorem nstop {k : TK} (h : k ≠ .fin ∧ k ≠ .bad) : k ≠ .fin ∧ k ≠ .bad := h
/-- A slice of one value, just laid. -/
theorem slr_one {G : GH} {b : Nat} {v : Value} {T : TypeId} (h : G b = some (.cells #[v] T)) : SlR G (.slice (some ⟨b, 0, none⟩) 1 1) [v] := .inr ⟨b, #[v], T, 1, rfl, h, fun i hi => by simp at hi; subst hi; rfl⟩
theorem slr_two {G : GH} {b : Nat} {v u : Value} {T : TypeId} (h : G b = some (.cells #[v, u] T)) : SlR G (.slice (some ⟨b, 0, none⟩) 2 2) [v, u] := .inr ⟨b, #[v, u], T, 2, rfl, h, fun i hi => by
  match i, hi with
  | 0, _ => rfl
  | 1, _ => rfl⟩
theorem size_alloc (w : World) (o : Obj) : (w.alloc o).heap.size = w.heap.size + 1 := by simp
/-- Two new blocks: a row of names (or of parts), and the node. -/
theorem EInv.two {G : GH} {R : Rdr} {s : RS} {w : World} (h : EInv G R s w) (o u : Obj) : Grew G w ((G.put w.heap.size o).put (w.heap.size + 1) u) ∧ EInv ((G.put w.heap.size o).put (w.heap.size + 1) u) R s ((w.alloc o).alloc u) := by
  obtain ⟨g1, i1⟩ := h.alloc o
  obtain ⟨g2, i2⟩ := i1.alloc u
  rw [size_alloc] at g2 i2
  exact ⟨g1.trans (Keep.alloc none' w o) g2, i2⟩
theorem XR.leaf {G : GH} {x : Ex} {b : Nat} {nv : Value} {at' : Int} (hb : G b = some (xO x.rop nv (.slice none 0 0) at')) (hn : SlR G nv (x.rnms.map fun n => .string (bs n))) (hk : x.rkids = []) : XR G b x :=
  .mk (ks := []) hb hn (.inl ⟨rfl, rfl⟩) (by rw [hk]; rfl) (fun i h => by cases h)
theorem XR.one {G : GH} {x y : Ex} {b c : Nat} {nv lv : Value} {at' : Int} (hb : G b = some (xO x.rop nv lv at')) (hn : SlR G nv (x.rnms.map fun n => .string (bs n))) (hk : x.rkids = [y]) (hl : SlR G lv [ptr c]) (hy : XR G c y) : XR G b x :=
  .mk (ks := [c]) hb hn hl (by rw [hk]; rfl) (fun i h h2 => by
    simp only [List.length_singleton] at h
    have : i = 0 := by omega
    subst this
    simp only [hk]; exact hy)
theorem XR.two {G : GH} {x y z : Ex} {b c d : Nat} {nv lv : Value} {at' : Int} (hb : G b = some (xO x.rop nv lv at')) (hn : SlR G nv (x.rnms.map fun n => .string (bs n))) (hk : x.rkids = [y, z]) (hl : SlR G lv [ptr c, ptr d]) (hy : XR G c y) (hz : XR G d z) : XR G b x :=
  .mk (ks := [c, d]) hb hn hl (by rw [hk]; rfl) (fun i h h2 => by
    simp only [hk]
    match i, h with
    | 0, _ => exact hy
    | 1, _ => exact hz)
theorem XR.three {G : GH} {x y z u : Ex} {b c d e : Nat} {nv lv : Value} {at' : Int} (hb : G b = some (xO x.rop nv lv at')) (hn : SlR G nv (x.rnms.map fun n => .string (bs n))) (hk : x.rkids = [y, z, u]) (hl : SlR G lv [ptr c, ptr d, ptr e]) (hy : XR G c y) (hz : XR G d z) (hu : XR G e u) : XR G b x :=
  .mk (ks := [c, d, e]) hb hn hl (by rw [hk]; rfl) (fun i h h2 => by
    simp only [hk]
    match i, h with
    | 0, _ => exact hy
    | 1, _ => exact hz
    | 2, _ => exact hu)
theorem need_good {s : RS} {k : TK} (h : (s.need k).bad = none) : s.bad = none := by
  cases hb : s.bad with
  | none => rfl
  | some p => rw [bad_need hb] at h; rw [h] at hb; cases hb
end Go.Proofs.YtabikmkoajdhmaaDoor
