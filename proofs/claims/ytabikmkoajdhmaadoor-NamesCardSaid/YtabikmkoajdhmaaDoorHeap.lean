/- What a call may change of the memory that was there when it began ('Keep'), and the part of the memory that is known block by block ('GH', 'Holds'): plain lemmas, no program in sight. -/
import Derived.Below
import Derived.WalkKit
import Derived.Deep.Draws
import Derived.ChangeAlike
namespace Go.Proofs.YtabikmkoajdhmaaDoor
open Go Go.RowKit

/-- All blocks that were there are as they were, but for those in S; nothing has been written to the streams. -/
structure Keep (S : Nat → Prop) (w w' : World) : Prop where
  os : w'.os = w.os
  output : w'.output = w.output
  size : w.heap.size ≤ w'.heap.size
  block : ∀ k, k < w.heap.size → ¬ S k → w'.heap[k]? = w.heap[k]?

def none' : Nat → Prop := fun _ => False
def one' (b : Nat) : Nat → Prop := fun k => k = b

theorem Keep.refl (S : Nat → Prop) (w : World) : Keep S w w := ⟨rfl, rfl, Nat.le_refl _, fun _ _ _ => rfl⟩

theorem Keep.trans' {S S' T : Nat → Prop} {a b c : World} (h : Keep S a b) (k : Keep S' b c)
    (hs : ∀ i, i < a.heap.size → S i → T i) (hs' : ∀ i, i < a.heap.size → S' i → T i) : Keep T a c :=
  ⟨k.os.trans h.os, k.output.trans h.output, Nat.le_trans h.size k.size, fun i hi hn => by
    rw [k.block i (Nat.lt_of_lt_of_le hi h.size) (fun x => hn (hs' i hi x)), h.block i hi (fun x => hn (hs i hi x))]⟩

theorem Keep.trans {S : Nat → Prop} {a b c : World} (h : Keep S a b) (k : Keep S b c) : Keep S a c :=
  h.trans' k (fun _ _ x => x) (fun _ _ x => x)

theorem Keep.mono {S T : Nat → Prop} {a b : World} (h : Keep S a b) (hs : ∀ i, i < a.heap.size → S i → T i) : Keep T a b :=
  ⟨h.os, h.output, h.size, fun i hi hn => h.block i hi (fun x => hn (hs i hi x))⟩

theorem Keep.of_none {T : Nat → Prop} {a b : World} (h : Keep none' a b) : Keep T a b := h.mono fun _ _ x => x.elim

theorem Keep.drew (S : Nat → Prop) (w : World) : Keep S w w.drew := ⟨rfl, rfl, Nat.le_refl _, fun _ _ _ => rfl⟩
theorem Keep.drewN (S : Nat → Prop) (w : World) (n : Nat) : Keep S w (w.drewN n) := ⟨rfl, rfl, Nat.le_refl _, fun _ _ _ => rfl⟩
theorem Keep.alloc (S : Nat → Prop) (w : World) (o : Obj) : Keep S w (w.alloc o) :=
  ⟨rfl, rfl, by simp, fun k hk _ => Below.heap_alloc _ _ _ hk⟩
theorem Keep.setCell {S : Nat → Prop} (w : World) {p : Addr} (u : Value) (hp : p.block < w.heap.size → S p.block) : Keep S w (w.setCell p u) :=
  ⟨rfl, rfl, by simp [World.setCell], fun k hk hn => Below.heap_setCell _ _ _ _ (fun e => hn (by subst e; exact hp hk))⟩

theorem Keep.of_below {S : Nat → Prop} {a b : World} (h : Below a.heap.size a b) : Keep S a b :=
  ⟨h.os, h.output, h.size, fun k hk _ => h.block k hk⟩
theorem Keep.frame {a b : World} (h : Keep none' a b) (may : MemPlace → Prop) : a.keptBut b may := by
  refine ⟨h.os, h.output, fun i hi => ?_⟩
  rw [h.block i hi (fun x => x)]
  split <;> simp_all

theorem Keep.grown {S : Nat → Prop} {w w' : World} {row : Option Nat} (hg : w.grownBy w' row) (hr : ∀ k, row = some k → k < w.heap.size → S k) : Keep S w w' :=
  ⟨hg.os, hg.output, hg.size, fun k hk hn => hg.block k hk (fun e => hn (hr k e.symm hk))⟩

theorem Keep.grown0 {w W w' : World} {row : Option Nat} (k : Keep none' w W) (g : W.grownBy w' row) (hr : ∀ b, row = some b → w.heap.size ≤ b) : Keep none' w w' :=
  k.trans' (Keep.grown (S := fun b => row = some b) g (fun b e _ => e)) (fun _ _ x => x) (fun b hb e => by have := hr b e; omega)
theorem lt_of_heap {w : World} {b : Nat} {o : Obj} (h : w.heap[b]? = some o) : b < w.heap.size := by
  rcases Nat.lt_or_ge b w.heap.size with h' | h'
  · exact h'
  · simp [Array.getElem?_eq_none h'] at h

theorem Keep.get {S : Nat → Prop} {a b : World} (h : Keep S a b) {k : Nat} {o : Obj} (hk : a.heap[k]? = some o) (hn : ¬ S k) : b.heap[k]? = some o :=
  (h.block k (lt_of_heap hk) hn).trans hk

theorem heap_new (w : World) (o : Obj) : (w.alloc o).heap[w.heap.size]? = some o := by
  show (w.heap.push o)[w.heap.size]? = _
  simp
theorem heap_old {w : World} {b : Nat} {o o' : Obj} (h : w.heap[b]? = some o) : (w.alloc o').heap[b]? = some o := by
  rw [Below.heap_alloc _ _ _ (lt_of_heap h)]; exact h
theorem heap_set_other {w : World} {b : Nat} {o : Obj} {p : Addr} {u : Value} (h : w.heap[b]? = some o) (hn : b ≠ p.block) : (w.setCell p u).heap[b]? = some o := by
  rw [Below.heap_setCell _ _ _ _ hn]; exact h
theorem heap_set_same {w : World} {b i : Nat} {c : Array Value} {T : TypeId} {f : Nat × Nat} {u : Value} (h : w.heap[b]? = some (.cells c T f)) :
    (w.setCell ⟨b, i, none⟩ u).heap[b]? = some (.cells (c.setIfInBounds i u) T f) := by
  simp only [World.setCell, Array.getElem?_modify]
  simp [h]

theorem cell_of_heap {w : World} {b i : Nat} {c : Array Value} {T : TypeId} {f : Nat × Nat} {v : Value} (h : w.heap[b]? = some (.cells c T f)) (hi : c[i]? = some v) :
    w.cell? ⟨b, i, none⟩ = some v := by
  simp [World.cell?, h, hi]
theorem free_of_heap {w : World} {b i : Nat} {c : Array Value} {T : TypeId} (h : w.heap[b]? = some (.cells c T)) :
    w.frozen? ⟨b, i, none⟩ = false := by
  simp [World.frozen?, h]

theorem Keep.cell {S : Nat → Prop} {a b : World} (h : Keep S a b) {p : Addr} (hp : p.block < a.heap.size) (hn : ¬ S p.block) : b.cell? p = a.cell? p := World.cell?_of_block (w := a) (h.block p.block hp hn)
theorem Keep.frozen {S : Nat → Prop} {a b : World} (h : Keep S a b) {p : Addr} (hp : p.block < a.heap.size) (hn : ¬ S p.block) : b.frozen? p = a.frozen? p := World.frozen?_of_block (w := a) (h.block p.block hp hn)
theorem lt_of_cell {w : World} {p : Addr} {v : Value} (h : w.cell? p = some v) : p.block < w.heap.size := by
  rcases Nat.lt_or_ge p.block w.heap.size with h' | h'
  · exact h'
  · simp [World.cell?, Array.getElem?_eq_none h'] at h
theorem Keep.cell_some {S : Nat → Prop} {a b : World} (h : Keep S a b) {p : Addr} {v : Value} (hp : a.cell? p = some v) (hn : ¬ S p.block) : b.cell? p = some v := (h.cell (lt_of_cell hp) hn).trans hp
theorem Keep.alike {S : Nat → Prop} {a b : World} (h : a.Alike b) : Keep S b a :=
  ⟨h.2.1, h.2.2, by rw [h.1]; exact Nat.le_refl _, fun k _ _ => by rw [h.1]⟩

/-- Some blocks, with what they hold. -/
abbrev GH := Nat → Option Obj
def Holds (G : GH) (w : World) : Prop := ∀ b o, G b = some o → w.heap[b]? = some o
def GH.sub (G G' : GH) : Prop := ∀ b o, G b = some o → G' b = some o
def GH.put (G : GH) (b : Nat) (o : Obj) : GH := fun k => if k = b then some o else G k
def GH.off (G : GH) (S : Nat → Prop) : Prop := ∀ b o, G b = some o → ¬ S b

theorem GH.sub.refl (G : GH) : G.sub G := fun _ _ h => h
theorem GH.sub.trans {G G' G'' : GH} (h : G.sub G') (k : G'.sub G'') : G.sub G'' := fun b o x => k b o (h b o x)
theorem GH.put_same (G : GH) (b : Nat) (o : Obj) : G.put b o b = some o := by simp [GH.put]
theorem GH.put_other (G : GH) {b k : Nat} (o : Obj) (h : k ≠ b) : G.put b o k = G k := by simp [GH.put, h]
theorem GH.sub_put {G : GH} {b : Nat} {o : Obj} (h : G b = none) : G.sub (G.put b o) := fun k o' hk => by
  unfold GH.put
  by_cases e : k = b
  · subst e; rw [h] at hk; cases hk
  · simp [e, hk]

theorem Holds.lt {G : GH} {w : World} (h : Holds G w) {b : Nat} {o : Obj} (hb : G b = some o) : b < w.heap.size := lt_of_heap (h b o hb)
theorem Holds.fresh {G : GH} {w : World} (h : Holds G w) {b : Nat} (hb : w.heap.size ≤ b) : G b = none := by
  cases e : G b with
  | none => rfl
  | some o => have := h.lt e; omega
theorem Holds.keep {G : GH} {S : Nat → Prop} {w w' : World} (h : Holds G w) (k : Keep S w w') (hs : G.off S) : Holds G w' :=
  fun b o hb => k.get (h b o hb) (hs b o hb)
theorem Holds.keep0 {G : GH} {w w' : World} (h : Holds G w) (k : Keep none' w w') : Holds G w' := h.keep k (fun _ _ _ x => x)
theorem Holds.put {G : GH} {w : World} (h : Holds G w) {b : Nat} {o : Obj} (hb : w.heap[b]? = some o) : Holds (G.put b o) w := fun k o' hk => by
  unfold GH.put at hk
  by_cases e : k = b
  · subst e; simp at hk; subst hk; exact hb
  · simp [e] at hk; exact h k o' hk
theorem Holds.sub {G G' : GH} {w : World} (h : Holds G' w) (s : G.sub G') : Holds G w := fun b o hb => h b o (s b o hb)

/-- Bytes as a string value's own. -/
abbrev Str := List UInt8
def bs (l : Str) : ByteArray := ⟨l.toArray⟩
theorem bs_toList (l : Str) : (bs l).data.toList = l := by simp [bs]
theorem bs_size (l : Str) : (bs l).size = l.length := by simp [bs, ByteArray.size]
theorem bs_eta (s : ByteArray) : bs s.data.toList = s := by cases s; simp [bs]
theorem bs_inj {a b : Str} (h : bs a = bs b) : a = b := by rw [← bs_toList a, h, bs_toList]
theorem bs_append (a b : Str) : bs a ++ bs b = bs (a ++ b) := by
  apply ByteArray.ext
  simp [bs, ByteArray.data_append]
end Go.Proofs.YtabikmkoajdhmaaDoor
