/- What a call may change of the memory that was there when it began ('Keep'), and the part of the memory that is known block by block ('GH', 'Holds'): plain lemmas, no program in sight. -/
import Derived.Below
import Derived.WalkKit
import Derived.Deep.Draws
import Derived.ChangeAlike
import Derived.Lib.Strings
import Derived.Test.YtabikmkoajdhmaaDoorProg
import Derived.WalkLawsBesides
import Derived.WalkSpells
import Derived.BigQuiet
import Derived.Outline
import Derived.Deep.LoopGhost
import Derived.Deep.RegionWith
import Derived.StillTailTactics
import Derived.Lib.Hide
import Derived.Deep.RegionHeld3
import Derived.StillTail
set_option linter.unusedVariables false
set_option linter.unusedSimpArgs false
namespace Go.Proofs.YtabikmkoajdhmaaDoor
open Go Go.RowKit

/-- All blocks that were there are as they were, but for those in S; nothing has been written to the streams. -/
structure Keep (S : Nat → Prop) (w w' : World) : Prop where
  os : w'.os = w.os
  output : w'.output = w.output
  size : w.heap.size ≤ w'.heap.size
  block : ∀ k, k < w.heap.size → ¬ S k → w'.heap[k]? = w.heap[k]?

def none' : Nat → Prop := fun _ => False
def one' (b : Nat) : Nat → Prop := fun k => k = b

theorem Keep.refl (S : Nat → Prop) (w : World) : Keep S w w := ⟨rfl, rfl, Nat.le_refl _, fun _ _ _ => rfl⟩

theorem Keep.trans' {S S' T : Nat → Prop} {a b c : World} (h : Keep S a b) (k : Keep S' b c)
    (hs : ∀ i, i < a.heap.size → S i → T i) (hs' : ∀ i, i < a.heap.size → S' i → T i) : Keep T a c :=
  ⟨k.os.trans h.os, k.output.trans h.output, Nat.le_trans h.size k.size, fun i hi hn => by
    rw [k.block i (Nat.lt_of_lt_of_le hi h.size) (fun x => hn (hs' i hi x)), h.block i hi (fun x => hn (hs i hi x))]⟩

theorem Keep.trans {S : Nat → Prop} {a b c : World} (h : Keep S a b) (k : Keep S b c) : Keep S a c :=
  h.trans' k (fun _ _ x => x) (fun _ _ x => x)

theorem Keep.mono {S T : Nat → Prop} {a b : World} (h : Keep S a b) (hs : ∀ i, i < a.heap.size → S i → T i) : Keep T a b :=
  ⟨h.os, h.output, h.size, fun i hi hn => h.block i hi (fun x => hn (hs i hi x))⟩

theorem Keep.of_none {T : Nat → Prop} {a b : World} (h : Keep none' a b) : Keep T a b := h.mono fun _ _ x => x.elim

theorem Keep.drew (S : Nat → Prop) (w : World) : Keep S w w.drew := ⟨rfl, rfl, Nat.le_refl _, fun _ _ _ => rfl⟩
theorem Keep.drewN (S : Nat → Prop) (w : World) (n : Nat) : Keep S w (w.drewN n) := ⟨rfl, rfl, Nat.le_refl _, fun _ _ _ => rfl⟩
theorem Keep.alloc (S : Nat → Prop) (w : World) (o : Obj) : Keep S w (w.alloc o) :=
  ⟨rfl, rfl, by simp, fun k hk _ => Below.heap_alloc _ _ _ hk⟩
theorem Keep.setCell {S : Nat → Prop} (w : World) {p : Addr} (u : Value) (hp : p.block < w.heap.size → S p.block) : Keep S w (w.setCell p u) :=
  ⟨rfl, rfl, by simp [World.setCell], fun k hk hn => Below.heap_setCell _ _ _ _ (fun e => hn (by subst e; exact hp hk))⟩

theorem Keep.of_below {S : Nat → Prop} {a b : World} (h : Below a.heap.size a b) : Keep S a b :=
  ⟨h.os, h.output, h.size, fun k hk _ => h.block k hk⟩
theorem Keep.frame {a b : World} (h : Keep none' a b) (may : MemPlace → Prop) : a.keptBut b may := by
  refine ⟨h.os, h.output, fun i hi => ?_⟩
  rw [h.block i hi (fun x => x)]
  split <;> simp_all

theorem Keep.grown {S : Nat → Prop} {w w' : World} {row : Option Nat} (hg : w.grownBy w' row) (hr : ∀ k, row = some k → k < w.heap.size → S k) : Keep S w w' :=
  ⟨hg.os, hg.output, hg.size, fun k hk hn => hg.block k hk (fun e => hn (hr k e.symm hk))⟩

theorem Keep.grown0 {w W w' : World} {row : Option Nat} (k : Keep none' w W) (g : W.grownBy w' row) (hr : ∀ b, row = some b → w.heap.size ≤ b) : Keep none' w w' :=
  k.trans' (Keep.grown (S := fun b => row = some b) g (fun b e _ => e)) (fun _ _ x => x) (fun b hb e => by have := hr b e; omega)
theorem lt_of_heap {w : World} {b : Nat} {o : Obj} (h : w.heap[b]? = some o) : b < w.heap.size := by
  rcases Nat.lt_or_ge b w.heap.size with h' | h'
  · exact h'
  · simp [Array.getElem?_eq_none h'] at h

theorem Keep.get {S : Nat → Prop} {a b : World} (h : Keep S a b) {k : Nat} {o : Obj} (hk : a.heap[k]? = some o) (hn : ¬ S k) : b.heap[k]? = some o :=
  (h.block k (lt_of_heap hk) hn).trans hk

theorem heap_new (w : World) (o : Obj) : (w.alloc o).heap[w.heap.size]? = some o := by
  show (w.heap.push o)[w.heap.size]? = _
  simp
theorem heap_old {w : World} {b : Nat} {o o' : Obj} (h : w.heap[b]? = some o) : (w.alloc o').heap[b]? = some o := by
  rw [Below.heap_alloc _ _ _ (lt_of_heap h)]; exact h
theorem heap_set_other {w : World} {b : Nat} {o : Obj} {p : Addr} {u : Value} (h : w.heap[b]? = some o) (hn : b ≠ p.block) : (w.setCell p u).heap[b]? = some o := by
  rw [Below.heap_setCell _ _ _ _ hn]; exact h
theorem heap_set_same {w : World} {b i : Nat} {c : Array Value} {T : TypeId} {f : Nat × Nat} {u : Value} (h : w.heap[b]? = some (.cells c T f)) :
    (w.setCell ⟨b, i, none⟩ u).heap[b]? = some (.cells (c.setIfInBounds i u) T f) := by
  simp only [World.setCell, Array.getElem?_modify]
  simp [h]

theorem cell_of_heap {w : World} {b i : Nat} {c : Array Value} {T : TypeId} {f : Nat × Nat} {v : Value} (h : w.heap[b]? = some (.cells c T f)) (hi : c[i]? = some v) :
    w.cell? ⟨b, i, none⟩ = some v := by
  simp [World.cell?, h, hi]
theorem free_of_heap {w : World} {b i : Nat} {c : Array Value} {T : TypeId} (h : w.heap[b]? = some (.cells c T)) :
    w.frozen? ⟨b, i, none⟩ = false := by
  simp [World.frozen?, h]

theorem Keep.cell {S : Nat → Prop} {a b : World} (h : Keep S a b) {p : Addr} (hp : p.block < a.heap.size) (hn : ¬ S p.block) : b.cell? p = a.cell? p := World.cell?_of_block (w := a) (h.block p.block hp hn)
theorem Keep.frozen {S : Nat → Prop} {a b : World} (h : Keep S a b) {p : Addr} (hp : p.block < a.heap.size) (hn : ¬ S p.block) : b.frozen? p = a.frozen? p := World.frozen?_of_block (w := a) (h.block p.block hp hn)
theorem lt_of_cell {w : World} {p : Addr} {v : Value} (h : w.cell? p = some v) : p.block < w.heap.size := by
  rcases Nat.lt_or_ge p.block w.heap.size with h' | h'
  · exact h'
  · simp [World.cell?, Array.getElem?_eq_none h'] at h
theorem Keep.cell_some {S : Nat → Prop} {a b : World} (h : Keep S a b) {p : Addr} {v : Value} (hp : a.cell? p = some v) (hn : ¬ S p.block) : b.cell? p = some v := (h.cell (lt_of_cell hp) hn).trans hp
theorem Keep.alike {S : Nat → Prop} {a b : World} (h : a.Alike b) : Keep S b a :=
  ⟨h.2.1, h.2.2, by rw [h.1]; exact Nat.le_refl _, fun k _ _ => by rw [h.1]⟩

/-- Some blocks, with what they hold. -/
abbrev GH := Nat → Option Obj
def Holds (G : GH) (w : World) : Prop := ∀ b o, G b = some o → w.heap[b]? = some o
def GH.sub (G G' : GH) : Prop := ∀ b o, G b = some o → G' b = some o
def GH.put (G : GH) (b : Nat) (o : Obj) : GH := fun k => if k = b then some o else G k
def GH.off (G : GH) (S : Nat → Prop) : Prop := ∀ b o, G b = some o → ¬ S b

theorem GH.sub.refl (G : GH) : G.sub G := fun _ _ h => h
theorem GH.sub.trans {G G' G'' : GH} (h : G.sub G') (k : G'.sub G'') : G.sub G'' := fun b o x => k b o (h b o x)
theorem GH.put_same (G : GH) (b : Nat) (o : Obj) : G.put b o b = some o := by simp [GH.put]
theorem GH.put_other (G : GH) {b k : Nat} (o : Obj) (h : k ≠ b) : G.put b o k = G k := by simp [GH.put, h]
theorem GH.sub_put {G : GH} {b : Nat} {o : Obj} (h : G b = none) : G.sub (G.put b o) := fun k o' hk => by
  unfold GH.put
  by_cases e : k = b
  · subst e; rw [h] at hk; cases hk
  · simp [e, hk]

theorem Holds.lt {G : GH} {w : World} (h : Holds G w) {b : Nat} {o : Obj} (hb : G b = some o) : b < w.heap.size := lt_of_heap (h b o hb)
theorem Holds.fresh {G : GH} {w : World} (h : Holds G w) {b : Nat} (hb : w.heap.size ≤ b) : G b = none := by
  cases e : G b with
  | none => rfl
  | some o => have := h.lt e; omega
theorem Holds.keep {G : GH} {S : Nat → Prop} {w w' : World} (h : Holds G w) (k : Keep S w w') (hs : G.off S) : Holds G w' :=
  fun b o hb => k.get (h b o hb) (hs b o hb)
theorem Holds.keep0 {G : GH} {w w' : World} (h : Holds G w) (k : Keep none' w w') : Holds G w' := h.keep k (fun _ _ _ x => x)
theorem Holds.put {G : GH} {w : World} (h : Holds G w) {b : Nat} {o : Obj} (hb : w.heap[b]? = some o) : Holds (G.put b o) w := fun k o' hk => by
  unfold GH.put at hk
  by_cases e : k = b
  · subst e; simp at hk; subst hk; exact hb
  · simp [e] at hk; exact h k o' hk
theorem Holds.sub {G G' : GH} {w : World} (h : Holds G' w) (s : G.sub G') : Holds G w := fun b o hb => h b o (s b o hb)

/-- Bytes as a string value's own. -/
abbrev Str := List UInt8
def bs (l : Str) : ByteArray := ⟨l.toArray⟩
theorem bs_toList (l : Str) : (bs l).data.toList = l := by simp [bs]
theorem bs_size (l : Str) : (bs l).size = l.length := by simp [bs, ByteArray.size]
theorem bs_eta (s : ByteArray) : bs s.data.toList = s := by cases s; simp [bs]
theorem bs_inj {a b : Str} (h : bs a = bs b) : a = b := by rw [← bs_toList a, h, bs_toList]
theorem bs_append (a b : Str) : bs a ++ bs b = bs (a ++ b) := by
  apply ByteArray.ext
  simp [bs, ByteArray.data_append]
end Go.Proofs.YtabikmkoajdhmaaDoor

/- The plain functions of the proof: tokens, expressions and their text, types and their text, inference: no program in sight. 'none': out of fuel (or a number too great): what is proved of the program is asked where the answer is 'some'. -/
namespace Go.Proofs.YtabikmkoajdhmaaDoor

/-! ### tokens -/
inductive TK where
  | fin | name | num | bad
  | kw (w : Str)
  deriving DecidableEq
structure Tok where
  kind : TK
  text : Str
  pos : Nat

def low (c : UInt8) : Bool := decide (97 ≤ c.toNat) && decide (c.toNat ≤ 122)
def fig (c : UInt8) : Bool := decide (48 ≤ c.toNat) && decide (c.toNat ≤ 57)
def lowfig (c : UInt8) : Bool := low c || fig c
def blank (c : UInt8) : Bool := c.toNat == 32 || c.toNat == 10
def sign (c : UInt8) : Bool := c.toNat == 61 || c.toNat == 40 || c.toNat == 41 || c.toNat == 44 || c.toNat == 91 || c.toNat == 93

/-- How many of the first bytes are of a kind. -/
def spanN (p : UInt8 → Bool) : Str → Nat
  | [] => 0
  | c :: r => if p c then spanN p r + 1 else 0

def ARROW : Str := [45, 62]
def LP : Str := [40]
def RP : Str := [41]
def COMMA : Str := [44]
def LB : Str := [91]
def RB : Str := [93]
def EQ : Str := [61]
def FUN : Str := [102, 117, 110]
def LET : Str := [108, 101, 116]
def REC : Str := [114, 101, 99]
def AND : Str := [97, 110, 100]
def IN : Str := [105, 110]
def IF : Str := [105, 102]
def THEN : Str := [116, 104, 101, 110]
def ELSE : Str := [101, 108, 115, 101]
def INT : Str := [105, 110, 116]
def BOOL : Str := [98, 111, 111, 108]

def wordsB (w : Str) : Bool := w == FUN || w == LET || w == REC || w == AND || w == IN || w == IF || w == THEN || w == ELSE
def kindsB (w : Str) : Bool := w == INT || w == BOOL

/-- The token that begins at (or behind the blanks at) place i, and the place behind it. -/
def lexFrom (kw : Str → Bool) (i : Nat) : Str → Tok × Nat
  | [] => (⟨.fin, [], i⟩, i)
  | c :: r =>
    if low c then
      if spanN lowfig (c :: r) > 8 then (⟨.bad, [], i⟩, i)
      else (⟨if kw ((c :: r).take (spanN lowfig (c :: r))) then .kw ((c :: r).take (spanN lowfig (c :: r))) else .name, (c :: r).take (spanN lowfig (c :: r)), i⟩, i + spanN lowfig (c :: r))
    else if fig c then
      if spanN fig (c :: r) > 8 then (⟨.bad, [], i⟩, i)
      else (⟨.num, (c :: r).take (spanN fig (c :: r)), i⟩, i + spanN fig (c :: r))
    else if c.toNat == 45 && (r.head?.map UInt8.toNat) == some 62 then (⟨.kw ARROW, ARROW, i⟩, i + 2)
    else if sign c then (⟨.kw [c], [c], i⟩, i + 1)
    else (⟨.bad, [], i⟩, i)
def lexAt (kw : Str → Bool) (s : Str) (i : Nat) : Tok × Nat :=
  lexFrom kw (i + spanN blank (s.drop i)) (s.drop (i + spanN blank (s.drop i)))

def Tok.stop (t : Tok) : Bool := match t.kind with | .fin | .bad => true | _ => false

def toksN (kw : Str → Bool) (s : Str) : Nat → Nat → List Tok
  | 0, _ => []
  | k + 1, i => (lexAt kw s i).1 :: (if (lexAt kw s i).1.stop then [] else toksN kw s k (lexAt kw s i).2)
/-- All tokens from place i on, up to the first that is none, or the end. -/
def toks (kw : Str → Bool) (s : Str) (i : Nat) : List Tok := toksN kw s (s.length + 1 - i) i

/-! ### expressions -/
mutual
inductive Ex where
  | name (pos : Nat) (n : Str)
  | num (t : Str)
  | fn (n : Str) (b : Ex)
  | app (f a : Ex)
  | pair (a b : Ex)
  | lt (n : Str) (a b : Ex)
  | rc (bs : Bs) (e : Ex)
  | ite (c a b : Ex)
inductive Bs where
  | nil
  | cons (n : Str) (x : Ex) (r : Bs)
end

def Bs.of : List (Str × Ex) → Bs
  | [] => .nil
  | (n, x) :: r => .cons n x (Bs.of r)
def Bs.names : Bs → List Str
  | .nil => []
  | .cons n _ r => n :: r.names
def Bs.exprs : Bs → List Ex
  | .nil => []
  | .cons _ x r => x :: r.exprs

abbrev Res (α : Type) := Option (Except Nat α)
def Res.bind {α β : Type} (r : Res α) (f : α → Res β) : Res β :=
  match r with
  | none => none
  | some (.error p) => some (.error p)
  | some (.ok x) => f x

def hd (l : List Tok) : Tok := l.headD ⟨.fin, [], 0⟩
def adv : List Tok → List Tok
  | _ :: u :: r => u :: r
  | l => l
def want (k : TK) (l : List Tok) : Res (Str × List Tok) :=
  if (hd l).kind = k then some (.ok ((hd l).text, adv l)) else some (.error (hd l).pos)

mutual
def pExp : Nat → List Tok → Res (Ex × List Tok)
  | 0, _ => none
  | k + 1, l =>
    if (hd l).kind = .kw FUN then
      (want .name (adv l)).bind fun (n, l1) => (want (.kw ARROW) l1).bind fun (_, l2) => (pExp k l2).bind fun (b, l3) => some (.ok (.fn n b, l3))
    else if (hd l).kind = .kw IF then
      (pExp k (adv l)).bind fun (c, l1) => (want (.kw THEN) l1).bind fun (_, l2) => (pExp k l2).bind fun (a, l3) => (want (.kw ELSE) l3).bind fun (_, l4) =>
        (pExp k l4).bind fun (b, l5) => some (.ok (.ite c a b, l5))
    else if (hd l).kind = .kw LET then
      if (hd (adv l)).kind = .kw REC then pRec k [] (adv (adv l))
      else (want .name (adv l)).bind fun (n, l1) => (want (.kw EQ) l1).bind fun (_, l2) => (pExp k l2).bind fun (a, l3) => (want (.kw IN) l3).bind fun (_, l4) =>
        (pExp k l4).bind fun (b, l5) => some (.ok (.lt n a b, l5))
    else (pAtom k l).bind fun (x, l1) => pApps k x l1
def pApps : Nat → Ex → List Tok → Res (Ex × List Tok)
  | 0, _, _ => none
  | k + 1, x, l =>
    if (hd l).kind = .name ∨ (hd l).kind = .num ∨ (hd l).kind = .kw LP then (pAtom k l).bind fun (a, l1) => pApps k (.app x a) l1
    else some (.ok (x, l))
def pRec : Nat → List (Str × Ex) → List Tok → Res (Ex × List Tok)
  | 0, _, _ => none
  | k + 1, acc, l =>
    (want .name l).bind fun (n, l1) =>
      if acc.any (fun b => b.1 == n) then some (.error (hd l).pos)
      else (want (.kw EQ) l1).bind fun (_, l2) => (pExp k l2).bind fun (b, l3) =>
        if (hd l3).kind = .kw AND then pRec k (acc ++ [(n, b)]) (adv l3)
        else (want (.kw IN) l3).bind fun (_, l4) => (pExp k l4).bind fun (e, l5) => some (.ok (.rc (Bs.of (acc ++ [(n, b)])) e, l5))
def pAtom : Nat → List Tok → Res (Ex × List Tok)
  | 0, _ => none
  | k + 1, l =>
    if (hd l).kind = .name then some (.ok (.name (hd l).pos (hd l).text, adv l))
    else if (hd l).kind = .num then some (.ok (.num (hd l).text, adv l))
    else (want (.kw LP) l).bind fun (_, l1) => (pExp k l1).bind fun (x, l2) =>
      if (hd l2).kind = .kw COMMA then (pExp k (adv l2)).bind fun (y, l3) => (want (.kw RP) l3).bind fun (_, l4) => some (.ok (.pair x y, l4))
      else (want (.kw RP) l2).bind fun (_, l3) => some (.ok (x, l3))
end

mutual
def Ex.depth : Ex → Nat
  | .name _ _ | .num _ => 1
  | .fn _ b => b.depth + 1
  | .app f a => max f.depth a.depth + 1
  | .pair a b => max a.depth b.depth + 1
  | .lt _ a b => max a.depth b.depth + 1
  | .rc bs e => max bs.depth e.depth + 1
  | .ite c a b => max (max c.depth a.depth) b.depth + 1
def Bs.depth : Bs → Nat
  | .nil => 0
  | .cons _ x r => max x.depth r.depth
end

/-- What is wrong: plain.Fault. -/
structure Flt where
  what : Int
  pos : Nat := 0
  s : Str := []
  inner : Int := 0
  innerAt : Nat := 0

def readFuel : Nat := 4000
/-- ast.Read. -/
def readE (s : Str) : Option (Except Flt Ex) :=
  if s.length > 300 then some (.error { what := 1 })
  else match (pExp readFuel (toks wordsB s 0)).bind fun (x, l) => (want .fin l).bind fun _ => some (.ok x) with
    | none => none
    | some (.error p) => some (.error { what := 2, pos := p })
    | some (.ok x) => if x.depth > 40 then some (.error { what := 3 }) else some (.ok x)

mutual
def isApp : Ex → Bool
  | .app _ _ => true
  | _ => false
def isFlat : Ex → Bool
  | .name _ _ | .num _ | .pair _ _ => true
  | _ => false
def Ex.show : Ex → Str
  | .name _ n => n
  | .num t => t
  | .fn n b => FUN ++ [32] ++ n ++ [32, 45, 62, 32] ++ b.show
  | .pair a b => LP ++ a.show ++ [44, 32] ++ b.show ++ RP
  | .lt n a b => LET ++ [32] ++ n ++ [32, 61, 32] ++ a.show ++ [32, 105, 110, 32] ++ b.show
  | .ite c a b => IF ++ [32] ++ c.show ++ [32, 116, 104, 101, 110, 32] ++ a.show ++ [32, 101, 108, 115, 101, 32] ++ b.show
  | .rc bs e => LET ++ [32] ++ REC ++ [32] ++ bs.show ++ [32, 105, 110, 32] ++ e.show
  | .app f a => (if isApp f then f.show else if isFlat f then f.show else LP ++ f.show ++ RP) ++ [32] ++ (if isFlat a then a.show else LP ++ a.show ++ RP)
def Bs.show : Bs → Str
  | .nil => []
  | .cons n x .nil => n ++ [32, 61, 32] ++ x.show
  | .cons n x (.cons m y r) => n ++ [32, 61, 32] ++ x.show ++ [32, 97, 110, 100, 32] ++ (Bs.cons m y r).show
end

/-! ### types -/
inductive Ty where
  | var (n : Nat)
  | int
  | bool
  | list (a : Ty)
  | pair (a b : Ty)
  | fn (a b : Ty)
  deriving DecidableEq

/-- The names of variables that have been read, in order, each with its number. -/
abbrev Names := List (Str × Nat)
structure TS where
  m : Names
  n : Nat

mutual
def pWhole : Nat → TS → List Tok → Res (Ty × TS × List Tok)
  | 0, _, _ => none
  | k + 1, st, l => (pOne k st l).bind fun (t, st1, l1) =>
    if (hd l1).kind = .kw ARROW then (pWhole k st1 (adv l1)).bind fun (u, st2, l2) => some (.ok (.fn t u, st2, l2))
    else some (.ok (t, st1, l1))
def pOne : Nat → TS → List Tok → Res (Ty × TS × List Tok)
  | 0, _, _ => none
  | k + 1, st, l =>
    if (hd l).kind = .kw INT then some (.ok (.int, st, adv l))
    else if (hd l).kind = .kw BOOL then some (.ok (.bool, st, adv l))
    else if (hd l).kind = .kw LB then (pWhole k st (adv l)).bind fun (t, st1, l1) => (want (.kw RB) l1).bind fun (_, l2) => some (.ok (.list t, st1, l2))
    else if (hd l).kind = .kw LP then (pWhole k st (adv l)).bind fun (t, st1, l1) =>
      if (hd l1).kind = .kw COMMA then (pWhole k st1 (adv l1)).bind fun (u, st2, l2) => (want (.kw RP) l2).bind fun (_, l3) => some (.ok (.pair t u, st2, l3))
      else (want (.kw RP) l1).bind fun (_, l2) => some (.ok (t, st1, l2))
    else (want .name l).bind fun (n, l1) =>
      match st.m.lookup n with
      | some v => some (.ok (.var v, st, l1))
      | none => some (.ok (.var (st.n + 1), ⟨st.m ++ [(n, st.n + 1)], st.n + 1⟩, l1))
end

def Ty.size : Ty → Nat
  | .var _ | .int | .bool => 1
  | .list a => a.size + 1
  | .pair a b | .fn a b => a.size + b.size + 1

/-- types.Read, from a counter on: the type, the names, the counter. -/
def readT (s : Str) (n : Nat) : Option (Except Flt (Ty × TS)) :=
  if s.length > 300 then some (.error { what := 1 })
  else match (pWhole readFuel ⟨[], n⟩ (toks kindsB s 0)).bind fun (t, st, l) => (want .fin l).bind fun _ => some (.ok (t, st)) with
    | none => none
    | some (.error p) => some (.error { what := 2, pos := p })
    | some (.ok (t, st)) => if t.size > 120 then some (.error { what := 8 }) else some (.ok (t, st))

def digits (n : Nat) : Str := if n < 10 then [UInt8.ofNat (48 + n)] else [UInt8.ofNat (48 + n / 10), UInt8.ofNat (48 + n % 10)]
/-- The n-th name of a variable (of the first thousand). -/
def letters (n : Nat) : Str := UInt8.ofNat (97 + n % 26) :: (if n < 26 then [] else digits (n / 26))

/-- A type's text, its variables named by one that keeps a state. -/
def showS {S : Type} (nm : S → Nat → Str × S) : Ty → S → Str × S
  | .var v, s => nm s v
  | .int, s => (INT, s)
  | .bool, s => (BOOL, s)
  | .list a, s => let r := showS nm a s; (LB ++ r.1 ++ RB, r.2)
  | .pair a b, s => let r := showS nm a s; let q := showS nm b r.2; (LP ++ r.1 ++ [44, 32] ++ q.1 ++ RP, q.2)
  | .fn a b, s => let r := showS nm a s; let q := showS nm b r.2
    ((match a with | .fn _ _ => LP ++ r.1 ++ RP | _ => r.1) ++ [32, 45, 62, 32] ++ q.1, q.2)
/-- types.Namer: the variables that have been met, in order. -/
def namer (s : List Nat) (v : Nat) : Str × List Nat :=
  match s.idxOf? v with
  | some k => (letters k, s)
  | none => (letters s.length, s ++ [v])
def canonT (t : Ty) : Str := (showS namer t []).1
end Go.Proofs.YtabikmkoajdhmaaDoor

/- Plain laws on the first bytes of a text: what the reader's loops lean on. No program in sight. -/
namespace Go.Proofs.YtabikmkoajdhmaaDoor

theorem spanN_hit (p : UInt8 → Bool) (s : Str) (j : Nat) (h : j < s.length) (hp : p s[j] = true) : spanN p (s.drop j) = spanN p (s.drop (j + 1)) + 1 := by
  rw [List.drop_eq_getElem_cons h]; simp [spanN, hp]
theorem spanN_miss (p : UInt8 → Bool) (s : Str) (j : Nat) (h : j < s.length) (hp : p s[j] = false) : spanN p (s.drop j) = 0 := by
  rw [List.drop_eq_getElem_cons h]; simp [spanN, hp]
theorem spanN_end (p : UInt8 → Bool) (s : Str) (j : Nat) (h : s.length ≤ j) : spanN p (s.drop j) = 0 := by
  rw [List.drop_eq_nil_of_le h]; rfl
theorem spanN_le (p : UInt8 → Bool) : ∀ s : Str, spanN p s ≤ s.length
  | [] => Nat.le_refl _
  | c :: r => by simp only [spanN]; split <;> simp [spanN_le p r]
theorem spanN_drop_le (p : UInt8 → Bool) (s : Str) (j : Nat) (h : j ≤ s.length) : j + spanN p (s.drop j) ≤ s.length := by
  have := spanN_le p (s.drop j); simp at this; omega

/-- A string value's bytes. -/
def bytes (S : ByteArray) : Str := S.data.toList
theorem bytes_length (S : ByteArray) : (bytes S).length = S.size := by show S.data.toList.length = S.data.size; simp
theorem bytes_get (S : ByteArray) (j : Nat) (h : j < S.size) : (bytes S)[j]'(by rw [bytes_length]; exact h) = S[j] := rfl
theorem bytes_bs (l : Str) : bytes (bs l) = l := bs_toList l
theorem bs_bytes (S : ByteArray) : bs (bytes S) = S := bs_eta S
theorem extract_bs (S : ByteArray) (i j : Nat) : S.extract i j = bs (((bytes S).drop i).take (j - i)) := by
  apply ByteArray.ext
  rw [ByteArray.data_extract]
  apply Array.toList_inj.1
  simp [bs, bytes]

/-- The text of a token's kind, as the program has it. -/
def kstr : TK → Str
  | .fin => [101, 110, 100]
  | .name => [97, 32, 110, 97, 109, 101]
  | .num => [97, 32, 110, 117, 109, 98, 101, 114]
  | .bad => [110, 111, 110, 101]
  | .kw w => w

theorem lex_end (kw : Str → Bool) (s : Str) (i j : Nat) (hj : i + spanN blank (s.drop i) = j) (h : s.length ≤ j) : lexAt kw s i = (⟨.fin, [], j⟩, j) := by
  unfold lexAt; rw [hj, List.drop_eq_nil_of_le h]; rfl
theorem lex_at (kw : Str → Bool) (s : Str) (i j : Nat) (hj : i + spanN blank (s.drop i) = j) : lexAt kw s i = lexFrom kw j (s.drop j) := by unfold lexAt; rw [hj]
theorem lex_low (kw : Str → Bool) (s : Str) (i j k : Nat) (hj : i + spanN blank (s.drop i) = j) (h : j < s.length) (hl : low s[j] = true) (hk : j + spanN lowfig (s.drop j) = k) :
    lexAt kw s i = if 8 < k - j then (⟨.bad, [], j⟩, j) else (⟨if kw ((s.drop j).take (k - j)) then .kw ((s.drop j).take (k - j)) else .name, (s.drop j).take (k - j), j⟩, k) := by
  rw [lex_at kw s i j hj]
  have e : s.drop j = s[j] :: s.drop (j + 1) := List.drop_eq_getElem_cons h
  have e2 : k - j = spanN lowfig (s.drop j) := by omega
  rw [e] at e2 ⊢
  simp only [lexFrom, hl, if_true, gt_iff_lt, e2]
  split
  · rfl
  · rw [← hk, e]
theorem lex_fig (kw : Str → Bool) (s : Str) (i j k : Nat) (hj : i + spanN blank (s.drop i) = j) (h : j < s.length) (hl : low s[j] = false) (hf : fig s[j] = true) (hk : j + spanN fig (s.drop j) = k) :
    lexAt kw s i = if 8 < k - j then (⟨.bad, [], j⟩, j) else (⟨.num, (s.drop j).take (k - j), j⟩, k) := by
  rw [lex_at kw s i j hj]
  have e : s.drop j = s[j] :: s.drop (j + 1) := List.drop_eq_getElem_cons h
  have e2 : k - j = spanN fig (s.drop j) := by omega
  rw [e] at e2 ⊢
  simp only [lexFrom, hl, hf, if_true, gt_iff_lt, e2, Bool.false_eq_true, if_false]
  split
  · rfl
  · rw [← hk, e]
theorem lex_arrow (kw : Str → Bool) (s : Str) (i j : Nat) (hj : i + spanN blank (s.drop i) = j) (h : j + 1 < s.length) (h1 : (s[j]'(by omega)).toNat = 45) (h2 : s[j + 1].toNat = 62) :
    lexAt kw s i = (⟨.kw ARROW, ARROW, j⟩, j + 2) := by
  rw [lex_at kw s i j hj, List.drop_eq_getElem_cons (by omega : j < s.length), List.drop_eq_getElem_cons h]
  have hl : low (s[j]'(by omega)) = false := by simp [low, h1]
  have hf : fig (s[j]'(by omega)) = false := by simp [fig, h1]
  have e1 : ((s[j]'(by omega)).toNat == 45 && ((s[j + 1] :: s.drop (j + 1 + 1)).head?.map UInt8.toNat) == some 62) = true := by
    rw [List.head?_cons, Option.map_some, h1, h2]; rfl
  simp only [lexFrom, hl, hf, e1, Bool.false_eq_true, if_false, if_true]
theorem lex_sign (kw : Str → Bool) (s : Str) (i j : Nat) (hj : i + spanN blank (s.drop i) = j) (h : j < s.length) (hs : sign s[j] = true) :
    lexAt kw s i = (⟨.kw [s[j]], [s[j]], j⟩, j + 1) := by
  rw [lex_at kw s i j hj, List.drop_eq_getElem_cons h]
  generalize s[j] = c at *
  have hc : c.toNat = 61 ∨ c.toNat = 40 ∨ c.toNat = 41 ∨ c.toNat = 44 ∨ c.toNat = 91 ∨ c.toNat = 93 := by simpa [sign, or_assoc] using hs
  have hl : low c = false := by simp [low]; omega
  have hf : fig c = false := by simp [fig]; omega
  have h45 : (c.toNat == 45) = false := by simp; omega
  simp [lexFrom, hl, hf, h45, hs]
theorem lex_bad (kw : Str → Bool) (s : Str) (i j : Nat) (hj : i + spanN blank (s.drop i) = j) (h : j < s.length) (hl : low s[j] = false) (hf : fig s[j] = false) (hs : sign s[j] = false)
    (ha : s[j].toNat = 45 → ∀ h2 : j + 1 < s.length, ¬ s[j + 1].toNat = 62) : lexAt kw s i = (⟨.bad, [], j⟩, j) := by
  rw [lex_at kw s i j hj, List.drop_eq_getElem_cons h]
  have ha' : (s[j].toNat == 45 && ((s.drop (j + 1)).head?.map UInt8.toNat) == some 62) = false := by
    rw [Bool.and_eq_false_iff]
    by_cases h45 : s[j].toNat = 45
    · right
      by_cases h2 : j + 1 < s.length
      · rw [List.drop_eq_getElem_cons h2, List.head?_cons, Option.map_some]
        have := ha h45 h2
        simpa using this
      · rw [List.drop_eq_nil_of_le (by omega)]; simp
    · left; simpa using h45
  simp only [lexFrom, hl, hf, hs, ha', Bool.false_eq_true, if_false]
end Go.Proofs.YtabikmkoajdhmaaDoor

/- Words for (*text.Reader).next, and the contracts of small and digit. -/
namespace Go.Proofs.YtabikmkoajdhmaaDoor
open Go.RowKit

theorem small_is (b : Bool) (c : UInt8) (w : World) (h : low c = b) : Calls Tryd.prog 105 #[.int .u8 c.toNat] w fun e w' => e = .returned (.bool b) ∧ w' = w := by
  subst h
  have hc : c.toNat < 256 := c.toNat_lt
  by_cases h : 97 ≤ c.toNat
  · by_cases h2 : c.toNat ≤ 122
    · have e : low c = true := by simp [low, h, h2]
      rw [e]
      go_enter Tryd.func105, Tryd.ntmps105
      go_wp2
      go_ret
      exact ⟨by simp; omega, rfl⟩
    · have e : low c = false := by simp [low, h2]
      rw [e]
      go_enter Tryd.func105, Tryd.ntmps105
      go_wp2
      go_ret
      exact ⟨by simp; omega, rfl⟩
  · have e : low c = false := by simp [low, h]
    rw [e]
    go_enter Tryd.func105, Tryd.ntmps105
    go_wp2
    go_ret
    exact ⟨rfl, rfl⟩

theorem digit_is (b : Bool) (c : UInt8) (w : World) (h : fig c = b) : Calls Tryd.prog 106 #[.int .u8 c.toNat] w fun e w' => e = .returned (.bool b) ∧ w' = w := by
  subst h
  have hc : c.toNat < 256 := c.toNat_lt
  by_cases h : 48 ≤ c.toNat
  · by_cases h2 : c.toNat ≤ 57
    · have e : fig c = true := by simp [fig, h, h2]
      rw [e]
      go_enter Tryd.func106, Tryd.ntmps106
      go_wp2
      go_ret
      exact ⟨by simp; omega, rfl⟩
    · have e : fig c = false := by simp [fig, h2]
      rw [e]
      go_enter Tryd.func106, Tryd.ntmps106
      go_wp2
      go_ret
      exact ⟨by simp; omega, rfl⟩
  · have e : fig c = false := by simp [fig, h]
    rw [e]
    go_enter Tryd.func106, Tryd.ntmps106
    go_wp2
    go_ret
    exact ⟨rfl, rfl⟩

/-- The reader's block. -/
def RdAt (w : World) (rb : Nat) (S : ByteArray) (i : Nat) (kind text : ByteArray) (pos : Nat) (kwv : Value) : Prop :=
  w.heap[rb]? = some (.cells #[.string S, .int .i64 i, .string kind, .string text, .int .i64 pos, kwv] 217)

/-- A function that tells keywords. -/
def KwOk (kwf : Nat) (kw : Str → Bool) : Prop := (∀ (args : Array Value) (w : World), Sem.run Tryd.prog (callFunc kwf args) w = .ok (.enter kwf args) w) ∧ ∀ (s : ByteArray) (w : World), Calls Tryd.prog kwf #[.string s] w fun e w' => e = .returned (.bool (kw (bytes s))) ∧ w' = w

theorem KwOk.at {kwf : Nat} {kw : Str → Bool} (h : KwOk kwf kw) {s : ByteArray} {b : Bool} (hb : kw (bytes s) = b) (w : World) :
    Calls Tryd.prog kwf #[.string s] w fun e w' => e = .returned (.bool b) ∧ w' = w := by subst hb; exact h.2 s w

def NextPost (kw : Str → Bool) (w : World) (rb : Nat) (S : ByteArray) (i : Nat) (kwv : Value) (w' : World) : Prop :=
  Keep (one' rb) w w' ∧ RdAt w' rb S (lexAt kw (bytes S) i).2 (bs (kstr (lexAt kw (bytes S) i).1.kind)) (bs (lexAt kw (bytes S) i).1.text) (lexAt kw (bytes S) i).1.pos kwv
theorem NextPost.mk {kw : Str → Bool} {w : World} {rb : Nat} {S : ByteArray} {i : Nat} {kwv : Value} {w' : World} {t : Tok} {j : Nat} (h : lexAt kw (bytes S) i = (t, j))
    (k : Keep (one' rb) w w') (r : RdAt w' rb S j (bs (kstr t.kind)) (bs t.text) t.pos kwv) : NextPost kw w rb S i kwv w' := by
  unfold NextPost; rw [h]; exact ⟨k, r⟩

def Obj.setC (i : Nat) (u : Value) : Obj → Obj
  | .cells c e f => .cells (c.setIfInBounds i u) e f
  | o => o
theorem heap_setC (w : World) (b i : Nat) (u : Value) : (w.setCell ⟨b, i, none⟩ u).heap[b]? = (w.heap[b]?).map (Obj.setC i u) := by
  simp only [World.setCell, Array.getElem?_modify, if_true]
  cases h : w.heap[b]? with
  | none => rfl
  | some o => cases o <;> rfl
theorem heap_drewN (w : World) (n b : Nat) : (w.drewN n).heap[b]? = w.heap[b]? := rfl
theorem heap_drew (w : World) (b : Nat) : w.drew.heap[b]? = w.heap[b]? := rfl

theorem keep_set {w W : World} {rb : Nat} (i : Nat) (u : Value) (h : Keep (one' rb) w W) : Keep (one' rb) w (W.setCell ⟨rb, i, none⟩ u) := h.trans (Keep.setCell _ _ (fun _ => rfl))
theorem keep_drewN {S : Nat → Prop} {w W : World} (n : Nat) (h : Keep S w W) : Keep S w (W.drewN n) := h.trans (Keep.drewN _ _ _)
theorem keep_drew {S : Nat → Prop} {w W : World} (h : Keep S w W) : Keep S w W.drew := h.trans (Keep.drew _ _)
theorem keep_alloc {S : Nat → Prop} {w W : World} (o : Obj) (h : Keep S w W) : Keep S w (W.alloc o) := h.trans (Keep.alloc _ _ _)

/-- A region that draws: reads, then a tail that waits for all of them (Derived/StillTail.lean's theorem, the world in the walk's form). -/
theorem region_tail {P : Program} {id : Nat} {Q : Exit → Act → World → Prop} {a : Act} {w : World} {l : List Oper} (n : Nat) (hm : P.follows .mixedOrders = true) (hB : Region.lexTailB .any l.toArray n = true)
    (h : wpStill P l.toArray w.drew (fun a' => wpList P l.toArray Q (l.drop n) a' w.drew) (l.take n) a) : (Code.region id l.toArray true).wp P Q a w := wp_region_still_tail n hm hB h

theorem slice_str (S : ByteArray) (j m : Nat) (h1 : j ≤ m) (h2 : m ≤ S.size) (w : World) :
    (Instr.slice 9 (.string S) (some (.int .i64 j)) (some (.int .i64 m)) none).run Tryd.prog w = .ok (.string (S.extract j m)) w := by
  have e1 : (0 : Int) ≤ (m : Int) ∧ (m : Int) ≤ ((S.size : Nat) : Int) := by omega
  have e2 : (0 : Int) ≤ (j : Int) ∧ (j : Int) ≤ ((m : Nat) : Int) := by omega
  simp [Instr.slice, Instr.sliceBounds, Instr.sliceBound, asIntOf, run_underlying Tryd.underlying9, e1, e2, h1, h2]

theorem blank_is (c : UInt8) (h1 : ((c.toNat : Int) == 32) = false) (h2 : ((c.toNat : Int) == 10) = false) : blank c = false := by
  have e1 : ¬ (c.toNat : Int) = 32 := by simpa using h1
  have e2 : ¬ (c.toNat : Int) = 10 := by simpa using h2
  simp only [blank]
  rw [Bool.or_eq_false_iff]
  constructor <;> (simp; omega)

theorem slice_strI (S : ByteArray) (j c : Nat) (c' : Int) (hc : (c : Int) = c') (h : j + c ≤ S.size) (w : World) :
    (Instr.slice 9 (.string S) (some (.int .i64 (j : Int))) (some (.int .i64 ((j : Int) + c'))) none).run Tryd.prog w = .ok (.string (S.extract j (j + c))) w := by
  have h := slice_str S j (j + c) (by omega) h w
  rw [show ((j + c : Nat) : Int) = (j : Int) + c' from by omega] at h
  exact h
theorem extract1 (S : ByteArray) (j : Nat) (h : j < S.size) : S.extract j (j + 1) = bs [S[j]] := by
  rw [extract_bs, show j + 1 - j = 1 from by omega, List.drop_eq_getElem_cons (by rw [bytes_length]; exact h)]
  rfl
theorem extract2 (S : ByteArray) (j : Nat) (h : j + 1 < S.size) (h1 : S[j].toNat = 45) (h2 : S[j + 1].toNat = 62) : S.extract j (j + 2) = bs ARROW := by
  rw [extract_bs, show j + 2 - j = 2 from by omega, List.drop_eq_getElem_cons (by rw [bytes_length]; omega), List.drop_eq_getElem_cons (by rw [bytes_length]; exact h)]
  have e1 : (bytes S)[j]'(by rw [bytes_length]; omega) = 45 := UInt8.toNat_inj.1 h1
  have e2 : (bytes S)[j + 1]'(by rw [bytes_length]; exact h) = 62 := UInt8.toNat_inj.1 h2
  rw [List.take_succ_cons, List.take_succ_cons, List.take_zero, e1, e2]
  rfl
end Go.Proofs.YtabikmkoajdhmaaDoor

/- The list of tokens of a text: plain laws. -/
namespace Go.Proofs.YtabikmkoajdhmaaDoor
open Go.RowKit

/-! ### plain laws -/
def reserved (w : Str) : Prop := w = kstr .fin ∨ w = kstr .name ∨ w = kstr .num ∨ w = kstr .bad
def goodK (k : TK) : Prop := ∀ w, k = .kw w → ¬ reserved w
def KwGood (kw : Str → Bool) : Prop := ∀ w, kw w = true → ¬ reserved w

theorem reserved_of {k : TK} (h : ∀ w, k ≠ .kw w) : reserved (kstr k) := by
  cases k with
  | fin => exact Or.inl rfl
  | name => exact Or.inr (Or.inl rfl)
  | num => exact Or.inr (Or.inr (Or.inl rfl))
  | bad => exact Or.inr (Or.inr (Or.inr rfl))
  | kw w => exact absurd rfl (h w)
theorem kstr_inj {a b : TK} (ha : goodK a) (hb : goodK b) (h : kstr a = kstr b) : a = b := by
  by_cases ea : ∃ v, a = .kw v
  · obtain ⟨v, rfl⟩ := ea
    by_cases eb : ∃ w, b = .kw w
    · obtain ⟨w, rfl⟩ := eb
      exact congrArg TK.kw h
    · have := reserved_of (k := b) (fun w e => eb ⟨w, e⟩)
      rw [← h] at this
      exact absurd this (ha v rfl)
  · have hr := reserved_of (k := a) (fun w e => ea ⟨w, e⟩)
    by_cases eb : ∃ w, b = .kw w
    · obtain ⟨w, rfl⟩ := eb
      rw [h] at hr
      exact absurd hr (hb w rfl)
    · cases a <;> cases b <;> first
        | rfl
        | exact absurd h (by decide)
        | exact absurd ⟨_, rfl⟩ ea
        | exact absurd ⟨_, rfl⟩ eb

theorem sign_good (c : UInt8) : ¬ reserved [c] := by unfold reserved; simp [kstr]
theorem lexFrom_good {kw : Str → Bool} (hk : KwGood kw) (i : Nat) (s : Str) : goodK (lexFrom kw i s).1.kind := by
  unfold lexFrom
  split
  · intro w h; cases h
  · split
    · split
      · intro w h; cases h
      · dsimp only
        split
        · rename_i hw
          intro w h; cases h; exact hk _ hw
        · intro w h; cases h
    · split
      · split
        · intro w h; cases h
        · intro w h; cases h
      · split
        · intro w h; cases h; unfold reserved; simp [kstr, ARROW]
        · split
          · intro w h; cases h; exact sign_good _
          · intro w h; cases h
theorem lexAt_good {kw : Str → Bool} (hk : KwGood kw) (s : Str) (i : Nat) : goodK (lexAt kw s i).1.kind := lexFrom_good hk _ _

/-- Where a token begins, and that what follows begins no earlier, and within the text. -/
theorem lexFrom_le (kw : Str → Bool) (i : Nat) (s : Str) : (lexFrom kw i s).1.pos = i ∧ i ≤ (lexFrom kw i s).2 ∧ (lexFrom kw i s).2 ≤ i + s.length ∧ ((lexFrom kw i s).1.stop = false → i < (lexFrom kw i s).2) ∧ ((lexFrom kw i s).1.kind = .fin → s = [] ∧ (lexFrom kw i s) = (⟨.fin, [], i⟩, i)) := by
  unfold lexFrom
  split
  · simp [Tok.stop]
  · rename_i c r
    split
    · rename_i hl
      have h1 := spanN_le lowfig (c :: r)
      have h0 : 0 < spanN lowfig (c :: r) := by simp [spanN, lowfig, hl]
      split
      · simp [Tok.stop]
      · refine ⟨rfl, by dsimp only; omega, by dsimp only; omega, fun _ => by dsimp only; omega, fun h => ?_⟩
        dsimp only at h
        split at h <;> cases h
    · split
      · rename_i hf
        have h1 := spanN_le fig (c :: r)
        have h0 : 0 < spanN fig (c :: r) := by simp [spanN, hf]
        split
        · simp [Tok.stop]
        · exact ⟨rfl, by dsimp only; omega, by dsimp only; omega, fun _ => by dsimp only; omega, fun h => by cases h⟩
      · split
        · rename_i ha
          have hr : r ≠ [] := by rintro rfl; simp at ha
          have : 0 < r.length := by cases r with | nil => exact absurd rfl hr | cons a b => simp
          exact ⟨rfl, by dsimp only; omega, by simp only [List.length_cons]; omega, fun _ => by dsimp only; omega, fun h => by cases h⟩
        · split
          · exact ⟨rfl, by dsimp only; omega, by simp, fun _ => by dsimp only; omega, fun h => by cases h⟩
          · simp [Tok.stop]
theorem lexAt_le (kw : Str → Bool) (s : Str) (i : Nat) (hi : i ≤ s.length) : i ≤ (lexAt kw s i).2 ∧ (lexAt kw s i).2 ≤ s.length ∧ ((lexAt kw s i).1.stop = false → i < (lexAt kw s i).2) ∧
    ((lexAt kw s i).1.kind = .fin → lexAt kw s i = (⟨.fin, [], s.length⟩, s.length)) := by
  have hb := spanN_drop_le blank s i hi
  have h := lexFrom_le kw (i + spanN blank (s.drop i)) (s.drop (i + spanN blank (s.drop i)))
  simp only [List.length_drop] at h
  unfold lexAt
  obtain ⟨h1, h2, h3, h4, h5⟩ := h
  refine ⟨by omega, by omega, fun x => by have := h4 x; omega, fun x => ?_⟩
  obtain ⟨e1, e2⟩ := h5 x
  have : s.length ≤ i + spanN blank (s.drop i) := by
    have := congrArg List.length e1
    simp only [List.length_drop, List.length_nil] at this
    omega
  have e : i + spanN blank (s.drop i) = s.length := by omega
  rw [e2, e]

theorem toksN_fuel (kw : Str → Bool) (s : Str) : ∀ (k k' i : Nat), i ≤ s.length → s.length + 1 - i ≤ k → s.length + 1 - i ≤ k' → toksN kw s k i = toksN kw s k' i
  | 0, _, _, _, h, _ => by omega
  | _ + 1, 0, _, _, _, h => by omega
  | k + 1, k' + 1, i, hi, h, h' => by
    simp only [toksN]
    have := lexAt_le kw s i hi
    cases hs : (lexAt kw s i).1.stop with
    | true => simp
    | false =>
      have h3 := this.2.2.1 hs
      simp only [Bool.false_eq_true, if_false]
      rw [toksN_fuel kw s k k' (lexAt kw s i).2 this.2.1 (by omega) (by omega)]
/-- The list of tokens, a token at a time. -/
theorem toks_step (kw : Str → Bool) (s : Str) (i : Nat) (hi : i ≤ s.length) : toks kw s i = (lexAt kw s i).1 :: (if (lexAt kw s i).1.stop then [] else toks kw s (lexAt kw s i).2) := by
  unfold toks
  have hlt : s.length + 1 - i = (s.length - i) + 1 := by omega
  rw [hlt]
  simp only [toksN]
  have := lexAt_le kw s i hi
  cases hs : (lexAt kw s i).1.stop with
  | true => simp
  | false =>
    have h3 := this.2.2.1 hs
    simp only [Bool.false_eq_true, if_false]
    rw [toksN_fuel kw s (s.length - i) (s.length + 1 - (lexAt kw s i).2) (lexAt kw s i).2 this.2.1 (by omega) (by omega)]

end Go.Proofs.YtabikmkoajdhmaaDoor

/- A law for a region that draws its order: an operation that yields its value in whatever world (F0), or in every world that meets a condition S (FS), may be taken first; S is to be shown anew only behind those operations that do not wait for all of FS. -/
namespace Go.Proofs.YtabikmkoajdhmaaDoor
open Go Go.RowKit

section
variable {P : Program} {ops : Array Oper} {Q : Exit → Act → World → Prop} {md : Region.Mode} {S : World → Prop} {F0 FS : List Nat}

/-- Could one of FS come up behind number j? -/
def needS (md : Region.Mode) (ops : Array Oper) (FS : List Nat) (j : Nat) : Bool := FS.any fun f => f != j && !Region.waitsFor md ops j f
/-- What is to be shown behind number j. -/
def Behind (md : Region.Mode) (ops : Array Oper) (F0 FS : List Nat) (S : World → Prop) (j : Nat) (w w' : World) : Prop := (F0.contains j = true → w' = w) ∧ (F0.contains j = false → needS md ops FS j = true → S w')

/-- Whatever order is picked from here on. -/
def wpAnyF (P : Program) (md : Region.Mode) (ops : Array Oper) (Q : Exit → Act → World → Prop) (S : World → Prop) (F0 FS : List Nat) : Nat → Array Bool → Act → World → Prop
  | 0, listed, a, w => Region.ready md ops listed = [] ∧ Q .normal a w
  | n + 1, listed, a, w => (Region.ready md ops listed = [] → Q .normal a w) ∧
    ∀ i ∈ Region.ready md ops listed, wpOp P ops Q i (fun a' w' => Behind md ops F0 FS S i w w' ∧ wpAnyF P md ops Q S F0 FS n (listed.setIfInBounds i true) a' w') a w

theorem wpAny_of_float : ∀ (n : Nat) (listed : Array Bool) (a : Act) (w : World), wpAnyF P md ops Q S F0 FS n listed a w → wpAny P md ops Q n listed a w
  | 0, _, _, _, h => h
  | n + 1, _, _, _, h => ⟨h.1, fun i hi => wpOp_mono (fun a' w' x => wpAny_of_float n _ a' w' x.2) (h.2 i hi)⟩

theorem waits_listed {listed : Array Bool} {i j : Nat} (hi : i ∈ Region.ready md ops listed) (hj : j ∈ Region.ready md ops listed) : Region.waitsFor md ops j i = false := by
  cases h : Region.waitsFor md ops j i with
  | false => rfl
  | true =>
    obtain ⟨oj, hoj, e, he, hb, hon⟩ := Region.waitsFor_spec h
    obtain ⟨_, oj', hoj', hall⟩ := mem_ready.1 hj
    have : oj' = oj := Option.some.inj (hoj'.symm.trans hoj)
    subst this
    have h1 := hall e he hb
    rw [hon, getD_both (mem_ready.1 hi).1] at h1
    cases h1

/-- T: the condition that number i leans on: kept behind every other operation. -/
theorem wpAnyF_first {i : Nat} {oi : Oper} {v : Value} {T : World → Prop} (hi : ops[i]? = some oi) (hsel : ∀ (j : Nat) (o : Oper) cs b, ops[j]? = some o → o.op ≠ .select cs b)
    (hQ : ∀ c a w, Q (.panic c) (a.put oi.dst v) w → Q (.panic c) a w)
    (hT : ∀ (j : Nat) (w w' : World), j ≠ i → Region.waitsFor md ops j i = false → T w → Behind md ops F0 FS S j w w' → T w')
    (hB : ∀ w, T w → Behind md ops F0 FS S i w w) :
    ∀ (n : Nat) (listed : Array Bool) (a : Act) (w : World),
      (∀ j oj, ops[j]? = some oj → j ≠ i → listed.getD j true = false → (∀ e ∈ oj.after, Region.binds md e = true → e.on ≠ i) → oi.apart ops oj = true) →
      i ∈ Region.ready md ops listed → YieldsIf P ops T oi v a → T w →
      wpAnyF P md ops Q S F0 FS n (listed.setIfInBounds i true) (a.put oi.dst v) w → wpAnyF P md ops Q S F0 FS (n + 1) listed a w := by
  intro n
  induction n with
  | zero =>
    intro listed a w _ hr hy hS H
    refine ⟨fun h => (by rw [h] at hr; cases hr), fun j hj => ?_⟩
    by_cases hji : j = i
    · subst hji; exact hy.wpOp hi hS ⟨hB _ hS, H⟩
    · have := ready_mono hj hji
      rw [H.1] at this
      cases this
  | succ n ih =>
    intro listed a w hfree hr hy hS H
    refine ⟨fun h => (by rw [h] at hr; cases hr), fun j hj => ?_⟩
    by_cases hji : j = i
    · subst hji; exact hy.wpOp hi hS ⟨hB _ hS, H⟩
    · have h1 := H.2 j (ready_mono hj hji)
      have hwait := waits_listed hr hj
      obtain ⟨hjun, oj, hoj, hall⟩ := mem_ready.1 hj
      have hnot : ∀ e ∈ oj.after, Region.binds md e = true → e.on ≠ i := fun e he hb heq => by
        have h1 := hall e he hb
        rw [heq, getD_both (mem_ready.1 hr).1] at h1
        cases h1
      have h2 := wpOp_putIf hoj (hfree j oj hoj hji hjun hnot) (fun cs b => hsel i oi cs b hi) (fun cs b => hsel j oj cs b hoj) hQ hy h1
      have hfree' : ∀ k ok, ops[k]? = some ok → k ≠ i → (listed.setIfInBounds j true).getD k true = false →
          (∀ e ∈ ok.after, Region.binds md e = true → e.on ≠ i) → oi.apart ops ok = true := fun k ok hk hki hun hno => by
        refine hfree k ok hk hki ?_ hno
        by_cases hjk : j = k
        · subst hjk; exact hjun
        · rw [getD_set_ne true hjk] at hun; exact hun
      refine wpOp_mono (fun a' w' h3 => ⟨h3.2.1, ih (listed.setIfInBounds j true) a' w' hfree' (ready_mono hr (Ne.symm hji)) h3.1 (hT j w w' hji hwait hS h3.2.1) ?_⟩) h2
      rw [Array.setIfInBounds_comm _ _ hji]
      exact h3.2.2

theorem at_drop {i : Nat} {oi : Oper} {r : List Oper} (h : ops.toList.drop i = oi :: r) : ops[i]? = some oi := by
  have : (ops.toList.drop i)[0]? = some oi := by rw [h]; rfl
  simpa using this
/-- Take number i first: it yields v in whatever world. -/
theorem float0 {i : Nat} {oi : Oper} {v : Value} {n : Nat} {listed : Array Bool} {a : Act} {w : World} {r : List Oper} (hd : ops.toList.drop i = oi :: r) (hs : Region.noSelect ops = true) (hf : Region.free md ops listed i = true)
    (hr : (Region.ready md ops listed).contains i = true) (h0 : F0.contains i = true) (hQ : ∀ c a w, Q (.panic c) (a.put oi.dst v) w → Q (.panic c) a w)
    (hw : Region.wanted oi (yielded ops a.tmps) = true) (hy : ∀ w, (execOp a.eval oi).run P w = .ok (.value v) w)
    (h : wpAnyF P md ops Q S F0 FS n (listed.setIfInBounds i true) (a.put oi.dst v) w) : wpAnyF P md ops Q S F0 FS (n + 1) listed a w :=
  wpAnyF_first (T := fun _ => True) (at_drop hd) (Region.noSelect_spec hs) hQ (fun _ _ _ _ _ _ _ => trivial) (fun _ _ => ⟨fun _ => rfl, fun e => absurd h0 (by rw [e]; decide)⟩) n listed a w (Region.free_spec (at_drop hd) hf) (by simpa using hr) (.inl ⟨hw, fun w _ => hy w⟩) trivial h
/-- Take number i first: it yields v in every world that meets S. -/
theorem floatS {i : Nat} {oi : Oper} {v : Value} {n : Nat} {listed : Array Bool} {a : Act} {w : World} {r : List Oper} (hd : ops.toList.drop i = oi :: r) (hs : Region.noSelect ops = true) (hf : Region.free md ops listed i = true)
    (hr : (Region.ready md ops listed).contains i = true) (h0 : (FS.contains i && !F0.contains i) = true) (hQ : ∀ c a w, Q (.panic c) (a.put oi.dst v) w → Q (.panic c) a w) (hS : S w)
    (hw : Region.wanted oi (yielded ops a.tmps) = true) (hy : ∀ w, S w → (execOp a.eval oi).run P w = .ok (.value v) w)
    (h : wpAnyF P md ops Q S F0 FS n (listed.setIfInBounds i true) (a.put oi.dst v) w) : wpAnyF P md ops Q S F0 FS (n + 1) listed a w := by
  simp only [Bool.and_eq_true, Bool.not_eq_true'] at h0
  have hF : i ∈ FS := by simpa using h0.1
  refine wpAnyF_first (T := S) (at_drop hd) (Region.noSelect_spec hs) hQ (fun j w w' hji hwt hS hb => ?_) (fun w hS => ⟨fun e => absurd e (by rw [h0.2]; decide), fun _ _ => hS⟩) n listed a w (Region.free_spec (at_drop hd) hf) (by simpa using hr) (.inl ⟨hw, hy⟩) hS h
  by_cases hj : F0.contains j = true
  · rw [hb.1 hj]; exact hS
  · refine hb.2 (by simpa using hj) (List.any_eq_true.2 ⟨i, hF, ?_⟩)
    simp [hwt]; exact fun e => hji e.symm
/-- The one operation that may come up now. -/
theorem floatM {i : Nat} {o : Oper} {n : Nat} {listed : Array Bool} {a : Act} {w : World} {r : List Oper} (hd : ops.toList.drop i = o :: r) (hr : Region.ready md ops listed = [i]) (h0 : F0.contains i = false)
    (h : ∀ K : Act → World → Prop, Shut (∀ a' w', (needS md ops FS i = true → S w') → wpAnyF P md ops Q S F0 FS n (listed.setIfInBounds i true) a' w' → K a' w') → if Region.wanted o (yielded ops a.tmps) = true then Oper.wp P o a w K Q else K (a.put o.dst undef) w) :
    wpAnyF P md ops Q S F0 FS (n + 1) listed a w := by
  refine ⟨fun e => (by rw [hr] at e; cases e), fun j hj => ?_⟩
  rw [hr] at hj
  have : j = i := by simpa using hj
  subst this
  refine wpOp_step (at_drop hd) (fun K hK => h K (fun a' w' hS hW => hK a' w' ⟨⟨fun e => absurd e (by rw [h0]; decide), fun _ => hS⟩, hW⟩))
/-- Two operations may come up now. -/
theorem floatM2 {i j : Nat} {o u : Oper} {n : Nat} {listed : Array Bool} {a : Act} {w : World} {r : List Oper} (hd : ops.toList.drop i = o :: r) {r' : List Oper} (hd' : ops.toList.drop j = u :: r') (hr : Region.ready md ops listed = [i, j]) (h0 : (F0.contains i || F0.contains j) = false)
    (h : ∀ K : Act → World → Prop, Shut (∀ a' w', (needS md ops FS i = true → S w') → wpAnyF P md ops Q S F0 FS n (listed.setIfInBounds i true) a' w' → K a' w') → if Region.wanted o (yielded ops a.tmps) = true then Oper.wp P o a w K Q else K (a.put o.dst undef) w)
    (h' : ∀ K : Act → World → Prop, Shut (∀ a' w', (needS md ops FS j = true → S w') → wpAnyF P md ops Q S F0 FS n (listed.setIfInBounds j true) a' w' → K a' w') → if Region.wanted u (yielded ops a.tmps) = true then Oper.wp P u a w K Q else K (a.put u.dst undef) w) :
    wpAnyF P md ops Q S F0 FS (n + 1) listed a w := by
  simp only [Bool.or_eq_false_iff] at h0
  refine ⟨fun e => (by rw [hr] at e; cases e), fun k hk => ?_⟩
  rw [hr] at hk
  have : k = i ∨ k = j := by simpa using hk
  rcases this with rfl | rfl
  · refine wpOp_step (at_drop hd) (fun K hK => h K (fun a' w' hS hW => hK a' w' ⟨⟨fun e => absurd e (by rw [h0.1]; decide), fun _ => hS⟩, hW⟩))
  · refine wpOp_step (at_drop hd') (fun K hK => h' K (fun a' w' hS hW => hK a' w' ⟨⟨fun e => absurd e (by rw [h0.2]; decide), fun _ => hS⟩, hW⟩))
/-- All have come up. -/
theorem floatE {n : Nat} {listed : Array Bool} {a : Act} {w : World} (hr : Region.ready md ops listed = []) (h : Q .normal a w) : wpAnyF P md ops Q S F0 FS n listed a w := by
  cases n with
  | zero => exact ⟨hr, h⟩
  | succ n => exact ⟨fun _ => h, by rw [hr]; simp⟩

/-- From here on one order alone, and S is not leaned on any more. -/
def seqF (md : Region.Mode) (ops : Array Oper) (F0 FS : List Nat) : Nat → Nat → Array Bool → Bool
  | 0, _, listed => (Region.ready md ops listed).isEmpty
  | g + 1, k, listed => decide (Region.ready md ops listed = [k]) && !F0.contains k && !needS md ops FS k && seqF md ops F0 FS g (k + 1) (listed.setIfInBounds k true)
theorem floatT' : ∀ (l : List Oper) (k : Nat) (listed : Array Bool) (a : Act) (w : World), (∀ j, l[j]? = ops[k + j]?) → seqF md ops F0 FS l.length k listed = true → wpList P ops Q l a w → wpAnyF P md ops Q S F0 FS l.length listed a w
  | [], _, _, _, _, _, hB, h => ⟨by simpa [seqF] using hB, h⟩
  | o :: l, k, listed, a, w, hl, hB, h => by
    have h0 : ops[k]? = some o := by simpa using (hl 0).symm
    simp only [List.length_cons, seqF, Bool.and_eq_true, decide_eq_true_eq, Bool.not_eq_true'] at hB
    obtain ⟨⟨⟨hr, hF⟩, hN⟩, hB'⟩ := hB
    refine ⟨fun h1 => (by rw [hr] at h1; cases h1), fun i hi => ?_⟩
    rw [hr] at hi
    have hik : i = k := by simpa using hi
    subst hik
    have hw : wpOp P ops Q i (wpList P ops Q l) a w := by unfold wpOp; simp only [h0]; exact h
    exact wpOp_mono (fun a' w' h' => ⟨⟨fun e => absurd e (by rw [hF]; decide), fun _ e => absurd e (by rw [hN]; decide)⟩, floatT' l (i + 1) _ a' w' (fun j => by have := hl (j + 1); simpa [Nat.add_assoc, Nat.add_comm 1 j] using this) hB' h'⟩) hw
theorem floatT {l : List Oper} {k n : Nat} {listed : Array Bool} {a : Act} {w : World} (hl : l.toArray = ops.extract k ops.size) (hn : n = l.length) (hB : seqF md ops F0 FS n k listed = true) (h : wpList P ops Q l a w) : wpAnyF P md ops Q S F0 FS n listed a w := by
  subst hn
  refine floatT' l k listed a w (fun j => ?_) hB h
  have : l[j]? = l.toArray[j]? := by simp
  rw [this, hl, Array.getElem?_extract]
  split
  · rfl
  · rename_i hj
    rw [Array.getElem?_eq_none (by omega)]

theorem wp_region_float (S : World → Prop) (F0 FS : List Nat) {id : Nat} {a : Act} {w : World} (hm : P.follows .mixedOrders = true)
    (h : wpAnyF P .any ops Q S F0 FS ops.size (Array.replicate ops.size false) a w.drew) : (Code.region id ops true).wp P Q a w :=
  wp_region_any hm (wpAny_of_float _ _ _ _ h)
end
end Go.Proofs.YtabikmkoajdhmaaDoor
