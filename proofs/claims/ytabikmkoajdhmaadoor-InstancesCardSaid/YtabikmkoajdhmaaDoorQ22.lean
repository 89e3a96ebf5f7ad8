/- Type assertions at the program's own pointer types: closed facts. Printed by a program. -/
import Derived.Test.YtabikmkoajdhmaaDoorProg
import Derived.KernelRfl
import Derived.Test.YtabikmkoajdhmaaDoorQ04
import Derived.MapKept
set_option linter.unusedVariables false
set_option linter.unusedSimpArgs false
namespace Go.Proofs.YtabikmkoajdhmaaDoor
open Go

theorem taNameName (v : Value) (w : World) : (Instr.typeAssert (.iface 172 v) 109 172 true).run Tryd.prog w = .ok (.tuple #[v, .bool true]) w := by kernel_rfl
theorem taNameNum (v : Value) (w : World) : (Instr.typeAssert (.iface 172 v) 109 176 true).run Tryd.prog w = .ok (.tuple #[.pointer none, .bool false]) w := by kernel_rfl
theorem taNameFun (v : Value) (w : World) : (Instr.typeAssert (.iface 172 v) 109 179 true).run Tryd.prog w = .ok (.tuple #[.pointer none, .bool false]) w := by kernel_rfl
theorem taNameApp (v : Value) (w : World) : (Instr.typeAssert (.iface 172 v) 109 196 true).run Tryd.prog w = .ok (.tuple #[.pointer none, .bool false]) w := by kernel_rfl
theorem taNamePair (v : Value) (w : World) : (Instr.typeAssert (.iface 172 v) 109 182 true).run Tryd.prog w = .ok (.tuple #[.pointer none, .bool false]) w := by kernel_rfl
theorem taNameLet (v : Value) (w : World) : (Instr.typeAssert (.iface 172 v) 109 185 true).run Tryd.prog w = .ok (.tuple #[.pointer none, .bool false]) w := by kernel_rfl
theorem taNameRec (v : Value) (w : World) : (Instr.typeAssert (.iface 172 v) 109 191 true).run Tryd.prog w = .ok (.tuple #[.pointer none, .bool false]) w := by kernel_rfl
theorem taNameIf (v : Value) (w : World) : (Instr.typeAssert (.iface 172 v) 109 188 true).run Tryd.prog w = .ok (.tuple #[.pointer none, .bool false]) w := by kernel_rfl
theorem taNumName (v : Value) (w : World) : (Instr.typeAssert (.iface 176 v) 109 172 true).run Tryd.prog w = .ok (.tuple #[.pointer none, .bool false]) w := by kernel_rfl
theorem taNumNum (v : Value) (w : World) : (Instr.typeAssert (.iface 176 v) 109 176 true).run Tryd.prog w = .ok (.tuple #[v, .bool true]) w := by kernel_rfl
theorem taNumFun (v : Value) (w : World) : (Instr.typeAssert (.iface 176 v) 109 179 true).run Tryd.prog w = .ok (.tuple #[.pointer none, .bool false]) w := by kernel_rfl
theorem taNumApp (v : Value) (w : World) : (Instr.typeAssert (.iface 176 v) 109 196 true).run Tryd.prog w = .ok (.tuple #[.pointer none, .bool false]) w := by kernel_rfl
theorem taNumPair (v : Value) (w : World) : (Instr.typeAssert (.iface 176 v) 109 182 true).run Tryd.prog w = .ok (.tuple #[.pointer none, .bool false]) w := by kernel_rfl
theorem taNumLet (v : Value) (w : World) : (Instr.typeAssert (.iface 176 v) 109 185 true).run Tryd.prog w = .ok (.tuple #[.pointer none, .bool false]) w := by kernel_rfl
theorem taNumRec (v : Value) (w : World) : (Instr.typeAssert (.iface 176 v) 109 191 true).run Tryd.prog w = .ok (.tuple #[.pointer none, .bool false]) w := by kernel_rfl
theorem taNumIf (v : Value) (w : World) : (Instr.typeAssert (.iface 176 v) 109 188 true).run Tryd.prog w = .ok (.tuple #[.pointer none, .bool false]) w := by kernel_rfl
theorem taFunName (v : Value) (w : World) : (Instr.typeAssert (.iface 179 v) 109 172 true).run Tryd.prog w = .ok (.tuple #[.pointer none, .bool false]) w := by kernel_rfl
theorem taFunNum (v : Value) (w : World) : (Instr.typeAssert (.iface 179 v) 109 176 true).run Tryd.prog w = .ok (.tuple #[.pointer none, .bool false]) w := by kernel_rfl
theorem taFunFun (v : Value) (w : World) : (Instr.typeAssert (.iface 179 v) 109 179 true).run Tryd.prog w = .ok (.tuple #[v, .bool true]) w := by kernel_rfl
theorem taFunApp (v : Value) (w : World) : (Instr.typeAssert (.iface 179 v) 109 196 true).run Tryd.prog w = .ok (.tuple #[.pointer none, .bool false]) w := by kernel_rfl
theorem taFunPair (v : Value) (w : World) : (Instr.typeAssert (.iface 179 v) 109 182 true).run Tryd.prog w = .ok (.tuple #[.pointer none, .bool false]) w := by kernel_rfl
theorem taFunLet (v : Value) (w : World) : (Instr.typeAssert (.iface 179 v) 109 185 true).run Tryd.prog w = .ok (.tuple #[.pointer none, .bool false]) w := by kernel_rfl
theorem taFunRec (v : Value) (w : World) : (Instr.typeAssert (.iface 179 v) 109 191 true).run Tryd.prog w = .ok (.tuple #[.pointer none, .bool false]) w := by kernel_rfl
theorem taFunIf (v : Value) (w : World) : (Instr.typeAssert (.iface 179 v) 109 188 true).run Tryd.prog w = .ok (.tuple #[.pointer none, .bool false]) w := by kernel_rfl
theorem taAppName (v : Value) (w : World) : (Instr.typeAssert (.iface 196 v) 109 172 true).run Tryd.prog w = .ok (.tuple #[.pointer none, .bool false]) w := by kernel_rfl
theorem taAppNum (v : Value) (w : World) : (Instr.typeAssert (.iface 196 v) 109 176 true).run Tryd.prog w = .ok (.tuple #[.pointer none, .bool false]) w := by kernel_rfl
theorem taAppFun (v : Value) (w : World) : (Instr.typeAssert (.iface 196 v) 109 179 true).run Tryd.prog w = .ok (.tuple #[.pointer none, .bool false]) w := by kernel_rfl
theorem taAppApp (v : Value) (w : World) : (Instr.typeAssert (.iface 196 v) 109 196 true).run Tryd.prog w = .ok (.tuple #[v, .bool true]) w := by kernel_rfl
theorem taAppPair (v : Value) (w : World) : (Instr.typeAssert (.iface 196 v) 109 182 true).run Tryd.prog w = .ok (.tuple #[.pointer none, .bool false]) w := by kernel_rfl
theorem taAppLet (v : Value) (w : World) : (Instr.typeAssert (.iface 196 v) 109 185 true).run Tryd.prog w = .ok (.tuple #[.pointer none, .bool false]) w := by kernel_rfl
theorem taAppRec (v : Value) (w : World) : (Instr.typeAssert (.iface 196 v) 109 191 true).run Tryd.prog w = .ok (.tuple #[.pointer none, .bool false]) w := by kernel_rfl
theorem taAppIf (v : Value) (w : World) : (Instr.typeAssert (.iface 196 v) 109 188 true).run Tryd.prog w = .ok (.tuple #[.pointer none, .bool false]) w := by kernel_rfl
theorem taPairName (v : Value) (w : World) : (Instr.typeAssert (.iface 182 v) 109 172 true).run Tryd.prog w = .ok (.tuple #[.pointer none, .bool false]) w := by kernel_rfl
theorem taPairNum (v : Value) (w : World) : (Instr.typeAssert (.iface 182 v) 109 176 true).run Tryd.prog w = .ok (.tuple #[.pointer none, .bool false]) w := by kernel_rfl
theorem taPairFun (v : Value) (w : World) : (Instr.typeAssert (.iface 182 v) 109 179 true).run Tryd.prog w = .ok (.tuple #[.pointer none, .bool false]) w := by kernel_rfl
theorem taPairApp (v : Value) (w : World) : (Instr.typeAssert (.iface 182 v) 109 196 true).run Tryd.prog w = .ok (.tuple #[.pointer none, .bool false]) w := by kernel_rfl
theorem taPairPair (v : Value) (w : World) : (Instr.typeAssert (.iface 182 v) 109 182 true).run Tryd.prog w = .ok (.tuple #[v, .bool true]) w := by kernel_rfl
theorem taPairLet (v : Value) (w : World) : (Instr.typeAssert (.iface 182 v) 109 185 true).run Tryd.prog w = .ok (.tuple #[.pointer none, .bool false]) w := by kernel_rfl
theorem taPairRec (v : Value) (w : World) : (Instr.typeAssert (.iface 182 v) 109 191 true).run Tryd.prog w = .ok (.tuple #[.pointer none, .bool false]) w := by kernel_rfl
theorem taPairIf (v : Value) (w : World) : (Instr.typeAssert (.iface 182 v) 109 188 true).run Tryd.prog w = .ok (.tuple #[.pointer none, .bool false]) w := by kernel_rfl
theorem taLetName (v : Value) (w : World) : (Instr.typeAssert (.iface 185 v) 109 172 true).run Tryd.prog w = .ok (.tuple #[.pointer none, .bool false]) w := by kernel_rfl
theorem taLetNum (v : Value) (w : World) : (Instr.typeAssert (.iface 185 v) 109 176 true).run Tryd.prog w = .ok (.tuple #[.pointer none, .bool false]) w := by kernel_rfl
theorem taLetFun (v : Value) (w : World) : (Instr.typeAssert (.iface 185 v) 109 179 true).run Tryd.prog w = .ok (.tuple #[.pointer none, .bool false]) w := by kernel_rfl
theorem taLetApp (v : Value) (w : World) : (Instr.typeAssert (.iface 185 v) 109 196 true).run Tryd.prog w = .ok (.tuple #[.pointer none, .bool false]) w := by kernel_rfl
theorem taLetPair (v : Value) (w : World) : (Instr.typeAssert (.iface 185 v) 109 182 true).run Tryd.prog w = .ok (.tuple #[.pointer none, .bool false]) w := by kernel_rfl
theorem taLetLet (v : Value) (w : World) : (Instr.typeAssert (.iface 185 v) 109 185 true).run Tryd.prog w = .ok (.tuple #[v, .bool true]) w := by kernel_rfl
theorem taLetRec (v : Value) (w : World) : (Instr.typeAssert (.iface 185 v) 109 191 true).run Tryd.prog w = .ok (.tuple #[.pointer none, .bool false]) w := by kernel_rfl
theorem taLetIf (v : Value) (w : World) : (Instr.typeAssert (.iface 185 v) 109 188 true).run Tryd.prog w = .ok (.tuple #[.pointer none, .bool false]) w := by kernel_rfl
theorem taRecName (v : Value) (w : World) : (Instr.typeAssert (.iface 191 v) 109 172 true).run Tryd.prog w = .ok (.tuple #[.pointer none, .bool false]) w := by kernel_rfl
theorem taRecNum (v : Value) (w : World) : (Instr.typeAssert (.iface 191 v) 109 176 true).run Tryd.prog w = .ok (.tuple #[.pointer none, .bool false]) w := by kernel_rfl
theorem taRecFun (v : Value) (w : World) : (Instr.typeAssert (.iface 191 v) 109 179 true).run Tryd.prog w = .ok (.tuple #[.pointer none, .bool false]) w := by kernel_rfl
theorem taRecApp (v : Value) (w : World) : (Instr.typeAssert (.iface 191 v) 109 196 true).run Tryd.prog w = .ok (.tuple #[.pointer none, .bool false]) w := by kernel_rfl
theorem taRecPair (v : Value) (w : World) : (Instr.typeAssert (.iface 191 v) 109 182 true).run Tryd.prog w = .ok (.tuple #[.pointer none, .bool false]) w := by kernel_rfl
theorem taRecLet (v : Value) (w : World) : (Instr.typeAssert (.iface 191 v) 109 185 true).run Tryd.prog w = .ok (.tuple #[.pointer none, .bool false]) w := by kernel_rfl
theorem taRecRec (v : Value) (w : World) : (Instr.typeAssert (.iface 191 v) 109 191 true).run Tryd.prog w = .ok (.tuple #[v, .bool true]) w := by kernel_rfl
theorem taRecIf (v : Value) (w : World) : (Instr.typeAssert (.iface 191 v) 109 188 true).run Tryd.prog w = .ok (.tuple #[.pointer none, .bool false]) w := by kernel_rfl
theorem taIfName (v : Value) (w : World) : (Instr.typeAssert (.iface 188 v) 109 172 true).run Tryd.prog w = .ok (.tuple #[.pointer none, .bool false]) w := by kernel_rfl
theorem taIfNum (v : Value) (w : World) : (Instr.typeAssert (.iface 188 v) 109 176 true).run Tryd.prog w = .ok (.tuple #[.pointer none, .bool false]) w := by kernel_rfl
theorem taIfFun (v : Value) (w : World) : (Instr.typeAssert (.iface 188 v) 109 179 true).run Tryd.prog w = .ok (.tuple #[.pointer none, .bool false]) w := by kernel_rfl
theorem taIfApp (v : Value) (w : World) : (Instr.typeAssert (.iface 188 v) 109 196 true).run Tryd.prog w = .ok (.tuple #[.pointer none, .bool false]) w := by kernel_rfl
theorem taIfPair (v : Value) (w : World) : (Instr.typeAssert (.iface 188 v) 109 182 true).run Tryd.prog w = .ok (.tuple #[.pointer none, .bool false]) w := by kernel_rfl
theorem taIfLet (v : Value) (w : World) : (Instr.typeAssert (.iface 188 v) 109 185 true).run Tryd.prog w = .ok (.tuple #[.pointer none, .bool false]) w := by kernel_rfl
theorem taIfRec (v : Value) (w : World) : (Instr.typeAssert (.iface 188 v) 109 191 true).run Tryd.prog w = .ok (.tuple #[.pointer none, .bool false]) w := by kernel_rfl
theorem taIfIf (v : Value) (w : World) : (Instr.typeAssert (.iface 188 v) 109 188 true).run Tryd.prog w = .ok (.tuple #[v, .bool true]) w := by kernel_rfl
theorem taVarVar (v : Value) (w : World) : (Instr.typeAssert (.iface 137 v) 126 137 true).run Tryd.prog w = .ok (.tuple #[v, .bool true]) w := by kernel_rfl
theorem tbVarVar (v : Value) (w : World) : (Instr.typeAssert (.iface 137 v) 126 137 false).run Tryd.prog w = .ok v w := by kernel_rfl
theorem taVarCon (v : Value) (w : World) : (Instr.typeAssert (.iface 137 v) 126 143 true).run Tryd.prog w = .ok (.tuple #[.pointer none, .bool false]) w := by kernel_rfl
theorem taConVar (v : Value) (w : World) : (Instr.typeAssert (.iface 143 v) 126 137 true).run Tryd.prog w = .ok (.tuple #[.pointer none, .bool false]) w := by kernel_rfl
theorem taConCon (v : Value) (w : World) : (Instr.typeAssert (.iface 143 v) 126 143 true).run Tryd.prog w = .ok (.tuple #[v, .bool true]) w := by kernel_rfl
theorem tbConCon (v : Value) (w : World) : (Instr.typeAssert (.iface 143 v) 126 143 false).run Tryd.prog w = .ok v w := by kernel_rfl
theorem taStop (v : Value) (w : World) : (Instr.typeAssert (.iface 213 v) 20 213 true).run Tryd.prog w = .ok (.tuple #[v, .bool true]) w := by kernel_rfl
end Go.Proofs.YtabikmkoajdhmaaDoor

/- Maps that the program makes and never deletes from, entry by entry: look-ups and updates, over any key that is compared by its value. -/
namespace Go.Proofs.YtabikmkoajdhmaaDoor
open Go.RowKit

/-- Keys of one kind. -/
structure KeyOk (P : Program) (kt : TypeId) (K : Type) [DecidableEq K] (f : K → Value) : Prop where
  und : ∃ d, P.underlying kt = some d ∧ ∀ a b, Instr.sameNow d (f a) (f b) = some (decide (a = b))
  check : ∀ k e w, (Instr.checkKey e 10000 kt (f k)).run P w = .ok () w
  bits : ∀ k, Instr.sameBits 10000 (f k) (f k) = true

def ment {K : Type} (f : K → Value) : Nat → List (K × Value) → List MapEntry
  | _, [] => []
  | i, (k, v) :: r => ⟨f k, v, i⟩ :: ment f (i + 1) r
def kmap {K : Type} (f : K → Value) (l : List (K × Value)) : Obj := .map (ment f 0 l).toArray l.length
theorem ment_snoc {K : Type} (f : K → Value) (k : K) (v : Value) : ∀ (i : Nat) (l : List (K × Value)), ment f i (l ++ [(k, v)]) = ment f i l ++ [⟨f k, v, i + l.length⟩]
  | i, [] => rfl
  | i, (a, b) :: r => by rw [show i + ((a, b) :: r).length = i + 1 + r.length by simp; omega]; simp only [List.cons_append, ment, ment_snoc f k v (i + 1) r]
theorem ment_len {K : Type} (f : K → Value) : ∀ (i : Nat) (l : List (K × Value)), (ment f i l).length = l.length
  | _, [] => rfl
  | i, (a, b) :: r => by simp [ment, ment_len f (i + 1) r]

/-- Where a key stands. -/
def kfind {K : Type} [DecidableEq K] (k : K) : List (K × Value) → Nat → Option (Nat × Value)
  | [], _ => none
  | (a, v) :: r, i => if k = a then some (i, v) else kfind k r (i + 1)
theorem kfind_lookup {K : Type} [DecidableEq K] (k : K) : ∀ (l : List (K × Value)) (i : Nat), (kfind k l i).map (·.2) = l.lookup k
  | [], _ => rfl
  | (a, v) :: r, i => by
    simp only [kfind, List.lookup_cons]
    by_cases h : k = a
    · subst h; simp
    · have : (k == a) = false := by simpa using h
      rw [this, if_neg h]; exact kfind_lookup k r (i + 1)
theorem findNow_ment {K : Type} [DecidableEq K] {f : K → Value} {d : TypeDesc} (h : ∀ a b, Instr.sameNow d (f a) (f b) = some (decide (a = b))) (k : K) : ∀ (l : List (K × Value)) (i j : Nat), Instr.findNow d (f k) (ment f j l) i = some (kfind k l i)
  | [], _, _ => rfl
  | (a, v) :: r, i, j => by
    simp only [ment, Instr.findNow, h, kfind]
    by_cases hk : k = a
    · simp [hk]
    · simp only [hk, decide_false, if_false]; exact findNow_ment h k r (i + 1) (j + 1)

/-- A block that is no row of cells is laid anew. -/
def World.lay (w : World) (r : Nat) (o : Obj) : World := { w with heap := w.heap.setIfInBounds r o }
theorem lay_keep (w : World) (r : Nat) (o : Obj) : Keep (one' r) w (World.lay w r o) :=
  ⟨rfl, rfl, by simp [World.lay], fun k hk hn => by
    have : k ≠ r := hn
    simp only [World.lay]
    rw [Array.getElem?_setIfInBounds_ne (Ne.symm this)]⟩
theorem lay_same {w : World} {r : Nat} {o : Obj} (h : r < w.heap.size) : (World.lay w r o).heap[r]? = some o := by simp [World.lay, h]

section
variable {P : Program} {K : Type} [DecidableEq K] {f : K → Value} {mt kt et : TypeId}

theorem run_look_some (hu : P.underlying mt = some (.map kt et)) (hK : KeyOk P kt K f) {w : World} {r : Nat} {l : List (K × Value)} {k : K} {v : Value} (h : w.heap[r]? = some (kmap f l)) (hl : l.lookup k = some v) (ok : Bool) :
    (Instr.lookup mt (.map (some r)) (f k) ok).run P w = .ok (if ok then .tuple #[v, .bool true] else v) w := by
  obtain ⟨d, hd, hs⟩ := hK.und
  have e : kfind k l 0 = some (((kfind k l 0).getD (0, v)).1, v) := by
    have := kfind_lookup k l 0
    rw [hl] at this
    cases hf : kfind k l 0 with
    | none => rw [hf] at this; cases this
    | some x => rw [hf] at this; obtain ⟨i, u⟩ := x; simp at this; subst this; rfl
  unfold kmap at h
  simp only [Instr.lookup, Sem.run_bind, run_underlying hu, Result.andThen_ok, Sem.run_pure, getObj, Sem.run, h, Result.andThen, hK.check, Instr.findKey, run_underlying hd, findNow_ment hs k l 0 0]
  rw [e]
  cases ok <;> rfl
theorem run_look_none (hu : P.underlying mt = some (.map kt et)) (hK : KeyOk P kt K f) {z : Value} (hz : ∀ w, (zeroValue et).run P w = .ok z w) {w : World} {r : Nat} {l : List (K × Value)} {k : K} (h : w.heap[r]? = some (kmap f l)) (hl : l.lookup k = none) (ok : Bool) :
    (Instr.lookup mt (.map (some r)) (f k) ok).run P w = .ok (if ok then .tuple #[z, .bool false] else z) w := by
  obtain ⟨d, hd, hs⟩ := hK.und
  have e : kfind k l 0 = none := by
    have := kfind_lookup k l 0
    rw [hl] at this
    cases hf : kfind k l 0 with
    | none => rfl
    | some x => rw [hf] at this; cases this
  unfold kmap at h
  simp only [Instr.lookup, Sem.run_bind, run_underlying hu, Result.andThen_ok, Sem.run_pure, getObj, Sem.run, h, Result.andThen, hK.check, Instr.findKey, run_underlying hd, findNow_ment hs k l 0 0]
  rw [e]
  simp only [Sem.run_bind, hz, Result.andThen, Sem.run_pure]
theorem run_upd_new (hu : P.underlying mt = some (.map kt et)) (hK : KeyOk P kt K f) {w : World} {r : Nat} {l : List (K × Value)} {k : K} {v : Value} (h : w.heap[r]? = some (kmap f l)) (hl : l.lookup k = none) :
    (Instr.mapUpdate mt (.map (some r)) (f k) v).run P w = .ok () (World.lay w r (kmap f (l ++ [(k, v)]))) := by
  obtain ⟨d, hd, hs⟩ := hK.und
  have e : kfind k l 0 = none := by
    have := kfind_lookup k l 0
    rw [hl] at this
    cases hf : kfind k l 0 with
    | none => rfl
    | some x => rw [hf] at this; cases this
  have e2 : kmap f (l ++ [(k, v)]) = .map ((ment f 0 l).toArray.push ⟨f k, v, l.length⟩) (l.length + 1) := by
    unfold kmap
    rw [ment_snoc]
    simp
  unfold kmap at h
  simp only [Instr.mapUpdate, Sem.run_bind, run_underlying hu, Result.andThen_ok, Sem.run_pure, getObj, Sem.run, h, Result.andThen, hK.check, Instr.findKey, run_underlying hd, findNow_ment hs k l 0 0]
  rw [e, e2]
  simp [setObj, Sem.run, h, World.lay]
omit [DecidableEq K] in
theorem run_len_map (hu : P.underlying mt = some (.map kt et)) {w : World} {r : Nat} {l : List (K × Value)} (h : w.heap[r]? = some (kmap f l)) (ty : TypeId) :
    (Builtin.len_ #[mt] ty #[.map (some r)]).run P w = .ok (.int .i64 l.length) w := by
  unfold kmap at h
  simp [Builtin.len_, run_underlying hu, getObj, Sem.run, h, Result.andThen, goInt, ment_len]
/-- A key's value laid anew. -/
def kput {K : Type} [DecidableEq K] (k : K) (v : Value) : List (K × Value) → List (K × Value)
  | [] => []
  | (a, u) :: r => if k = a then (a, v) :: r else (a, u) :: kput k v r
theorem kput_len {K : Type} [DecidableEq K] (k : K) (v : Value) : ∀ l : List (K × Value), (kput k v l).length = l.length
  | [] => rfl
  | (a, u) :: r => by simp only [kput]; split <;> simp [kput_len k v r]
theorem ment_put (k : K) (v : Value) : ∀ (l : List (K × Value)) (b i : Nat) (x : Nat × Value), kfind k l i = some x → i ≤ x.1 ∧ x.1 < i + l.length ∧ (ment f b l)[x.1 - i]? = some ⟨f k, x.2, b + (x.1 - i)⟩ ∧
    (ment f b l).modify (x.1 - i) (fun e => { e with key := f k, val := v }) = ment f b (kput k v l)
  | [], _, _, _, h => by cases h
  | (a, u) :: r, b, i, x, h => by
    simp only [kfind] at h
    by_cases hk : k = a
    · subst hk
      simp only [if_true, Option.some.injEq] at h
      subst h
      refine ⟨Nat.le_refl _, by simp, by simp [ment], ?_⟩
      simp only [ment, kput, if_true, Nat.sub_self, List.modify_zero_cons]
    · rw [if_neg hk] at h
      obtain ⟨h1, h2, h3, h4⟩ := ment_put k v r (b + 1) (i + 1) x h
      have e : x.1 - i = (x.1 - (i + 1)) + 1 := by omega
      refine ⟨by omega, by simp; omega, ?_, ?_⟩
      · rw [e]; simp only [ment, List.getElem?_cons_succ, h3]; congr 2; omega
      · rw [e]; simp only [ment, kput, if_neg hk, List.modify_succ_cons, h4]
theorem run_upd_old (hu : P.underlying mt = some (.map kt et)) (hK : KeyOk P kt K f) {w : World} {r : Nat} {l : List (K × Value)} {k : K} {u v : Value} (h : w.heap[r]? = some (kmap f l)) (hl : l.lookup k = some u) :
    (Instr.mapUpdate mt (.map (some r)) (f k) v).run P w = .ok () (World.lay w r (kmap f (kput k v l))) := by
  obtain ⟨d, hd, hs⟩ := hK.und
  obtain ⟨x, e⟩ : ∃ x, kfind k l 0 = some x := by
    have := kfind_lookup k l 0
    rw [hl] at this
    cases hf : kfind k l 0 with
    | none => rw [hf] at this; cases this
    | some x => exact ⟨x, rfl⟩
  obtain ⟨h1, h2, h3, h4⟩ := ment_put (f := f) k v l 0 0 x e
  simp only [Nat.sub_zero] at h3 h4
  have e2 : kmap f (kput k v l) = .map ((ment f 0 l).toArray.modify x.1 fun e => { e with key := f k, val := v }) l.length := by
    unfold kmap
    rw [kput_len, ← h4]
    simp
  unfold kmap at h
  simp only [Instr.mapUpdate, Sem.run_bind, run_underlying hu, Result.andThen_ok, Sem.run_pure, getObj, Sem.run, h, Result.andThen, hK.check, Instr.findKey, run_underlying hd, findNow_ment hs k l 0 0]
  rw [e, e2]
  simp only [Sem.run_bind, Instr.keyThatStays, Sem.run_pure, Result.andThen]
  have h5 : (((ment f 0 l).toArray[x.1]?).map (·.key)).getD (f k) = f k := by simp [h3]
  rw [h5, hK.bits]
  simp [setObj, Sem.run, h, World.lay]
end
end Go.Proofs.YtabikmkoajdhmaaDoor

/- The program's own maps: their keys. -/
namespace Go.Proofs.YtabikmkoajdhmaaDoor
open Go.RowKit

abbrev kInt : Int → Value := fun k => .int .i64 k
abbrev kStr : Str → Value := fun s => .string (bs s)
theorem checkKey_plain {P : Program} {t : TypeId} {d : TypeDesc} {v : Value} {w : World} {e : Bool} (hu : P.underlying t = some d) (hd : (match d with | .int _ | .string => true | _ => false) = true) (n : Nat) : (Instr.checkKey e (n + 1) t v).run P w = .ok () w := by
  cases d <;> simp at hd <;> simp [Instr.checkKey, run_underlying hu]
theorem barr_beq (a b : ByteArray) : (a == b) = decide (a = b) := by
  have x : (a == b) = (a.data == b.data) := by cases a; cases b; rfl
  rw [x]
  by_cases h : a = b
  · subst h; simp
  · have : ¬ a.data = b.data := fun e => h (ByteArray.ext e)
    simp [h, this]
theorem key_int : KeyOk Tryd.prog 3 Int kInt := by
  refine ⟨⟨_, Tryd.underlying3, fun a b => ?_⟩, fun k e w => checkKey_plain Tryd.underlying3 rfl 9999, fun k => ?_⟩
  · simp [Instr.sameNow, BEq.beq]
  · simp [Instr.sameBits]
theorem bs_beq (a b : Str) : (bs a == bs b) = decide (a = b) := by
  rw [barr_beq]
  by_cases h : a = b
  · subst h; simp
  · have : ¬ bs a = bs b := fun e => h (bs_inj e)
    simp [h, this]
theorem key_str : KeyOk Tryd.prog 9 Str kStr := by
  refine ⟨⟨_, Tryd.underlying9, fun a b => ?_⟩, fun k e w => checkKey_plain Tryd.underlying9 rfl 9999, fun k => ?_⟩
  · simp only [Instr.sameNow, bs_beq]
  · simp [Instr.sameBits, bs_beq]
end Go.Proofs.YtabikmkoajdhmaaDoor

/- A region that draws its order: an operation that is not wanted. -/
namespace Go.Proofs.YtabikmkoajdhmaaDoor
open Go Go.RowKit
section
variable {P : Program} {ops : Array Oper} {Q : Exit → Act → World → Prop} {md : Region.Mode} {S : World → Prop} {F0 FS : List Nat}
theorem floatU {i : Nat} {oi : Oper} {n : Nat} {listed : Array Bool} {a : Act} {w : World} {r : List Oper} (hd : ops.toList.drop i = oi :: r) (hs : Region.noSelect ops = true) (hf : Region.free md ops listed i = true)
    (hr : (Region.ready md ops listed).contains i = true) (h0 : F0.contains i = true) (hQ : ∀ c a w, Q (.panic c) (a.put oi.dst undef) w → Q (.panic c) a w)
    (hw : Region.wanted oi (yielded ops a.tmps) = false)
    (h : wpAnyF P md ops Q S F0 FS n (listed.setIfInBounds i true) (a.put oi.dst undef) w) : wpAnyF P md ops Q S F0 FS (n + 1) listed a w :=
  wpAnyF_first (T := fun _ => True) (at_drop hd) (Region.noSelect_spec hs) hQ (fun _ _ _ _ _ _ _ => trivial) (fun _ _ => ⟨fun _ => rfl, fun e => absurd h0 (by rw [e]; decide)⟩) n listed a w (Region.free_spec (at_drop hd) hf) (by simpa using hr) (.inr ⟨hw, rfl⟩) trivial h
end
end Go.Proofs.YtabikmkoajdhmaaDoor

/- Maps: an entry that an assignment of several values makes first and fills then. -/
namespace Go.Proofs.YtabikmkoajdhmaaDoor
open Go.RowKit
section
variable {P : Program} {K : Type} [DecidableEq K] {f : K → Value} {mt kt et : TypeId}

theorem run_entry_new (hu : P.underlying mt = some (.map kt et)) (hK : KeyOk P kt K f) {z : Value} (hz : ∀ w, (zeroValue et).run P w = .ok z w) {w : World} {r : Nat} {l : List (K × Value)} {k : K} (h : w.heap[r]? = some (kmap f l)) (hl : l.lookup k = none) :
    (Instr.mapEntry mt (.map (some r)) (f k)).run P w = .ok (.tuple #[z, .int .i64 (l.length : Int)]) (World.lay w r (kmap f (l ++ [(k, z)]))) := by
  obtain ⟨d, hd, hs⟩ := hK.und
  have e : kfind k l 0 = none := by
    have := kfind_lookup k l 0
    rw [hl] at this
    cases hf : kfind k l 0 with
    | none => rfl
    | some x => rw [hf] at this; cases this
  have e2 : kmap f (l ++ [(k, z)]) = .map ((ment f 0 l).toArray.push ⟨f k, z, l.length⟩) (l.length + 1) := by
    unfold kmap
    rw [ment_snoc]
    simp
  unfold kmap at h
  simp only [Instr.mapEntry, Sem.run_bind, run_underlying hu, Result.andThen_ok, Sem.run_pure, getObj, Sem.run, h, Result.andThen, hK.check, Instr.findKey, run_underlying hd, findNow_ment hs k l 0 0]
  rw [e, e2]
  simp only [Sem.run_bind, hz, Result.andThen]
  simp [setObj, Sem.run, h, World.lay, goInt]
omit [DecidableEq K] in
theorem mod_last {α : Type} (g : α → α) (x : α) : ∀ l : List α, (l ++ [x]).modify l.length g = l ++ [g x]
  | [] => rfl
  | a :: l => by simp [List.modify_succ_cons, mod_last g x l]
omit [DecidableEq K] in
theorem ment_find (k : K) (z : Value) : ∀ (l : List (K × Value)) (i : Nat), (ment f i l ++ [(⟨f k, z, i + l.length⟩ : MapEntry)]).findIdx? (fun e => (e.born : Int) == ((i + l.length : Nat) : Int)) = some l.length
  | [], i => by simp [ment]
  | (a, u) :: r, i => by
    have h1 : ((i : Int) == ((i + ((a, u) :: r).length : Nat) : Int)) = false := by
      have : ¬ (i : Int) = ((i + ((a, u) :: r).length : Nat) : Int) := by simp only [List.length_cons]; omega
      simpa using this
    have := ment_find k z r (i + 1)
    rw [show i + 1 + r.length = i + ((a, u) :: r).length by simp only [List.length_cons]; omega] at this
    simp only [ment, List.cons_append, List.findIdx?_cons, h1, this]
    simp
omit [DecidableEq K] in
theorem run_estore {w : World} {r : Nat} {l : List (K × Value)} {k : K} {z v : Value} (h : w.heap[r]? = some (kmap f (l ++ [(k, z)]))) :
    (Instr.entryStore mt (.map (some r)) (.int .i64 (l.length : Int)) v).run P w = .ok () (World.lay w r (kmap f (l ++ [(k, v)]))) := by
  have e1 := ment_find (f := f) k z l 0
  have e2 : kmap f (l ++ [(k, v)]) = .map ((ment f 0 l ++ [(⟨f k, z, l.length⟩ : MapEntry)]).toArray.modify l.length fun e => { e with val := v }) (l.length + 1) := by
    unfold kmap
    have := mod_last (fun e => { e with val := v }) (⟨f k, z, l.length⟩ : MapEntry) (ment f 0 l)
    rw [ment_len] at this
    rw [ment_snoc, List.modify_toArray, this]
    simp
  have e3 : kmap f (l ++ [(k, z)]) = .map (ment f 0 l ++ [(⟨f k, z, l.length⟩ : MapEntry)]).toArray (l.length + 1) := by
    unfold kmap
    rw [ment_snoc]
    simp
  rw [e3] at h
  simp only [Nat.zero_add] at e1
  rw [e2]
  simp only [Instr.entryStore, Sem.run_bind, getObj, Sem.run, h, Result.andThen, Sem.run_pure, asInt, asIntOf, List.findIdx?_toArray]
  simp only [e1]
  simp [setObj, Sem.run, h, World.lay]
end
end Go.Proofs.YtabikmkoajdhmaaDoor
