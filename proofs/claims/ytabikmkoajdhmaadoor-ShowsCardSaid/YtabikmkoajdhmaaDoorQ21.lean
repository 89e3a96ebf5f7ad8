/- find: of a variable and of a constructor: the root, by a contract; ways are made shorter. -/
import Derived.Test.YtabikmkoajdhmaaDoorQ20
import Derived.Lib.Hide
import Derived.WideLaws
import Derived.LaidEql
import Derived.WalkLawsBesides
import Derived.WalkSpells
import Derived.BigQuiet
import Derived.Outline
import Derived.Test.YtabikmkoajdhmaaDoorQ04
import Derived.Test.YtabikmkoajdhmaaDoorQ22
set_option linter.unusedVariables false
set_option linter.unusedSimpArgs false
namespace Go.Proofs.YtabikmkoajdhmaaDoor
open Go.RowKit

theorem methFindV (v : Value) (w : World) : (Go.method 395 137 v "typer/types.find").run Tryd.prog w = .ok (155, v) w := by kernel_rfl
theorem methFindC (v : Value) (w : World) : (Go.method 395 143 v "typer/types.find").run Tryd.prog w = .ok (156, v) w := by kernel_rfl

def FindPost (G : GH) (A : GV) (n : Nat) (w : World) (t : Ty) (e : Ending) (w' : World) : Prop := ∃ r, e = .returned r ∧ Same G A n w w' ∧ Root G A w' r t

theorem find_con {G : GH} {A : GV} {w : World} {n b : Nat} {t : Ty} (hi : TInv G A w n) (h : TR G A w (conV b) t) : Calls Tryd.prog 156 #[.pointer (some ⟨b, 0, none⟩)] w (FindPost G A n w t) := by
  go_enter Tryd.func156, Tryd.ntmps156
  go_wp2_with fail
  go_ret
  refine ⟨conV b, rfl, Same.refl hi, ?_⟩
  cases h with
  | con a b c d => exact .con a b c d

theorem Same.linked {G : GH} {A : GV} {n N b b' : Nat} {nm : Str} {T : TypeId} {w w' : World} (hi : TInv G A w n) (h : Same G A n w w') (hN : A N = some (b, nm)) {t : Ty} (hb : w.heap[b]? = some (varObj N (.iface T (.pointer (some ⟨b', 0, none⟩))) nm)) (ht : TR G A w (varV b) t) :
    ∃ T1 b1, w'.heap[b]? = some (varObj N (.iface T1 (.pointer (some ⟨b1, 0, none⟩))) nm) := by
  cases h.tr _ _ ht with
  | free hM hk =>
    have := hi.one hN hM
    subst this
    have hk0 := ht.var_free hN rfl
    rw [hb] at hk0; simp [varObj] at hk0
  | link hM hk _ =>
    have := hi.one hN hM
    subst this
    obtain ⟨_, _, _, i, hi'⟩ := h.inv.vars _ _ _ hN
    rw [hi'] at hk
    simp [varObj] at hk
    obtain ⟨rfl, e2⟩ := hk
    exact ⟨_, _, hi'⟩

set_option maxHeartbeats 1000000 in
theorem find_var {G : GH} {A : GV} {w : World} {n : Nat} (hi : TInv G A w n) : ∀ {v : Value} {t : Ty}, TR G A w v t → ∀ b, v = varV b → Calls Tryd.prog 155 #[.pointer (some ⟨b, 0, none⟩)] w (FindPost G A n w t)
  | _, _, .free (N := N) (b := b) (nm := nm) hN hb, b1, e => by
    have : b = b1 := by simpa [varV] using e
    subst this
    have c1 : w.cell? ⟨b, 1, none⟩ = some .nilIface := cell_of_heap hb rfl
    have HB := Lib.hid hb; clear hb e
    go_enter Tryd.func155, Tryd.ntmps155
    go_wp2_with fail
    go_ret
    exact ⟨varV b, rfl, Same.refl hi, .var hN HB.out⟩
  | _, _, .link (N := N) (b := b) (b' := b') (nm := nm) (T := T) (t := t) hN hb r, b1, e => by
    have : b = b1 := by simpa [varV] using e
    subst this
    have HT := Lib.hid (TR.link hN hb r)
    have ih : ∃ f, (∀ w, (Go.method 395 T (.pointer (some ⟨b', 0, none⟩)) "typer/types.find").run Tryd.prog w = .ok (f, .pointer (some ⟨b', 0, none⟩)) w) ∧ (∀ w, (callFunc f #[.pointer (some ⟨b', 0, none⟩)]).run Tryd.prog w = .ok (.enter f #[.pointer (some ⟨b', 0, none⟩)]) w) ∧ Calls Tryd.prog f #[.pointer (some ⟨b', 0, none⟩)] w (FindPost G A n w t) := by
      obtain ⟨b2, e2 | e2⟩ := r.shape
      · have hc := find_var hi r b2 e2
        simp only [varV, Value.iface.injEq, Value.pointer.injEq, Option.some.injEq, Addr.mk.injEq, and_true] at e2
        obtain ⟨rfl, rfl⟩ := e2
        exact ⟨_, methFindV _, fun _ => by kernel_rfl, hc⟩
      · have hr := r
        rw [e2] at hr
        have hc := find_con hi hr
        simp only [conV, Value.iface.injEq, Value.pointer.injEq, Option.some.injEq, Addr.mk.injEq, and_true] at e2
        obtain ⟨rfl, rfl⟩ := e2
        exact ⟨_, methFindC _, fun _ => by kernel_rfl, hc⟩
    obtain ⟨f, hm, he, hc⟩ := ih
    have HC := Lib.hid hc; have HR := Lib.hid r; clear hc r
    have c1 : w.cell? ⟨b, 1, none⟩ = some (.iface T (.pointer (some ⟨b', 0, none⟩))) := cell_of_heap hb rfl
    have HB := Lib.hid hb; have HI := Lib.hid hi; clear hb e hi
    go_enter Tryd.func155, Tryd.ntmps155
    go_wp2_with fail
    refine HC.out.mono ?_
    rintro e w1 ⟨r1, rfl, hs, hr1⟩
    obtain ⟨T2, b2, rfl⟩ := hr1.tr.iface
    obtain ⟨T1, b1, h1⟩ := Same.linked HI.out hs hN HB.out HT.out
    have HS := Lib.hid hs; have HR1 := Lib.hid hr1; have H1 := Lib.hid h1
    have d1 : w1.cell? ⟨b, 1, none⟩ = some (.iface T1 (.pointer (some ⟨b1, 0, none⟩))) := cell_of_heap h1 rfl
    have f1 : ∀ i, w1.frozen? ⟨b, i, none⟩ = false := fun i => free_of_heap h1
    have d2 : (w1.setCell ⟨b, 1, none⟩ (.iface T2 (.pointer (some ⟨b2, 0, none⟩)))).cell? ⟨b, 1, none⟩ = some (.iface T2 (.pointer (some ⟨b2, 0, none⟩))) := cell_of_heap (set_var h1) rfl
    clear hs hr1 h1
    go_wp2_with fail
    go_ret
    have ht := HS.out.tr _ _ HT.out
    exact ⟨_, rfl, HS.out.trans (Same.comp HS.out.inv hN H1.out ht HR1.out), comp_root H1.out ht _ HR1.out⟩
  | _, _, .con _ _ _ _, b1, e => by simp [varV, conV] at e

/-- A type's value: to which function find leads, and what that gives in any world. -/
theorem find_fn {G : GH} {A : GV} {w : World} {v : Value} {t : Ty} (h : TR G A w v t) :
    ∃ T b f, v = .iface T (.pointer (some ⟨b, 0, none⟩)) ∧ (∀ w, (Go.method 395 T (.pointer (some ⟨b, 0, none⟩)) "typer/types.find").run Tryd.prog w = .ok (f, .pointer (some ⟨b, 0, none⟩)) w) ∧ (∀ w, (callFunc f #[.pointer (some ⟨b, 0, none⟩)]).run Tryd.prog w = .ok (.enter f #[.pointer (some ⟨b, 0, none⟩)]) w) ∧
      ∀ (G' : GH) (A' : GV) (w' : World) (n : Nat) (t' : Ty), TInv G' A' w' n → TR G' A' w' (.iface T (.pointer (some ⟨b, 0, none⟩))) t' → Calls Tryd.prog f #[.pointer (some ⟨b, 0, none⟩)] w' (FindPost G' A' n w' t') := by
  obtain ⟨b, rfl | rfl⟩ := h.shape
  · exact ⟨_, b, _, rfl, methFindV _, fun _ => by kernel_rfl, fun G' A' w' n t' hi h => find_var hi h b rfl⟩
  · exact ⟨_, b, _, rfl, methFindC _, fun _ => by kernel_rfl, fun G' A' w' n t' hi h => find_con hi h⟩
/-- A type's value: to which function find leads, and what that gives. -/
theorem find_any {G : GH} {A : GV} {w : World} {n : Nat} {v : Value} {t : Ty} (hi : TInv G A w n) (h : TR G A w v t) :
    ∃ T b f, v = .iface T (.pointer (some ⟨b, 0, none⟩)) ∧ (∀ w, (Go.method 395 T (.pointer (some ⟨b, 0, none⟩)) "typer/types.find").run Tryd.prog w = .ok (f, .pointer (some ⟨b, 0, none⟩)) w) ∧ (∀ w, (callFunc f #[.pointer (some ⟨b, 0, none⟩)]).run Tryd.prog w = .ok (.enter f #[.pointer (some ⟨b, 0, none⟩)]) w) ∧ Calls Tryd.prog f #[.pointer (some ⟨b, 0, none⟩)] w (FindPost G A n w t) := by
  obtain ⟨b, rfl | rfl⟩ := h.shape
  · exact ⟨_, b, _, rfl, methFindV _, fun _ => by kernel_rfl, find_var hi h b rfl⟩
  · exact ⟨_, b, _, rfl, methFindC _, fun _ => by kernel_rfl, find_con hi h⟩

/-- A slice value that reads as a list: its two forms. -/
theorem SlR.shp {G : GH} {v : Value} {xs : List Value} (h : SlR G v xs) : ∃ a cap, v = .slice a xs.length cap ∧ ∀ w, Holds G w → ∀ j u, xs[j]? = some u → ∃ b, a = some ⟨b, 0, none⟩ ∧ w.cell? ⟨b, j, none⟩ = some u := by
  rcases h with ⟨rfl, rfl⟩ | ⟨b, arr, T, cap, rfl, hb, hx⟩
  · exact ⟨none, 0, rfl, fun w _ j u hj => by simp at hj⟩
  · refine ⟨some ⟨b, 0, none⟩, cap, rfl, fun w hG j u hj => ⟨b, rfl, ?_⟩⟩
    obtain ⟨hlt, rfl⟩ := List.getElem?_eq_some_iff.1 hj
    exact cell_of_heap (hG _ _ hb) (hx j hlt)
end Go.Proofs.YtabikmkoajdhmaaDoor

/- New types in memory: types.Of, (*types.Vars).New: by contracts; what a new block does to the meaning of all values. -/
namespace Go.Proofs.YtabikmkoajdhmaaDoor
open Go.RowKit

/-- A' is A and variables whose blocks are new since w. -/
structure GrewV (A : GV) (w : World) (A' : GV) : Prop where
  sub : A.sub A'
  new : ∀ N b nm, A' N = some (b, nm) → A N = some (b, nm) ∨ w.heap.size ≤ b
theorem GrewV.refl (A : GV) (w : World) : GrewV A w A := ⟨GV.sub.refl A, fun _ _ _ h => .inl h⟩
theorem GrewV.trans {S : Nat → Prop} {A B C : GV} {w w1 : World} (h : GrewV A w B) (k : Keep S w w1) (h' : GrewV B w1 C) : GrewV A w C :=
  ⟨h.sub.trans h'.sub, fun N b nm e => by
    rcases h'.new N b nm e with e | e
    · exact h.new N b nm e
    · exact .inr (Nat.le_trans k.size e)⟩
theorem GrewV.keep {S : Nat → Prop} {A B : GV} {w w1 : World} (k : Keep S w w1) (h' : GrewV A w1 B) : GrewV A w B := (GrewV.refl A w).trans k h'
theorem GrewV.isV {A B : GV} {w : World} (h : GrewV A w B) {b : Nat} (hb : b < w.heap.size) (hn : ¬ isV A b) : ¬ isV B b := fun ⟨N, nm, e⟩ => by
  rcases h.new N b nm e with e | e
  · exact hn ⟨N, nm, e⟩
  · omega

/-- A block laid behind all. -/
theorem TInv.alloc {G : GH} {A : GV} {w : World} {n : Nat} (h : TInv G A w n) (o : Obj) : Grew G w (G.put w.heap.size o) ∧ TInv (G.put w.heap.size o) A (w.alloc o) n := by
  have hf : G w.heap.size = none := h.holds.fresh (Nat.le_refl _)
  refine ⟨⟨GH.sub_put hf, fun b hb => GH.put_other _ _ (by omega)⟩, (h.holds.keep0 (Keep.alloc none' w o)).put (heap_new w o), fun N b nm e => ?_⟩
  obtain ⟨x1, x2, x3, i, hi⟩ := h.vars N b nm e
  have := lt_of_heap hi
  exact ⟨x1, x2, by rw [GH.put_other _ _ (by omega)]; exact x3, i, heap_old hi⟩
theorem Grew.sz {G G' : GH} {w : World} (h : Grew G w G') {b : Nat} (hb : b < w.heap.size) (hn : G b = none) : G' b = none := (h.eq b hb).trans hn

theorem TR.up {G G' : GH} {A A' : GV} {w w' : World} {n : Nat} {v : Value} {t : Ty} (r : TR G A w v t) (h : TInv G A w n) {S : Nat → Prop} (k : Keep S w w') (hS : ∀ b, isV A b → ¬ S b) (hG : G.sub G') (hA : A.sub A') : TR G' A' w' v t :=
  r.mono hG hA (h.blk k hS)

/-- A constructor of one type, laid as types.Of lays it. -/
theorem mk_con1 {G : GH} {A : GV} {w : World} {n : Nat} (h : TInv G A w n) {t a : Ty} {v : Value} (hc : t.con = true) (ha : t.args = [a]) (hv : TR G A w v a) :
    ∃ G', Grew G w G' ∧ TInv G' A ((w.alloc (.cells #[v] 126)).alloc (.cells #[.string (bs t.kind), .slice (some ⟨w.heap.size, 0, none⟩) 1 1] 147)) n ∧
      TR G' A ((w.alloc (.cells #[v] 126)).alloc (.cells #[.string (bs t.kind), .slice (some ⟨w.heap.size, 0, none⟩) 1 1] 147)) (conV (w.heap.size + 1)) t := by
  have e : (w.alloc (.cells #[v] 126)).heap.size = w.heap.size + 1 := by simp
  rw [← e]
  obtain ⟨g1, i1⟩ := h.alloc (.cells #[v] 126)
  obtain ⟨g2, i2⟩ := i1.alloc (.cells #[.string (bs t.kind), .slice (some ⟨w.heap.size, 0, none⟩) 1 1] 147)
  refine ⟨_, g1.trans (Keep.alloc none' w _) g2, i2, ?_⟩
  refine .con (vs := [v]) hc (GH.put_same _ _ _) (.inr ⟨_, _, _, _, rfl, g2.sub _ _ (GH.put_same _ _ _), fun i hi => ?_⟩) ?_
  · have : i = 0 := by simpa using hi
    subst this; rfl
  · rw [ha]
    exact .cons (hv.up h ((Keep.alloc none' w _).trans (Keep.alloc none' _ _)) (fun _ _ x => x) (g1.sub.trans g2.sub) (GV.sub.refl A)) .nil
theorem mk_con2 {G : GH} {A : GV} {w : World} {n : Nat} (h : TInv G A w n) {t a b : Ty} {v u : Value} (hc : t.con = true) (ha : t.args = [a, b]) (hv : TR G A w v a) (hu : TR G A w u b) :
    ∃ G', Grew G w G' ∧ TInv G' A ((w.alloc (.cells #[v, u] 126)).alloc (.cells #[.string (bs t.kind), .slice (some ⟨w.heap.size, 0, none⟩) 2 2] 147)) n ∧
      TR G' A ((w.alloc (.cells #[v, u] 126)).alloc (.cells #[.string (bs t.kind), .slice (some ⟨w.heap.size, 0, none⟩) 2 2] 147)) (conV (w.heap.size + 1)) t := by
  have e : (w.alloc (.cells #[v, u] 126)).heap.size = w.heap.size + 1 := by simp
  rw [← e]
  obtain ⟨g1, i1⟩ := h.alloc (.cells #[v, u] 126)
  obtain ⟨g2, i2⟩ := i1.alloc (.cells #[.string (bs t.kind), .slice (some ⟨w.heap.size, 0, none⟩) 2 2] 147)
  refine ⟨_, g1.trans (Keep.alloc none' w _) g2, i2, ?_⟩
  refine .con (vs := [v, u]) hc (GH.put_same _ _ _) (.inr ⟨_, _, _, _, rfl, g2.sub _ _ (GH.put_same _ _ _), fun i hi => ?_⟩) ?_
  · have : i = 0 ∨ i = 1 := by simp at hi; omega
    rcases this with rfl | rfl <;> rfl
  · rw [ha]
    have k := (Keep.alloc none' w (.cells #[v, u] 126)).trans (Keep.alloc none' _ (.cells #[.string (bs t.kind), .slice (some ⟨w.heap.size, 0, none⟩) 2 2] 147))
    exact .cons (hv.up h k (fun _ _ x => x) (g1.sub.trans g2.sub) (GV.sub.refl A)) (.cons (hu.up h k (fun _ _ x => x) (g1.sub.trans g2.sub) (GV.sub.refl A)) .nil)
theorem mk_con0 {G : GH} {A : GV} {w : World} {n : Nat} (h : TInv G A w n) {t : Ty} (hc : t.con = true) (ha : t.args = []) :
    ∃ G', Grew G w G' ∧ TInv G' A (w.alloc (.cells #[.string (bs t.kind), .slice none 0 0] 147)) n ∧ TR G' A (w.alloc (.cells #[.string (bs t.kind), .slice none 0 0] 147)) (conV w.heap.size) t := by
  obtain ⟨g1, i1⟩ := h.alloc (.cells #[.string (bs t.kind), .slice none 0 0] 147)
  refine ⟨_, g1, i1, .con (vs := []) hc (GH.put_same _ _ _) (.inl ⟨rfl, rfl⟩) ?_⟩
  rw [ha]; exact .nil

theorem of_ok (k : ByteArray) (a : Option Addr) (l c : Nat) (w : World) : Calls Tryd.prog 92 #[.string k, .slice a l c] w (fun e w' => e = .returned (conV w.heap.size) ∧ w' = w.alloc (.cells #[.string k, .slice a l c] 147)) := by
  go_enter Tryd.func92, Tryd.ntmps92
  go_wp2_with fail
  go_ret
  exact ⟨rfl, rfl⟩

def cntObj (n : Nat) : Obj := .cells #[.int .i64 n] 132
theorem new_ok {w : World} {cb n : Nat} (h : w.heap[cb]? = some (cntObj n)) (hn : n < 1000000000) :
    Calls Tryd.prog 109 #[.pointer (some ⟨cb, 0, none⟩)] w (fun e w' => e = .returned (.pointer (some ⟨w.heap.size, 0, none⟩)) ∧ w' = (w.setCell ⟨cb, 0, none⟩ (.int .i64 ((n + 1 : Nat) : Int))).alloc (varObj (n + 1) .nilIface [])) := by
  have c0 : w.cell? ⟨cb, 0, none⟩ = some (.int .i64 n) := cell_of_heap h rfl
  have f0 : ∀ i, w.frozen? ⟨cb, i, none⟩ = false := fun i => free_of_heap h
  have h1 : (w.setCell ⟨cb, 0, none⟩ (.int .i64 ((n : Int) + 1))).heap[cb]? = some (.cells #[.int .i64 ((n : Int) + 1)] 132) := heap_set_same (c := #[.int .i64 n]) h
  have c1 : (w.setCell ⟨cb, 0, none⟩ (.int .i64 ((n : Int) + 1))).cell? ⟨cb, 0, none⟩ = some (.int .i64 ((n : Int) + 1)) := cell_of_heap h1 rfl
  clear h h1
  go_enter Tryd.func109, Tryd.ntmps109
  go_wp2_with fail
  go_ret
  refine ⟨?_, ?_⟩
  · simp
  · simp [varObj, bs]
/-- A new variable. -/
theorem TInv.var {G : GH} {A : GV} {w w2 : World} {n cb : Nat} {nm : Str} (h : TInv G A w n) (k : Keep (one' cb) w w2) (hcb : G cb = none) (hv : ¬ isV A cb) (hb : w2.heap[w.heap.size]? = some (varObj (n + 1) .nilIface nm)) :
    A (n + 1) = none ∧ GrewV A w (A.put (n + 1) (w.heap.size, nm)) ∧ TInv G (A.put (n + 1) (w.heap.size, nm)) w2 (n + 1) ∧ TR G (A.put (n + 1) (w.heap.size, nm)) w2 (varV w.heap.size) (.var (n + 1)) := by
  have h0 : A (n + 1) = none := by
    cases e : A (n + 1) with
    | none => rfl
    | some x => obtain ⟨b, m⟩ := x; have := (h.vars _ _ _ e).2.1; omega
  have hoff : G.off (one' cb) := fun b o hb (e : b = cb) => by subst e; rw [hcb] at hb; cases hb
  have hvs : ∀ b, isV A b → ¬ one' cb b := fun x hx (e : x = cb) => hv (e ▸ hx)
  refine ⟨h0, ⟨GV.sub_put h0, fun N b m e => ?_⟩, ⟨h.holds.keep k hoff, fun N b m e => ?_⟩, .free (GV.put_same _ _ _) hb⟩
  · by_cases hN : N = n + 1
    · subst hN; rw [GV.put_same] at e; injection e with e; injection e with e1 e2; subst e1; exact .inr (Nat.le_refl _)
    · rw [GV.put_other _ _ hN] at e; exact .inl e
  · by_cases hN : N = n + 1
    · subst hN; rw [GV.put_same] at e; injection e with e; injection e with e1 e2; subst e1; subst e2
      exact ⟨by omega, Nat.le_refl _, h.holds.fresh (Nat.le_refl _), _, hb⟩
    · rw [GV.put_other _ _ hN] at e
      obtain ⟨x1, x2, x3, i, hi⟩ := h.vars N b m e
      exact ⟨x1, by omega, x3, i, k.get hi (hvs b ⟨N, m, e⟩)⟩
end Go.Proofs.YtabikmkoajdhmaaDoor

/- (*ast.reader).atom by a contract, given the contract of expr one step down. -/
namespace Go.Proofs.YtabikmkoajdhmaaDoor
open Go.RowKit

def ExprOk (kwf : Nat) (kw : Str → Bool) (S : ByteArray) (k : Nat) : Prop := ∀ (G : GH) (w : World) (ab rb : Nat) (l : List Tok) (r : Res (Ex × List Tok)), pExp k l = r → r ≠ none → AInv G w ab rb S kw kwf l →
  Calls Tryd.prog 68 #[.pointer (some ⟨ab, 0, none⟩)] w (ParsePost G w ab rb S kw kwf r)
def AtomOk (kwf : Nat) (kw : Str → Bool) (S : ByteArray) (k : Nat) : Prop := ∀ (G : GH) (w : World) (ab rb : Nat) (l : List Tok) (r : Res (Ex × List Tok)), pAtom k l = r → r ≠ none → AInv G w ab rb S kw kwf l →
  Calls Tryd.prog 85 #[.pointer (some ⟨ab, 0, none⟩)] w (ParsePost G w ab rb S kw kwf r)

set_option maxRecDepth 100000 in
set_option maxHeartbeats 2000000 in
theorem atom_name {kw : Str → Bool} {kwf : Nat} {S : ByteArray} (hx : Lx kw kwf S) (G : GH) (w : World) (ab rb : Nat) (l : List Tok) (hi : AInv G w ab rb S kw kwf l) (hk : (hd l).kind = .name) :
    Calls Tryd.prog 85 #[.pointer (some ⟨ab, 0, none⟩)] w (ParsePost G w ab rb S kw kwf (some (.ok (.name (hd l).pos (hd l).text, adv l)))) := by
  have c0 := hi.cell
  obtain ⟨t2, t4⟩ := hi.tok
  have q1 : ((bs (kstr (hd l).kind)).toList == [97, 32, 110, 97, 109, 101]) = true := by rw [hk]; exact (kind_is good_name good_name).trans (by simp)
  have hw : want .name l = some (.ok ((hd l).text, adv l)) := by unfold want; rw [if_pos hk]
  have HW := Lib.hid hw; have HK := Lib.hid hk; clear hw hk
  go_enter Tryd.func85, Tryd.ntmps85
  go_wp2_with fail
  refine (want_any hx .name good_name (by decide) _ rb l hi.rd).mono ?_
  rw [HW.out]
  rintro e w1 ⟨k1, rfl, r1⟩
  have i1 := hi.step k1 r1
  go_wp2_with fail
  go_ret
  obtain ⟨s2, i2⟩ := i1.alloc (.cells #[.int .i64 (hd l).pos, .string (bs (hd l).text)] 175)
  refine ⟨k1.trans (Keep.alloc _ _ _), _, _, rfl, Grew.keep k1 s2, i2, ?_⟩
  exact ExR.name (GH.put_same _ _ _)

set_option maxRecDepth 100000 in
set_option maxHeartbeats 2000000 in
theorem atom_num {kw : Str → Bool} {kwf : Nat} {S : ByteArray} (hx : Lx kw kwf S) (G : GH) (w : World) (ab rb : Nat) (l : List Tok) (hi : AInv G w ab rb S kw kwf l) (hk : (hd l).kind = .num) :
    Calls Tryd.prog 85 #[.pointer (some ⟨ab, 0, none⟩)] w (ParsePost G w ab rb S kw kwf (some (.ok (.num (hd l).text, adv l)))) := by
  have c0 := hi.cell
  obtain ⟨t2, t4⟩ := hi.tok
  have q1 : ((bs (kstr (hd l).kind)).toList == [97, 32, 110, 97, 109, 101]) = false := by rw [hk]; exact (kind_is good_num good_name).trans (by simp)
  have q2 : ((bs (kstr (hd l).kind)).toList == [97, 32, 110, 117, 109, 98, 101, 114]) = true := by rw [hk]; exact (kind_is good_num good_num).trans (by simp)
  have hw : want .num l = some (.ok ((hd l).text, adv l)) := by unfold want; rw [if_pos hk]
  have HW := Lib.hid hw; have HK := Lib.hid hk; clear hw hk
  go_enter Tryd.func85, Tryd.ntmps85
  go_wp2_with fail
  refine (want_any hx .num good_num (by decide) _ rb l hi.rd).mono ?_
  rw [HW.out]
  rintro e w1 ⟨k1, rfl, r1⟩
  have i1 := hi.step k1 r1
  go_wp2_with fail
  go_ret
  obtain ⟨s2, i2⟩ := i1.alloc (.cells #[.int .i64 (hd l).pos, .string (bs (hd l).text)] 178)
  refine ⟨k1.trans (Keep.alloc _ _ _), _, _, rfl, Grew.keep k1 s2, i2, ?_⟩
  exact ExR.num (GH.put_same _ _ _)

theorem want_yes {k : TK} {l : List Tok} (h : (hd l).kind = k) : want k l = some (.ok ((hd l).text, adv l)) := by unfold want; rw [if_pos h]
theorem want_no {k : TK} {l : List Tok} (h : ¬ (hd l).kind = k) : want k l = some (.error (hd l).pos) := by unfold want; rw [if_neg h]
theorem good_LP : goodK (.kw LP) := good_kw (sign_good 40)
theorem good_RP : goodK (.kw RP) := good_kw (sign_good 41)
theorem good_COMMA : goodK (.kw COMMA) := good_kw (sign_good 44)
theorem ne_bad {w : Str} : TK.kw w ≠ .bad := fun h => by cases h
theorem keepT {w a b : World} {rb : Nat} (h : Keep (one' rb) w a) (k : Keep (one' rb) a b) : Keep (one' rb) w b := h.trans k

set_option maxRecDepth 100000 in
set_option maxHeartbeats 4000000 in
theorem atom_paren {kw : Str → Bool} {kwf : Nat} {S : ByteArray} (hx : Lx kw kwf S) (k : Nat) (ih : ExprOk kwf kw S k) (G : GH) (w : World) (ab rb : Nat) (l : List Tok) (r : Res (Ex × List Tok)) (hr : pAtom (k + 1) l = r) (hne : r ≠ none)
    (hi : AInv G w ab rb S kw kwf l) (hn : ¬ (hd l).kind = .name) (hm : ¬ (hd l).kind = .num) :
    Calls Tryd.prog 85 #[.pointer (some ⟨ab, 0, none⟩)] w (ParsePost G w ab rb S kw kwf r) := by
  have c0 := hi.cell
  obtain ⟨t2, t4⟩ := hi.tok
  have hg := hi.good hx.good
  have q1 : ((bs (kstr (hd l).kind)).toList == [97, 32, 110, 97, 109, 101]) = false := (kind_is hg good_name).trans (by simpa using hn)
  have q2 : ((bs (kstr (hd l).kind)).toList == [97, 32, 110, 117, 109, 98, 101, 114]) = false := (kind_is hg good_num).trans (by simpa using hm)
  simp only [pAtom, if_neg hn, if_neg hm] at hr
  have IH := Lib.hid ih; have HR := Lib.hid hr; have HNE := Lib.hid hne
  clear ih hr hne hn hm hg
  go_enter Tryd.func85, Tryd.ntmps85
  go_wp2_with fail
  refine (want_any hx (.kw LP) good_LP ne_bad _ rb l hi.rd).mono ?_
  by_cases h1 : (hd l).kind = .kw LP
  · rw [want_yes h1]
    have hr := HR.out; rw [want_yes h1] at hr; clear HR
    have HR := Lib.hid hr; clear hr
    rintro e w1 ⟨k1, rfl, r1⟩
    have i1 := hi.step k1 r1
    have c1 := i1.cell
    clear h1 t2 t4 q1 q2
    go_wp2_with fail
    cases hp : pExp k (adv l) with
    | none => exact absurd (by rw [← HR.out]; simp only [Res.bind, hp]) HNE.out
    | some rr =>
      refine (IH.out G w1 ab rb (adv l) (some rr) hp (by simp) i1).mono ?_
      cases rr with
      | error p =>
        have hr : r = some (.error p) := by rw [← HR.out]; simp only [Res.bind, hp]
        clear HR
        rintro e w2 ⟨k2, rfl⟩
        go_wp2_with fail
        exact ⟨rfl, keepT k1 k2, rfl⟩
      | ok xl =>
        obtain ⟨x, l2⟩ := xl
        have hr := HR.out; simp only [Res.bind, hp] at hr; clear HR
        have HR := Lib.hid hr; have HP := Lib.hid hp; clear hr hp
        rintro e w2 ⟨k2, v, G2, rfl, s2, i2, x2⟩
        obtain ⟨Tv, bv, rfl⟩ := x2.shape
        have c2 := i2.cell
        go_wp2_with fail
        refine (take_any hx (.kw COMMA) good_COMMA ne_bad _ rb l2 i2.rd).mono ?_
        by_cases h3 : (hd l2).kind = .kw COMMA
        · rintro e w3 ⟨k3, h3'⟩
          rw [if_pos h3] at h3'
          obtain ⟨rfl, r3⟩ := h3'
          have i3 := i2.step k3 r3
          have c3 := i3.cell
          have hr := HR.out; rw [if_pos h3] at hr; clear HR
          have HR := Lib.hid hr; clear hr h3
          go_wp2_with fail
          cases hp2 : pExp k (adv l2) with
          | none => exact absurd (by rw [← HR.out]; simp only [Res.bind, hp2]) HNE.out
          | some rr =>
            refine (IH.out G2 w3 ab rb (adv l2) (some rr) hp2 (by simp) i3).mono ?_
            cases rr with
            | error p =>
              have hr : r = some (.error p) := by rw [← HR.out]; simp only [Res.bind, hp2]
              clear HR
              rintro e w4 ⟨k4, rfl⟩
              go_wp2_with fail
              exact ⟨rfl, keepT k1 (keepT k2 (keepT k3 k4)), rfl⟩
            | ok yl =>
              obtain ⟨y, l4⟩ := yl
              have hr := HR.out; simp only [Res.bind, hp2] at hr; clear HR
              have HR := Lib.hid hr; have HP2 := Lib.hid hp2; clear hr hp2
              rintro e w4 ⟨k4, u, G4, rfl, s4, i4, y4⟩
              obtain ⟨Tu, bu, rfl⟩ := y4.shape
              obtain ⟨s5, i5⟩ := i4.alloc (.cells #[.int .i64 (hd l).pos, .iface Tv (.pointer (some ⟨bv, 0, none⟩)), .iface Tu (.pointer (some ⟨bu, 0, none⟩))] 184)
              have c5 := i5.cell
              go_wp2_with fail
              refine (want_any hx (.kw RP) good_RP ne_bad _ rb l4 i5.rd).mono ?_
              by_cases h6 : (hd l4).kind = .kw RP
              · rw [want_yes h6]
                have hr := HR.out; rw [want_yes h6] at hr; simp only at hr; clear HR h6
                rintro e w6 ⟨k6, rfl, r6⟩
                have i6 := i5.step k6 r6
                go_wp2_with fail
                go_ret
                refine ⟨keepT k1 (keepT k2 (keepT k3 (keepT k4 (keepT (Keep.alloc _ _ _) k6)))), ?_⟩
                subst hr
                exact ⟨_, _, rfl, Grew.keep k1 (s2.trans k2 (Grew.keep k3 (s4.trans k4 s5))), i6, ExR.pair (GH.put_same _ _ _) ((x2.sub s4.sub).sub s5.sub) (y4.sub s5.sub)⟩
              · rw [want_no h6]
                have hr : r = some (.error (hd l4).pos) := by rw [← HR.out, want_no h6]
                clear HR h6
                rintro e w6 ⟨k6, rfl⟩
                go_wp2_with fail
                exact ⟨rfl, keepT k1 (keepT k2 (keepT k3 (keepT k4 (keepT (Keep.alloc _ _ _) k6)))), rfl⟩
        · rintro e w3 ⟨k3, h3'⟩
          rw [if_neg h3] at h3'
          obtain ⟨rfl, rfl⟩ := h3'
          have hr := HR.out; rw [if_neg h3] at hr; clear HR
          have HR := Lib.hid hr; clear hr h3
          go_wp2_with fail
          refine (want_any hx (.kw RP) good_RP ne_bad _ rb l2 i2.rd).mono ?_
          by_cases h6 : (hd l2).kind = .kw RP
          · rw [want_yes h6]
            have hr := HR.out; rw [want_yes h6] at hr; simp only at hr; clear HR h6
            rintro e w6 ⟨k6, rfl, r6⟩
            have i6 := i2.step k6 r6
            go_wp2_with fail
            go_ret
            refine ⟨keepT k1 (keepT k2 (keepT k3 k6)), ?_⟩
            subst hr
            exact ⟨_, _, rfl, Grew.keep k1 s2, i6, x2⟩
          · rw [want_no h6]
            have hr : r = some (.error (hd l2).pos) := by rw [← HR.out, want_no h6]
            clear HR h6
            rintro e w6 ⟨k6, rfl⟩
            go_wp2_with fail
            exact ⟨rfl, keepT k1 (keepT k2 (keepT k3 k6)), rfl⟩
  · rw [want_no h1]
    have hr : r = some (.error (hd l).pos) := by rw [← HR.out, want_no h1]; rfl
    clear HR h1
    rintro e w1 ⟨k1, rfl⟩
    go_wp2_with fail
    exact ⟨rfl, k1, rfl⟩
end Go.Proofs.YtabikmkoajdhmaaDoor

/- The reader of types: its plain function with a bound on the counter, its state in memory, and what changes of memory leave of it. -/
namespace Go.Proofs.YtabikmkoajdhmaaDoor
open Go.RowKit

mutual
/-- pWhole of Spec, the counter bounded. -/
def qWhole : Nat → TS → List Tok → Res (Ty × TS × List Tok)
  | 0, _, _ => none
  | k + 1, st, l => (qOne k st l).bind fun (t, st1, l1) =>
    if (hd l1).kind = .kw ARROW then (qWhole k st1 (adv l1)).bind fun (u, st2, l2) => some (.ok (.fn t u, st2, l2))
    else some (.ok (t, st1, l1))
def qOne : Nat → TS → List Tok → Res (Ty × TS × List Tok)
  | 0, _, _ => none
  | k + 1, st, l =>
    if (hd l).kind = .kw INT then some (.ok (.int, st, adv l))
    else if (hd l).kind = .kw BOOL then some (.ok (.bool, st, adv l))
    else if (hd l).kind = .kw LB then (qWhole k st (adv l)).bind fun (t, st1, l1) => (want (.kw RB) l1).bind fun (_, l2) => some (.ok (.list t, st1, l2))
    else if (hd l).kind = .kw LP then (qWhole k st (adv l)).bind fun (t, st1, l1) =>
      if (hd l1).kind = .kw COMMA then (qWhole k st1 (adv l1)).bind fun (u, st2, l2) => (want (.kw RP) l2).bind fun (_, l3) => some (.ok (.pair t u, st2, l3))
      else (want (.kw RP) l1).bind fun (_, l2) => some (.ok (t, st1, l2))
    else (want .name l).bind fun (n, l1) =>
      match st.m.lookup n with
      | some v => some (.ok (.var v, st, l1))
      | none => if st.n < 1000000000 then some (.ok (.var (st.n + 1), ⟨st.m ++ [(n, st.n + 1)], st.n + 1⟩, l1)) else none
end
/-- types.Read, from a counter on. -/
def readTy (s : Str) (n : Nat) : Option (Except Flt (Ty × TS)) :=
  if s.length > 300 then some (.error { what := 1 })
  else match (qWhole readFuel ⟨[], n⟩ (toks kindsB s 0)).bind fun (t, st, l) => (want .fin l).bind fun _ => some (.ok (t, st)) with
    | none => none
    | some (.error p) => some (.error { what := 2, pos := p })
    | some (.ok (t, st)) => if t.size > 120 then some (.error { what := 8 }) else some (.ok (t, st))

/-- The blocks of a reader of types: itself, the token reader, the map of names, the counter. -/
structure RBs where
  ab : Nat
  rb : Nat
  mb : Nat
  cb : Nat
  fr : Prop
/-- All variables stand for themselves. -/
def FreeA (A : GV) (w : World) : Prop := ∀ N b nm, A N = some (b, nm) → w.heap[b]? = some (varObj N .nilIface nm)
def S3 (x : RBs) : Nat → Prop := fun k => k = x.rb ∨ k = x.mb ∨ k = x.cb
def vptr (A : GV) (N : Nat) : Value := match A N with | some (b, _) => .pointer (some ⟨b, 0, none⟩) | none => .pointer none
theorem vptr_some {A : GV} {N b : Nat} {nm : Str} (h : A N = some (b, nm)) : vptr A N = .pointer (some ⟨b, 0, none⟩) := by simp [vptr, h]
def vents (A : GV) (m : Names) : List (Str × Value) := m.map fun p => (p.1, vptr A p.2)
theorem vents_look (A : GV) (n : Str) : ∀ m : Names, @List.lookup Str Value instBEqOfDecidableEq n (vents A m) = (m.lookup n).map (vptr A)
  | [] => rfl
  | (a, N) :: r => by
    simp only [vents, List.map_cons, List.lookup_cons]
    by_cases h : n = a
    · subst h; simp
    · have h1 : (@BEq.beq Str instBEqOfDecidableEq n a) = false := by simpa using h
      have h2 : (n == a) = false := by simpa using h
      rw [h1, h2]
      exact vents_look A n r

structure RI (x : RBs) (S : ByteArray) (kw : Str → Bool) (kwf : Nat) (G : GH) (A : GV) (w : World) (st : TS) (l : List Tok) : Prop where
  inv : TInv G A w st.n
  ar : G x.ab = some (.cells #[.pointer (some ⟨x.rb, 0, none⟩), .map (some x.mb), .pointer (some ⟨x.cb, 0, none⟩)] 203)
  g : ∀ k, S3 x k → G k = none ∧ ¬ isV A k
  ne : x.rb ≠ x.mb ∧ x.rb ≠ x.cb ∧ x.mb ≠ x.cb
  rd : Rd w x.rb S kw kwf l
  cnt : w.heap[x.cb]? = some (cntObj st.n)
  mp : w.heap[x.mb]? = some (kmap kStr (vents A st.m))
  nm : ∀ p ∈ st.m, ∃ b, A p.2 = some (b, p.1) ∧ w.heap[b]? = some (varObj p.2 .nilIface p.1)
  fr : x.fr → FreeA A w
section
variable {x : RBs} {S : ByteArray} {kw : Str → Bool} {kwf : Nat} {G : GH} {A : GV} {w w' : World} {st : TS} {l l' : List Tok}
theorem RI.off (h : RI x S kw kwf G A w st l) : G.off (S3 x) := fun b o hb hs => by rw [(h.g b hs).1] at hb; cases hb
theorem RI.vs (h : RI x S kw kwf G A w st l) : ∀ b, isV A b → ¬ S3 x b := fun b hb hs => (h.g b hs).2 hb
theorem one_S3 : ∀ i, i < w.heap.size → one' x.rb i → S3 x i := fun _ _ e => .inl e
/-- Behind a call that touched the token reader alone. -/
theorem RI.step (h : RI x S kw kwf G A w st l) (k : Keep (one' x.rb) w w') (r : Rd w' x.rb S kw kwf l') : RI x S kw kwf G A w' st l' :=
  have hoff : G.off (one' x.rb) := fun b o hb (e : b = x.rb) => h.off b o hb (.inl e)
  have hv : ∀ b, isV A b → ¬ one' x.rb b := fun b hb (e : b = x.rb) => h.vs b hb (.inl e)
  ⟨h.inv.keep k hoff hv, h.ar, h.g, h.ne, r, k.get h.cnt (fun e => h.ne.2.1 (Eq.symm e)), k.get h.mp (fun e => h.ne.1 (Eq.symm e)), fun p hp => let ⟨b, e, hb⟩ := h.nm p hp; ⟨b, e, k.get hb (hv b ⟨_, _, e⟩)⟩, fun hf N b nm e => k.get (h.fr hf N b nm e) (hv b ⟨_, _, e⟩)⟩
theorem RI.lt (h : RI x S kw kwf G A w st l) : ∀ k, S3 x k → k < w.heap.size := fun k hk => by
  rcases hk with rfl | rfl | rfl
  · exact h.rd.lt
  · exact lt_of_heap h.mp
  · exact lt_of_heap h.cnt
/-- New blocks. -/
theorem RI.up {G' : GH} (h : RI x S kw kwf G A w st l) (k : Keep none' w w') (g : Grew G w G') (i : TInv G' A w' st.n) : RI x S kw kwf G' A w' st l :=
  ⟨i, g.sub _ _ h.ar, fun b hb => ⟨g.sz (h.lt b hb) (h.g b hb).1, (h.g b hb).2⟩, h.ne, h.rd.keep k (fun x => x), k.get h.cnt (fun x => x), k.get h.mp (fun x => x), fun p hp => let ⟨b, e, hb⟩ := h.nm p hp; ⟨b, e, k.get hb (fun x => x)⟩, fun hf N b nm e => k.get (h.fr hf N b nm e) (fun x => x)⟩
theorem RI.cells (h : RI x S kw kwf G A w st l) : w.cell? ⟨x.ab, 0, none⟩ = some (.pointer (some ⟨x.rb, 0, none⟩)) ∧ w.cell? ⟨x.ab, 1, none⟩ = some (.map (some x.mb)) ∧ w.cell? ⟨x.ab, 2, none⟩ = some (.pointer (some ⟨x.cb, 0, none⟩)) :=
  ⟨cell_of_heap (h.inv.holds _ _ h.ar) rfl, cell_of_heap (h.inv.holds _ _ h.ar) rfl, cell_of_heap (h.inv.holds _ _ h.ar) rfl⟩
theorem RI.trs (h : RI x S kw kwf G A w st l) (k : Keep (S3 x) w w') {G' : GH} {A' : GV} (hG : G.sub G') (hA : A.sub A') {v : Value} {t : Ty} (r : TR G A w v t) : TR G' A' w' v t := r.up h.inv k h.vs hG hA
end
def TPost (x : RBs) (S : ByteArray) (kw : Str → Bool) (kwf : Nat) (G : GH) (A : GV) (w : World) (r : Res (Ty × TS × List Tok)) (e : Ending) (w' : World) : Prop :=
  Keep (S3 x) w w' ∧ match r with
    | some (.ok (t, st, l)) => ∃ v G' A', e = .returned v ∧ Grew G w G' ∧ GrewV A w A' ∧ RI x S kw kwf G' A' w' st l ∧ TR G' A' w' v t
    | some (.error p) => e = .panicked (stopE p)
    | none => False
def WholeOk (kwf : Nat) (kw : Str → Bool) (S : ByteArray) (k : Nat) : Prop := ∀ (x : RBs) (G : GH) (A : GV) (w : World) (st : TS) (l : List Tok) (r : Res (Ty × TS × List Tok)), qWhole k st l = r → r ≠ none → RI x S kw kwf G A w st l →
  Calls Tryd.prog 75 #[.pointer (some ⟨x.ab, 0, none⟩)] w (TPost x S kw kwf G A w r)
def OneOk (kwf : Nat) (kw : Str → Bool) (S : ByteArray) (k : Nat) : Prop := ∀ (x : RBs) (G : GH) (A : GV) (w : World) (st : TS) (l : List Tok) (r : Res (Ty × TS × List Tok)), qOne k st l = r → r ≠ none → RI x S kw kwf G A w st l →
  Calls Tryd.prog 91 #[.pointer (some ⟨x.ab, 0, none⟩)] w (TPost x S kw kwf G A w r)
theorem keepXs {x : RBs} {w a b : World} (h : Keep (S3 x) w a) (k : Keep (S3 x) a b) : Keep (S3 x) w b := h.trans k
theorem keepRs {x : RBs} {w a b : World} (h : Keep (S3 x) w a) (k : Keep (one' x.rb) a b) : Keep (S3 x) w b := h.trans (k.mono (fun _ _ e => .inl e))
theorem keep0s {x : RBs} {w a b : World} (h : Keep (S3 x) w a) (k : Keep none' a b) : Keep (S3 x) w b := h.trans k.of_none
end Go.Proofs.YtabikmkoajdhmaaDoor

/- (*ast.reader).expr by a contract: fun and let, given the contracts one step down. -/
namespace Go.Proofs.YtabikmkoajdhmaaDoor
open Go.RowKit

theorem good_FUN : goodK (.kw FUN) := good_kw (by unfold reserved; decide)
theorem good_IF : goodK (.kw IF) := good_kw (by unfold reserved; decide)
theorem good_THEN : goodK (.kw THEN) := good_kw (by unfold reserved; decide)
theorem good_ELSE : goodK (.kw ELSE) := good_kw (by unfold reserved; decide)
theorem good_LET : goodK (.kw LET) := good_kw (by unfold reserved; decide)
theorem good_REC : goodK (.kw REC) := good_kw (by unfold reserved; decide)
theorem good_AND : goodK (.kw AND) := good_kw (by unfold reserved; decide)
theorem good_IN : goodK (.kw IN) := good_kw (by unfold reserved; decide)
theorem good_EQ : goodK (.kw EQ) := good_kw (sign_good 61)
theorem good_ARROW : goodK (.kw ARROW) := good_kw (by unfold reserved; decide)

set_option maxRecDepth 100000 in
set_option maxHeartbeats 4000000 in
theorem expr_fun {kw : Str → Bool} {kwf : Nat} {S : ByteArray} (hx : Lx kw kwf S) (k : Nat) (ih : ExprOk kwf kw S k) (G : GH) (w : World) (ab rb : Nat) (l : List Tok) (r : Res (Ex × List Tok)) (hr : pExp (k + 1) l = r) (hne : r ≠ none)
    (hi : AInv G w ab rb S kw kwf l) (hk : (hd l).kind = .kw FUN) :
    Calls Tryd.prog 68 #[.pointer (some ⟨ab, 0, none⟩)] w (ParsePost G w ab rb S kw kwf r) := by
  have c0 := hi.cell
  obtain ⟨t2, t4⟩ := hi.tok
  simp only [pExp, if_pos hk] at hr
  have IH := Lib.hid ih; have HR := Lib.hid hr; have HNE := Lib.hid hne
  clear ih hr hne
  go_enter Tryd.func68, Tryd.ntmps68
  go_wp2_with fail
  refine (take_any hx (.kw FUN) good_FUN ne_bad _ rb l hi.rd).mono ?_
  rintro e w1 ⟨k1, h1⟩
  rw [if_pos hk] at h1
  obtain ⟨rfl, r1⟩ := h1
  have i1 := hi.step k1 r1
  have c1 := i1.cell
  clear t2 t4 hk
  go_wp2_with fail
  refine (want_any hx .name good_name (by decide) _ rb _ i1.rd).mono ?_
  by_cases h2 : (hd (adv l)).kind = .name
  · rw [want_yes h2]
    have hr := HR.out; rw [want_yes h2] at hr; simp only [Res.bind] at hr; clear HR h2
    have HR := Lib.hid hr; clear hr
    rintro e w2 ⟨k2, rfl, r2⟩
    have i2 := i1.step k2 r2
    have c2 := i2.cell
    go_wp2_with fail
    refine (want_any hx (.kw ARROW) good_ARROW ne_bad _ rb _ i2.rd).mono ?_
    by_cases h3 : (hd (adv (adv l))).kind = .kw ARROW
    · rw [want_yes h3]
      have hr := HR.out; rw [want_yes h3] at hr; simp only at hr; clear HR h3
      have HR := Lib.hid hr; clear hr
      rintro e w3 ⟨k3, rfl, r3⟩
      have i3 := i2.step k3 r3
      have c3 := i3.cell
      go_wp2_with fail
      cases hp : pExp k (adv (adv (adv l))) with
      | none => exact absurd (by rw [← HR.out, hp]) HNE.out
      | some rr =>
        refine (IH.out G w3 ab rb _ (some rr) hp (by simp) i3).mono ?_
        have hr := HR.out; rw [hp] at hr; clear HR
        cases rr with
        | error p =>
          simp only at hr
          rintro e w4 ⟨k4, rfl⟩
          go_wp2_with fail
          subst hr
          exact ⟨rfl, keepT k1 (keepT k2 (keepT k3 k4)), rfl⟩
        | ok xl =>
          obtain ⟨x, l4⟩ := xl
          simp only at hr
          have HR := Lib.hid hr; clear hr hp
          rintro e w4 ⟨k4, v, G4, rfl, s4, i4, x4⟩
          obtain ⟨Tv, bv, rfl⟩ := x4.shape
          obtain ⟨s5, i5⟩ := i4.alloc (.cells #[.int .i64 (hd l).pos, .string (bs (hd (adv l)).text), .iface Tv (.pointer (some ⟨bv, 0, none⟩))] 181)
          go_wp2_with fail
          go_ret
          refine ⟨keepT k1 (keepT k2 (keepT k3 (keepT k4 (Keep.alloc _ _ _)))), ?_⟩
          rw [← HR.out]
          exact ⟨_, _, rfl, Grew.keep (keepT k1 (keepT k2 k3)) (s4.trans k4 s5), i5, ExR.fn (GH.put_same _ _ _) (x4.sub s5.sub)⟩
    · rw [want_no h3]
      have hr := HR.out; rw [want_no h3] at hr; simp only at hr; clear HR h3
      rintro e w3 ⟨k3, rfl⟩
      go_wp2_with fail
      subst hr
      exact ⟨rfl, keepT k1 (keepT k2 k3), rfl⟩
  · rw [want_no h2]
    have hr := HR.out; rw [want_no h2] at hr; simp only [Res.bind] at hr; clear HR h2
    rintro e w2 ⟨k2, rfl⟩
    go_wp2_with fail
    subst hr
    exact ⟨rfl, keepT k1 k2, rfl⟩
end Go.Proofs.YtabikmkoajdhmaaDoor

/- (*types.reader).one and whole by contracts. -/
namespace Go.Proofs.YtabikmkoajdhmaaDoor
open Go.RowKit

theorem good_INT : goodK (.kw INT) := good_kw (by unfold reserved; decide)
theorem good_BOOL : goodK (.kw BOOL) := good_kw (by unfold reserved; decide)
theorem good_LB : goodK (.kw LB) := good_kw (sign_good 91)
theorem good_RB : goodK (.kw RB) := good_kw (sign_good 93)
theorem str_map : Tryd.prog.underlying 127 = some (.map 9 137) := by kernel_rfl
theorem zero_ptr : ∀ w, (zeroValue 137).run Tryd.prog w = .ok (.pointer none) w := fun w => by kernel_rfl

set_option maxRecDepth 100000 in
set_option maxHeartbeats 4000000 in
theorem whole_step {kw : Str → Bool} {kwf : Nat} {S : ByteArray} (hx : Lx kw kwf S) (k : Nat) (ihW : WholeOk kwf kw S k) (ihO : OneOk kwf kw S k) (x : RBs) (G : GH) (A : GV) (w : World) (st : TS) (l : List Tok) (r : Res (Ty × TS × List Tok)) (hr : qWhole (k + 1) st l = r) (hne : r ≠ none) (hi : RI x S kw kwf G A w st l) :
    Calls Tryd.prog 75 #[.pointer (some ⟨x.ab, 0, none⟩)] w (TPost x S kw kwf G A w r) := by
  obtain ⟨c0, _, _⟩ := hi.cells
  simp only [qWhole] at hr
  have IHW := Lib.hid ihW; have IHO := Lib.hid ihO; have HR := Lib.hid hr; have HNE := Lib.hid hne
  clear ihW ihO hr hne
  go_enter Tryd.func75, Tryd.ntmps75
  go_wp2_with fail
  cases hp : qOne k st l with
  | none => exact absurd (by rw [← HR.out]; simp only [Res.bind, hp]) HNE.out
  | some rr =>
    refine (IHO.out x G A w st l (some rr) hp (by simp) hi).mono ?_
    cases rr with
    | error p =>
      have hr : r = some (.error p) := by rw [← HR.out]; simp only [Res.bind, hp]
      clear HR
      rintro e we ⟨ke, rfl⟩
      go_wp2_with fail
      subst hr
      exact ⟨rfl, ke, rfl⟩
    | ok xl =>
      obtain ⟨t2, st2, l2⟩ := xl
      have hr := HR.out; simp only [Res.bind, hp] at hr; clear HR
      have HR := Lib.hid hr; have HP2 := Lib.hid hp; clear hr hp
      rintro e w2 ⟨k2, v2, G2, A2, rfl, g2, a2, i2, y2⟩
      obtain ⟨T2, b2, rfl⟩ := y2.iface
      obtain ⟨c2, _, _⟩ := i2.cells
      go_wp2_with fail
      refine (take_any hx (.kw ARROW) good_ARROW ne_bad _ x.rb l2 i2.rd).mono ?_
      by_cases h3 : (hd l2).kind = .kw ARROW
      · rintro e w3 ⟨k3, h3'⟩
        rw [if_pos h3] at h3'
        obtain ⟨rfl, r3⟩ := h3'
        have i3 := i2.step k3 r3
        have y3 := i2.trs (k3.mono one_S3) (GH.sub.refl _) (GV.sub.refl _) y2
        obtain ⟨c3, _, _⟩ := i3.cells
        have hr := HR.out; rw [if_pos h3] at hr; clear HR
        have HR := Lib.hid hr; clear hr h3
        go_wp2_with fail
        cases hp2 : qWhole k st2 (adv l2) with
        | none => exact absurd (by rw [← HR.out]; simp only [Res.bind, hp2]) HNE.out
        | some rr =>
          refine (IHW.out x G2 A2 w3 st2 (adv l2) (some rr) hp2 (by simp) i3).mono ?_
          cases rr with
          | error p =>
            have hr : r = some (.error p) := by rw [← HR.out]; simp only [Res.bind, hp2]
            clear HR
            rintro e we ⟨ke, rfl⟩
            go_wp2_with fail
            subst hr
            exact ⟨rfl, keepXs (keepRs k2 k3) ke, rfl⟩
          | ok xl =>
            obtain ⟨t4, st4, l4⟩ := xl
            have hr := HR.out; simp only [Res.bind, hp2] at hr; clear HR
            have HR := Lib.hid hr; have HP4 := Lib.hid hp2; clear hr hp2
            rintro e w4 ⟨k4, v4, G4, A4, rfl, g4, a4, i4, y4⟩
            obtain ⟨T4, b4, rfl⟩ := y4.iface
            obtain ⟨c4, _, _⟩ := i4.cells
            have y24 := i3.trs k4 g4.sub a4.sub y3
            obtain ⟨G5, g5, i5, y5⟩ := mk_con2 i4.inv (t := .fn t2 t4) rfl rfl y24 y4
            go_wp2_with fail
            refine (of_ok (bs sFun) _ _ _ _).mono ?_
            rintro e w5 ⟨rfl, rfl⟩
            go_wp2_with fail
            go_ret
            have hr := HR.out
            subst hr
            have k5 : Keep none' w4 ((w4.alloc (.cells #[.iface T2 (.pointer (some ⟨b2, 0, none⟩)), .iface T4 (.pointer (some ⟨b4, 0, none⟩))] 126)).alloc (.cells #[.string (bs sFun), .slice (some ⟨w4.heap.size, 0, none⟩) 2 2] 147)) := (Keep.alloc _ _ _).trans (Keep.alloc _ _ _)
            exact ⟨keep0s (keepXs (keepRs k2 k3) k4) k5, _, G5, A4, rfl, (g2.trans k2 (Grew.keep k3 g4)).trans (keepXs (keepRs k2 k3) k4) g5, a2.trans k2 (GrewV.keep k3 a4), i4.up k5 g5 i5, y5⟩

      · rintro e w3 ⟨k3, h3'⟩
        rw [if_neg h3] at h3'
        obtain ⟨rfl, rfl⟩ := h3'
        have hr := HR.out; rw [if_neg h3] at hr; clear HR
        go_wp2_with fail
        go_ret
        subst hr
        exact ⟨k2, _, G2, A2, rfl, g2, a2, i2, y2⟩

set_option maxRecDepth 100000 in
set_option maxHeartbeats 4000000 in
theorem one_int {kw : Str → Bool} {kwf : Nat} {S : ByteArray} (hx : Lx kw kwf S) (k : Nat) (x : RBs) (G : GH) (A : GV) (w : World) (st : TS) (l : List Tok) (r : Res (Ty × TS × List Tok)) (hr : qOne (k + 1) st l = r) (hne : r ≠ none) (hi : RI x S kw kwf G A w st l) (hk : (hd l).kind = .kw INT) :
    Calls Tryd.prog 91 #[.pointer (some ⟨x.ab, 0, none⟩)] w (TPost x S kw kwf G A w r) := by
  obtain ⟨c0, _, _⟩ := hi.cells
  simp only [qOne, if_pos hk] at hr
  go_enter Tryd.func91, Tryd.ntmps91
  go_wp2_with fail
  refine (take_any hx (.kw INT) good_INT ne_bad _ x.rb l hi.rd).mono ?_
  rintro e w1 ⟨k1, h1⟩
  rw [if_pos hk] at h1
  obtain ⟨rfl, r1⟩ := h1
  have i1 := hi.step k1 r1
  obtain ⟨c1, _, _⟩ := i1.cells
  clear c0
  go_wp2_with fail
  refine (of_ok (bs INT) _ _ _ _).mono ?_
  rintro e w2 ⟨rfl, rfl⟩
  go_wp2_with fail
  go_ret
  subst hr
  obtain ⟨G5, g5, i5, y5⟩ := mk_con0 i1.inv (t := .int) rfl rfl
  exact ⟨keep0s (k1.mono one_S3) (Keep.alloc _ _ _), _, G5, A, rfl, Grew.keep k1 g5, GrewV.refl A w, i1.up (Keep.alloc _ _ _) g5 i5, y5⟩

set_option maxRecDepth 100000 in
set_option maxHeartbeats 4000000 in
theorem one_bool {kw : Str → Bool} {kwf : Nat} {S : ByteArray} (hx : Lx kw kwf S) (k : Nat) (x : RBs) (G : GH) (A : GV) (w : World) (st : TS) (l : List Tok) (r : Res (Ty × TS × List Tok)) (hr : qOne (k + 1) st l = r) (hne : r ≠ none) (hi : RI x S kw kwf G A w st l) (nINT : ¬ (hd l).kind = .kw INT) (hk : (hd l).kind = .kw BOOL) :
    Calls Tryd.prog 91 #[.pointer (some ⟨x.ab, 0, none⟩)] w (TPost x S kw kwf G A w r) := by
  obtain ⟨c0, _, _⟩ := hi.cells
  simp only [qOne, if_neg nINT, if_pos hk] at hr
  go_enter Tryd.func91, Tryd.ntmps91
  go_wp2_with fail
  refine (take_any hx (.kw INT) good_INT ne_bad _ x.rb l hi.rd).mono ?_
  rintro e w1 ⟨_, h1⟩
  rw [if_neg nINT] at h1
  obtain ⟨rfl, rfl⟩ := h1
  go_wp2_with fail
  refine (take_any hx (.kw BOOL) good_BOOL ne_bad _ x.rb l hi.rd).mono ?_
  rintro e w1 ⟨k1, h1⟩
  rw [if_pos hk] at h1
  obtain ⟨rfl, r1⟩ := h1
  have i1 := hi.step k1 r1
  obtain ⟨c1, _, _⟩ := i1.cells
  clear c0
  go_wp2_with fail
  refine (of_ok (bs BOOL) _ _ _ _).mono ?_
  rintro e w2 ⟨rfl, rfl⟩
  go_wp2_with fail
  go_ret
  subst hr
  obtain ⟨G5, g5, i5, y5⟩ := mk_con0 i1.inv (t := .bool) rfl rfl
  exact ⟨keep0s (k1.mono one_S3) (Keep.alloc _ _ _), _, G5, A, rfl, Grew.keep k1 g5, GrewV.refl A w, i1.up (Keep.alloc _ _ _) g5 i5, y5⟩

set_option maxRecDepth 100000 in
set_option maxHeartbeats 4000000 in
theorem one_list {kw : Str → Bool} {kwf : Nat} {S : ByteArray} (hx : Lx kw kwf S) (k : Nat) (ihW : WholeOk kwf kw S k) (x : RBs) (G : GH) (A : GV) (w : World) (st : TS) (l : List Tok) (r : Res (Ty × TS × List Tok)) (hr : qOne (k + 1) st l = r) (hne : r ≠ none) (hi : RI x S kw kwf G A w st l) (nINT : ¬ (hd l).kind = .kw INT) (nBOOL : ¬ (hd l).kind = .kw BOOL) (hk : (hd l).kind = .kw LB) :
    Calls Tryd.prog 91 #[.pointer (some ⟨x.ab, 0, none⟩)] w (TPost x S kw kwf G A w r) := by
  obtain ⟨c0, _, _⟩ := hi.cells
  simp only [qOne, if_neg nINT, if_neg nBOOL, if_pos hk] at hr
  have IHW := Lib.hid ihW; have HR := Lib.hid hr; have HNE := Lib.hid hne
  clear ihW hr hne
  go_enter Tryd.func91, Tryd.ntmps91
  go_wp2_with fail
  refine (take_any hx (.kw INT) good_INT ne_bad _ x.rb l hi.rd).mono ?_
  rintro e w1 ⟨_, h1⟩
  rw [if_neg nINT] at h1
  obtain ⟨rfl, rfl⟩ := h1
  go_wp2_with fail
  refine (take_any hx (.kw BOOL) good_BOOL ne_bad _ x.rb l hi.rd).mono ?_
  rintro e w1 ⟨_, h1⟩
  rw [if_neg nBOOL] at h1
  obtain ⟨rfl, rfl⟩ := h1
  go_wp2_with fail
  refine (take_any hx (.kw LB) good_LB ne_bad _ x.rb l hi.rd).mono ?_
  rintro e w1 ⟨k1, h1⟩
  rw [if_pos hk] at h1
  obtain ⟨rfl, r1⟩ := h1
  have i1 := hi.step k1 r1
  obtain ⟨c1, _, _⟩ := i1.cells
  clear c0
  go_wp2_with fail
  cases hp : qWhole k st (adv l) with
  | none => exact absurd (by rw [← HR.out]; simp only [Res.bind, hp]) HNE.out
  | some rr =>
    refine (IHW.out x G A w1 st (adv l) (some rr) hp (by simp) i1).mono ?_
    cases rr with
    | error p =>
      have hr : r = some (.error p) := by rw [← HR.out]; simp only [Res.bind, hp]
      clear HR
      rintro e we ⟨ke, rfl⟩
      go_wp2_with fail
      subst hr
      exact ⟨rfl, keepXs (k1.mono one_S3) ke, rfl⟩
    | ok xl =>
      obtain ⟨t2, st2, l2⟩ := xl
      have hr := HR.out; simp only [Res.bind, hp] at hr; clear HR
      have HR := Lib.hid hr; have HP2 := Lib.hid hp; clear hr hp
      rintro e w2 ⟨k2, v2, G2, A2, rfl, g2, a2, i2, y2⟩
      obtain ⟨T2, b2, rfl⟩ := y2.iface
      obtain ⟨c2, _, _⟩ := i2.cells
      have hr := HR.out
      go_wp2_with fail
      refine (want_any hx (.kw RB) good_RB ne_bad _ x.rb l2 i2.rd).mono ?_
      by_cases h6 : (hd l2).kind = .kw RB
      · rw [want_yes h6]
        rw [want_yes h6] at hr; simp only at hr; clear HR h6
        rintro e w6 ⟨k6, rfl, r6⟩
        have i6 := i2.step k6 r6
        have y6 := i2.trs (k6.mono one_S3) (GH.sub.refl _) (GV.sub.refl _) y2
        have HR := Lib.hid hr; clear hr
        go_wp2_with fail
        refine (of_ok (bs sList) _ _ _ _).mono ?_
        rintro e w7 ⟨rfl, rfl⟩
        go_wp2_with fail
        go_ret
        have hr := HR.out
        subst hr
        obtain ⟨G5, g5, i5, y5⟩ := mk_con1 i6.inv (t := .list t2) rfl rfl y6
        have k5 : Keep none' w6 ((w6.alloc (.cells #[.iface T2 (.pointer (some ⟨b2, 0, none⟩))] 126)).alloc (.cells #[.string (bs sList), .slice (some ⟨w6.heap.size, 0, none⟩) 1 1] 147)) := (Keep.alloc _ _ _).trans (Keep.alloc _ _ _)
        exact ⟨keep0s (keepRs (keepXs (k1.mono one_S3) k2) k6) k5, _, G5, A2, rfl, (Grew.keep k1 g2).trans (keepRs (keepXs (k1.mono one_S3) k2) k6) g5, GrewV.keep k1 a2, i6.up k5 g5 i5, y5⟩
      · rw [want_no h6]
        rw [want_no h6] at hr; simp only at hr
        clear HR h6
        rintro e w6 ⟨k6, rfl⟩
        go_wp2_with fail
        subst hr
        exact ⟨rfl, keepRs (keepXs (k1.mono one_S3) k2) k6, rfl⟩

set_option maxRecDepth 100000 in
set_option maxHeartbeats 4000000 in
theorem one_paren {kw : Str → Bool} {kwf : Nat} {S : ByteArray} (hx : Lx kw kwf S) (k : Nat) (ihW : WholeOk kwf kw S k) (x : RBs) (G : GH) (A : GV) (w : World) (st : TS) (l : List Tok) (r : Res (Ty × TS × List Tok)) (hr : qOne (k + 1) st l = r) (hne : r ≠ none) (hi : RI x S kw kwf G A w st l) (nINT : ¬ (hd l).kind = .kw INT) (nBOOL : ¬ (hd l).kind = .kw BOOL) (nLB : ¬ (hd l).kind = .kw LB) (hk : (hd l).kind = .kw LP) :
    Calls Tryd.prog 91 #[.pointer (some ⟨x.ab, 0, none⟩)] w (TPost x S kw kwf G A w r) := by
  obtain ⟨c0, _, _⟩ := hi.cells
  simp only [qOne, if_neg nINT, if_neg nBOOL, if_neg nLB, if_pos hk] at hr
  have IHW := Lib.hid ihW; have HR := Lib.hid hr; have HNE := Lib.hid hne
  clear ihW hr hne
  go_enter Tryd.func91, Tryd.ntmps91
  go_wp2_with fail
  refine (take_any hx (.kw INT) good_INT ne_bad _ x.rb l hi.rd).mono ?_
  rintro e w1 ⟨_, h1⟩
  rw [if_neg nINT] at h1
  obtain ⟨rfl, rfl⟩ := h1
  go_wp2_with fail
  refine (take_any hx (.kw BOOL) good_BOOL ne_bad _ x.rb l hi.rd).mono ?_
  rintro e w1 ⟨_, h1⟩
  rw [if_neg nBOOL] at h1
  obtain ⟨rfl, rfl⟩ := h1
  go_wp2_with fail
  refine (take_any hx (.kw LB) good_LB ne_bad _ x.rb l hi.rd).mono ?_
  rintro e w1 ⟨_, h1⟩
  rw [if_neg nLB] at h1
  obtain ⟨rfl, rfl⟩ := h1
  go_wp2_with fail
  refine (take_any hx (.kw LP) good_LP ne_bad _ x.rb l hi.rd).mono ?_
  rintro e w1 ⟨k1, h1⟩
  rw [if_pos hk] at h1
  obtain ⟨rfl, r1⟩ := h1
  have i1 := hi.step k1 r1
  obtain ⟨c1, _, _⟩ := i1.cells
  clear c0
  go_wp2_with fail
  cases hp : qWhole k st (adv l) with
  | none => exact absurd (by rw [← HR.out]; simp only [Res.bind, hp]) HNE.out
  | some rr =>
    refine (IHW.out x G A w1 st (adv l) (some rr) hp (by simp) i1).mono ?_
    cases rr with
    | error p =>
      have hr : r = some (.error p) := by rw [← HR.out]; simp only [Res.bind, hp]
      clear HR
      rintro e we ⟨ke, rfl⟩
      go_wp2_with fail
      subst hr
      exact ⟨rfl, keepXs (k1.mono one_S3) ke, rfl⟩
    | ok xl =>
      obtain ⟨t2, st2, l2⟩ := xl
      have hr := HR.out; simp only [Res.bind, hp] at hr; clear HR
      have HR := Lib.hid hr; have HP2 := Lib.hid hp; clear hr hp
      rintro e w2 ⟨k2, v2, G2, A2, rfl, g2, a2, i2, y2⟩
      obtain ⟨T2, b2, rfl⟩ := y2.iface
      obtain ⟨c2, _, _⟩ := i2.cells
      go_wp2_with fail
      refine (take_any hx (.kw COMMA) good_COMMA ne_bad _ x.rb l2 i2.rd).mono ?_
      by_cases h3 : (hd l2).kind = .kw COMMA
      · rintro e w3 ⟨k3, h3'⟩
        rw [if_pos h3] at h3'
        obtain ⟨rfl, r3⟩ := h3'
        have i3 := i2.step k3 r3
        have y3 := i2.trs (k3.mono one_S3) (GH.sub.refl _) (GV.sub.refl _) y2
        obtain ⟨c3, _, _⟩ := i3.cells
        have hr := HR.out; rw [if_pos h3] at hr; clear HR
        have HR := Lib.hid hr; clear hr h3
        go_wp2_with fail
        cases hp2 : qWhole k st2 (adv l2) with
        | none => exact absurd (by rw [← HR.out]; simp only [Res.bind, hp2]) HNE.out
        | some rr =>
          refine (IHW.out x G2 A2 w3 st2 (adv l2) (some rr) hp2 (by simp) i3).mono ?_
          cases rr with
          | error p =>
            have hr : r = some (.error p) := by rw [← HR.out]; simp only [Res.bind, hp2]
            clear HR
            rintro e we ⟨ke, rfl⟩
            go_wp2_with fail
            subst hr
            exact ⟨rfl, keepXs (keepRs (keepXs (k1.mono one_S3) k2) k3) ke, rfl⟩
          | ok xl =>
            obtain ⟨t4, st4, l4⟩ := xl
            have hr := HR.out; simp only [Res.bind, hp2] at hr; clear HR
            have HR := Lib.hid hr; have HP4 := Lib.hid hp2; clear hr hp2
            rintro e w4 ⟨k4, v4, G4, A4, rfl, g4, a4, i4, y4⟩
            obtain ⟨T4, b4, rfl⟩ := y4.iface
            obtain ⟨c4, _, _⟩ := i4.cells
            have y24 := i3.trs k4 g4.sub a4.sub y3
            obtain ⟨G5, g5, i5, y5⟩ := mk_con2 i4.inv (t := .pair t2 t4) rfl rfl y24 y4
            have k5 : Keep none' w4 ((w4.alloc (.cells #[.iface T2 (.pointer (some ⟨b2, 0, none⟩)), .iface T4 (.pointer (some ⟨b4, 0, none⟩))] 126)).alloc (.cells #[.string (bs sPair), .slice (some ⟨w4.heap.size, 0, none⟩) 2 2] 147)) := (Keep.alloc _ _ _).trans (Keep.alloc _ _ _)
            have i55 := i4.up k5 g5 i5
            obtain ⟨c5, _, _⟩ := i55.cells
            go_wp2_with fail
            refine (of_ok (bs sPair) _ _ _ _).mono ?_
            rintro e w5 ⟨rfl, rfl⟩
            simp only [conV]
            have hr := HR.out
            go_wp2_with fail
            refine (want_any hx (.kw RP) good_RP ne_bad _ x.rb l4 i55.rd).mono ?_
            by_cases h6 : (hd l4).kind = .kw RP
            · rw [want_yes h6]
              rw [want_yes h6] at hr; simp only at hr; clear HR h6
              rintro e w6 ⟨k6, rfl, r6⟩
              have i6 := i55.step k6 r6
              have y6 := i55.trs (k6.mono one_S3) (GH.sub.refl _) (GV.sub.refl _) y5
              go_wp2_with fail
              go_ret
              subst hr
              exact ⟨keepRs (keep0s (keepXs (keepRs (keepXs (k1.mono one_S3) k2) k3) k4) k5) k6, _, G5, A4, rfl, ((Grew.keep k1 g2).trans (keepXs (k1.mono one_S3) k2) (Grew.keep k3 g4)).trans (keepXs (keepRs (keepXs (k1.mono one_S3) k2) k3) k4) g5, (GrewV.keep k1 a2).trans (keepXs (k1.mono one_S3) k2) (GrewV.keep k3 a4), i6, y6⟩
            · rw [want_no h6]
              rw [want_no h6] at hr; simp only at hr
              clear HR h6
              rintro e w6 ⟨k6, rfl⟩
              go_wp2_with fail
              subst hr
              exact ⟨rfl, keepRs (keep0s (keepXs (keepRs (keepXs (k1.mono one_S3) k2) k3) k4) k5) k6, rfl⟩

      · rintro e w3 ⟨k3, h3'⟩
        rw [if_neg h3] at h3'
        obtain ⟨rfl, rfl⟩ := h3'
        have hr := HR.out; rw [if_neg h3] at hr; clear HR
        go_wp2_with fail
        refine (want_any hx (.kw RP) good_RP ne_bad _ x.rb l2 i2.rd).mono ?_
        by_cases h6 : (hd l2).kind = .kw RP
        · rw [want_yes h6]
          rw [want_yes h6] at hr; simp only at hr; clear h6
          rintro e w6 ⟨k6, rfl, r6⟩
          have i6 := i2.step k6 r6
          have y6 := i2.trs (k6.mono one_S3) (GH.sub.refl _) (GV.sub.refl _) y2
          go_wp2_with fail
          go_ret
          subst hr
          exact ⟨keepRs (keepXs (k1.mono one_S3) k2) k6, _, G2, A2, rfl, Grew.keep k1 g2, GrewV.keep k1 a2, i6, y6⟩
        · rw [want_no h6]
          rw [want_no h6] at hr; simp only at hr
          clear h6
          rintro e w6 ⟨k6, rfl⟩
          go_wp2_with fail
          subst hr
          exact ⟨rfl, keepRs (keepXs (k1.mono one_S3) k2) k6, rfl⟩

theorem lookup_mem {α : Type} {n : Str} {v : α} : ∀ {m : List (Str × α)}, m.lookup n = some v → (n, v) ∈ m
  | (a, u) :: r, h => by
    rw [List.lookup_cons] at h
    cases e : n == a with
    | true =>
      rw [e] at h; simp only [if_true] at h
      injection h with h
      have := eq_of_beq e
      subst this; subst h
      simp
    | false =>
      rw [e] at h
      exact List.mem_cons_of_mem _ (lookup_mem (m := r) (by simpa using h))

set_option maxRecDepth 100000 in
set_option maxHeartbeats 4000000 in
theorem one_name {kw : Str → Bool} {kwf : Nat} {S : ByteArray} (hx : Lx kw kwf S) (k : Nat) (x : RBs) (G : GH) (A : GV) (w : World) (st : TS) (l : List Tok) (r : Res (Ty × TS × List Tok)) (hr : qOne (k + 1) st l = r) (hne : r ≠ none) (hi : RI x S kw kwf G A w st l) (nINT : ¬ (hd l).kind = .kw INT) (nBOOL : ¬ (hd l).kind = .kw BOOL) (nLB : ¬ (hd l).kind = .kw LB) (nLP : ¬ (hd l).kind = .kw LP) :
    Calls Tryd.prog 91 #[.pointer (some ⟨x.ab, 0, none⟩)] w (TPost x S kw kwf G A w r) := by
  obtain ⟨c0, _, _⟩ := hi.cells
  simp only [qOne, if_neg nINT, if_neg nBOOL, if_neg nLB, if_neg nLP] at hr
  have HR := Lib.hid hr; have HNE := Lib.hid hne
  clear hr hne
  go_enter Tryd.func91, Tryd.ntmps91
  go_wp2_with fail
  refine (take_any hx (.kw INT) good_INT ne_bad _ x.rb l hi.rd).mono ?_
  rintro e w1 ⟨_, h1⟩
  rw [if_neg nINT] at h1
  obtain ⟨rfl, rfl⟩ := h1
  go_wp2_with fail
  refine (take_any hx (.kw BOOL) good_BOOL ne_bad _ x.rb l hi.rd).mono ?_
  rintro e w1 ⟨_, h1⟩
  rw [if_neg nBOOL] at h1
  obtain ⟨rfl, rfl⟩ := h1
  go_wp2_with fail
  refine (take_any hx (.kw LB) good_LB ne_bad _ x.rb l hi.rd).mono ?_
  rintro e w1 ⟨_, h1⟩
  rw [if_neg nLB] at h1
  obtain ⟨rfl, rfl⟩ := h1
  go_wp2_with fail
  refine (take_any hx (.kw LP) good_LP ne_bad _ x.rb l hi.rd).mono ?_
  rintro e w1 ⟨_, h1⟩
  rw [if_neg nLP] at h1
  obtain ⟨rfl, rfl⟩ := h1
  go_wp2_with fail
  refine (want_any hx .name good_name (by decide) _ x.rb l hi.rd).mono ?_
  by_cases h1 : (hd l).kind = .name
  · rw [want_yes h1]
    have hr := HR.out; rw [want_yes h1] at hr; simp only [Res.bind] at hr; clear HR h1
    rintro e w1 ⟨k1, rfl, r1⟩
    have i1 := hi.step k1 r1
    obtain ⟨c1, c2, c3⟩ := i1.cells
    clear c0
    cases hl : st.m.lookup (hd l).text with
    | some N =>
      rw [hl] at hr; simp only at hr
      obtain ⟨b, hA, hb⟩ := i1.nm _ (lookup_mem hl)
      have lk := run_look_some (P := Tryd.prog) str_map key_str (k := (hd l).text) (v := .pointer (some ⟨b, 0, none⟩)) i1.mp (by rw [vents_look, hl]; simp [vptr_some hA]) false
      simp only [Bool.false_eq_true, if_false] at lk
      unfold kStr at lk
      have HR := Lib.hid hr; have HL := Lib.hid hl; clear hr hl
      go_wp2_with fail
      go_ret
      have hr := HR.out
      subst hr
      exact ⟨k1.mono one_S3, _, G, A, rfl, Grew.refl G w, GrewV.refl A w, i1, .free hA hb⟩
    | none =>
      rw [hl] at hr; simp only at hr
      have hn : st.n < 1000000000 := by
        rcases Nat.lt_or_ge st.n 1000000000 with h | h
        · exact h
        · rw [if_neg (by omega)] at hr; exact absurd hr.symm HNE.out
      rw [if_pos hn] at hr
      have lk := run_look_none (P := Tryd.prog) str_map key_str zero_ptr (k := (hd l).text) i1.mp (by rw [vents_look, hl]; rfl) false
      simp only [Bool.false_eq_true, if_false] at lk
      unfold kStr at lk
      have HR := Lib.hid hr; have HL := Lib.hid hl; clear hr hl
      go_wp2_with fail
      refine (new_ok i1.cnt hn).mono ?_
      rintro e w3 ⟨rfl, hw3⟩
      have e3 : w3.heap[w1.heap.size]? = some (varObj (st.n + 1) .nilIface []) := by
        rw [hw3]
        have : (w1.setCell ⟨x.cb, 0, none⟩ (.int .i64 ((st.n + 1 : Nat) : Int))).heap.size = w1.heap.size := World.size_setCell _ _ _
        rw [← this]; exact heap_new _ _
      have kc : Keep (one' x.cb) w1 w3 := by rw [hw3]; exact (Keep.setCell (S := one' x.cb) w1 (p := ⟨x.cb, 0, none⟩) _ (fun _ => rfl)).trans (Keep.alloc _ _ _)
      have cnt3 : w3.heap[x.cb]? = some (cntObj (st.n + 1)) := by
        rw [hw3]; exact heap_old (heap_set_same (c := #[.int .i64 st.n]) i1.cnt)
      have f3 : ∀ i, w3.frozen? ⟨w1.heap.size, i, none⟩ = false := fun i => free_of_heap e3
      have g3 : w3.cell? ⟨w1.heap.size, 2, none⟩ = some (.string (bs [])) := cell_of_heap e3 rfl
      obtain ⟨w4, hw4⟩ : ∃ w4, w4 = w3.setCell ⟨w1.heap.size, 2, none⟩ (.string (bs (hd l).text)) := ⟨_, rfl⟩
      have e4 : w4.heap[w1.heap.size]? = some (varObj (st.n + 1) .nilIface (hd l).text) := by
        rw [hw4]; exact heap_set_same (c := #[.int .i64 ((st.n + 1 : Nat) : Int), .nilIface, .string (bs [])]) e3
      have k4 : Keep (one' x.cb) w1 w4 := by
        rw [hw4]
        exact kc.trans' (Keep.setCell (S := one' w1.heap.size) _ _ (fun _ => rfl)) (fun _ _ e => e) (fun i hi (e : i = w1.heap.size) => absurd hi (by omega))
      have cnt4 : w4.heap[x.cb]? = some (cntObj (st.n + 1)) := by
        have := i1.lt x.cb (.inr (.inr rfl))
        rw [hw4]; exact heap_set_other cnt3 (show x.cb ≠ w1.heap.size by omega)
      have hcg := i1.g x.cb (.inr (.inr rfl))
      obtain ⟨h0, a4, i4, y4⟩ := i1.inv.var k4 hcg.1 hcg.2 e4
      have mp4 : w4.heap[x.mb]? = some (kmap kStr (vents A st.m)) := k4.get i1.mp i1.ne.2.2
      have d1 : w4.cell? ⟨x.ab, 1, none⟩ = some (.map (some x.mb)) := cell_of_heap (i4.holds _ _ i1.ar) rfl
      have up := run_upd_new (P := Tryd.prog) str_map key_str (k := (hd l).text) (v := .pointer (some ⟨w1.heap.size, 0, none⟩)) mp4 (by rw [vents_look, HL.out]; rfl)
      obtain ⟨w5, hw5⟩ : ∃ w5, w5 = World.lay w4 x.mb (kmap kStr (vents A st.m ++ [((hd l).text, .pointer (some ⟨w1.heap.size, 0, none⟩))])) := ⟨_, rfl⟩
      rw [← hw5] at up
      unfold kStr at up
      have k5 : Keep (one' x.mb) w4 w5 := by rw [hw5]; exact lay_keep _ _ _
      have mp5 : w5.heap[x.mb]? = some (kmap kStr (vents A st.m ++ [((hd l).text, .pointer (some ⟨w1.heap.size, 0, none⟩))])) := by rw [hw5]; exact lay_same (lt_of_heap mp4)
      have hmg := i1.g x.mb (.inr (.inl rfl))
      have hvm : ∀ b, isV (A.put (st.n + 1) (w1.heap.size, (hd l).text)) b → ¬ one' x.mb b := fun b hb (e : b = x.mb) => a4.isV (i1.lt x.mb (.inr (.inl rfl))) hmg.2 (e ▸ hb)
      have hgm : G.off (one' x.mb) := fun b o hb (e : b = x.mb) => by subst e; rw [hmg.1] at hb; cases hb
      have i5 := i4.keep k5 hgm hvm
      have y5 := y4.keep i4 k5 hvm
      have d2 : w5.cell? ⟨x.ab, 1, none⟩ = some (.map (some x.mb)) := cell_of_heap (i5.holds _ _ i1.ar) rfl
      have ev : vents (A.put (st.n + 1) (w1.heap.size, (hd l).text)) (st.m ++ [((hd l).text, st.n + 1)]) = vents A st.m ++ [((hd l).text, .pointer (some ⟨w1.heap.size, 0, none⟩))] := by
        unfold vents
        rw [List.map_append]
        congr 1
        · refine List.map_congr_left (fun p hp => ?_)
          obtain ⟨b, hb, _⟩ := i1.nm p hp
          rw [vptr_some hb, vptr_some (a4.sub _ _ hb)]
        · simp [vptr_some (GV.put_same A (st.n + 1) (w1.heap.size, (hd l).text))]
      have lk5 := run_look_some (P := Tryd.prog) str_map key_str (k := (hd l).text) (v := .pointer (some ⟨w1.heap.size, 0, none⟩)) mp5 (by
        rw [← ev, vents_look, List.lookup_append, HL.out]
        simp [vptr_some (GV.put_same A (st.n + 1) (w1.heap.size, (hd l).text))]) false
      simp only [Bool.false_eq_true, if_false] at lk5
      unfold kStr at lk5
      have hvc : ∀ b, b < w1.heap.size → S3 x b → ¬ isV (A.put (st.n + 1) (w1.heap.size, (hd l).text)) b := fun b hb hs => a4.isV hb (i1.g b hs).2
      have RIF : RI x S kw kwf G (A.put (st.n + 1) (w1.heap.size, (hd l).text)) w5 ⟨st.m ++ [((hd l).text, st.n + 1)], st.n + 1⟩ (adv l) := by
        refine ⟨i5, i1.ar, fun b hs => ⟨(i1.g b hs).1, hvc b (i1.lt b hs) hs⟩, i1.ne, ?_, k5.get cnt4 (fun e => i1.ne.2.2 (Eq.symm e)), by rw [ev]; exact mp5, fun p hp => ?_, fun hf N b nm e => ?_⟩
        · exact (i1.rd.keep k4 i1.ne.2.1).keep k5 i1.ne.1
        · rcases List.mem_append.1 hp with hp | hp
          · obtain ⟨b, hb, hh⟩ := i1.nm p hp
            have hbs : b ≠ x.cb := fun e => hcg.2 (e ▸ ⟨_, _, hb⟩)
            exact ⟨b, a4.sub _ _ hb, k5.get (k4.get hh hbs) (hvm b ⟨_, _, a4.sub _ _ hb⟩)⟩
          · simp only [List.mem_singleton] at hp
            subst hp
            exact ⟨_, GV.put_same _ _ _, k5.get e4 (hvm _ ⟨_, _, GV.put_same _ _ _⟩)⟩
        · by_cases hN : N = st.n + 1
          · subst hN; rw [GV.put_same] at e; injection e with e; injection e with e1 e2; subst e1; subst e2
            exact k5.get e4 (hvm _ ⟨_, _, GV.put_same _ _ _⟩)
          · have e' := e
            rw [GV.put_other _ _ hN] at e'
            exact k5.get (k4.get (i1.fr hf N b nm e') (fun h => hcg.2 (show isV A x.cb from (show b = x.cb from h) ▸ ⟨_, _, e'⟩))) (hvm b ⟨_, _, e⟩)
      have HF := Lib.hid RIF; have HY := Lib.hid y5; have HA4 := Lib.hid a4
      have HK : Hid (Keep (S3 x) w w5) := Lib.hid (((k1.mono one_S3).trans (k4.mono (fun _ _ e => .inr (.inr e)))).trans (k5.mono (fun _ _ e => .inr (.inl e))))
      have d3 : w3.cell? ⟨x.ab, 1, none⟩ = some (.map (some x.mb)) := by
        have := kc.cell_some c2 (show ¬ one' x.cb x.ab from fun e => by have h := i1.ar; rw [show x.ab = x.cb from e, hcg.1] at h; cases h)
        exact this
      clear RIF y5 a4 i5 i4 y4 mp4 mp5 ev hvm hgm hmg hcg k4 k5 cnt3 cnt4 e3 e4 kc lk h0 hvc hw5
      have HW3 := Lib.hid hw3; clear hw3
      rw [hw4] at up d1
      clear hw4
      go_wp2_with fail
      go_ret
      have hr := HR.out
      subst hr
      exact ⟨HK.out, _, G, _, rfl, Grew.refl G w, GrewV.keep k1 HA4.out, HF.out, HY.out⟩
  · rw [want_no h1]
    have hr := HR.out; rw [want_no h1] at hr; simp only [Res.bind] at hr; clear HR h1
    rintro e w1 ⟨k1, rfl⟩
    go_wp2_with fail
    subst hr
    exact ⟨rfl, k1.mono one_S3, rfl⟩

theorem types_ok {kw : Str → Bool} {kwf : Nat} {S : ByteArray} (hx : Lx kw kwf S) : ∀ k, WholeOk kwf kw S k ∧ OneOk kwf kw S k
  | 0 => ⟨fun x G A w st l r hr hne _ => absurd (by rw [← hr]; rfl) hne, fun x G A w st l r hr hne _ => absurd (by rw [← hr]; rfl) hne⟩
  | k + 1 => by
    obtain ⟨hW, hO⟩ := types_ok hx k
    refine ⟨fun x G A w st l r hr hne hi => whole_step hx k hW hO x G A w st l r hr hne hi, fun x G A w st l r hr hne hi => ?_⟩
    by_cases h1 : (hd l).kind = .kw INT
    · exact one_int hx k x G A w st l r hr hne hi h1
    · by_cases h2 : (hd l).kind = .kw BOOL
      · exact one_bool hx k x G A w st l r hr hne hi h1 h2
      · by_cases h3 : (hd l).kind = .kw LB
        · exact one_list hx k hW x G A w st l r hr hne hi h1 h2 h3
        · by_cases h4 : (hd l).kind = .kw LP
          · exact one_paren hx k hW x G A w st l r hr hne hi h1 h2 h3 h4
          · exact one_name hx k x G A w st l r hr hne hi h1 h2 h3 h4

end Go.Proofs.YtabikmkoajdhmaaDoor
