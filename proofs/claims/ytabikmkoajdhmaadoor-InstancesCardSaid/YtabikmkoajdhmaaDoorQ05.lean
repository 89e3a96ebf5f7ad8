/- The eight sentinel errors as they lie in memory: words and plain lemmas. -/
import Derived.Test.YtabikmkoajdhmaaDoorQ03
import Derived.Test.YtabikmkoajdhmaaDoorQ04
import Derived.Test.YtabikmkoajdhmaaDoorQ22
import Derived.Lib.Hide
import Derived.WideLaws
import Derived.LaidEql
import Derived.WalkLawsBesides
import Derived.WalkSpells
import Derived.BigQuiet
import Derived.Outline
import Derived.Carry
import Derived.Laws.IdiomRangeMap
import Derived.Deep.LoopGhost
set_option linter.unusedVariables false
set_option linter.unusedSimpArgs false
namespace Go.Proofs.YtabikmkoajdhmaaDoor
open Go.RowKit

theorem ErrTypeLaid.keep {S : Nat → Prop} {w w' : World} (h : ErrTypeLaid w) (k : Keep S w w') (hs : ¬ S 10) : ErrTypeLaid w' := let ⟨T, f, h⟩ := h; ⟨T, f, k.get h hs⟩
theorem asBase_keep (S : Nat → Prop) (TT : TypeId) (t : Addr) (w : World) : Keep S w (asBase TT t w) :=
  ((Keep.alloc S w _).trans' (Keep.alloc S _ _) (fun _ _ x => x) (fun _ _ x => x)).trans' (Keep.alloc S _ _) (fun _ _ x => x) (fun _ _ x => x)

/-- The eight sentinels' variables, and the numbers by which plain tells them. -/
def gno : Nat → Nat
  | 0 => 0 | 1 => 1 | 2 => 2 | 3 => 3 | 4 => 4 | 5 => 5 | 6 => 6 | _ => 7
def kno : Nat → Int
  | 0 => 1 | 1 => 3 | 2 => 6 | 3 => 7 | 4 => 8 | 5 => 9 | 6 => 10 | _ => 11
/-- The sentinel number j, as a value of type error. -/
def sen (p : Nat → Addr) (j : Nat) : Value := .iface 264 (.pointer (some (p j)))
structure Sents (p : Nat → Addr) (w : World) : Prop where
  glob : ∀ j, j < 8 → w.cell? ⟨gno j, 0, none⟩ = some (sen p j)
  blk : ∀ j, j < 8 → ∃ c T, w.heap[(p j).block]? = some (.cells c T (0, 0))
  inj : ∀ i j, i < 8 → j < 8 → i ≠ j → p i ≠ p j
  et : ErrTypeLaid w
/-- What a change may touch and leave the sentinels alone. -/
def Sents.off (p : Nat → Addr) (S : Nat → Prop) : Prop := (∀ j, j < 8 → ¬ S (gno j) ∧ ¬ S (p j).block) ∧ ¬ S 10
theorem Sents.keep {p : Nat → Addr} {S : Nat → Prop} {w w' : World} (h : Sents p w) (k : Keep S w w') (hs : Sents.off p S) : Sents p w' :=
  ⟨fun j hj => k.cell_some (h.glob j hj) (hs.1 j hj).1, fun j hj => let ⟨c, T, hc⟩ := h.blk j hj; ⟨c, T, k.get hc (hs.1 j hj).2⟩, h.inj, h.et.keep k hs.2⟩
theorem Sents.keep0 {p : Nat → Addr} {w w' : World} (h : Sents p w) (k : Keep none' w w') : Sents p w' := h.keep k ⟨fun _ _ => ⟨fun x => x, fun x => x⟩, fun x => x⟩

def faultV (what at' : Int) (s : ByteArray) (inner innerAt : Int) : Value := .agg #[.int .i64 what, .int .i64 at', .string s, .int .i64 inner, .int .i64 innerAt]

theorem keep3 {a b : World} (T : TypeId) (t : Addr) (h : b = asBase T t a) : Keep none' a b := by subst h; exact asBase_keep _ _ _ _

end Go.Proofs.YtabikmkoajdhmaaDoor

/- Error values in memory, as the plain 'Flt' tells them. -/
namespace Go.Proofs.YtabikmkoajdhmaaDoor
open Go.RowKit

inductive ErrR (G : GH) (p : Nat → Addr) : Value → Flt → Prop
  | sen {j : Nat} : j < 8 → ErrR G p (sen p j) { what := kno j }
  | syn {b pos : Nat} : G b = some (.cells #[.int .i64 pos] 60) → ErrR G p (.iface 58 (.pointer (some ⟨b, 0, none⟩))) { what := 2, pos := pos }
  | unb {b pos : Nat} {n : Str} : G b = some (.cells #[.int .i64 pos, .string (bs n)] 118) → ErrR G p (.iface 113 (.pointer (some ⟨b, 0, none⟩))) { what := 4, pos := pos, s := n }
  | env0 {b : Nat} {n : Str} : G b = some (.cells #[.string (bs n), .nilIface] 56) → ErrR G p (.iface 54 (.pointer (some ⟨b, 0, none⟩))) { what := 5, s := n }
  | env {b : Nat} {n : Str} {v : Value} {f : Flt} : G b = some (.cells #[.string (bs n), v] 56) → ErrR G p v f → (f.what = 2 ∨ f.what = 1 ∨ f.what = 8) → ErrR G p (.iface 54 (.pointer (some ⟨b, 0, none⟩))) { what := 5, s := n, inner := f.what, innerAt := f.pos }
theorem ErrR.sub {G G' : GH} {p : Nat → Addr} (hs : G.sub G') : ∀ {v : Value} {f : Flt}, ErrR G p v f → ErrR G' p v f
  | _, _, .sen h => .sen h
  | _, _, .syn h => .syn (hs _ _ h)
  | _, _, .unb h => .unb (hs _ _ h)
  | _, _, .env0 h => .env0 (hs _ _ h)
  | _, _, .env h e f => .env (hs _ _ h) (e.sub hs) f
end Go.Proofs.YtabikmkoajdhmaaDoor

/- plain.fault by a contract for each make of error that the program hands out: nil, a sentinel, *SyntaxError, *UnboundError, *EnvError (with what it unwraps to). -/
namespace Go.Proofs.YtabikmkoajdhmaaDoor
open Go.RowKit

/-- The map literal's entries. -/
def ents (p : Nat → Addr) : Array MapEntry := #[⟨.int .i64 1, sen p 0, 0⟩, ⟨.int .i64 3, sen p 1, 1⟩, ⟨.int .i64 6, sen p 2, 2⟩, ⟨.int .i64 7, sen p 3, 3⟩, ⟨.int .i64 8, sen p 4, 4⟩, ⟨.int .i64 9, sen p 5, 5⟩, ⟨.int .i64 10, sen p 6, 6⟩, ⟨.int .i64 11, sen p 7, 7⟩]
theorem ents_mem (p : Nat → Addr) (e : MapEntry) (h : e ∈ (ents p).toList) : ∃ j, j < 8 ∧ e = ⟨.int .i64 (kno j), sen p j, j⟩ := by
  simp only [ents, List.mem_cons, List.not_mem_nil, or_false] at h
  rcases h with h | h | h | h | h | h | h | h
  · exact ⟨0, by omega, h⟩
  · exact ⟨1, by omega, h⟩
  · exact ⟨2, by omega, h⟩
  · exact ⟨3, by omega, h⟩
  · exact ⟨4, by omega, h⟩
  · exact ⟨5, by omega, h⟩
  · exact ⟨6, by omega, h⟩
  · exact ⟨7, by omega, h⟩
theorem ents_get (p : Nat → Addr) (j : Nat) (h : j < 8) : (⟨.int .i64 (kno j), sen p j, j⟩ : MapEntry) ∈ (ents p).toList := by
  obtain rfl | rfl | rfl | rfl | rfl | rfl | rfl | rfl : j = 0 ∨ j = 1 ∨ j = 2 ∨ j = 3 ∨ j = 4 ∨ j = 5 ∨ j = 6 ∨ j = 7 := by omega
  all_goals simp [ents, kno]
theorem ents_born (p : Nat → Addr) : ∀ x ∈ (ents p).toList, x.born < 8 := fun x hx => by
  obtain ⟨j, hj, rfl⟩ := ents_mem p x hx
  exact hj
theorem ents_nodup (p : Nat → Addr) : ((ents p).toList.map (·.born)).Nodup := by simp [ents]

theorem left_of (p : Nat → Addr) (i : Nat) (hi : i < 8) (seen : Array Nat) (h : seen.contains i = false) : (leftOf (ents p) seen).size ≠ 0 := by
  intro h0
  have := all_seen (ents p) seen h0 _ (ents_get p i hi)
  simp only at this
  rw [h] at this
  cases this

set_option maxHeartbeats 1000000 in
theorem fault_nil (w : World) : Calls Tryd.prog 22 #[.nilIface] w fun e w' => e = .returned (faultV 0 0 (bs []) 0 0) ∧ Keep none' w w' := by
  go_enter Tryd.func22, Tryd.ntmps22
  go_wp2_with (go_at_call 20; refine (as_nil _ _).mono ?_; rintro e w' ⟨rfl, rfl⟩)
  refine bodyPost_ret (v := faultV 0 0 (bs []) 0 0) (by simp [results, Tryd.results22, go_sem, faultV, bs]) rfl ⟨rfl, ?_⟩
  exact (((Keep.alloc _ _ _).trans (Keep.alloc _ _ _)).trans (Keep.alloc _ _ _)).trans (Keep.alloc _ _ _)


def FaultPost (w : World) (f : Flt) (e : Ending) (w' : World) : Prop := e = .returned (faultV f.what f.pos (bs f.s) f.inner f.innerAt) ∧ Keep none' w w'
def fz : Array Value := #[.int .i64 0, .int .i64 0, .string ⟨#[]⟩, .int .i64 0, .int .i64 0]
/-- The four variables of plain.fault. -/
def W4 (w : World) : World := (((w.alloc (.cells fz 28)).alloc (.cells #[.pointer none] 58)).alloc (.cells #[.pointer none] 113)).alloc (.cells #[.pointer none] 54)
theorem W4_size (w : World) : (W4 w).heap.size = w.heap.size + 4 := by simp [W4]
theorem W4_keep (w : World) : Keep none' w (W4 w) := (((Keep.alloc _ _ _).trans (Keep.alloc _ _ _)).trans (Keep.alloc _ _ _)).trans (Keep.alloc _ _ _)
theorem heap_next {w a : World} {o : Obj} {n : Nat} (h : a.heap.size = n) : (a.alloc o).heap[n]? = some o := by subst h; exact heap_new a o
theorem W4_0 (w : World) : (W4 w).heap[w.heap.size]? = some (.cells fz 28) := heap_old (heap_old (heap_old (heap_new _ _)))
theorem W4_1 (w : World) : (W4 w).heap[w.heap.size + 1]? = some (.cells #[.pointer none] 58) := heap_old (heap_old (heap_next (w := w) (by simp)))
theorem W4_2 (w : World) : (W4 w).heap[w.heap.size + 2]? = some (.cells #[.pointer none] 113) := heap_old (heap_next (w := w) (by simp))
theorem W4_3 (w : World) : (W4 w).heap[w.heap.size + 3]? = some (.cells #[.pointer none] 54) := heap_next (w := w) (by simp)
/-- Where errors.As has hit. -/
theorem hit_keep {a b : World} {TT T : TypeId} {t e : Nat} {old : Value} (h : b = ((asBase TT ⟨t, 0, none⟩ a).alloc (.cells #[.pointer (some ⟨e, 0, none⟩)] T)).setCell ⟨t, 0, none⟩ (.pointer (some ⟨e, 0, none⟩))) (ht : a.heap[t]? = some (.cells #[old] T)) :
    Keep (one' t) a b ∧ b.heap[t]? = some (.cells #[.pointer (some ⟨e, 0, none⟩)] T) := by
  subst h
  have k : Keep none' a ((asBase TT ⟨t, 0, none⟩ a).alloc (.cells #[.pointer (some ⟨e, 0, none⟩)] T)) := (asBase_keep _ _ _ _).trans (Keep.alloc _ _ _)
  exact ⟨k.of_none.trans (Keep.setCell _ _ (fun _ => rfl)), heap_set_same (c := #[old]) (k.get ht (fun x => x))⟩
theorem keepY {w a b : World} {x : Nat} (k : Keep none' w a) (h : Keep (one' x) a b) (hx : w.heap.size ≤ x) : Keep none' w b :=
  k.trans' h (fun _ _ x => x) (fun i hi (e : i = x) => by omega)

/-- The answer's five cells. -/
theorem fz_cells {a : World} {x : Nat} (h : a.heap[x]? = some (.cells fz 28)) : (∀ i v, fz[i]? = some v → a.cell? ⟨x, i, none⟩ = some v) ∧ ∀ i, a.frozen? ⟨x, i, none⟩ = false :=
  ⟨fun i v hv => cell_of_heap h hv, fun i => free_of_heap h⟩
theorem keep5 {w a : World} {x : Nat} (k : Keep none' w a) (hx : w.heap.size ≤ x) (u0 u1 u2 u3 u4 : Value) : Keep none' w (((((a.setCell ⟨x, 0, none⟩ u0).setCell ⟨x, 1, none⟩ u1).setCell ⟨x, 2, none⟩ u2).setCell ⟨x, 3, none⟩ u3).setCell ⟨x, 4, none⟩ u4) :=
  keepY (keepY (keepY (keepY (keepY k (Keep.setCell _ _ (fun _ => rfl)) hx) (Keep.setCell _ _ (fun _ => rfl)) hx) (Keep.setCell _ _ (fun _ => rfl)) hx) (Keep.setCell _ _ (fun _ => rfl)) hx) (Keep.setCell _ _ (fun _ => rfl)) hx
set_option maxRecDepth 100000 in
set_option maxHeartbeats 2000000 in
theorem fault_syn (w : World) (b pos : Nat) (T : TypeId) (hb : w.heap[b]? = some (.cells #[.int .i64 pos] T)) (hg : ErrTypeLaid w) : Calls Tryd.prog 22 #[.iface 58 (.pointer (some ⟨b, 0, none⟩))] w (FaultPost w { what := 2, pos := pos }) := by
  have hsz := W4_size w; have k0 := W4_keep w; have z0 := W4_0 w; have z1 := W4_1 w
  have HZ := Lib.hid hsz; clear hsz
  go_enter Tryd.func22, Tryd.ntmps22
  go_wp2_with fail
  refine (as_missSN ⟨b, 0, none⟩ ⟨w.heap.size + 3, 0, none⟩ (W4 w) (hg.keep k0 (fun x => x))).mono ?_
  rintro e w1 ⟨rfl, hw⟩
  have k1 := keep3 _ _ hw
  have K1 := k0.trans k1
  have y0 := k1.get z0 (fun x => x); have y1 := k1.get z1 (fun x => x)
  clear hw k1 z0 z1 k0
  go_wp2_with fail
  refine (as_hitS ⟨b, 0, none⟩ ⟨w.heap.size + 1, 0, none⟩ (.pointer none) w1 (hg.keep K1 (fun x => x)) (cell_of_heap y1 rfl) (free_of_heap y1)).mono ?_
  rintro e w2 ⟨rfl, hw⟩
  obtain ⟨k2, x1⟩ := hit_keep hw y1
  have x0 := k2.get y0 (by simp [one'])
  have K2 := keepY K1 k2 (by omega)
  have hb2 := K2.get hb (fun x => x)
  clear hw k2 y0 y1 K1
  have c1 : w2.cell? ⟨w.heap.size + 1, 0, none⟩ = some (.pointer (some ⟨b, 0, none⟩)) := cell_of_heap x1 rfl
  have cb : w2.cell? ⟨b, 0, none⟩ = some (.int .i64 pos) := cell_of_heap hb2 rfl
  have d0 : w2.cell? ⟨w.heap.size, 0, none⟩ = some (.int .i64 0) := cell_of_heap x0 rfl
  have d1 : w2.cell? ⟨w.heap.size, 1, none⟩ = some (.int .i64 0) := cell_of_heap x0 rfl
  have d2 : w2.cell? ⟨w.heap.size, 2, none⟩ = some (.string ⟨#[]⟩) := cell_of_heap x0 rfl
  have d3 : w2.cell? ⟨w.heap.size, 3, none⟩ = some (.int .i64 0) := cell_of_heap x0 rfl
  have d4 : w2.cell? ⟨w.heap.size, 4, none⟩ = some (.int .i64 0) := cell_of_heap x0 rfl
  have f0 : ∀ i, w2.frozen? ⟨w.heap.size, i, none⟩ = false := fun i => free_of_heap x0
  have KP := Lib.hid (fun u0 u1 u2 u3 u4 => keep5 K2 (Nat.le_refl _) u0 u1 u2 u3 u4)
  clear x0 x1 hb2 K2 hb
  go_wp2_with fail
  refine bodyPost_ret (v := faultV 2 pos (bs []) 0 0) (by simp [results, Tryd.results22, go_sem, d0, d1, d2, d3, d4, faultV, bs]) rfl ⟨rfl, KP.out _ _ _ _ _⟩

set_option maxRecDepth 100000 in
set_option maxHeartbeats 2000000 in
theorem fault_unb (w : World) (b pos : Nat) (n : Str) (T : TypeId) (hb : w.heap[b]? = some (.cells #[.int .i64 pos, .string (bs n)] T)) (hg : ErrTypeLaid w) : Calls Tryd.prog 22 #[.iface 113 (.pointer (some ⟨b, 0, none⟩))] w (FaultPost w { what := 4, pos := pos, s := n }) := by
  have hsz := W4_size w; have k0 := W4_keep w; have z0 := W4_0 w; have z1 := W4_1 w; have z2 := W4_2 w
  have HZ := Lib.hid hsz; clear hsz
  go_enter Tryd.func22, Tryd.ntmps22
  go_wp2_with fail
  refine (as_missUN ⟨b, 0, none⟩ ⟨w.heap.size + 3, 0, none⟩ (W4 w) (hg.keep k0 (fun x => x))).mono ?_
  rintro e w1 ⟨rfl, hw⟩
  have k1 := keep3 _ _ hw
  have K1 := k0.trans k1
  have y0 := k1.get z0 (fun x => x); have y2 := k1.get z2 (fun x => x)
  clear hw k1 z0 z1 z2 k0
  go_wp2_with fail
  refine (as_missUS ⟨b, 0, none⟩ ⟨w.heap.size + 1, 0, none⟩ w1 (hg.keep K1 (fun x => x))).mono ?_
  rintro e w1' ⟨rfl, hw⟩
  have k1 := keep3 _ _ hw
  have K1' := K1.trans k1
  have v0 := k1.get y0 (fun x => x); have v2 := k1.get y2 (fun x => x)
  clear hw k1 y0 y2 K1
  go_wp2_with fail
  refine (as_hitU ⟨b, 0, none⟩ ⟨w.heap.size + 2, 0, none⟩ (.pointer none) w1' (hg.keep K1' (fun x => x)) (cell_of_heap v2 rfl) (free_of_heap v2)).mono ?_
  rintro e w2 ⟨rfl, hw⟩
  obtain ⟨k2, x2⟩ := hit_keep hw v2
  have x0 := k2.get v0 (by simp [one'])
  have K2 := keepY K1' k2 (by omega)
  have hb2 := K2.get hb (fun x => x)
  clear hw k2 v0 v2 K1'
  have c1 : w2.cell? ⟨w.heap.size + 2, 0, none⟩ = some (.pointer (some ⟨b, 0, none⟩)) := cell_of_heap x2 rfl
  have cb : w2.cell? ⟨b, 0, none⟩ = some (.int .i64 pos) := cell_of_heap hb2 rfl
  have cb1 : w2.cell? ⟨b, 1, none⟩ = some (.string (bs n)) := cell_of_heap hb2 rfl
  have d0 : w2.cell? ⟨w.heap.size, 0, none⟩ = some (.int .i64 0) := cell_of_heap x0 rfl
  have d1 : w2.cell? ⟨w.heap.size, 1, none⟩ = some (.int .i64 0) := cell_of_heap x0 rfl
  have d2 : w2.cell? ⟨w.heap.size, 2, none⟩ = some (.string ⟨#[]⟩) := cell_of_heap x0 rfl
  have d3 : w2.cell? ⟨w.heap.size, 3, none⟩ = some (.int .i64 0) := cell_of_heap x0 rfl
  have d4 : w2.cell? ⟨w.heap.size, 4, none⟩ = some (.int .i64 0) := cell_of_heap x0 rfl
  have f0 : ∀ i, w2.frozen? ⟨w.heap.size, i, none⟩ = false := fun i => free_of_heap x0
  have KP := Lib.hid (fun u0 u1 u2 u3 u4 => keep5 K2 (Nat.le_refl _) u0 u1 u2 u3 u4)
  clear x0 x2 hb2 K2 hb
  go_wp2_with fail
  (refine region_tail 9 (by kernel_rfl) (by kernel_rfl) ?_; simp only [List.take_succ_cons, List.take_zero, List.drop_succ_cons, List.drop_zero]; repeat still_step; try refine wpStill_nil ?_)
  go_wp2_with fail
  refine bodyPost_ret (v := faultV 4 pos (bs n) 0 0) (by simp [results, Tryd.results22, go_sem, d0, d1, d2, d3, d4, faultV, bs]) rfl ⟨rfl, (KP.out _ _ _ _ _).trans (Keep.drew _ _)⟩

set_option maxRecDepth 100000 in
set_option maxHeartbeats 2000000 in
theorem fault_env0 (w : World) (b : Nat) (n : Str) (T : TypeId) (hb : w.heap[b]? = some (.cells #[.string (bs n), .nilIface] T)) (hg : ErrTypeLaid w) : Calls Tryd.prog 22 #[.iface 54 (.pointer (some ⟨b, 0, none⟩))] w (FaultPost w { what := 5, s := n }) := by
  have hsz := W4_size w; have k0 := W4_keep w; have z0 := W4_0 w; have z3 := W4_3 w
  have HZ := Lib.hid hsz; clear hsz
  go_enter Tryd.func22, Tryd.ntmps22
  go_wp2_with fail
  refine (as_hitN ⟨b, 0, none⟩ ⟨w.heap.size + 3, 0, none⟩ (.pointer none) (W4 w) (hg.keep k0 (fun x => x)) (cell_of_heap z3 rfl) (free_of_heap z3)).mono ?_
  rintro e w2 ⟨rfl, hw⟩
  obtain ⟨k2, x3⟩ := hit_keep hw z3
  have x0 := k2.get z0 (by simp [one'])
  have K2 := keepY k0 k2 (by omega)
  have hb2 := K2.get hb (fun x => x)
  clear hw k2 z0 z3 k0
  have c1 : w2.cell? ⟨w.heap.size + 3, 0, none⟩ = some (.pointer (some ⟨b, 0, none⟩)) := cell_of_heap x3 rfl
  have cb : w2.cell? ⟨b, 0, none⟩ = some (.string (bs n)) := cell_of_heap hb2 rfl
  have cb1 : w2.cell? ⟨b, 1, none⟩ = some .nilIface := cell_of_heap hb2 rfl
  have hlb := lt_of_heap hb2
  have hl3 := lt_of_heap x3
  go_wp2_with fail
  obtain ⟨w3, hw3⟩ : ∃ w3, w3 = w2.alloc (.cells #[.int .i64 5, .int .i64 0, .string (bs n), .int .i64 0, .int .i64 0] 28) := ⟨_, rfl⟩
  have y0 : w3.heap[w.heap.size]? = some (.cells fz 28) := by rw [hw3]; exact heap_old x0
  have y6 : w3.heap[w2.heap.size]? = some (.cells #[.int .i64 5, .int .i64 0, .string (bs n), .int .i64 0, .int .i64 0] 28) := by rw [hw3]; exact heap_new _ _
  have K3 : Keep none' w w3 := by rw [hw3]; exact K2.trans (Keep.alloc _ _ _)
  have hs2 : w.heap.size + 4 ≤ w2.heap.size := by omega
  have hb3 := K3.get hb (fun x => x)
  rw [← hw3]
  clear hw3 x0 x3 hb2 K2 c1 cb cb1 hlb hl3
  refine (unwrap_env b .nilIface w3 (cell_of_heap hb3 rfl)).mono ?_
  rintro e w4 ⟨rfl, rfl⟩
  have e0 : w3.cell? ⟨w2.heap.size, 0, none⟩ = some (.int .i64 5) := cell_of_heap y6 rfl
  have e1 : w3.cell? ⟨w2.heap.size, 1, none⟩ = some (.int .i64 0) := cell_of_heap y6 rfl
  have e2 : w3.cell? ⟨w2.heap.size, 2, none⟩ = some (.string (bs n)) := cell_of_heap y6 rfl
  have e3 : w3.cell? ⟨w2.heap.size, 3, none⟩ = some (.int .i64 0) := cell_of_heap y6 rfl
  have e4 : w3.cell? ⟨w2.heap.size, 4, none⟩ = some (.int .i64 0) := cell_of_heap y6 rfl
  have d0 : w3.cell? ⟨w.heap.size, 0, none⟩ = some (.int .i64 0) := cell_of_heap y0 rfl
  have d1 : w3.cell? ⟨w.heap.size, 1, none⟩ = some (.int .i64 0) := cell_of_heap y0 rfl
  have d2 : w3.cell? ⟨w.heap.size, 2, none⟩ = some (.string ⟨#[]⟩) := cell_of_heap y0 rfl
  have d3 : w3.cell? ⟨w.heap.size, 3, none⟩ = some (.int .i64 0) := cell_of_heap y0 rfl
  have d4 : w3.cell? ⟨w.heap.size, 4, none⟩ = some (.int .i64 0) := cell_of_heap y0 rfl
  have f0 : ∀ i, w3.frozen? ⟨w.heap.size, i, none⟩ = false := fun i => free_of_heap y0
  have KP := Lib.hid (fun u0 u1 u2 u3 u4 => keep5 K3 (Nat.le_refl _) u0 u1 u2 u3 u4)
  clear y0 y6 K3 hb3 hb
  go_wp2_with fail
  refine bodyPost_ret (v := faultV 5 0 (bs n) 0 0) (by simp [results, Tryd.results22, go_sem, d0, d1, d2, d3, d4, faultV, bs]) rfl ⟨rfl, KP.out _ _ _ _ _⟩

set_option maxRecDepth 100000 in
set_option maxHeartbeats 4000000 in
theorem fault_env (w : World) (b : Nat) (n : Str) (T Tv : TypeId) (pv : Value) (f : Flt) (hb : w.heap[b]? = some (.cells #[.string (bs n), .iface Tv pv] T)) (hg : ErrTypeLaid w)
    (hin : ∀ W, Keep none' w W → Calls Tryd.prog 22 #[.iface Tv pv] W (FaultPost W f))
    (his : ∀ W, Keep none' w W → Calls Tryd.prog 19 #[.iface 54 (.pointer (some ⟨b, 0, none⟩)), .iface Tv pv] W fun e w' => e = .returned (.bool true) ∧ W = w') :
    Calls Tryd.prog 22 #[.iface 54 (.pointer (some ⟨b, 0, none⟩))] w (FaultPost w { what := 5, s := n, inner := f.what, innerAt := f.pos }) := by
  have hsz := W4_size w; have k0 := W4_keep w; have z0 := W4_0 w; have z3 := W4_3 w
  have HZ := Lib.hid hsz; have HIN := Lib.hid hin; have HIS := Lib.hid his; clear hsz hin his
  go_enter Tryd.func22, Tryd.ntmps22
  go_wp2_with fail
  refine (as_hitN ⟨b, 0, none⟩ ⟨w.heap.size + 3, 0, none⟩ (.pointer none) (W4 w) (hg.keep k0 (fun x => x)) (cell_of_heap z3 rfl) (free_of_heap z3)).mono ?_
  rintro e w2 ⟨rfl, hw⟩
  obtain ⟨k2, x3⟩ := hit_keep hw z3
  have x0 := k2.get z0 (by simp [one'])
  have K2 := keepY k0 k2 (by omega)
  have hb2 := K2.get hb (fun x => x)
  clear hw k2 z0 z3 k0
  have c1 : w2.cell? ⟨w.heap.size + 3, 0, none⟩ = some (.pointer (some ⟨b, 0, none⟩)) := cell_of_heap x3 rfl
  have cb : w2.cell? ⟨b, 0, none⟩ = some (.string (bs n)) := cell_of_heap hb2 rfl
  have cb1 : w2.cell? ⟨b, 1, none⟩ = some (.iface Tv pv) := cell_of_heap hb2 rfl
  have hlb := lt_of_heap hb2
  have hl3 := lt_of_heap x3
  go_wp2_with fail
  obtain ⟨w3, hw3⟩ : ∃ w3, w3 = w2.alloc (.cells #[.int .i64 5, .int .i64 0, .string (bs n), .int .i64 0, .int .i64 0] 28) := ⟨_, rfl⟩
  have y0 : w3.heap[w.heap.size]? = some (.cells fz 28) := by rw [hw3]; exact heap_old x0
  have y6 : w3.heap[w2.heap.size]? = some (.cells #[.int .i64 5, .int .i64 0, .string (bs n), .int .i64 0, .int .i64 0] 28) := by rw [hw3]; exact heap_new _ _
  have K3 : Keep none' w w3 := by rw [hw3]; exact K2.trans (Keep.alloc _ _ _)
  have hs2 : w.heap.size + 4 ≤ w2.heap.size := by omega
  have hb3 := K3.get hb (fun x => x)
  rw [← hw3]
  clear hw3 x0 x3 hb2 K2 c1 cb cb1 hlb hl3
  refine (unwrap_env b (.iface Tv pv) w3 (cell_of_heap hb3 rfl)).mono ?_
  rintro e w4 ⟨rfl, rfl⟩
  have HK3 := Lib.hid K3; have HY0 := Lib.hid y0; have HY6 := Lib.hid y6
  clear K3 y0 y6 hb3 hb hg
  go_wp2_with fail
  refine (HIN.out w3 HK3.out).mono ?_
  rintro e w5 ⟨rfl, k5⟩
  unfold faultV
  have HK5 := Lib.hid (HK3.out.trans k5)
  have HY05 := Lib.hid (k5.get HY0.out (fun x => x)); have HY65 := Lib.hid (k5.get HY6.out (fun x => x))
  have hs5 : w2.heap.size < w5.heap.size := lt_of_heap HY65.out
  clear k5 HY0 HY6 HK3
  go_wp2_with fail
  obtain ⟨w6, hw6⟩ : ∃ w6, w6 = w5.alloc (.cells #[.int .i64 f.what, .int .i64 f.pos, .string (bs f.s), .int .i64 f.inner, .int .i64 f.innerAt] 28) := ⟨_, rfl⟩
  have x8 : w6.heap[w5.heap.size]? = some (.cells #[.int .i64 f.what, .int .i64 f.pos, .string (bs f.s), .int .i64 f.inner, .int .i64 f.innerAt] 28) := by rw [hw6]; exact heap_new _ _
  have HX6 : Hid (w6.heap[w2.heap.size]? = some (.cells #[.int .i64 5, .int .i64 0, .string (bs n), .int .i64 0, .int .i64 0] 28)) := Lib.hid (by rw [hw6]; exact heap_old HY65.out)
  have HX0 : Hid (w6.heap[w.heap.size]? = some (.cells fz 28)) := Lib.hid (by rw [hw6]; exact heap_old HY05.out)
  have HK6 : Hid (Keep none' w w6) := Lib.hid (by rw [hw6]; exact HK5.out.trans (Keep.alloc _ _ _))
  rw [← hw6]
  clear hw6 HY05 HY65 HK5
  have S0 : w6.drew.cell? ⟨w5.heap.size, 0, none⟩ = some (.int .i64 f.what) ∧ w6.drew.cell? ⟨w5.heap.size, 1, none⟩ = some (.int .i64 f.pos) := ⟨cell_of_heap (w := w6) x8 rfl, cell_of_heap (w := w6) x8 rfl⟩
  have q3 : w6.drew.cell? ⟨w2.heap.size, 3, none⟩ = some (.int .i64 0) := cell_of_heap (w := w6) HX6.out rfl
  have q4 : w6.drew.cell? ⟨w2.heap.size, 4, none⟩ = some (.int .i64 0) := cell_of_heap (w := w6) HX6.out rfl
  have qf : ∀ i, w6.drew.frozen? ⟨w2.heap.size, i, none⟩ = false := fun i => free_of_heap (w := w6) HX6.out
  have hne : ¬ w2.heap.size = w5.heap.size := by omega
  refine wp_region_float (fun w' => w'.cell? ⟨w5.heap.size, 0, none⟩ = some (.int .i64 f.what) ∧ w'.cell? ⟨w5.heap.size, 1, none⟩ = some (.int .i64 f.pos)) [0, 2, 4, 6] [1, 3] (by kernel_rfl) ?_
  (refine float0 (i := 0) (v := ?_) rfl (by kernel_rfl) (by kernel_rfl) (by kernel_rfl) (by kernel_rfl) (fun _ _ _ h => h) (by rfl) ?_ ?_); rotate_left
  (intro wF; go_simp; try with_reducible rfl)
  (try simp only [Act.put, List.setIfInBounds_toArray, List.set_cons_zero, List.set_cons_succ])
  (refine float0 (i := 2) (v := ?_) rfl (by kernel_rfl) (by kernel_rfl) (by kernel_rfl) (by kernel_rfl) (fun _ _ _ h => h) (by rfl) ?_ ?_); rotate_left
  (intro wF; go_simp; try with_reducible rfl)
  (try simp only [Act.put, List.setIfInBounds_toArray, List.set_cons_zero, List.set_cons_succ])
  (refine floatS (i := 1) (v := ?_) rfl (by kernel_rfl) (by kernel_rfl) (by kernel_rfl) (by kernel_rfl) (fun _ _ _ h => h) (by assumption) (by rfl) ?_ ?_); rotate_left
  (intro wF hF; (try dsimp only at hF); go_simp; try with_reducible rfl)
  (try simp only [Act.put, List.setIfInBounds_toArray, List.set_cons_zero, List.set_cons_succ])
  (refine floatS (i := 3) (v := ?_) rfl (by kernel_rfl) (by kernel_rfl) (by kernel_rfl) (by kernel_rfl) (fun _ _ _ h => h) (by assumption) (by rfl) ?_ ?_); rotate_left
  (intro wF hF; (try dsimp only at hF); go_simp; try with_reducible rfl)
  (try simp only [Act.put, List.setIfInBounds_toArray, List.set_cons_zero, List.set_cons_succ])
  (refine float0 (i := 4) (v := ?_) rfl (by kernel_rfl) (by kernel_rfl) (by kernel_rfl) (by kernel_rfl) (fun _ _ _ h => h) (by rfl) ?_ ?_); rotate_left
  (intro wF; go_simp; try with_reducible rfl)
  (try simp only [Act.put, List.setIfInBounds_toArray, List.set_cons_zero, List.set_cons_succ])
  (refine floatM (i := 5) rfl (by kernel_rfl) (by kernel_rfl) (fun K hK => ?_)); go_simp
  have x8' : (w6.setCell ⟨w2.heap.size, 3, none⟩ (.int .i64 f.what)).heap[w5.heap.size]? = _ := heap_set_other x8 (Ne.symm hne)
  have x6' : (w6.setCell ⟨w2.heap.size, 3, none⟩ (.int .i64 f.what)).heap[w2.heap.size]? = some (.cells #[.int .i64 5, .int .i64 0, .string (bs n), .int .i64 f.what, .int .i64 0] 28) := heap_set_same (c := #[.int .i64 5, .int .i64 0, .string (bs n), .int .i64 0, .int .i64 0]) HX6.out
  have HX6' := Lib.hid x6'
  clear x6'
  refine hK.out _ _ (fun _ => ⟨cell_of_heap (w := w6.setCell ⟨w2.heap.size, 3, none⟩ (.int .i64 f.what)) x8' rfl, cell_of_heap (w := w6.setCell ⟨w2.heap.size, 3, none⟩ (.int .i64 f.what)) x8' rfl⟩) ?_
  clear hK K
  (try simp only [Act.put, List.setIfInBounds_toArray, List.set_cons_zero, List.set_cons_succ])
  have q4' : (w6.setCell ⟨w2.heap.size, 3, none⟩ (.int .i64 f.what)).drew.cell? ⟨w2.heap.size, 4, none⟩ = some (.int .i64 0) := cell_of_heap (w := w6.setCell ⟨w2.heap.size, 3, none⟩ (.int .i64 f.what)) HX6'.out rfl
  have qf' : ∀ i, (w6.setCell ⟨w2.heap.size, 3, none⟩ (.int .i64 f.what)).drew.frozen? ⟨w2.heap.size, i, none⟩ = false := fun i => free_of_heap (w := w6.setCell ⟨w2.heap.size, 3, none⟩ (.int .i64 f.what)) HX6'.out
  have HX8 := Lib.hid (heap_set_other (p := ⟨w2.heap.size, 4, none⟩) (u := .int .i64 f.pos) x8' (Ne.symm hne)); clear q3 q4 qf S0 x8 x8'
  (refine float0 (i := 6) (v := ?_) rfl (by kernel_rfl) (by kernel_rfl) (by kernel_rfl) (by kernel_rfl) (fun _ _ _ h => h) (by rfl) ?_ ?_); rotate_left
  (intro wF; go_simp; try with_reducible rfl)
  (try simp only [Act.put, List.setIfInBounds_toArray, List.set_cons_zero, List.set_cons_succ])
  (refine floatM (i := 7) rfl (by kernel_rfl) (by kernel_rfl) (fun K hK => ?_)); go_simp
  refine hK.out _ _ (fun _ => ⟨cell_of_heap (w := (w6.setCell ⟨w2.heap.size, 3, none⟩ (.int .i64 f.what)).setCell ⟨w2.heap.size, 4, none⟩ (.int .i64 f.pos)) HX8.out rfl, cell_of_heap (w := (w6.setCell ⟨w2.heap.size, 3, none⟩ (.int .i64 f.what)).setCell ⟨w2.heap.size, 4, none⟩ (.int .i64 f.pos)) HX8.out rfl⟩) ?_
  clear hK K
  (refine floatE (by kernel_rfl) ?_)
  clear q4' qf'
  obtain ⟨w7, hw7⟩ : ∃ w7, w7 = ((w6.setCell ⟨w2.heap.size, 3, none⟩ (.int .i64 f.what)).setCell ⟨w2.heap.size, 4, none⟩ (.int .i64 f.pos)).drew := ⟨_, rfl⟩
  have hX6 : w7.heap[w2.heap.size]? = some (.cells #[.int .i64 5, .int .i64 0, .string (bs n), .int .i64 f.what, .int .i64 f.pos] 28) := by
    rw [hw7]; exact heap_set_same (c := #[.int .i64 5, .int .i64 0, .string (bs n), .int .i64 f.what, .int .i64 0]) HX6'.out
  have x0 : w7.heap[w.heap.size]? = some (.cells fz 28) := by
    rw [hw7]; exact heap_set_other (w := w6.setCell ⟨w2.heap.size, 3, none⟩ (.int .i64 f.what)) (heap_set_other HX0.out (show w.heap.size ≠ w2.heap.size by omega)) (show w.heap.size ≠ w2.heap.size by omega)
  have K7 : Keep none' w w7 := by
    rw [hw7]; exact (keepY (keepY HK6.out (Keep.setCell _ _ (fun _ => rfl)) (show w.heap.size ≤ w2.heap.size by omega)) (Keep.setCell _ _ (fun _ => rfl)) (show w.heap.size ≤ w2.heap.size by omega)).trans (Keep.drew _ _)
  rw [← hw7]
  clear hw7 HX6' HX6 HX0 HK6
  go_wp2_with fail
  refine (HIS.out w7 K7).mono ?_
  rintro e w8 ⟨rfl, rfl⟩
  have e0 : w7.cell? ⟨w2.heap.size, 0, none⟩ = some (.int .i64 5) := cell_of_heap hX6 rfl
  have e1 : w7.cell? ⟨w2.heap.size, 1, none⟩ = some (.int .i64 0) := cell_of_heap hX6 rfl
  have e2 : w7.cell? ⟨w2.heap.size, 2, none⟩ = some (.string (bs n)) := cell_of_heap hX6 rfl
  have e3 : w7.cell? ⟨w2.heap.size, 3, none⟩ = some (.int .i64 f.what) := cell_of_heap hX6 rfl
  have e4 : w7.cell? ⟨w2.heap.size, 4, none⟩ = some (.int .i64 f.pos) := cell_of_heap hX6 rfl
  have d0 : w7.cell? ⟨w.heap.size, 0, none⟩ = some (.int .i64 0) := cell_of_heap x0 rfl
  have d1 : w7.cell? ⟨w.heap.size, 1, none⟩ = some (.int .i64 0) := cell_of_heap x0 rfl
  have d2 : w7.cell? ⟨w.heap.size, 2, none⟩ = some (.string ⟨#[]⟩) := cell_of_heap x0 rfl
  have d3 : w7.cell? ⟨w.heap.size, 3, none⟩ = some (.int .i64 0) := cell_of_heap x0 rfl
  have d4 : w7.cell? ⟨w.heap.size, 4, none⟩ = some (.int .i64 0) := cell_of_heap x0 rfl
  have f0 : ∀ i, w7.frozen? ⟨w.heap.size, i, none⟩ = false := fun i => free_of_heap x0
  have KP := Lib.hid (fun u0 u1 u2 u3 u4 => keep5 K7 (Nat.le_refl _) u0 u1 u2 u3 u4)
  clear x0 hX6 K7
  go_wp2_with fail
  refine bodyPost_ret (v := faultV 5 0 (bs n) f.what f.pos) (by simp [results, Tryd.results22, go_sem, d0, d1, d2, d3, d4, faultV, bs]) rfl ⟨rfl, KP.out _ _ _ _ _⟩

theorem is_senF {p : Nat → Addr} {w : World} (h : Sents p w) (i j : Nat) (hi : i < 8) (hj : j < 8) :
    Calls Tryd.prog 19 #[.iface 264 (.pointer (some (p i))), .iface 264 (.pointer (some (p j)))] w fun e w' => e = .returned (.bool (decide (i = j))) ∧ w = w' := by
  by_cases hij : i = j
  · subst hij; simpa using is_same (p i) w
  · obtain ⟨c, T, hc⟩ := h.blk i hi
    obtain ⟨c', T', hc'⟩ := h.blk j hj
    have := is_other (p i) (p j) c c' T T' w (h.inj i j hi hj hij) hc hc'
    simpa [hij] using this

theorem und_me : Tryd.prog.underlying 119 = some (.map 3 52) := by kernel_rfl
theorem keepL {w a : World} {x : Nat} {o : Obj} (k : Keep none' w a) (hx : w.heap.size ≤ x) : Keep none' w (World.lay a x o) := keepY k (lay_keep a x o) hx
theorem lay_other {w : World} {r b : Nat} {o o' : Obj} (h : w.heap[b]? = some o') (hn : b ≠ r) : (World.lay w r o).heap[b]? = some o' := (lay_keep w r o).get h hn

set_option maxRecDepth 100000 in
set_option maxHeartbeats 8000000 in
theorem fault_sen (w : World) (p : Nat → Addr) (i : Nat) (hi : i < 8) (hs : Sents p w) : Calls Tryd.prog 22 #[sen p i] w (FaultPost w { what := kno i }) := by
  have hsz := W4_size w; have k0 := W4_keep w; have z0 := W4_0 w
  have hg := hs.et
  have HZ := Lib.hid hsz; have HS := Lib.hid hs; clear hsz hs
  unfold sen
  go_enter Tryd.func22, Tryd.ntmps22
  go_wp2_with fail
  refine (as_missEN (p i) ⟨w.heap.size + 3, 0, none⟩ (W4 w) (hg.keep k0 (fun x => x))).mono ?_
  rintro e w1 ⟨rfl, hw⟩
  have k1 := keep3 _ _ hw
  have K1 := k0.trans k1
  have y0 := k1.get z0 (fun x => x)
  clear hw k1 z0 k0
  go_wp2_with fail
  refine (as_missES (p i) ⟨w.heap.size + 1, 0, none⟩ w1 (hg.keep K1 (fun x => x))).mono ?_
  rintro e w2 ⟨rfl, hw⟩
  have k1 := keep3 _ _ hw
  have K2 := K1.trans k1
  have v0 := k1.get y0 (fun x => x)
  clear hw k1 y0 K1
  go_wp2_with fail
  refine (as_missEU (p i) ⟨w.heap.size + 2, 0, none⟩ w2 (hg.keep K2 (fun x => x))).mono ?_
  rintro e w3 ⟨rfl, hw⟩
  have k1 := keep3 _ _ hw
  have K3 := K2.trans k1
  have x0 := k1.get v0 (fun x => x)
  clear hw k1 v0 K2 hg
  obtain ⟨r, hr⟩ : ∃ r, r = w3.heap.size := ⟨_, rfl⟩
  have hwr : w.heap.size < r := by rw [hr]; exact lt_of_heap x0
  obtain ⟨m0, hm0⟩ : ∃ m, m = w3.alloc (kmap kInt []) := ⟨_, rfl⟩
  have e0 : m0.heap[r]? = some (kmap kInt []) := by rw [hm0, hr]; exact heap_new _ _
  have kk0 : Keep none' w m0 := by rw [hm0]; exact K3.trans (Keep.alloc _ _ _)
  have xx0 : m0.heap[w.heap.size]? = some (.cells fz 28) := by rw [hm0]; exact heap_old x0
  have hmk : (Instr.makeMap 119 none).run Tryd.prog w3 = .ok (.map (some r)) m0 := by rw [hm0, hr]; rfl
  have l0 := ((HS.out.keep0 kk0).glob 0 (by omega))
  obtain ⟨m1, hm1⟩ : ∃ m, m = World.lay m0 r (kmap kInt [(1, sen p 0)]) := ⟨_, rfl⟩
  have e1 : m1.heap[r]? = some (kmap kInt [(1, sen p 0)]) := by rw [hm1]; exact lay_same (lt_of_heap e0)
  have kk1 : Keep none' w m1 := by rw [hm1]; exact keepL kk0 (by omega)
  have xx1 : m1.heap[w.heap.size]? = some (.cells fz 28) := by rw [hm1]; exact lay_other xx0 (by omega)
  have ins0 : (Instr.mapUpdate 119 (.map (some r)) (.int .i64 1) (sen p 0)).run Tryd.prog m0 = .ok () m1 := by rw [hm1]; exact run_upd_new (k := 1) (v := sen p 0) und_me key_int e0 rfl
  have l1 := ((HS.out.keep0 kk1).glob 1 (by omega))
  obtain ⟨m2, hm2⟩ : ∃ m, m = World.lay m1 r (kmap kInt [(1, sen p 0), (3, sen p 1)]) := ⟨_, rfl⟩
  have e2 : m2.heap[r]? = some (kmap kInt [(1, sen p 0), (3, sen p 1)]) := by rw [hm2]; exact lay_same (lt_of_heap e1)
  have kk2 : Keep none' w m2 := by rw [hm2]; exact keepL kk1 (by omega)
  have xx2 : m2.heap[w.heap.size]? = some (.cells fz 28) := by rw [hm2]; exact lay_other xx1 (by omega)
  have ins1 : (Instr.mapUpdate 119 (.map (some r)) (.int .i64 3) (sen p 1)).run Tryd.prog m1 = .ok () m2 := by rw [hm2]; exact run_upd_new (k := 3) (v := sen p 1) und_me key_int e1 rfl
  have l2 := ((HS.out.keep0 kk2).glob 2 (by omega))
  obtain ⟨m3, hm3⟩ : ∃ m, m = World.lay m2 r (kmap kInt [(1, sen p 0), (3, sen p 1), (6, sen p 2)]) := ⟨_, rfl⟩
  have e3 : m3.heap[r]? = some (kmap kInt [(1, sen p 0), (3, sen p 1), (6, sen p 2)]) := by rw [hm3]; exact lay_same (lt_of_heap e2)
  have kk3 : Keep none' w m3 := by rw [hm3]; exact keepL kk2 (by omega)
  have xx3 : m3.heap[w.heap.size]? = some (.cells fz 28) := by rw [hm3]; exact lay_other xx2 (by omega)
  have ins2 : (Instr.mapUpdate 119 (.map (some r)) (.int .i64 6) (sen p 2)).run Tryd.prog m2 = .ok () m3 := by rw [hm3]; exact run_upd_new (k := 6) (v := sen p 2) und_me key_int e2 rfl
  have l3 := ((HS.out.keep0 kk3).glob 3 (by omega))
  obtain ⟨m4, hm4⟩ : ∃ m, m = World.lay m3 r (kmap kInt [(1, sen p 0), (3, sen p 1), (6, sen p 2), (7, sen p 3)]) := ⟨_, rfl⟩
  have e4 : m4.heap[r]? = some (kmap kInt [(1, sen p 0), (3, sen p 1), (6, sen p 2), (7, sen p 3)]) := by rw [hm4]; exact lay_same (lt_of_heap e3)
  have kk4 : Keep none' w m4 := by rw [hm4]; exact keepL kk3 (by omega)
  have xx4 : m4.heap[w.heap.size]? = some (.cells fz 28) := by rw [hm4]; exact lay_other xx3 (by omega)
  have ins3 : (Instr.mapUpdate 119 (.map (some r)) (.int .i64 7) (sen p 3)).run Tryd.prog m3 = .ok () m4 := by rw [hm4]; exact run_upd_new (k := 7) (v := sen p 3) und_me key_int e3 rfl
  have l4 := ((HS.out.keep0 kk4).glob 4 (by omega))
  obtain ⟨m5, hm5⟩ : ∃ m, m = World.lay m4 r (kmap kInt [(1, sen p 0), (3, sen p 1), (6, sen p 2), (7, sen p 3), (8, sen p 4)]) := ⟨_, rfl⟩
  have e5 : m5.heap[r]? = some (kmap kInt [(1, sen p 0), (3, sen p 1), (6, sen p 2), (7, sen p 3), (8, sen p 4)]) := by rw [hm5]; exact lay_same (lt_of_heap e4)
  have kk5 : Keep none' w m5 := by rw [hm5]; exact keepL kk4 (by omega)
  have xx5 : m5.heap[w.heap.size]? = some (.cells fz 28) := by rw [hm5]; exact lay_other xx4 (by omega)
  have ins4 : (Instr.mapUpdate 119 (.map (some r)) (.int .i64 8) (sen p 4)).run Tryd.prog m4 = .ok () m5 := by rw [hm5]; exact run_upd_new (k := 8) (v := sen p 4) und_me key_int e4 rfl
  have l5 := ((HS.out.keep0 kk5).glob 5 (by omega))
  obtain ⟨m6, hm6⟩ : ∃ m, m = World.lay m5 r (kmap kInt [(1, sen p 0), (3, sen p 1), (6, sen p 2), (7, sen p 3), (8, sen p 4), (9, sen p 5)]) := ⟨_, rfl⟩
  have e6 : m6.heap[r]? = some (kmap kInt [(1, sen p 0), (3, sen p 1), (6, sen p 2), (7, sen p 3), (8, sen p 4), (9, sen p 5)]) := by rw [hm6]; exact lay_same (lt_of_heap e5)
  have kk6 : Keep none' w m6 := by rw [hm6]; exact keepL kk5 (by omega)
  have xx6 : m6.heap[w.heap.size]? = some (.cells fz 28) := by rw [hm6]; exact lay_other xx5 (by omega)
  have ins5 : (Instr.mapUpdate 119 (.map (some r)) (.int .i64 9) (sen p 5)).run Tryd.prog m5 = .ok () m6 := by rw [hm6]; exact run_upd_new (k := 9) (v := sen p 5) und_me key_int e5 rfl
  have l6 := ((HS.out.keep0 kk6).glob 6 (by omega))
  obtain ⟨m7, hm7⟩ : ∃ m, m = World.lay m6 r (kmap kInt [(1, sen p 0), (3, sen p 1), (6, sen p 2), (7, sen p 3), (8, sen p 4), (9, sen p 5), (10, sen p 6)]) := ⟨_, rfl⟩
  have e7 : m7.heap[r]? = some (kmap kInt [(1, sen p 0), (3, sen p 1), (6, sen p 2), (7, sen p 3), (8, sen p 4), (9, sen p 5), (10, sen p 6)]) := by rw [hm7]; exact lay_same (lt_of_heap e6)
  have kk7 : Keep none' w m7 := by rw [hm7]; exact keepL kk6 (by omega)
  have xx7 : m7.heap[w.heap.size]? = some (.cells fz 28) := by rw [hm7]; exact lay_other xx6 (by omega)
  have ins6 : (Instr.mapUpdate 119 (.map (some r)) (.int .i64 10) (sen p 6)).run Tryd.prog m6 = .ok () m7 := by rw [hm7]; exact run_upd_new (k := 10) (v := sen p 6) und_me key_int e6 rfl
  have l7 := ((HS.out.keep0 kk7).glob 7 (by omega))
  obtain ⟨m8, hm8⟩ : ∃ m, m = World.lay m7 r (kmap kInt [(1, sen p 0), (3, sen p 1), (6, sen p 2), (7, sen p 3), (8, sen p 4), (9, sen p 5), (10, sen p 6), (11, sen p 7)]) := ⟨_, rfl⟩
  have e8 : m8.heap[r]? = some (kmap kInt [(1, sen p 0), (3, sen p 1), (6, sen p 2), (7, sen p 3), (8, sen p 4), (9, sen p 5), (10, sen p 6), (11, sen p 7)]) := by rw [hm8]; exact lay_same (lt_of_heap e7)
  have kk8 : Keep none' w m8 := by rw [hm8]; exact keepL kk7 (by omega)
  have xx8 : m8.heap[w.heap.size]? = some (.cells fz 28) := by rw [hm8]; exact lay_other xx7 (by omega)
  have ins7 : (Instr.mapUpdate 119 (.map (some r)) (.int .i64 11) (sen p 7)).run Tryd.prog m7 = .ok () m8 := by rw [hm8]; exact run_upd_new (k := 11) (v := sen p 7) und_me key_int e7 rfl
  simp only [gno, sen] at l0 l1 l2 l3 l4 l5 l6 l7 ins0 ins1 ins2 ins3 ins4 ins5 ins6 ins7
  have HE8 : Hid (m8.heap[r]? = some (.map (ents p) 8)) := Lib.hid e8
  have hrg : (Instr.range 119 (.map (some r))).run Tryd.prog m8 = .ok (.pointer (some ⟨m8.heap.size, 0, none⟩)) (m8.alloc (.mapIter (some r) 8 #[] 8)) := run_range_map m8 _ _ _ r _ 8 und_me e8
  have HK8 := Lib.hid kk8; have HX8 := Lib.hid xx8; have HR := Lib.hid hr
  clear hm0 hm1 hm2 hm3 hm4 hm5 hm6 hm7 hm8 e0 e1 e2 e3 e4 e5 e6 e7 e8 kk0 kk1 kk2 kk3 kk4 kk5 kk6 kk7 kk8 xx0 xx1 xx2 xx3 xx4 xx5 xx6 xx7 xx8 hr K3 x0
  go_wp2_with fail
  clear hmk hrg l0 l1 l2 l3 l4 l5 l6 l7 ins0 ins1 ins2 ins3 ins4 ins5 ins6 ins7
  go_loopg [] 8 (fun n wr => ∃ (w1 : World) (seen : Array Nat) (c0 : Nat), Hid (wr = w1.alloc (.mapIter (some r) 8 seen c0)) ∧ Hid (n = (leftOf (ents p) seen).size) ∧ Hid (w1.heap.size = m8.heap.size) ∧ 8 ≤ c0 ∧ Hid (seen.contains i = false) ∧ Hid (Keep none' m8 w1))
  case atStart => exact ⟨m8, #[], 8, Lib.hid rfl, Lib.hid (by simp [leftOf, ents]), Lib.hid rfl, Nat.le_refl _, Lib.hid (by simp), Lib.hid (Keep.refl _ _)⟩
  case round =>
    obtain ⟨w1, seen, c0, HW, HN, HZ1, hc0, HI, HK1⟩ := hrel
    obtain rfl := HW.out
    have hbb := HK1.out.get HE8.out (fun x => x)
    rcases run_next_map (P := Tryd.prog) w1 0 r 8 c0 seen (ents p) 8 hbb (ents_born p) hc0 with ⟨h0, _⟩ | ⟨e, he, w2, hal, hn⟩
    · exact absurd h0 (left_of p i hi seen HI.out)
    · rw [HZ1.out] at hn
      have HSH := Lib.hid (left_shrinks _ _ _ he)
      obtain ⟨hm, hs⟩ := mem_left he
      obtain ⟨j, hj, rfl⟩ := ents_mem p e hm
      have K2 : Keep none' m8 w2 := HK1.out.trans (Keep.alike hal)
      have hz2 : w2.heap.size = m8.heap.size := by rw [hal.1]; exact HZ1.out
      have hen := run_entry_map (P := Tryd.prog) w2 r 8 seen (ents p) 8 _ (K2.get HE8.out (fun x => x)) hm (ents_nodup p)
      rw [hz2] at hen
      simp only at hn hen
      have HSj := Lib.hid hs
      have HK2 := Lib.hid K2; have HZ2 := Lib.hid hz2
      clear hbb hal hs K2 hz2
      have hs2 : Sents p (w2.alloc (.mapIter (some r) 8 (seen.push j) 8)) := HS.out.keep0 ((HK8.out.trans HK2.out).trans (Keep.alloc _ _ _))
      have HS2 := Lib.hid hs2
      have K3 : Keep none' w (w2.alloc (.mapIter (some r) 8 (seen.push j) 8)) := (HK8.out.trans HK2.out).trans (Keep.alloc _ _ _)
      have x0 : (w2.alloc (.mapIter (some r) 8 (seen.push j) 8)).heap[w.heap.size]? = some (.cells fz 28) := heap_old (HK2.out.get HX8.out (fun x => x))
      have d0 : (w2.alloc (.mapIter (some r) 8 (seen.push j) 8)).cell? ⟨w.heap.size, 0, none⟩ = some (.int .i64 0) := cell_of_heap x0 rfl
      have d1 : (w2.alloc (.mapIter (some r) 8 (seen.push j) 8)).cell? ⟨w.heap.size, 1, none⟩ = some (.int .i64 0) := cell_of_heap x0 rfl
      have d2 : (w2.alloc (.mapIter (some r) 8 (seen.push j) 8)).cell? ⟨w.heap.size, 2, none⟩ = some (.string ⟨#[]⟩) := cell_of_heap x0 rfl
      have d3 : (w2.alloc (.mapIter (some r) 8 (seen.push j) 8)).cell? ⟨w.heap.size, 3, none⟩ = some (.int .i64 0) := cell_of_heap x0 rfl
      have d4 : (w2.alloc (.mapIter (some r) 8 (seen.push j) 8)).cell? ⟨w.heap.size, 4, none⟩ = some (.int .i64 0) := cell_of_heap x0 rfl
      have f0 : ∀ i, (w2.alloc (.mapIter (some r) 8 (seen.push j) 8)).frozen? ⟨w.heap.size, i, none⟩ = false := fun i => free_of_heap x0
      have KP := Lib.hid (fun u0 u1 u2 u3 u4 => keep5 K3 (Nat.le_refl _) u0 u1 u2 u3 u4)
      clear x0 K3 hs2
      by_cases hij : i = j
      · subst hij
        go_wp2_with fail
        refine (is_senF HS2.out i i hi hi).mono ?_
        rintro e w3 ⟨rfl, rfl⟩
        go_wp2_with fail
        refine bodyPost_ret (v := faultV (kno i) 0 (bs []) 0 0) (by simp [results, Tryd.results22, go_sem, d0, d1, d2, d3, d4, faultV, bs]) rfl ⟨rfl, KP.out _ _ _ _ _⟩
      · clear d0 d1 d2 d3 d4 f0 KP
        go_wp2_with fail
        refine (is_senF HS2.out i j hi hj).mono ?_
        rintro e w3 ⟨rfl, rfl⟩
        go_wp2_with fail
        go_roundg ((leftOf (ents p) (seen.push j)).size)
        case measure => have := HN.out; have := HSH.out; omega
        case rel => exact ⟨w2, seen.push j, 8, Lib.hid rfl, Lib.hid rfl, HZ2, Nat.le_refl _, Lib.hid (by rw [contains_push, HI.out]; simpa using hij), HK2⟩

/-- plain.fault at any error that the program hands out. -/
theorem fault_any {G : GH} {p : Nat → Addr} : ∀ {v : Value} {f : Flt}, ErrR G p v f → ∀ w : World, Holds G w → Sents p w → Calls Tryd.prog 22 #[v] w (FaultPost w f)
  | _, _, .sen (j := j) h, w, _, hs => fault_sen w p j h hs
  | _, _, .syn (b := b) (pos := pos) h, w, hG, hs => fault_syn w b pos _ (hG _ _ h) hs.et
  | _, _, .unb (b := b) (pos := pos) (n := n) h, w, hG, hs => fault_unb w b pos n _ (hG _ _ h) hs.et
  | _, _, .env0 (b := b) (n := n) h, w, hG, hs => fault_env0 w b n _ (hG _ _ h) hs.et
  | _, _, .env (b := b) (n := n) (v := v) (f := f) h hv hw, w, hG, hs => by
    have h0 := hG _ _ h
    have hin : ∀ W, Keep none' w W → Calls Tryd.prog 22 #[v] W (FaultPost W f) := fun W k => fault_any hv W (hG.keep0 k) (hs.keep0 k)
    cases hv with
    | sen hj =>
      refine fault_env w b n _ _ _ _ h0 hs.et hin (fun W k => ?_)
      exact is_env_same b (p _) W (cell_of_heap (k.get h0 (fun x => x)) rfl)
    | syn hb =>
      refine fault_env w b n _ _ _ _ h0 hs.et hin (fun W k => ?_)
      exact is_env_same_syn b ⟨_, 0, none⟩ W (cell_of_heap (k.get h0 (fun x => x)) rfl)
    | unb hb => simp at hw
    | env0 hb => simp at hw
    | env hb _ _ => simp at hw
end Go.Proofs.YtabikmkoajdhmaaDoor
