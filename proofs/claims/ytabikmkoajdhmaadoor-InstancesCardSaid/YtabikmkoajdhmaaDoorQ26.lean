/- text.Caught and the deferred literals of ast.Read and types.Read by contracts. -/
import Derived.Test.YtabikmkoajdhmaaDoorQ22
import Derived.Test.YtabikmkoajdhmaaDoorQ20
import Derived.Defers
import Derived.Recover
import Derived.WideLaws
import Derived.LaidEql
import Derived.Lib.Hide
import Derived.WalkLawsBesides
import Derived.WalkSpells
import Derived.BigQuiet
import Derived.Outline
import Derived.Test.YtabikmkoajdhmaaDoorQ04
set_option linter.unusedVariables false
set_option linter.unusedSimpArgs false
namespace Go.Proofs.YtabikmkoajdhmaaDoor
open Go.RowKit

set_option maxHeartbeats 1000000 in
theorem caught_nil (v : Value) (w : World) : Calls Tryd.prog 65 #[.nilIface, v] w fun e w' => e = .returned v ∧ w = w' := by
  go_enter Tryd.func65, Tryd.ntmps65
  go_wp2_with fail
  go_ret
  exact ⟨rfl, rfl⟩
set_option maxHeartbeats 1000000 in
theorem caught_stop (p : Nat) (v : Value) (w : World) : Calls Tryd.prog 65 #[.iface 213 (.agg #[.int .i64 p]), v] w fun e w' => e = .returned (.iface 58 (.pointer (some ⟨w.heap.size + 1, 0, none⟩))) ∧
    w' = (w.alloc (.cells #[.int .i64 p] 213)).alloc (.cells #[.int .i64 p] 60) := by
  have a1 := taStop
  go_enter Tryd.func65, Tryd.ntmps65
  go_wp2_with fail
  go_ret
  exact ⟨rfl, rfl⟩

/-- A region that draws, in a deferred call that may recover. -/
theorem wpS_region_draw {P : Program} {Q : Exit → Act → List Frame → World → Prop} {a : Act} {cs : List Frame} {w : World} {id : Nat} {ops : Array Oper} (h : ∀ t, wpOpsS P ops Q (Region.schedule (P.follows .mixedOrders) ops t) a cs w.drew) : (Code.region id ops true).wpS P Q a cs w :=
  fun b k hb hr => let ⟨e, a', cs', w', q, r⟩ := wp_opsS _ a cs _ (h (w.tape w.drawn (.order b.fn id))) b k hb hr; ⟨e, a', cs', w', q, .of_steps (.one step_region_draw) r⟩

theorem rd1_order (t : Nat) : ∀ ops, Tryd.f64.body = some (.region 0 ops true) → Region.schedule true ops t = [0, 1, 2, 3] ∨ Region.schedule true ops t = [1, 0, 2, 3] := by
  intro ops h
  injection h with h
  injection h with _ h _
  subst h
  rcases (show t % 2 = 0 ∨ t % 2 = 1 by omega) with h | h
  · left
    simp [Region.schedule, Region.linearise, Region.linearise.go, List.range_succ, Region.binds, h, Nat.mod_one]
  · right
    simp [Region.schedule, Region.linearise, Region.linearise.go, List.range_succ, Region.binds, h, Nat.mod_one]

theorem follows_mixed : Tryd.prog.follows .mixedOrders = true := by kernel_rfl

set_option maxHeartbeats 1000000 in
theorem rd1_ret (eb : Nat) (err : Value) (w : World) (he : err = .nilIface ∨ ∃ T v, err = .iface T v) (hb : w.heap[eb]? = some (.cells #[err] 52)) :
    CallsD Tryd.prog 64 #[.pointer (some ⟨eb, 0, none⟩)] .returning w fun e u' w' => e = .returned (.tuple #[]) ∧ u' = .returning ∧ Keep (one' eb) w w' ∧ w'.heap[eb]? = some (.cells #[err] 52) := by
  have c0 : w.drew.cell? ⟨eb, 0, none⟩ = some err := cell_of_heap (w := w) hb rfl
  have f0 : w.drew.frozen? ⟨eb, 0, none⟩ = false := free_of_heap (w := w) hb
  have hpost : Keep (one' eb) w (w.drew.setCell ⟨eb, 0, none⟩ err) ∧ (w.drew.setCell ⟨eb, 0, none⟩ err).heap[eb]? = some (.cells #[err] 52) :=
    ⟨(Keep.drew _ _).trans (Keep.setCell _ _ (fun _ => rfl)), heap_set_same (w := w.drew) (c := #[err]) hb⟩
  refine callsD_of_wpS Tryd.func64 rfl fun c₀ cs hu => ?_
  have hcc : ({ c₀ with mode := FrameMode.returning } : Frame) = c₀ := by rw [← hu]
  refine wpS_region_draw fun t => ?_
  rw [follows_mixed]
  rcases rd1_order t _ rfl with h | h
  all_goals
    rw [h]
    simp [wpOpsS, go_sem, recoverD, hu, Tryd.ntmps64, c0, f0]
    refine (caught_nil err _).mono ?_
    rintro e w' ⟨rfl, rfl⟩
    rcases he with rfl | ⟨T, v, rfl⟩
    all_goals
      simp [go_sem, c0, f0, bodyPostS, results, Tryd.results64]
      exact ⟨.returning, hcc.symm, rfl, hpost⟩

set_option maxHeartbeats 1000000 in
theorem rd1_stop (eb pos : Nat) (err : Value) (w : World) (he : err = .nilIface ∨ ∃ T v, err = .iface T v) (hb : w.heap[eb]? = some (.cells #[err] 52)) :
    CallsD Tryd.prog 64 #[.pointer (some ⟨eb, 0, none⟩)] (.panicking (stopE pos)) w fun e u' w' => e = .returned (.tuple #[]) ∧ u' = .panicking [{ v := .iface 213 (.agg #[.int .i64 pos]), recovered := true }] ∧ Keep (one' eb) w w' ∧
      w'.heap[w.heap.size + 1]? = some (.cells #[.int .i64 pos] 60) ∧ w'.heap[eb]? = some (.cells #[.iface 58 (.pointer (some ⟨w.heap.size + 1, 0, none⟩))] 52) := by
  have c0 : w.drew.cell? ⟨eb, 0, none⟩ = some err := cell_of_heap (w := w) hb rfl
  have f0 : w.drew.frozen? ⟨eb, 0, none⟩ = false := free_of_heap (w := w) hb
  have hlt := lt_of_heap hb
  let W : World := (w.drew.alloc (.cells #[.int .i64 pos] 213)).alloc (.cells #[.int .i64 pos] 60)
  have kW : Keep none' w W := ((Keep.drew _ _).trans (Keep.alloc _ _ _)).trans (Keep.alloc _ _ _)
  have hW : W.heap[eb]? = some (.cells #[err] 52) := kW.get hb (fun x => x)
  have hS : W.heap[w.heap.size + 1]? = some (.cells #[.int .i64 pos] 60) := by
    have := heap_new (w.drew.alloc (.cells #[.int .i64 pos] 213)) (.cells #[.int .i64 pos] 60)
    rw [show (w.drew.alloc (.cells #[.int .i64 pos] 213)).heap.size = w.heap.size + 1 from by show (w.heap.push _).size = _; simp] at this
    exact this
  have c1 : W.cell? ⟨eb, 0, none⟩ = some err := cell_of_heap hW rfl
  have f1 : W.frozen? ⟨eb, 0, none⟩ = false := free_of_heap hW
  have hpost : Keep (one' eb) w (W.setCell ⟨eb, 0, none⟩ (.iface 58 (.pointer (some ⟨w.heap.size + 1, 0, none⟩)))) ∧ (W.setCell ⟨eb, 0, none⟩ (.iface 58 (.pointer (some ⟨w.heap.size + 1, 0, none⟩)))).heap[w.heap.size + 1]? = some (.cells #[.int .i64 pos] 60) ∧
      (W.setCell ⟨eb, 0, none⟩ (.iface 58 (.pointer (some ⟨w.heap.size + 1, 0, none⟩)))).heap[eb]? = some (.cells #[.iface 58 (.pointer (some ⟨w.heap.size + 1, 0, none⟩))] 52) :=
    ⟨kW.of_none.trans (Keep.setCell _ _ (fun _ => rfl)), heap_set_other hS (by simp; omega), heap_set_same (c := #[err]) hW⟩
  have HP := Lib.hid hpost; have HW : Hid (W = (w.drew.alloc (.cells #[.int .i64 pos] 213)).alloc (.cells #[.int .i64 pos] 60)) := Lib.hid rfl
  clear hpost hS hW kW
  clear_value W
  refine callsD_of_wpS Tryd.func64 rfl fun c₀ cs hu => ?_
  refine wpS_region_draw fun t => ?_
  rw [follows_mixed]
  rcases rd1_order t _ rfl with h | h
  all_goals
    rw [h]
    simp [wpOpsS, go_sem, recoverD, hu, Tryd.ntmps64, c0, f0, stopE]
    refine (caught_stop pos err _).mono ?_
    rintro e w' ⟨rfl, hw⟩
    rw [← HW.out] at hw
    subst hw
    simp [go_sem, c1, f1, bodyPostS, results, Tryd.results64]
    have hp := HP.out
    simpa using hp

theorem rd2_order (t : Nat) : ∀ ops, Tryd.f73.body = some (.region 0 ops true) → Region.schedule true ops t = [0, 1, 2, 3] ∨ Region.schedule true ops t = [1, 0, 2, 3] := by
  intro ops h
  injection h with h
  injection h with _ h _
  subst h
  rcases (show t % 2 = 0 ∨ t % 2 = 1 by omega) with h | h
  · left
    simp [Region.schedule, Region.linearise, Region.linearise.go, List.range_succ, Region.binds, h, Nat.mod_one]
  · right
    simp [Region.schedule, Region.linearise, Region.linearise.go, List.range_succ, Region.binds, h, Nat.mod_one]

set_option maxHeartbeats 1000000 in
theorem rd2_ret (eb : Nat) (err : Value) (w : World) (he : err = .nilIface ∨ ∃ T v, err = .iface T v) (hb : w.heap[eb]? = some (.cells #[err] 52)) :
    CallsD Tryd.prog 73 #[.pointer (some ⟨eb, 0, none⟩)] .returning w fun e u' w' => e = .returned (.tuple #[]) ∧ u' = .returning ∧ Keep (one' eb) w w' ∧ w'.heap[eb]? = some (.cells #[err] 52) := by
  have c0 : w.drew.cell? ⟨eb, 0, none⟩ = some err := cell_of_heap (w := w) hb rfl
  have f0 : w.drew.frozen? ⟨eb, 0, none⟩ = false := free_of_heap (w := w) hb
  have hpost : Keep (one' eb) w (w.drew.setCell ⟨eb, 0, none⟩ err) ∧ (w.drew.setCell ⟨eb, 0, none⟩ err).heap[eb]? = some (.cells #[err] 52) :=
    ⟨(Keep.drew _ _).trans (Keep.setCell _ _ (fun _ => rfl)), heap_set_same (w := w.drew) (c := #[err]) hb⟩
  refine callsD_of_wpS Tryd.func73 rfl fun c₀ cs hu => ?_
  have hcc : ({ c₀ with mode := FrameMode.returning } : Frame) = c₀ := by rw [← hu]
  refine wpS_region_draw fun t => ?_
  rw [follows_mixed]
  rcases rd2_order t _ rfl with h | h
  all_goals
    rw [h]
    simp [wpOpsS, go_sem, recoverD, hu, Tryd.ntmps73, c0, f0]
    refine (caught_nil err _).mono ?_
    rintro e w' ⟨rfl, rfl⟩
    rcases he with rfl | ⟨T, v, rfl⟩
    all_goals
      simp [go_sem, c0, f0, bodyPostS, results, Tryd.results73]
      exact ⟨.returning, hcc.symm, rfl, hpost⟩

set_option maxHeartbeats 1000000 in
theorem rd2_stop (eb pos : Nat) (err : Value) (w : World) (he : err = .nilIface ∨ ∃ T v, err = .iface T v) (hb : w.heap[eb]? = some (.cells #[err] 52)) :
    CallsD Tryd.prog 73 #[.pointer (some ⟨eb, 0, none⟩)] (.panicking (stopE pos)) w fun e u' w' => e = .returned (.tuple #[]) ∧ u' = .panicking [{ v := .iface 213 (.agg #[.int .i64 pos]), recovered := true }] ∧ Keep (one' eb) w w' ∧
      w'.heap[w.heap.size + 1]? = some (.cells #[.int .i64 pos] 60) ∧ w'.heap[eb]? = some (.cells #[.iface 58 (.pointer (some ⟨w.heap.size + 1, 0, none⟩))] 52) := by
  have c0 : w.drew.cell? ⟨eb, 0, none⟩ = some err := cell_of_heap (w := w) hb rfl
  have f0 : w.drew.frozen? ⟨eb, 0, none⟩ = false := free_of_heap (w := w) hb
  have hlt := lt_of_heap hb
  let W : World := (w.drew.alloc (.cells #[.int .i64 pos] 213)).alloc (.cells #[.int .i64 pos] 60)
  have kW : Keep none' w W := ((Keep.drew _ _).trans (Keep.alloc _ _ _)).trans (Keep.alloc _ _ _)
  have hW : W.heap[eb]? = some (.cells #[err] 52) := kW.get hb (fun x => x)
  have hS : W.heap[w.heap.size + 1]? = some (.cells #[.int .i64 pos] 60) := by
    have := heap_new (w.drew.alloc (.cells #[.int .i64 pos] 213)) (.cells #[.int .i64 pos] 60)
    rw [show (w.drew.alloc (.cells #[.int .i64 pos] 213)).heap.size = w.heap.size + 1 from by show (w.heap.push _).size = _; simp] at this
    exact this
  have c1 : W.cell? ⟨eb, 0, none⟩ = some err := cell_of_heap hW rfl
  have f1 : W.frozen? ⟨eb, 0, none⟩ = false := free_of_heap hW
  have hpost : Keep (one' eb) w (W.setCell ⟨eb, 0, none⟩ (.iface 58 (.pointer (some ⟨w.heap.size + 1, 0, none⟩)))) ∧ (W.setCell ⟨eb, 0, none⟩ (.iface 58 (.pointer (some ⟨w.heap.size + 1, 0, none⟩)))).heap[w.heap.size + 1]? = some (.cells #[.int .i64 pos] 60) ∧
      (W.setCell ⟨eb, 0, none⟩ (.iface 58 (.pointer (some ⟨w.heap.size + 1, 0, none⟩)))).heap[eb]? = some (.cells #[.iface 58 (.pointer (some ⟨w.heap.size + 1, 0, none⟩))] 52) :=
    ⟨kW.of_none.trans (Keep.setCell _ _ (fun _ => rfl)), heap_set_other hS (by simp; omega), heap_set_same (c := #[err]) hW⟩
  have HP := Lib.hid hpost; have HW : Hid (W = (w.drew.alloc (.cells #[.int .i64 pos] 213)).alloc (.cells #[.int .i64 pos] 60)) := Lib.hid rfl
  clear hpost hS hW kW
  clear_value W
  refine callsD_of_wpS Tryd.func73 rfl fun c₀ cs hu => ?_
  refine wpS_region_draw fun t => ?_
  rw [follows_mixed]
  rcases rd2_order t _ rfl with h | h
  all_goals
    rw [h]
    simp [wpOpsS, go_sem, recoverD, hu, Tryd.ntmps73, c0, f0, stopE]
    refine (caught_stop pos err _).mono ?_
    rintro e w' ⟨rfl, hw⟩
    rw [← HW.out] at hw
    subst hw
    simp [go_sem, c1, f1, bodyPostS, results, Tryd.results73]
    have hp := HP.out
    simpa using hp
end Go.Proofs.YtabikmkoajdhmaaDoor

/- Types in memory: variables' blocks (by a map of numbers to blocks) and constructors' blocks (in the ghost heap); what a value stands for with all that has been found out (TR); binding a variable and shortening a way, as changes of the world. Words and plain lemmas. -/
namespace Go.Proofs.YtabikmkoajdhmaaDoor
open Go.RowKit

def sList : Str := [108, 105, 115, 116]
def sPair : Str := [112, 97, 105, 114]
def sFun : Str := [102, 117, 110]
def Ty.con : Ty → Bool | .var _ => false | _ => true
def Ty.kind : Ty → Str | .var _ => [] | .int => INT | .bool => BOOL | .list _ => sList | .pair _ _ => sPair | .fn _ _ => sFun
def Ty.args : Ty → List Ty | .list a => [a] | .pair a b => [a, b] | .fn a b => [a, b] | _ => []
/-- One variable's new meaning. -/
def Ty.sub (N : Nat) (s : Ty) : Ty → Ty
  | .var n => if n = N then s else .var n
  | .int => .int | .bool => .bool
  | .list a => .list (Ty.sub N s a) | .pair a b => .pair (Ty.sub N s a) (Ty.sub N s b) | .fn a b => .fn (Ty.sub N s a) (Ty.sub N s b)
def Ty.has (N : Nat) : Ty → Bool
  | .var n => n = N
  | .int => false | .bool => false
  | .list a => a.has N | .pair a b => a.has N || b.has N | .fn a b => a.has N || b.has N
/-- What has been found out, in turn. -/
abbrev Dl := List (Nat × Ty)
def app : Dl → Ty → Ty
  | [], t => t
  | (N, s) :: r, t => app r (Ty.sub N s t)
theorem app_append (d e : Dl) : ∀ t, app (d ++ e) t = app e (app d t) := by
  induction d with
  | nil => intro t; rfl
  | cons x r ih => intro t; obtain ⟨N, s⟩ := x; exact ih _
theorem app_int : ∀ d : Dl, app d .int = .int
  | [] => rfl
  | (_, _) :: r => app_int r
theorem app_bool : ∀ d : Dl, app d .bool = .bool
  | [] => rfl
  | (_, _) :: r => app_bool r
theorem app_list (a : Ty) : ∀ d : Dl, app d (.list a) = .list (app d a)
  | [] => rfl
  | (_, _) :: r => app_list _ r
theorem app_pair : ∀ (d : Dl) (a b : Ty), app d (.pair a b) = .pair (app d a) (app d b)
  | [], _, _ => rfl
  | (_, _) :: r, _, _ => app_pair r _ _
theorem app_fn : ∀ (d : Dl) (a b : Ty), app d (.fn a b) = .fn (app d a) (app d b)
  | [], _, _ => rfl
  | (_, _) :: r, _, _ => app_fn r _ _
theorem Ty.sub_not {N : Nat} {s : Ty} : ∀ {t : Ty}, t.has N = false → Ty.sub N s t = t
  | .var n, h => by have : ¬ n = N := by simpa [Ty.has] using h
                    simp [Ty.sub, this]
  | .int, _ => rfl
  | .bool, _ => rfl
  | .list a, h => by rw [Ty.sub, Ty.sub_not (t := a) h]
  | .pair a b, h => by simp only [Ty.has, Bool.or_eq_false_iff] at h; rw [Ty.sub, Ty.sub_not h.1, Ty.sub_not h.2]
  | .fn a b, h => by simp only [Ty.has, Bool.or_eq_false_iff] at h; rw [Ty.sub, Ty.sub_not h.1, Ty.sub_not h.2]
theorem Ty.con_sub {N : Nat} {s t : Ty} (h : t.con = true) : (Ty.sub N s t).con = true ∧ (Ty.sub N s t).kind = t.kind ∧ (Ty.sub N s t).args = t.args.map (Ty.sub N s) := by
  cases t <;> simp_all [Ty.con, Ty.sub, Ty.kind, Ty.args]
theorem Ty.con_ext {t u : Ty} (ht : t.con = true) (hu : u.con = true) (hk : t.kind = u.kind) (ha : t.args = u.args) : t = u := by
  cases t <;> cases u <;> simp_all [Ty.con, Ty.kind, Ty.args, INT, BOOL, sList, sPair, sFun]
theorem Ty.arg_sz {t a : Ty} (h : a ∈ t.args) : a.size < t.size := by
  cases t <;> simp [Ty.args] at h
  · subst h; simp [Ty.size]
  · rcases h with rfl | rfl <;> simp [Ty.size] <;> omega
  · rcases h with rfl | rfl <;> simp [Ty.size] <;> omega
theorem Ty.arg_has {t a : Ty} {N : Nat} (h : a ∈ t.args) (hn : t.has N = false) : a.has N = false := by
  cases t <;> simp [Ty.args] at h <;> simp [Ty.has] at hn
  · subst h; exact hn
  · rcases h with rfl | rfl; exact hn.1; exact hn.2
  · rcases h with rfl | rfl; exact hn.1; exact hn.2
theorem Ty.args_len {t : Ty} : t.args.length ≤ 2 := by cases t <;> simp [Ty.args]

/-- The variables' blocks and names, by their numbers. -/
abbrev GV := Nat → Option (Nat × Str)
def GV.sub (A B : GV) : Prop := ∀ N x, A N = some x → B N = some x
def GV.put (A : GV) (N : Nat) (x : Nat × Str) : GV := fun k => if k = N then some x else A k
theorem GV.sub.refl (A : GV) : A.sub A := fun _ _ h => h
theorem GV.sub.trans {A B C : GV} (h : A.sub B) (k : B.sub C) : A.sub C := fun N x e => k N x (h N x e)
theorem GV.put_same (A : GV) (N : Nat) (x : Nat × Str) : A.put N x N = some x := by simp [GV.put]
theorem GV.put_other (A : GV) {N k : Nat} (x : Nat × Str) (h : k ≠ N) : A.put N x k = A k := by simp [GV.put, h]
theorem GV.sub_put {A : GV} {N : Nat} {x : Nat × Str} (h : A N = none) : A.sub (A.put N x) := fun k y e => by
  by_cases hk : k = N
  · subst hk; rw [h] at e; cases e
  · rw [GV.put_other _ _ hk]; exact e

def varV (b : Nat) : Value := .iface 137 (.pointer (some ⟨b, 0, none⟩))
def conV (b : Nat) : Value := .iface 143 (.pointer (some ⟨b, 0, none⟩))
def varObj (N : Nat) (is : Value) (nm : Str) : Obj := .cells #[.int .i64 N, is, .string (bs nm)] 139

mutual
/-- v stands for the type t, all that has been found out put in. -/
inductive TR (G : GH) (A : GV) (w : World) : Value → Ty → Prop
  | free {N b : Nat} {nm : Str} : A N = some (b, nm) → w.heap[b]? = some (varObj N .nilIface nm) → TR G A w (varV b) (.var N)
  | link {N b b' : Nat} {nm : Str} {T : TypeId} {t : Ty} : A N = some (b, nm) → w.heap[b]? = some (varObj N (.iface T (.pointer (some ⟨b', 0, none⟩))) nm) → TR G A w (.iface T (.pointer (some ⟨b', 0, none⟩))) t → TR G A w (varV b) t
  | con {b : Nat} {lv : Value} {vs : List Value} {t : Ty} : t.con = true → G b = some (.cells #[.string (bs t.kind), lv] 147) → SlR G lv vs → TRs G A w vs t.args → TR G A w (conV b) t
inductive TRs (G : GH) (A : GV) (w : World) : List Value → List Ty → Prop
  | nil : TRs G A w [] []
  | cons {v : Value} {vs : List Value} {t : Ty} {ts : List Ty} : TR G A w v t → TRs G A w vs ts → TRs G A w (v :: vs) (t :: ts)
end
theorem TR.shape {G : GH} {A : GV} {w : World} {v : Value} {t : Ty} (h : TR G A w v t) : ∃ b, v = varV b ∨ v = conV b := by
  cases h with
  | free => exact ⟨_, .inl rfl⟩
  | link => exact ⟨_, .inl rfl⟩
  | con => exact ⟨_, .inr rfl⟩
theorem TRs.len {G : GH} {A : GV} {w : World} : ∀ {vs : List Value} {ts : List Ty}, TRs G A w vs ts → vs.length = ts.length
  | _, _, .nil => rfl
  | _, _, .cons _ h => by simp [h.len]
theorem TRs.get {G : GH} {A : GV} {w : World} : ∀ {vs : List Value} {ts : List Ty}, TRs G A w vs ts → ∀ i (h : i < vs.length) (h' : i < ts.length), TR G A w vs[i] ts[i]
  | _, _, .nil, i, h, _ => absurd h (Nat.not_lt_zero _)
  | _, _, .cons a _, 0, _, _ => a
  | _, _, .cons _ r, i + 1, h, h' => by simpa using r.get i (by simpa using h) (by simpa using h')

mutual
/-- What leaves every variable's block as it was leaves the meaning. -/
theorem TR.mono {G G' : GH} {A A' : GV} {w w' : World} (hG : G.sub G') (hA : A.sub A') (hw : ∀ N b nm, A N = some (b, nm) → w'.heap[b]? = w.heap[b]?) : ∀ {v : Value} {t : Ty}, TR G A w v t → TR G' A' w' v t
  | _, _, .free h k => .free (hA _ _ h) ((hw _ _ _ h).trans k)
  | _, _, .link h k r => .link (hA _ _ h) ((hw _ _ _ h).trans k) (r.mono hG hA hw)
  | _, _, .con c g s r => .con c (hG _ _ g) (s.sub hG) (r.mono hG hA hw)
theorem TRs.mono {G G' : GH} {A A' : GV} {w w' : World} (hG : G.sub G') (hA : A.sub A') (hw : ∀ N b nm, A N = some (b, nm) → w'.heap[b]? = w.heap[b]?) : ∀ {vs : List Value} {ts : List Ty}, TRs G A w vs ts → TRs G' A' w' vs ts
  | _, _, .nil => .nil
  | _, _, .cons a b => .cons (a.mono hG hA hw) (b.mono hG hA hw)
end

theorem SlR.det {G : GH} {v : Value} {xs ys : List Value} (h : SlR G v xs) (k : SlR G v ys) : xs = ys := by
  rcases h with ⟨rfl, rfl⟩ | ⟨b, arr, T, cap, rfl, h2, h3⟩
  · rcases k with ⟨_, rfl⟩ | ⟨b', arr', T', cap', e, k2, k3⟩
    · rfl
    · cases e
  · rcases k with ⟨e, rfl⟩ | ⟨b', arr', T', cap', e, k2, k3⟩
    · cases e
    · injection e with e1 e2 e3
      injection e1 with e1
      injection e1 with e1
      subst e1
      rw [h2] at k2
      injection k2 with k2
      injection k2 with k2
      subst k2
      refine List.ext_getElem e2 (fun i hi hi' => ?_)
      have := (h3 i hi).symm.trans (k3 i hi')
      injection this

mutual
/-- A value stands for one type. -/
theorem TR.det {G : GH} {A : GV} {w : World} : ∀ {v : Value} {t u : Ty}, TR G A w v t → TR G A w v u → t = u
  | _, _, u, .free (N := N) (b := b) h k, h2 => by
    cases h2 with
    | free h' k' => rw [k] at k'; simp [varObj] at k'; rw [Int.ofNat.inj k'.1]
    | link h' k' r' => rw [k] at k'; simp [varObj] at k'
  | _, _, u, .link h k r, h2 => by
    cases h2 with
    | free h' k' => rw [k] at k'; simp [varObj] at k'
    | link h' k' r' =>
      rw [k] at k'; simp [varObj] at k'
      obtain ⟨_, ⟨rfl, rfl⟩, _⟩ := k'
      exact r.det r'
  | _, _, u, .con c g s r, h2 => by
    cases h2 with
    | con c' g' s' r' =>
      rw [g] at g'
      simp at g'
      obtain ⟨e1, rfl⟩ := g'
      have e := s.det s'
      subst e
      exact Ty.con_ext c c' (bs_inj e1) (r.det r')
theorem TRs.det {G : GH} {A : GV} {w : World} : ∀ {vs : List Value} {ts us : List Ty}, TRs G A w vs ts → TRs G A w vs us → ts = us
  | _, _, _, .nil, .nil => rfl
  | _, _, _, .cons a b, .cons a' b' => by rw [a.det a', b.det b']
end
end Go.Proofs.YtabikmkoajdhmaaDoor

/- Types in memory: what shortening a way and binding a variable do to the meaning of all values. -/
namespace Go.Proofs.YtabikmkoajdhmaaDoor
open Go.RowKit

/-- A value that has become nothing further. -/
inductive Root (G : GH) (A : GV) (w : World) : Value → Ty → Prop
  | var {N b : Nat} {nm : Str} : A N = some (b, nm) → w.heap[b]? = some (varObj N .nilIface nm) → Root G A w (varV b) (.var N)
  | con {b : Nat} {lv : Value} {vs : List Value} {t : Ty} : t.con = true → G b = some (.cells #[.string (bs t.kind), lv] 147) → SlR G lv vs → TRs G A w vs t.args → Root G A w (conV b) t
theorem Root.tr {G : GH} {A : GV} {w : World} {v : Value} {t : Ty} (h : Root G A w v t) : TR G A w v t := by
  cases h with
  | var a b => exact .free a b
  | con a b c d => exact .con a b c d
theorem TR.iface {G : GH} {A : GV} {w : World} {v : Value} {t : Ty} (h : TR G A w v t) : ∃ T b, v = .iface T (.pointer (some ⟨b, 0, none⟩)) := by
  obtain ⟨b, rfl | rfl⟩ := h.shape
  · exact ⟨_, b, rfl⟩
  · exact ⟨_, b, rfl⟩
theorem Root.mono {G G' : GH} {A A' : GV} {w w' : World} (hG : G.sub G') (hA : A.sub A') (hw : ∀ N b nm, A N = some (b, nm) → w'.heap[b]? = w.heap[b]?) {v : Value} {t : Ty} (h : Root G A w v t) : Root G' A' w' v t := by
  cases h with
  | var a b => exact .var (hA _ _ a) ((hw _ _ _ a).trans b)
  | con a b c d => exact .con a (hG _ _ b) (c.sub hG) (d.mono hG hA hw)

/-- The blocks of variables. -/
def isV (A : GV) : Nat → Prop := fun b => ∃ N nm, A N = some (b, nm)

structure TInv (G : GH) (A : GV) (w : World) (n : Nat) : Prop where
  holds : Holds G w
  vars : ∀ N b nm, A N = some (b, nm) → 1 ≤ N ∧ N ≤ n ∧ G b = none ∧ ∃ is, w.heap[b]? = some (varObj N is nm)
theorem TInv.off {G : GH} {A : GV} {w : World} {n : Nat} (h : TInv G A w n) : G.off (isV A) := fun b o hb ⟨N, nm, e⟩ => by
  rw [(h.vars N b nm e).2.2.1] at hb; cases hb
theorem TInv.old {G : GH} {A : GV} {w : World} {n b : Nat} (h : TInv G A w n) (hb : isV A b) : b < w.heap.size := by
  obtain ⟨N, nm, e⟩ := hb
  obtain ⟨_, _, _, i, hi⟩ := h.vars N b nm e
  exact lt_of_heap hi
theorem TInv.one {G : GH} {A : GV} {w : World} {n N M b : Nat} {nm nm' : Str} (h : TInv G A w n) (hN : A N = some (b, nm)) (hM : A M = some (b, nm')) : N = M := by
  obtain ⟨_, _, _, i, e⟩ := h.vars N b nm hN
  obtain ⟨_, _, _, j, f⟩ := h.vars M b nm' hM
  rw [e] at f
  simp [varObj] at f
  exact Int.ofNat.inj f.1
theorem TInv.keep {G : GH} {A : GV} {w w' : World} {n : Nat} (h : TInv G A w n) {S : Nat → Prop} (k : Keep S w w') (hG : G.off S) (hS : ∀ b, isV A b → ¬ S b) : TInv G A w' n :=
  ⟨h.holds.keep k hG, fun N b nm e => let ⟨a, b', c, i, hi⟩ := h.vars N b nm e; ⟨a, b', c, i, k.get hi (hS b ⟨N, nm, e⟩)⟩⟩
theorem TInv.keep0 {G : GH} {A : GV} {w w' : World} {n : Nat} (h : TInv G A w n) (k : Keep none' w w') : TInv G A w' n := h.keep k (fun _ _ _ x => x) (fun _ _ x => x)
theorem TInv.up {G : GH} {A : GV} {w : World} {n m : Nat} (h : TInv G A w n) (hn : n ≤ m) : TInv G A w m :=
  ⟨h.holds, fun N b nm e => let ⟨a, b', c, i⟩ := h.vars N b nm e; ⟨a, Nat.le_trans b' hn, c, i⟩⟩
theorem TInv.blk {G : GH} {A : GV} {w w' : World} {n : Nat} (h : TInv G A w n) {S : Nat → Prop} (k : Keep S w w') (hS : ∀ b, isV A b → ¬ S b) : ∀ N b nm, A N = some (b, nm) → w'.heap[b]? = w.heap[b]? := fun N b nm e => by
  obtain ⟨_, _, _, i, hi⟩ := h.vars N b nm e
  rw [hi]; exact k.get hi (hS b ⟨N, nm, e⟩)
theorem TR.keep {G : GH} {A : GV} {w w' : World} {n : Nat} {v : Value} {t : Ty} (r : TR G A w v t) (h : TInv G A w n) {S : Nat → Prop} (k : Keep S w w') (hS : ∀ b, isV A b → ¬ S b) : TR G A w' v t :=
  r.mono (GH.sub.refl G) (GV.sub.refl A) (h.blk k hS)
theorem TR.keep0 {G : GH} {A : GV} {w w' : World} {n : Nat} {v : Value} {t : Ty} (r : TR G A w v t) (h : TInv G A w n) (k : Keep none' w w') : TR G A w' v t := r.keep h k (fun _ _ x => x)

/-- A free variable's block. -/
theorem TR.var_free {G : GH} {A : GV} {w : World} {N b : Nat} {nm : Str} (hN : A N = some (b, nm)) : ∀ {v : Value} {t : Ty}, TR G A w v t → t = .var N → w.heap[b]? = some (varObj N .nilIface nm)
  | _, _, .free h k, e => by
    injection e with e; subst e
    rw [hN] at h; injection h with h; injection h with h1 h2; subst h1; subst h2
    exact k
  | _, _, .link _ _ r, e => r.var_free hN e
  | _, _, .con c _ _ _, e => by subst e; cases c
/-- The one root that a variable leads to. -/
theorem TR.var_root {G : GH} {A : GV} {w : World} {N : Nat} : ∀ {v : Value} {t : Ty}, TR G A w v t → t = .var N → ∃ b nm, A N = some (b, nm) ∧ w.heap[b]? = some (varObj N .nilIface nm)
  | _, _, .free h k, e => by injection e with e; subst e; exact ⟨_, _, h, k⟩
  | _, _, .link _ _ r, e => r.var_root e
  | _, _, .con c _ _ _, e => by subst e; cases c

/-- The same meaning of all that has been there; nothing but variables' blocks is touched. -/
structure Same (G : GH) (A : GV) (n : Nat) (w w' : World) : Prop where
  keep : Keep (isV A) w w'
  inv : TInv G A w' n
  tr : ∀ v t, TR G A w v t → TR G A w' v t
theorem Same.refl {G : GH} {A : GV} {n : Nat} {w : World} (h : TInv G A w n) : Same G A n w w := ⟨Keep.refl _ _, h, fun _ _ r => r⟩
theorem Same.trans {G : GH} {A : GV} {n : Nat} {a b c : World} (h : Same G A n a b) (k : Same G A n b c) : Same G A n a c := ⟨h.keep.trans k.keep, k.inv, fun v t r => k.tr v t (h.tr v t r)⟩
theorem Same.of0 {G : GH} {A : GV} {n : Nat} {w w' : World} (h : TInv G A w n) (k : Keep none' w w') : Same G A n w w' := ⟨k.of_none, h.keep0 k, fun _ _ r => r.keep0 h k⟩
theorem Same.trs {G : GH} {A : GV} {n : Nat} {w w' : World} (h : Same G A n w w') : ∀ {vs : List Value} {ts : List Ty}, TRs G A w vs ts → TRs G A w' vs ts
  | _, _, .nil => .nil
  | _, _, .cons a b => .cons (h.tr _ _ a) (h.trs b)
/-- A free variable stays free. -/
theorem Same.free {G : GH} {A : GV} {n N b : Nat} {nm : Str} {w w' : World} (h : Same G A n w w') (hN : A N = some (b, nm)) (hf : w.heap[b]? = some (varObj N .nilIface nm)) : w'.heap[b]? = some (varObj N .nilIface nm) :=
  (h.tr _ _ (.free hN hf)).var_free hN rfl
theorem Same.root {G : GH} {A : GV} {n : Nat} {w w' : World} (h : Same G A n w w') {v : Value} {t : Ty} (r : Root G A w v t) : Root G A w' v t := by
  cases r with
  | var a b => exact .var a (h.free a b)
  | con a b c d => exact .con a b c (h.trs d)

theorem set_var {w : World} {b N : Nat} {is u : Value} {nm : Str} (h : w.heap[b]? = some (varObj N is nm)) : (w.setCell ⟨b, 1, none⟩ u).heap[b]? = some (varObj N u nm) := heap_set_same (c := #[.int .i64 N, is, .string (bs nm)]) h
theorem lt_of_mem {t : Ty} {ts : List Ty} {n : Nat} (h : ∀ a ∈ t :: ts, a.size < n) : t.size < n ∧ ∀ a ∈ ts, a.size < n := ⟨h t (by simp), fun a ha => h a (by simp [ha])⟩

/-! ### a way made shorter -/
section
variable {G : GH} {A : GV} {w : World} {N b b' : Nat} {nm : Str} {T : TypeId} {t : Ty}
mutual
theorem comp_small (hb : w.heap[b]? = some (varObj N (.iface T (.pointer (some ⟨b', 0, none⟩))) nm)) (ht : TR G A w (varV b) t) (u : Value) : ∀ {x : Value} {s : Ty}, TR G A w x s → s.size < t.size → TR G A (w.setCell ⟨b, 1, none⟩ u) x s
  | _, _, .free (b := b0) h k, _ => by
    refine .free h (heap_set_other k ?_)
    rintro rfl
    rw [k] at hb; simp [varObj] at hb
  | _, _, .link (b := b0) (t := s) h k r, hs => by
    by_cases e : b0 = b
    · subst e
      have := ht.det (.link h k r)
      subst this
      exact absurd hs (Nat.lt_irrefl _)
    · exact .link h (heap_set_other k e) (comp_small hb ht u r hs)
  | _, _, .con c g s r, hs => .con c g s (comp_smalls hb ht u r (fun a ha => Nat.lt_trans (Ty.arg_sz ha) hs))
theorem comp_smalls (hb : w.heap[b]? = some (varObj N (.iface T (.pointer (some ⟨b', 0, none⟩))) nm)) (ht : TR G A w (varV b) t) (u : Value) : ∀ {xs : List Value} {ss : List Ty}, TRs G A w xs ss → (∀ a ∈ ss, a.size < t.size) → TRs G A (w.setCell ⟨b, 1, none⟩ u) xs ss
  | _, _, .nil, _ => .nil
  | _, _, .cons a r, h => .cons (comp_small hb ht u a (lt_of_mem h).1) (comp_smalls hb ht u r (lt_of_mem h).2)
end
theorem comp_root (hb : w.heap[b]? = some (varObj N (.iface T (.pointer (some ⟨b', 0, none⟩))) nm)) (ht : TR G A w (varV b) t) {r : Value} (u : Value) (hr : Root G A w r t) : Root G A (w.setCell ⟨b, 1, none⟩ u) r t := by
  cases hr with
  | var h k =>
    refine .var h (heap_set_other k ?_)
    rintro rfl
    rw [k] at hb; simp [varObj] at hb
  | con c g s r => exact .con c g s (comp_smalls hb ht u r (fun a ha => Ty.arg_sz ha))
mutual
theorem comp_all (hN : A N = some (b, nm)) (hb : w.heap[b]? = some (varObj N (.iface T (.pointer (some ⟨b', 0, none⟩))) nm)) (ht : TR G A w (varV b) t) {r : Value} (hr : Root G A w r t) : ∀ {x : Value} {s : Ty}, TR G A w x s → TR G A (w.setCell ⟨b, 1, none⟩ r) x s
  | _, _, .free (b := b0) h k => by
    refine .free h (heap_set_other k ?_)
    rintro rfl
    rw [k] at hb; simp [varObj] at hb
  | _, _, .link (b := b0) (t := s) h k q => by
    by_cases e : b0 = b
    · subst e
      have := ht.det (.link h k q)
      subst this
      have hq := (comp_root hb ht r hr).tr
      obtain ⟨c, rfl | rfl⟩ := hq.shape
      · exact .link hN (set_var hb) hq
      · exact .link hN (set_var hb) hq
    · exact .link h (heap_set_other k e) (comp_all hN hb ht hr q)
  | _, _, .con c g s q => .con c g s (comp_alls hN hb ht hr q)
theorem comp_alls (hN : A N = some (b, nm)) (hb : w.heap[b]? = some (varObj N (.iface T (.pointer (some ⟨b', 0, none⟩))) nm)) (ht : TR G A w (varV b) t) {r : Value} (hr : Root G A w r t) : ∀ {xs : List Value} {ss : List Ty}, TRs G A w xs ss → TRs G A (w.setCell ⟨b, 1, none⟩ r) xs ss
  | _, _, .nil => .nil
  | _, _, .cons a q => .cons (comp_all hN hb ht hr a) (comp_alls hN hb ht hr q)
end
end
theorem set_inv {G : GH} {A : GV} {w : World} {n N b : Nat} {nm : Str} {is : Value} (h : TInv G A w n) (hN : A N = some (b, nm)) (hb : w.heap[b]? = some (varObj N is nm)) (u : Value) : TInv G A (w.setCell ⟨b, 1, none⟩ u) n := by
  refine ⟨h.holds.keep (S := one' b) (Keep.setCell _ _ (fun _ => rfl)) (fun k o hk (e : k = b) => ?_), fun M c nm' e => ?_⟩
  · subst e; rw [(h.vars N k nm hN).2.2.1] at hk; cases hk
  · obtain ⟨x1, x2, x3, i, hi⟩ := h.vars M c nm' e
    refine ⟨x1, x2, x3, ?_⟩
    by_cases hc : c = b
    · subst hc
      rw [hb] at hi
      simp [varObj] at hi
      have e1 := Int.ofNat.inj hi.1
      subst e1
      rw [hN] at e
      simp at e
      subst e
      exact ⟨u, set_var hb⟩
    · exact ⟨i, heap_set_other hi hc⟩
theorem set_keep {A : GV} {w : World} {N b : Nat} {nm : Str} (hN : A N = some (b, nm)) (u : Value) : Keep (isV A) w (w.setCell ⟨b, 1, none⟩ u) := Keep.setCell _ _ (fun _ => ⟨N, nm, hN⟩)
/-- A variable's way is made shorter: nothing has another meaning. -/
theorem Same.comp {G : GH} {A : GV} {w : World} {n N b b' : Nat} {nm : Str} {T : TypeId} {t : Ty} {r : Value} (h : TInv G A w n) (hN : A N = some (b, nm)) (hb : w.heap[b]? = some (varObj N (.iface T (.pointer (some ⟨b', 0, none⟩))) nm)) (ht : TR G A w (varV b) t) (hr : Root G A w r t) : Same G A n w (w.setCell ⟨b, 1, none⟩ r) :=
  ⟨set_keep hN r, set_inv h hN hb r, fun _ _ q => comp_all hN hb ht hr q⟩

/-! ### a variable bound -/
section
variable {G : GH} {A : GV} {w : World} {n N b : Nat} {nm : Str} {u : Value} {s : Ty}
mutual
theorem bind_not (hi : TInv G A w n) (hN : A N = some (b, nm)) (hb : w.heap[b]? = some (varObj N .nilIface nm)) (u : Value) : ∀ {x : Value} {t : Ty}, TR G A w x t → t.has N = false → TR G A (w.setCell ⟨b, 1, none⟩ u) x t
  | _, _, .free (b := b0) h k, hs => by
    refine .free h (heap_set_other k ?_)
    rintro rfl
    have := hi.one hN h
    subst this
    simp [Ty.has] at hs
  | _, _, .link (b := b0) h k r, hs => by
    refine .link h (heap_set_other k ?_) (bind_not hi hN hb u r hs)
    rintro rfl
    rw [k] at hb; simp [varObj] at hb
  | _, _, .con c g l r, hs => .con c g l (bind_nots hi hN hb u r (fun a ha => Ty.arg_has ha hs))
theorem bind_nots (hi : TInv G A w n) (hN : A N = some (b, nm)) (hb : w.heap[b]? = some (varObj N .nilIface nm)) (u : Value) : ∀ {xs : List Value} {ts : List Ty}, TRs G A w xs ts → (∀ a ∈ ts, a.has N = false) → TRs G A (w.setCell ⟨b, 1, none⟩ u) xs ts
  | _, _, .nil, _ => .nil
  | _, _, .cons a r, h => .cons (bind_not hi hN hb u a (h _ (by simp))) (bind_nots hi hN hb u r (fun x hx => h x (by simp [hx])))
end
mutual
theorem bind_all (hi : TInv G A w n) (hN : A N = some (b, nm)) (hb : w.heap[b]? = some (varObj N .nilIface nm)) (hu : TR G A w u s) (hs : s.has N = false) : ∀ {x : Value} {t : Ty}, TR G A w x t → TR G A (w.setCell ⟨b, 1, none⟩ u) x (Ty.sub N s t)
  | _, _, .free (N := M) (b := b0) h k => by
    by_cases e : M = N
    · subst e
      rw [hN] at h
      simp at h
      obtain ⟨rfl, rfl⟩ := h
      simp only [Ty.sub, if_true]
      have hq := bind_not hi hN hb u hu hs
      obtain ⟨c, rfl | rfl⟩ := hu.shape
      · exact .link hN (set_var hb) hq
      · exact .link hN (set_var hb) hq
    · simp only [Ty.sub, e, if_false]
      refine .free h (heap_set_other k ?_)
      rintro rfl
      exact e (hi.one h hN)
  | _, _, .link (b := b0) h k r => by
    refine .link h (heap_set_other k ?_) (bind_all hi hN hb hu hs r)
    rintro rfl
    rw [k] at hb; simp [varObj] at hb
  | _, _, .con (t := t) c g l r => by
    obtain ⟨e1, e2, e3⟩ := Ty.con_sub (N := N) (s := s) c
    refine .con e1 (by rw [e2]; exact g) l ?_
    rw [e3]
    exact bind_alls hi hN hb hu hs r
theorem bind_alls (hi : TInv G A w n) (hN : A N = some (b, nm)) (hb : w.heap[b]? = some (varObj N .nilIface nm)) (hu : TR G A w u s) (hs : s.has N = false) : ∀ {xs : List Value} {ts : List Ty}, TRs G A w xs ts → TRs G A (w.setCell ⟨b, 1, none⟩ u) xs (ts.map (Ty.sub N s))
  | _, _, .nil => .nil
  | _, _, .cons a r => .cons (bind_all hi hN hb hu hs a) (bind_alls hi hN hb hu hs r)
end
end
end Go.Proofs.YtabikmkoajdhmaaDoor

/- find: of a variable and of a constructor: the root, by a contract; ways are made shorter. -/
namespace Go.Proofs.YtabikmkoajdhmaaDoor
open Go.RowKit

theorem methFindV (v : Value) (w : World) : (Go.method 395 137 v "typer/types.find").run Tryd.prog w = .ok (155, v) w := by kernel_rfl
theorem methFindC (v : Value) (w : World) : (Go.method 395 143 v "typer/types.find").run Tryd.prog w = .ok (156, v) w := by kernel_rfl

def FindPost (G : GH) (A : GV) (n : Nat) (w : World) (t : Ty) (e : Ending) (w' : World) : Prop := ∃ r, e = .returned r ∧ Same G A n w w' ∧ Root G A w' r t

theorem find_con {G : GH} {A : GV} {w : World} {n b : Nat} {t : Ty} (hi : TInv G A w n) (h : TR G A w (conV b) t) : Calls Tryd.prog 156 #[.pointer (some ⟨b, 0, none⟩)] w (FindPost G A n w t) := by
  go_enter Tryd.func156, Tryd.ntmps156
  go_wp2_with fail
  go_ret
  refine ⟨conV b, rfl, Same.refl hi, ?_⟩
  cases h with
  | con a b c d => exact .con a b c d

theorem Same.linked {G : GH} {A : GV} {n N b b' : Nat} {nm : Str} {T : TypeId} {w w' : World} (hi : TInv G A w n) (h : Same G A n w w') (hN : A N = some (b, nm)) {t : Ty} (hb : w.heap[b]? = some (varObj N (.iface T (.pointer (some ⟨b', 0, none⟩))) nm)) (ht : TR G A w (varV b) t) :
    ∃ T1 b1, w'.heap[b]? = some (varObj N (.iface T1 (.pointer (some ⟨b1, 0, none⟩))) nm) := by
  cases h.tr _ _ ht with
  | free hM hk =>
    have := hi.one hN hM
    subst this
    have hk0 := ht.var_free hN rfl
    rw [hb] at hk0; simp [varObj] at hk0
  | link hM hk _ =>
    have := hi.one hN hM
    subst this
    obtain ⟨_, _, _, i, hi'⟩ := h.inv.vars _ _ _ hN
    rw [hi'] at hk
    simp [varObj] at hk
    obtain ⟨rfl, e2⟩ := hk
    exact ⟨_, _, hi'⟩

set_option maxHeartbeats 1000000 in
theorem find_var {G : GH} {A : GV} {w : World} {n : Nat} (hi : TInv G A w n) : ∀ {v : Value} {t : Ty}, TR G A w v t → ∀ b, v = varV b → Calls Tryd.prog 155 #[.pointer (some ⟨b, 0, none⟩)] w (FindPost G A n w t)
  | _, _, .free (N := N) (b := b) (nm := nm) hN hb, b1, e => by
    have : b = b1 := by simpa [varV] using e
    subst this
    have c1 : w.cell? ⟨b, 1, none⟩ = some .nilIface := cell_of_heap hb rfl
    have HB := Lib.hid hb; clear hb e
    go_enter Tryd.func155, Tryd.ntmps155
    go_wp2_with fail
    go_ret
    exact ⟨varV b, rfl, Same.refl hi, .var hN HB.out⟩
  | _, _, .link (N := N) (b := b) (b' := b') (nm := nm) (T := T) (t := t) hN hb r, b1, e => by
    have : b = b1 := by simpa [varV] using e
    subst this
    have HT := Lib.hid (TR.link hN hb r)
    have ih : ∃ f, (∀ w, (Go.method 395 T (.pointer (some ⟨b', 0, none⟩)) "typer/types.find").run Tryd.prog w = .ok (f, .pointer (some ⟨b', 0, none⟩)) w) ∧ (∀ w, (callFunc f #[.pointer (some ⟨b', 0, none⟩)]).run Tryd.prog w = .ok (.enter f #[.pointer (some ⟨b', 0, none⟩)]) w) ∧ Calls Tryd.prog f #[.pointer (some ⟨b', 0, none⟩)] w (FindPost G A n w t) := by
      obtain ⟨b2, e2 | e2⟩ := r.shape
      · have hc := find_var hi r b2 e2
        simp only [varV, Value.iface.injEq, Value.pointer.injEq, Option.some.injEq, Addr.mk.injEq, and_true] at e2
        obtain ⟨rfl, rfl⟩ := e2
        exact ⟨_, methFindV _, fun _ => by kernel_rfl, hc⟩
      · have hr := r
        rw [e2] at hr
        have hc := find_con hi hr
        simp only [conV, Value.iface.injEq, Value.pointer.injEq, Option.some.injEq, Addr.mk.injEq, and_true] at e2
        obtain ⟨rfl, rfl⟩ := e2
        exact ⟨_, methFindC _, fun _ => by kernel_rfl, hc⟩
    obtain ⟨f, hm, he, hc⟩ := ih
    have HC := Lib.hid hc; have HR := Lib.hid r; clear hc r
    have c1 : w.cell? ⟨b, 1, none⟩ = some (.iface T (.pointer (some ⟨b', 0, none⟩))) := cell_of_heap hb rfl
    have HB := Lib.hid hb; have HI := Lib.hid hi; clear hb e hi
    go_enter Tryd.func155, Tryd.ntmps155
    go_wp2_with fail
    refine HC.out.mono ?_
    rintro e w1 ⟨r1, rfl, hs, hr1⟩
    obtain ⟨T2, b2, rfl⟩ := hr1.tr.iface
    obtain ⟨T1, b1, h1⟩ := Same.linked HI.out hs hN HB.out HT.out
    have HS := Lib.hid hs; have HR1 := Lib.hid hr1; have H1 := Lib.hid h1
    have d1 : w1.cell? ⟨b, 1, none⟩ = some (.iface T1 (.pointer (some ⟨b1, 0, none⟩))) := cell_of_heap h1 rfl
    have f1 : ∀ i, w1.frozen? ⟨b, i, none⟩ = false := fun i => free_of_heap h1
    have d2 : (w1.setCell ⟨b, 1, none⟩ (.iface T2 (.pointer (some ⟨b2, 0, none⟩)))).cell? ⟨b, 1, none⟩ = some (.iface T2 (.pointer (some ⟨b2, 0, none⟩))) := cell_of_heap (set_var h1) rfl
    clear hs hr1 h1
    go_wp2_with fail
    go_ret
    have ht := HS.out.tr _ _ HT.out
    exact ⟨_, rfl, HS.out.trans (Same.comp HS.out.inv hN H1.out ht HR1.out), comp_root H1.out ht _ HR1.out⟩
  | _, _, .con _ _ _ _, b1, e => by simp [varV, conV] at e

/-- A type's value: to which function find leads, and what that gives in any world. -/
theorem find_fn {G : GH} {A : GV} {w : World} {v : Value} {t : Ty} (h : TR G A w v t) :
    ∃ T b f, v = .iface T (.pointer (some ⟨b, 0, none⟩)) ∧ (∀ w, (Go.method 395 T (.pointer (some ⟨b, 0, none⟩)) "typer/types.find").run Tryd.prog w = .ok (f, .pointer (some ⟨b, 0, none⟩)) w) ∧ (∀ w, (callFunc f #[.pointer (some ⟨b, 0, none⟩)]).run Tryd.prog w = .ok (.enter f #[.pointer (some ⟨b, 0, none⟩)]) w) ∧
      ∀ (G' : GH) (A' : GV) (w' : World) (n : Nat) (t' : Ty), TInv G' A' w' n → TR G' A' w' (.iface T (.pointer (some ⟨b, 0, none⟩))) t' → Calls Tryd.prog f #[.pointer (some ⟨b, 0, none⟩)] w' (FindPost G' A' n w' t') := by
  obtain ⟨b, rfl | rfl⟩ := h.shape
  · exact ⟨_, b, _, rfl, methFindV _, fun _ => by kernel_rfl, fun G' A' w' n t' hi h => find_var hi h b rfl⟩
  · exact ⟨_, b, _, rfl, methFindC _, fun _ => by kernel_rfl, fun G' A' w' n t' hi h => find_con hi h⟩
/-- A type's value: to which function find leads, and what that gives. -/
theorem find_any {G : GH} {A : GV} {w : World} {n : Nat} {v : Value} {t : Ty} (hi : TInv G A w n) (h : TR G A w v t) :
    ∃ T b f, v = .iface T (.pointer (some ⟨b, 0, none⟩)) ∧ (∀ w, (Go.method 395 T (.pointer (some ⟨b, 0, none⟩)) "typer/types.find").run Tryd.prog w = .ok (f, .pointer (some ⟨b, 0, none⟩)) w) ∧ (∀ w, (callFunc f #[.pointer (some ⟨b, 0, none⟩)]).run Tryd.prog w = .ok (.enter f #[.pointer (some ⟨b, 0, none⟩)]) w) ∧ Calls Tryd.prog f #[.pointer (some ⟨b, 0, none⟩)] w (FindPost G A n w t) := by
  obtain ⟨b, rfl | rfl⟩ := h.shape
  · exact ⟨_, b, _, rfl, methFindV _, fun _ => by kernel_rfl, find_var hi h b rfl⟩
  · exact ⟨_, b, _, rfl, methFindC _, fun _ => by kernel_rfl, find_con hi h⟩

/-- A slice value that reads as a list: its two forms. -/
theorem SlR.shp {G : GH} {v : Value} {xs : List Value} (h : SlR G v xs) : ∃ a cap, v = .slice a xs.length cap ∧ ∀ w, Holds G w → ∀ j u, xs[j]? = some u → ∃ b, a = some ⟨b, 0, none⟩ ∧ w.cell? ⟨b, j, none⟩ = some u := by
  rcases h with ⟨rfl, rfl⟩ | ⟨b, arr, T, cap, rfl, hb, hx⟩
  · exact ⟨none, 0, rfl, fun w _ j u hj => by simp at hj⟩
  · refine ⟨some ⟨b, 0, none⟩, cap, rfl, fun w hG j u hj => ⟨b, rfl, ?_⟩⟩
    obtain ⟨hlt, rfl⟩ := List.getElem?_eq_some_iff.1 hj
    exact cell_of_heap (hG _ _ hb) (hx j hlt)
end Go.Proofs.YtabikmkoajdhmaaDoor

/- New types in memory: types.Of, (*types.Vars).New: by contracts; what a new block does to the meaning of all values. -/
namespace Go.Proofs.YtabikmkoajdhmaaDoor
open Go.RowKit

/-- A' is A and variables whose blocks are new since w. -/
structure GrewV (A : GV) (w : World) (A' : GV) : Prop where
  sub : A.sub A'
  new : ∀ N b nm, A' N = some (b, nm) → A N = some (b, nm) ∨ w.heap.size ≤ b
theorem GrewV.refl (A : GV) (w : World) : GrewV A w A := ⟨GV.sub.refl A, fun _ _ _ h => .inl h⟩
theorem GrewV.trans {S : Nat → Prop} {A B C : GV} {w w1 : World} (h : GrewV A w B) (k : Keep S w w1) (h' : GrewV B w1 C) : GrewV A w C :=
  ⟨h.sub.trans h'.sub, fun N b nm e => by
    rcases h'.new N b nm e with e | e
    · exact h.new N b nm e
    · exact .inr (Nat.le_trans k.size e)⟩
theorem GrewV.keep {S : Nat → Prop} {A B : GV} {w w1 : World} (k : Keep S w w1) (h' : GrewV A w1 B) : GrewV A w B := (GrewV.refl A w).trans k h'
theorem GrewV.isV {A B : GV} {w : World} (h : GrewV A w B) {b : Nat} (hb : b < w.heap.size) (hn : ¬ isV A b) : ¬ isV B b := fun ⟨N, nm, e⟩ => by
  rcases h.new N b nm e with e | e
  · exact hn ⟨N, nm, e⟩
  · omega

/-- A block laid behind all. -/
theorem TInv.alloc {G : GH} {A : GV} {w : World} {n : Nat} (h : TInv G A w n) (o : Obj) : Grew G w (G.put w.heap.size o) ∧ TInv (G.put w.heap.size o) A (w.alloc o) n := by
  have hf : G w.heap.size = none := h.holds.fresh (Nat.le_refl _)
  refine ⟨⟨GH.sub_put hf, fun b hb => GH.put_other _ _ (by omega)⟩, (h.holds.keep0 (Keep.alloc none' w o)).put (heap_new w o), fun N b nm e => ?_⟩
  obtain ⟨x1, x2, x3, i, hi⟩ := h.vars N b nm e
  have := lt_of_heap hi
  exact ⟨x1, x2, by rw [GH.put_other _ _ (by omega)]; exact x3, i, heap_old hi⟩
theorem Grew.sz {G G' : GH} {w : World} (h : Grew G w G') {b : Nat} (hb : b < w.heap.size) (hn : G b = none) : G' b = none := (h.eq b hb).trans hn

theorem TR.up {G G' : GH} {A A' : GV} {w w' : World} {n : Nat} {v : Value} {t : Ty} (r : TR G A w v t) (h : TInv G A w n) {S : Nat → Prop} (k : Keep S w w') (hS : ∀ b, isV A b → ¬ S b) (hG : G.sub G') (hA : A.sub A') : TR G' A' w' v t :=
  r.mono hG hA (h.blk k hS)

/-- A constructor of one type, laid as types.Of lays it. -/
theorem mk_con1 {G : GH} {A : GV} {w : World} {n : Nat} (h : TInv G A w n) {t a : Ty} {v : Value} (hc : t.con = true) (ha : t.args = [a]) (hv : TR G A w v a) :
    ∃ G', Grew G w G' ∧ TInv G' A ((w.alloc (.cells #[v] 126)).alloc (.cells #[.string (bs t.kind), .slice (some ⟨w.heap.size, 0, none⟩) 1 1] 147)) n ∧
      TR G' A ((w.alloc (.cells #[v] 126)).alloc (.cells #[.string (bs t.kind), .slice (some ⟨w.heap.size, 0, none⟩) 1 1] 147)) (conV (w.heap.size + 1)) t := by
  have e : (w.alloc (.cells #[v] 126)).heap.size = w.heap.size + 1 := by simp
  rw [← e]
  obtain ⟨g1, i1⟩ := h.alloc (.cells #[v] 126)
  obtain ⟨g2, i2⟩ := i1.alloc (.cells #[.string (bs t.kind), .slice (some ⟨w.heap.size, 0, none⟩) 1 1] 147)
  refine ⟨_, g1.trans (Keep.alloc none' w _) g2, i2, ?_⟩
  refine .con (vs := [v]) hc (GH.put_same _ _ _) (.inr ⟨_, _, _, _, rfl, g2.sub _ _ (GH.put_same _ _ _), fun i hi => ?_⟩) ?_
  · have : i = 0 := by simpa using hi
    subst this; rfl
  · rw [ha]
    exact .cons (hv.up h ((Keep.alloc none' w _).trans (Keep.alloc none' _ _)) (fun _ _ x => x) (g1.sub.trans g2.sub) (GV.sub.refl A)) .nil
theorem mk_con2 {G : GH} {A : GV} {w : World} {n : Nat} (h : TInv G A w n) {t a b : Ty} {v u : Value} (hc : t.con = true) (ha : t.args = [a, b]) (hv : TR G A w v a) (hu : TR G A w u b) :
    ∃ G', Grew G w G' ∧ TInv G' A ((w.alloc (.cells #[v, u] 126)).alloc (.cells #[.string (bs t.kind), .slice (some ⟨w.heap.size, 0, none⟩) 2 2] 147)) n ∧
      TR G' A ((w.alloc (.cells #[v, u] 126)).alloc (.cells #[.string (bs t.kind), .slice (some ⟨w.heap.size, 0, none⟩) 2 2] 147)) (conV (w.heap.size + 1)) t := by
  have e : (w.alloc (.cells #[v, u] 126)).heap.size = w.heap.size + 1 := by simp
  rw [← e]
  obtain ⟨g1, i1⟩ := h.alloc (.cells #[v, u] 126)
  obtain ⟨g2, i2⟩ := i1.alloc (.cells #[.string (bs t.kind), .slice (some ⟨w.heap.size, 0, none⟩) 2 2] 147)
  refine ⟨_, g1.trans (Keep.alloc none' w _) g2, i2, ?_⟩
  refine .con (vs := [v, u]) hc (GH.put_same _ _ _) (.inr ⟨_, _, _, _, rfl, g2.sub _ _ (GH.put_same _ _ _), fun i hi => ?_⟩) ?_
  · have : i = 0 ∨ i = 1 := by simp at hi; omega
    rcases this with rfl | rfl <;> rfl
  · rw [ha]
    have k := (Keep.alloc none' w (.cells #[v, u] 126)).trans (Keep.alloc none' _ (.cells #[.string (bs t.kind), .slice (some ⟨w.heap.size, 0, none⟩) 2 2] 147))
    exact .cons (hv.up h k (fun _ _ x => x) (g1.sub.trans g2.sub) (GV.sub.refl A)) (.cons (hu.up h k (fun _ _ x => x) (g1.sub.trans g2.sub) (GV.sub.refl A)) .nil)
theorem mk_con0 {G : GH} {A : GV} {w : World} {n : Nat} (h : TInv G A w n) {t : Ty} (hc : t.con = true) (ha : t.args = []) :
    ∃ G', Grew G w G' ∧ TInv G' A (w.alloc (.cells #[.string (bs t.kind), .slice none 0 0] 147)) n ∧ TR G' A (w.alloc (.cells #[.string (bs t.kind), .slice none 0 0] 147)) (conV w.heap.size) t := by
  obtain ⟨g1, i1⟩ := h.alloc (.cells #[.string (bs t.kind), .slice none 0 0] 147)
  refine ⟨_, g1, i1, .con (vs := []) hc (GH.put_same _ _ _) (.inl ⟨rfl, rfl⟩) ?_⟩
  rw [ha]; exact .nil

theorem of_ok (k : ByteArray) (a : Option Addr) (l c : Nat) (w : World) : Calls Tryd.prog 92 #[.string k, .slice a l c] w (fun e w' => e = .returned (conV w.heap.size) ∧ w' = w.alloc (.cells #[.string k, .slice a l c] 147)) := by
  go_enter Tryd.func92, Tryd.ntmps92
  go_wp2_with fail
  go_ret
  exact ⟨rfl, rfl⟩

def cntObj (n : Nat) : Obj := .cells #[.int .i64 n] 132
theorem new_ok {w : World} {cb n : Nat} (h : w.heap[cb]? = some (cntObj n)) (hn : n < 1000000000) :
    Calls Tryd.prog 109 #[.pointer (some ⟨cb, 0, none⟩)] w (fun e w' => e = .returned (.pointer (some ⟨w.heap.size, 0, none⟩)) ∧ w' = (w.setCell ⟨cb, 0, none⟩ (.int .i64 ((n + 1 : Nat) : Int))).alloc (varObj (n + 1) .nilIface [])) := by
  have c0 : w.cell? ⟨cb, 0, none⟩ = some (.int .i64 n) := cell_of_heap h rfl
  have f0 : ∀ i, w.frozen? ⟨cb, i, none⟩ = false := fun i => free_of_heap h
  have h1 : (w.setCell ⟨cb, 0, none⟩ (.int .i64 ((n : Int) + 1))).heap[cb]? = some (.cells #[.int .i64 ((n : Int) + 1)] 132) := heap_set_same (c := #[.int .i64 n]) h
  have c1 : (w.setCell ⟨cb, 0, none⟩ (.int .i64 ((n : Int) + 1))).cell? ⟨cb, 0, none⟩ = some (.int .i64 ((n : Int) + 1)) := cell_of_heap h1 rfl
  clear h h1
  go_enter Tryd.func109, Tryd.ntmps109
  go_wp2_with fail
  go_ret
  refine ⟨?_, ?_⟩
  · simp
  · simp [varObj, bs]
/-- A new variable. -/
theorem TInv.var {G : GH} {A : GV} {w w2 : World} {n cb : Nat} {nm : Str} (h : TInv G A w n) (k : Keep (one' cb) w w2) (hcb : G cb = none) (hv : ¬ isV A cb) (hb : w2.heap[w.heap.size]? = some (varObj (n + 1) .nilIface nm)) :
    A (n + 1) = none ∧ GrewV A w (A.put (n + 1) (w.heap.size, nm)) ∧ TInv G (A.put (n + 1) (w.heap.size, nm)) w2 (n + 1) ∧ TR G (A.put (n + 1) (w.heap.size, nm)) w2 (varV w.heap.size) (.var (n + 1)) := by
  have h0 : A (n + 1) = none := by
    cases e : A (n + 1) with
    | none => rfl
    | some x => obtain ⟨b, m⟩ := x; have := (h.vars _ _ _ e).2.1; omega
  have hoff : G.off (one' cb) := fun b o hb (e : b = cb) => by subst e; rw [hcb] at hb; cases hb
  have hvs : ∀ b, isV A b → ¬ one' cb b := fun x hx (e : x = cb) => hv (e ▸ hx)
  refine ⟨h0, ⟨GV.sub_put h0, fun N b m e => ?_⟩, ⟨h.holds.keep k hoff, fun N b m e => ?_⟩, .free (GV.put_same _ _ _) hb⟩
  · by_cases hN : N = n + 1
    · subst hN; rw [GV.put_same] at e; injection e with e; injection e with e1 e2; subst e1; exact .inr (Nat.le_refl _)
    · rw [GV.put_other _ _ hN] at e; exact .inl e
  · by_cases hN : N = n + 1
    · subst hN; rw [GV.put_same] at e; injection e with e; injection e with e1 e2; subst e1; subst e2
      exact ⟨by omega, Nat.le_refl _, h.holds.fresh (Nat.le_refl _), _, hb⟩
    · rw [GV.put_other _ _ hN] at e
      obtain ⟨x1, x2, x3, i, hi⟩ := h.vars N b m e
      exact ⟨x1, by omega, x3, i, k.get hi (hvs b ⟨N, m, e⟩)⟩
end Go.Proofs.YtabikmkoajdhmaaDoor

/- The reader of types: its plain function with a bound on the counter, its state in memory, and what changes of memory leave of it. -/
namespace Go.Proofs.YtabikmkoajdhmaaDoor
open Go.RowKit

mutual
/-- pWhole of Spec, the counter bounded. -/
def qWhole : Nat → TS → List Tok → Res (Ty × TS × List Tok)
  | 0, _, _ => none
  | k + 1, st, l => (qOne k st l).bind fun (t, st1, l1) =>
    if (hd l1).kind = .kw ARROW then (qWhole k st1 (adv l1)).bind fun (u, st2, l2) => some (.ok (.fn t u, st2, l2))
    else some (.ok (t, st1, l1))
def qOne : Nat → TS → List Tok → Res (Ty × TS × List Tok)
  | 0, _, _ => none
  | k + 1, st, l =>
    if (hd l).kind = .kw INT then some (.ok (.int, st, adv l))
    else if (hd l).kind = .kw BOOL then some (.ok (.bool, st, adv l))
    else if (hd l).kind = .kw LB then (qWhole k st (adv l)).bind fun (t, st1, l1) => (want (.kw RB) l1).bind fun (_, l2) => some (.ok (.list t, st1, l2))
    else if (hd l).kind = .kw LP then (qWhole k st (adv l)).bind fun (t, st1, l1) =>
      if (hd l1).kind = .kw COMMA then (qWhole k st1 (adv l1)).bind fun (u, st2, l2) => (want (.kw RP) l2).bind fun (_, l3) => some (.ok (.pair t u, st2, l3))
      else (want (.kw RP) l1).bind fun (_, l2) => some (.ok (t, st1, l2))
    else (want .name l).bind fun (n, l1) =>
      match st.m.lookup n with
      | some v => some (.ok (.var v, st, l1))
      | none => if st.n < 1000000000 then some (.ok (.var (st.n + 1), ⟨st.m ++ [(n, st.n + 1)], st.n + 1⟩, l1)) else none
end
/-- types.Read, from a counter on. -/
def readTy (s : Str) (n : Nat) : Option (Except Flt (Ty × TS)) :=
  if s.length > 300 then some (.error { what := 1 })
  else match (qWhole readFuel ⟨[], n⟩ (toks kindsB s 0)).bind fun (t, st, l) => (want .fin l).bind fun _ => some (.ok (t, st)) with
    | none => none
    | some (.error p) => some (.error { what := 2, pos := p })
    | some (.ok (t, st)) => if t.size > 120 then some (.error { what := 8 }) else some (.ok (t, st))

/-- The blocks of a reader of types: itself, the token reader, the map of names, the counter. -/
structure RBs where
  ab : Nat
  rb : Nat
  mb : Nat
  cb : Nat
  fr : Prop
/-- All variables stand for themselves. -/
def FreeA (A : GV) (w : World) : Prop := ∀ N b nm, A N = some (b, nm) → w.heap[b]? = some (varObj N .nilIface nm)
def S3 (x : RBs) : Nat → Prop := fun k => k = x.rb ∨ k = x.mb ∨ k = x.cb
def vptr (A : GV) (N : Nat) : Value := match A N with | some (b, _) => .pointer (some ⟨b, 0, none⟩) | none => .pointer none
theorem vptr_some {A : GV} {N b : Nat} {nm : Str} (h : A N = some (b, nm)) : vptr A N = .pointer (some ⟨b, 0, none⟩) := by simp [vptr, h]
def vents (A : GV) (m : Names) : List (Str × Value) := m.map fun p => (p.1, vptr A p.2)
theorem vents_look (A : GV) (n : Str) : ∀ m : Names, @List.lookup Str Value instBEqOfDecidableEq n (vents A m) = (m.lookup n).map (vptr A)
  | [] => rfl
  | (a, N) :: r => by
    simp only [vents, List.map_cons, List.lookup_cons]
    by_cases h : n = a
    · subst h; simp
    · have h1 : (@BEq.beq Str instBEqOfDecidableEq n a) = false := by simpa using h
      have h2 : (n == a) = false := by simpa using h
      rw [h1, h2]
      exact vents_look A n r

structure RI (x : RBs) (S : ByteArray) (kw : Str → Bool) (kwf : Nat) (G : GH) (A : GV) (w : World) (st : TS) (l : List Tok) : Prop where
  inv : TInv G A w st.n
  ar : G x.ab = some (.cells #[.pointer (some ⟨x.rb, 0, none⟩), .map (some x.mb), .pointer (some ⟨x.cb, 0, none⟩)] 203)
  g : ∀ k, S3 x k → G k = none ∧ ¬ isV A k
  ne : x.rb ≠ x.mb ∧ x.rb ≠ x.cb ∧ x.mb ≠ x.cb
  rd : Rd w x.rb S kw kwf l
  cnt : w.heap[x.cb]? = some (cntObj st.n)
  mp : w.heap[x.mb]? = some (kmap kStr (vents A st.m))
  nm : ∀ p ∈ st.m, ∃ b, A p.2 = some (b, p.1) ∧ w.heap[b]? = some (varObj p.2 .nilIface p.1)
  fr : x.fr → FreeA A w
section
variable {x : RBs} {S : ByteArray} {kw : Str → Bool} {kwf : Nat} {G : GH} {A : GV} {w w' : World} {st : TS} {l l' : List Tok}
theorem RI.off (h : RI x S kw kwf G A w st l) : G.off (S3 x) := fun b o hb hs => by rw [(h.g b hs).1] at hb; cases hb
theorem RI.vs (h : RI x S kw kwf G A w st l) : ∀ b, isV A b → ¬ S3 x b := fun b hb hs => (h.g b hs).2 hb
theorem one_S3 : ∀ i, i < w.heap.size → one' x.rb i → S3 x i := fun _ _ e => .inl e
/-- Behind a call that touched the token reader alone. -/
theorem RI.step (h : RI x S kw kwf G A w st l) (k : Keep (one' x.rb) w w') (r : Rd w' x.rb S kw kwf l') : RI x S kw kwf G A w' st l' :=
  have hoff : G.off (one' x.rb) := fun b o hb (e : b = x.rb) => h.off b o hb (.inl e)
  have hv : ∀ b, isV A b → ¬ one' x.rb b := fun b hb (e : b = x.rb) => h.vs b hb (.inl e)
  ⟨h.inv.keep k hoff hv, h.ar, h.g, h.ne, r, k.get h.cnt (fun e => h.ne.2.1 (Eq.symm e)), k.get h.mp (fun e => h.ne.1 (Eq.symm e)), fun p hp => let ⟨b, e, hb⟩ := h.nm p hp; ⟨b, e, k.get hb (hv b ⟨_, _, e⟩)⟩, fun hf N b nm e => k.get (h.fr hf N b nm e) (hv b ⟨_, _, e⟩)⟩
theorem RI.lt (h : RI x S kw kwf G A w st l) : ∀ k, S3 x k → k < w.heap.size := fun k hk => by
  rcases hk with rfl | rfl | rfl
  · exact h.rd.lt
  · exact lt_of_heap h.mp
  · exact lt_of_heap h.cnt
/-- New blocks. -/
theorem RI.up {G' : GH} (h : RI x S kw kwf G A w st l) (k : Keep none' w w') (g : Grew G w G') (i : TInv G' A w' st.n) : RI x S kw kwf G' A w' st l :=
  ⟨i, g.sub _ _ h.ar, fun b hb => ⟨g.sz (h.lt b hb) (h.g b hb).1, (h.g b hb).2⟩, h.ne, h.rd.keep k (fun x => x), k.get h.cnt (fun x => x), k.get h.mp (fun x => x), fun p hp => let ⟨b, e, hb⟩ := h.nm p hp; ⟨b, e, k.get hb (fun x => x)⟩, fun hf N b nm e => k.get (h.fr hf N b nm e) (fun x => x)⟩
theorem RI.cells (h : RI x S kw kwf G A w st l) : w.cell? ⟨x.ab, 0, none⟩ = some (.pointer (some ⟨x.rb, 0, none⟩)) ∧ w.cell? ⟨x.ab, 1, none⟩ = some (.map (some x.mb)) ∧ w.cell? ⟨x.ab, 2, none⟩ = some (.pointer (some ⟨x.cb, 0, none⟩)) :=
  ⟨cell_of_heap (h.inv.holds _ _ h.ar) rfl, cell_of_heap (h.inv.holds _ _ h.ar) rfl, cell_of_heap (h.inv.holds _ _ h.ar) rfl⟩
theorem RI.trs (h : RI x S kw kwf G A w st l) (k : Keep (S3 x) w w') {G' : GH} {A' : GV} (hG : G.sub G') (hA : A.sub A') {v : Value} {t : Ty} (r : TR G A w v t) : TR G' A' w' v t := r.up h.inv k h.vs hG hA
end
def TPost (x : RBs) (S : ByteArray) (kw : Str → Bool) (kwf : Nat) (G : GH) (A : GV) (w : World) (r : Res (Ty × TS × List Tok)) (e : Ending) (w' : World) : Prop :=
  Keep (S3 x) w w' ∧ match r with
    | some (.ok (t, st, l)) => ∃ v G' A', e = .returned v ∧ Grew G w G' ∧ GrewV A w A' ∧ RI x S kw kwf G' A' w' st l ∧ TR G' A' w' v t
    | some (.error p) => e = .panicked (stopE p)
    | none => False
def WholeOk (kwf : Nat) (kw : Str → Bool) (S : ByteArray) (k : Nat) : Prop := ∀ (x : RBs) (G : GH) (A : GV) (w : World) (st : TS) (l : List Tok) (r : Res (Ty × TS × List Tok)), qWhole k st l = r → r ≠ none → RI x S kw kwf G A w st l →
  Calls Tryd.prog 75 #[.pointer (some ⟨x.ab, 0, none⟩)] w (TPost x S kw kwf G A w r)
def OneOk (kwf : Nat) (kw : Str → Bool) (S : ByteArray) (k : Nat) : Prop := ∀ (x : RBs) (G : GH) (A : GV) (w : World) (st : TS) (l : List Tok) (r : Res (Ty × TS × List Tok)), qOne k st l = r → r ≠ none → RI x S kw kwf G A w st l →
  Calls Tryd.prog 91 #[.pointer (some ⟨x.ab, 0, none⟩)] w (TPost x S kw kwf G A w r)
theorem keepXs {x : RBs} {w a b : World} (h : Keep (S3 x) w a) (k : Keep (S3 x) a b) : Keep (S3 x) w b := h.trans k
theorem keepRs {x : RBs} {w a b : World} (h : Keep (S3 x) w a) (k : Keep (one' x.rb) a b) : Keep (S3 x) w b := h.trans (k.mono (fun _ _ e => .inl e))
theorem keep0s {x : RBs} {w a b : World} (h : Keep (S3 x) w a) (k : Keep none' a b) : Keep (S3 x) w b := h.trans k.of_none
end Go.Proofs.YtabikmkoajdhmaaDoor
