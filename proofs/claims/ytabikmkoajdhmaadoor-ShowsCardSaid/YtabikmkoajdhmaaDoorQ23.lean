/- The engine's memory: the counter, the variables; and what a step leaves of the meaning of all values. -/
import Derived.Test.YtabikmkoajdhmaaDoorQ21
import Derived.Test.YtabikmkoajdhmaaDoorQ04
import Derived.Deep.LoopGhost
import Derived.Test.YtabikmkoajdhmaaDoorQ20
import Derived.Defers
import Derived.Recover
import Derived.WideLaws
import Derived.LaidEql
set_option linter.unusedVariables false
set_option linter.unusedSimpArgs false
namespace Go.Proofs.YtabikmkoajdhmaaDoor
open Go.RowKit

structure EI (cb : Nat) (G : GH) (A : GV) (w : World) (n : Nat) : Prop where
  inv : TInv G A w n
  cnt : w.heap[cb]? = some (cntObj n)
  cg : G cb = none
  cv : ¬ isV A cb
def touch (cb : Nat) (A : GV) : Nat → Prop := fun b => b = cb ∨ isV A b
structure Ext (cb : Nat) (G : GH) (A : GV) (w : World) (d : Dl) (G' : GH) (A' : GV) (w' : World) : Prop where
  keep : Keep (touch cb A) w w'
  g : Grew G w G'
  a : GrewV A w A'
  tr : ∀ v t, TR G A w v t → TR G' A' w' v (app d t)
theorem touch_old {cb : Nat} {A A' : GV} {w : World} (a : GrewV A w A') {b : Nat} (hb : b < w.heap.size) (h : touch cb A' b) : touch cb A b := by
  rcases h with h | ⟨N, nm, e⟩
  · exact .inl h
  · rcases a.new N b nm e with e | e
    · exact .inr ⟨N, nm, e⟩
    · omega
theorem Ext.trans {cb : Nat} {G G1 G2 : GH} {A A1 A2 : GV} {w w1 w2 : World} {d e : Dl} (h : Ext cb G A w d G1 A1 w1) (k : Ext cb G1 A1 w1 e G2 A2 w2) : Ext cb G A w (d ++ e) G2 A2 w2 :=
  ⟨h.keep.trans' k.keep (fun _ _ x => x) (fun _ hi x => touch_old h.a hi x), h.g.trans h.keep k.g, h.a.trans h.keep k.a, fun v t r => by rw [app_append]; exact k.tr _ _ (h.tr _ _ r)⟩
theorem Ext.refl (cb : Nat) (G : GH) (A : GV) (w : World) : Ext cb G A w [] G A w := ⟨Keep.refl _ _, Grew.refl _ _, GrewV.refl _ _, fun _ _ r => r⟩
/-- A step that finds out nothing. -/
theorem Ext.then0 {cb : Nat} {G G1 G2 : GH} {A A1 A2 : GV} {w w1 w2 : World} {d : Dl} (h : Ext cb G A w d G1 A1 w1) (k : Ext cb G1 A1 w1 [] G2 A2 w2) : Ext cb G A w d G2 A2 w2 := by
  have := h.trans k; rwa [List.append_nil] at this
theorem EI.lt {cb : Nat} {G : GH} {A : GV} {w : World} {n : Nat} (h : EI cb G A w n) : cb < w.heap.size := lt_of_heap h.cnt
/-- New blocks alone. -/
theorem EI.up {cb : Nat} {G G' : GH} {A : GV} {w w' : World} {n : Nat} (h : EI cb G A w n) (k : Keep none' w w') (g : Grew G w G') (i : TInv G' A w' n) : EI cb G' A w' n ∧ Ext cb G A w [] G' A w' :=
  ⟨⟨i, k.get h.cnt (fun x => x), g.sz h.lt h.cg, h.cv⟩, ⟨k.of_none, g, GrewV.refl _ _, fun _ _ r => r.up h.inv k (fun _ _ x => x) g.sub (GV.sub.refl A)⟩⟩
theorem EI.keep0 {cb : Nat} {G : GH} {A : GV} {w w' : World} {n : Nat} (h : EI cb G A w n) (k : Keep none' w w') : EI cb G A w' n ∧ Ext cb G A w [] G A w' := h.up k (Grew.refl _ _) (h.inv.keep0 k)
/-- Ways made shorter. -/
theorem EI.same {cb : Nat} {G : GH} {A : GV} {w w' : World} {n : Nat} (h : EI cb G A w n) (s : Same G A n w w') : EI cb G A w' n ∧ Ext cb G A w [] G A w' :=
  ⟨⟨s.inv, s.keep.get h.cnt h.cv, h.cg, h.cv⟩, ⟨s.keep.mono (fun _ _ x => .inr x), Grew.refl _ _, GrewV.refl _ _, fun v t r => s.tr v t r⟩⟩
/-- A new variable, as (*types.Vars).New lays it. -/
theorem EI.new {cb : Nat} {G : GH} {A : GV} {w w2 : World} {n : Nat} {nm : Str} (h : EI cb G A w n) (k : Keep (one' cb) w w2) (hb : w2.heap[w.heap.size]? = some (varObj (n + 1) .nilIface nm)) (hc : w2.heap[cb]? = some (cntObj (n + 1))) :
    EI cb G (A.put (n + 1) (w.heap.size, nm)) w2 (n + 1) ∧ Ext cb G A w [] G (A.put (n + 1) (w.heap.size, nm)) w2 ∧ TR G (A.put (n + 1) (w.heap.size, nm)) w2 (varV w.heap.size) (.var (n + 1)) := by
  obtain ⟨h0, a, i, y⟩ := h.inv.var k h.cg h.cv hb
  have hv : ∀ b, isV A b → ¬ one' cb b := fun x hx (e : x = cb) => h.cv (e ▸ hx)
  exact ⟨⟨i, hc, h.cg, a.isV h.lt h.cv⟩, ⟨k.mono (fun _ _ e => .inl e), Grew.refl _ _, a, fun v t r => r.up h.inv k hv (GH.sub.refl _) a.sub⟩, y⟩
theorem new_world {w : World} {cb n : Nat} (h : w.heap[cb]? = some (cntObj n)) :
    let w2 := (w.setCell ⟨cb, 0, none⟩ (.int .i64 ((n + 1 : Nat) : Int))).alloc (varObj (n + 1) .nilIface [])
    Keep (one' cb) w w2 ∧ w2.heap[w.heap.size]? = some (varObj (n + 1) .nilIface []) ∧ w2.heap[cb]? = some (cntObj (n + 1)) := by
  refine ⟨(Keep.setCell (S := one' cb) w (p := ⟨cb, 0, none⟩) _ (fun _ => rfl)).trans (Keep.alloc _ _ _), ?_, heap_old (heap_set_same (c := #[.int .i64 n]) h)⟩
  have : (w.setCell ⟨cb, 0, none⟩ (.int .i64 ((n + 1 : Nat) : Int))).heap.size = w.heap.size := World.size_setCell _ _ _
  rw [← this]; exact heap_new _ _
end Go.Proofs.YtabikmkoajdhmaaDoor

/- types.Size by a contract: a number that tells whether the size is beyond the bound. -/
namespace Go.Proofs.YtabikmkoajdhmaaDoor
open Go.RowKit

def NB (S B k : Nat) : Prop := 1 ≤ k ∧ k ≤ B + 1 ∧ (S ≤ B → k = S) ∧ (B < S → B < k)
def sums : List Ty → Nat
  | [] => 1
  | t :: r => t.size + sums r
theorem sums_snoc (l : List Ty) (t : Ty) : sums (l ++ [t]) = sums l + t.size := by
  induction l with
  | nil => simp [sums]; omega
  | cons a r ih => simp only [List.cons_append, sums, ih]; omega
theorem Ty.size_pos : ∀ t : Ty, 1 ≤ t.size
  | .var _ => Nat.le_refl _
  | .int => Nat.le_refl _
  | .bool => Nat.le_refl _
  | .list _ => by simp [Ty.size]
  | .pair _ _ => by simp [Ty.size]
  | .fn _ _ => by simp [Ty.size]
theorem sums_args (t : Ty) : t.size = sums t.args := by
  cases t <;> simp [Ty.size, Ty.args, sums]
  omega
  omega
theorem sums_take (l : List Ty) (j : Nat) (h : j < l.length) : sums (l.take (j + 1)) = sums (l.take j) + (l[j]).size := by
  rw [← sums_snoc, List.take_succ_eq_append_getElem h]
def SizePost (G : GH) (A : GV) (n : Nat) (w : World) (t : Ty) (B : Nat) (e : Ending) (w' : World) : Prop := ∃ k : Nat, e = .returned (.int .i64 k) ∧ NB t.size B k ∧ Same G A n w w'
def SizeOk (m : Nat) : Prop := ∀ (G : GH) (A : GV) (w : World) (n : Nat) (v : Value) (t : Ty) (B : Nat), TInv G A w n → TR G A w v t → t.size ≤ m → B ≤ 1000 → Calls Tryd.prog 76 #[v, .int .i64 B] w (SizePost G A n w t B)

set_option maxRecDepth 100000 in
set_option maxHeartbeats 2000000 in
theorem size_step (m : Nat) (ih : SizeOk m) : SizeOk (m + 1) := by
  intro G A w n v t B hi hv hm hB
  obtain ⟨T, b, f, rfl, hmt, hent, hc⟩ := find_any hi hv
  have HC := Lib.hid hc; have IH := Lib.hid ih; have HI := Lib.hid hi; have HM := Lib.hid hm
  clear hc ih hi hm hv
  go_enter Tryd.func76, Tryd.ntmps76
  go_wp2_with fail
  refine HC.out.mono ?_
  rintro e w1 ⟨r, rfl, hs, hr⟩
  cases hr with
  | var hN hb =>
    have HS := Lib.hid hs; clear hs hb
    simp only [varV]
    have ta := taVarCon
    go_wp2_with fail
    go_ret
    exact ⟨1, rfl, ⟨by omega, by omega, fun _ => rfl, fun h => h⟩, HS.out⟩
  | con hcn hg hl hts =>
    rename_i b1 lv vs
    have c1 : w1.cell? ⟨b1, 1, none⟩ = some lv := cell_of_heap (hs.inv.holds _ _ hg) rfl
    obtain ⟨a, cap, rfl, hcells⟩ := hl.shp
    have HS := Lib.hid hs; have HL := Lib.hid hcells; have HT := Lib.hid hts; have HLen : Hid (vs.length = t.args.length) := Lib.hid hts.len
    clear hs hg hl hcells hts
    have hvl : vs.length ≤ 2 := by have := HLen.out; have := Ty.args_len (t := t); omega
    simp only [conV]
    have ta := taConCon
    go_wp2_with fail
    go_loopg [5, 22] vs.length (fun gn s5 s22 wr => ∃ j k : Nat, j ≤ vs.length ∧ Hid (gn = vs.length - j) ∧ s22 = .int .i64 j ∧ s5 = .int .i64 k ∧ 1 ≤ k ∧ k ≤ B + 1 ∧ Hid (NB (sums (t.args.take j)) B k) ∧ Hid (Same G A n w wr) ∧ Hid (TRs G A wr vs t.args))
    case atStart => exact ⟨0, 1, by omega, Lib.hid rfl, rfl, rfl, by omega, by omega, Lib.hid ⟨by omega, by omega, fun _ => by simp [sums], fun h => h⟩, HS, HT⟩
    case round =>
      obtain ⟨j, k, hj, HM2, rfl, rfl, hk1, hkB, HNB, HS2, HT2⟩ := hrel
      have hjj : (0 : Int) ≤ (j : Int) := by omega
      by_cases hlt : j < vs.length
      · have hltx : j < t.args.length := by have := HLen.out; omega
        obtain ⟨b2, rfl, cj⟩ := HL.out wr HS2.out.inv.holds j vs[j] (by simp [hlt])
        have hxj := HT2.out.get j hlt hltx
        obtain ⟨T2, b', e⟩ := hxj.iface
        rw [e] at cj hxj
        have HXJ := Lib.hid hxj; clear hxj e
        have hji : ((j : Int) < (vs.length : Int)) := by omega
        by_cases hkb : k ≤ B
        · have hkbi : (k : Int) ≤ (B : Int) := by omega
          have hsub : ((B : Int) - (k : Int)) = ((B - k : Nat) : Int) := by omega
          go_wp2_with fail
          refine (IH.out G A wr n _ _ (B - k) HS2.out.inv HXJ.out (by have := Ty.arg_sz (List.getElem_mem hltx); have := HM.out; omega) (by omega)).mono ?_
          rintro e w2 ⟨k2, rfl, hnb, hs2⟩
          have hk2 : k2 ≤ B - k + 1 := hnb.2.1
          have hk20 : 1 ≤ k2 := hnb.1
          have HNB2 := Lib.hid hnb; have HS3 := Lib.hid (HS2.out.trans hs2); have HT3 := Lib.hid (hs2.trs HT2.out)
          clear hnb hs2 hsub
          go_wp2_with fail
          go_roundg (vs.length - (j + 1))
          case measure => have := HM2.out; omega
          case rel => exact ⟨j + 1, k + k2, by omega, Lib.hid rfl, by go_num, by go_num, by omega, by omega, Lib.hid (by
            obtain ⟨n1, n2, n3, n4⟩ := HNB.out
            obtain ⟨m1, m2, m3, m4⟩ := HNB2.out
            rw [sums_take _ _ hltx]
            refine ⟨by omega, by omega, fun h => ?_, fun h => ?_⟩
            · rw [n3 (by omega), m3 (by omega)]
            · have e1 : sums (t.args.take j) ≤ B := by
                rcases Nat.lt_or_ge B (sums (t.args.take j)) with h' | h'
                · have := n4 h'; omega
                · exact h'
              have e2 := n3 e1
              have := m4 (by omega)
              omega), HS3, HT3⟩
        · have hkbi : ¬ (k : Int) ≤ (B : Int) := by omega
          go_wp2_with fail
          go_roundg (vs.length - (j + 1))
          case measure => have := HM2.out; omega
          case rel => exact ⟨j + 1, k, by omega, Lib.hid rfl, by go_num, rfl, hk1, hkB, Lib.hid (by
            obtain ⟨n1, n2, n3, n4⟩ := HNB.out
            rw [sums_take _ _ hltx]
            exact ⟨n1, n2, fun h => by omega, fun h => by omega⟩), HS2, HT2⟩
      · have hje : j = vs.length := by omega
        subst hje
        go_wp2_with fail
        go_ret
        refine ⟨k, rfl, ?_, HS2.out⟩
        have e1 : t.args.take vs.length = t.args := by rw [HLen.out, List.take_length]
        rw [sums_args, ← e1]
        exact HNB.out
theorem size_ok : ∀ m, SizeOk m
  | 0 => fun G A w n v t B hi hv hm hB => by have := t.size_pos; omega
  | m + 1 => size_step m (size_ok m)
theorem size_any {G : GH} {A : GV} {w : World} {n : Nat} {v : Value} {t : Ty} (hi : TInv G A w n) (hv : TR G A w v t) : Calls Tryd.prog 76 #[v, .int .i64 120] w (fun e w' => ∃ k : Nat, e = .returned (.int .i64 k) ∧ (t.size ≤ 120 ↔ k ≤ 120) ∧ Same G A n w w') := by
  refine (size_ok t.size G A w n v t 120 hi hv (Nat.le_refl _) (by omega)).mono ?_
  rintro e w' ⟨k, rfl, ⟨h1, h2, h3, h4⟩, hs⟩
  refine ⟨k, rfl, ⟨fun h => by have := h3 h; omega, fun h => ?_⟩, hs⟩
  rcases Nat.lt_or_ge 120 t.size with h' | h'
  · have := h4 h'; omega
  · exact h'
end Go.Proofs.YtabikmkoajdhmaaDoor

/- text.Caught and the deferred literals of ast.Read and types.Read by contracts. -/
namespace Go.Proofs.YtabikmkoajdhmaaDoor
open Go.RowKit

set_option maxHeartbeats 1000000 in
theorem caught_nil (v : Value) (w : World) : Calls Tryd.prog 65 #[.nilIface, v] w fun e w' => e = .returned v ∧ w = w' := by
  go_enter Tryd.func65, Tryd.ntmps65
  go_wp2_with fail
  go_ret
  exact ⟨rfl, rfl⟩
set_option maxHeartbeats 1000000 in
theorem caught_stop (p : Nat) (v : Value) (w : World) : Calls Tryd.prog 65 #[.iface 213 (.agg #[.int .i64 p]), v] w fun e w' => e = .returned (.iface 58 (.pointer (some ⟨w.heap.size + 1, 0, none⟩))) ∧
    w' = (w.alloc (.cells #[.int .i64 p] 213)).alloc (.cells #[.int .i64 p] 60) := by
  have a1 := taStop
  go_enter Tryd.func65, Tryd.ntmps65
  go_wp2_with fail
  go_ret
  exact ⟨rfl, rfl⟩

/-- A region that draws, in a deferred call that may recover. -/
theorem wpS_region_draw {P : Program} {Q : Exit → Act → List Frame → World → Prop} {a : Act} {cs : List Frame} {w : World} {id : Nat} {ops : Array Oper} (h : ∀ t, wpOpsS P ops Q (Region.schedule (P.follows .mixedOrders) ops t) a cs w.drew) : (Code.region id ops true).wpS P Q a cs w :=
  fun b k hb hr => let ⟨e, a', cs', w', q, r⟩ := wp_opsS _ a cs _ (h (w.tape w.drawn (.order b.fn id))) b k hb hr; ⟨e, a', cs', w', q, .of_steps (.one step_region_draw) r⟩

theorem rd1_order (t : Nat) : ∀ ops, Tryd.f64.body = some (.region 0 ops true) → Region.schedule true ops t = [0, 1, 2, 3] ∨ Region.schedule true ops t = [1, 0, 2, 3] := by
  intro ops h
  injection h with h
  injection h with _ h _
  subst h
  rcases (show t % 2 = 0 ∨ t % 2 = 1 by omega) with h | h
  · left
    simp [Region.schedule, Region.linearise, Region.linearise.go, List.range_succ, Region.binds, h, Nat.mod_one]
  · right
    simp [Region.schedule, Region.linearise, Region.linearise.go, List.range_succ, Region.binds, h, Nat.mod_one]

theorem follows_mixed : Tryd.prog.follows .mixedOrders = true := by kernel_rfl

set_option maxHeartbeats 1000000 in
theorem rd1_ret (eb : Nat) (err : Value) (w : World) (he : err = .nilIface ∨ ∃ T v, err = .iface T v) (hb : w.heap[eb]? = some (.cells #[err] 52)) :
    CallsD Tryd.prog 64 #[.pointer (some ⟨eb, 0, none⟩)] .returning w fun e u' w' => e = .returned (.tuple #[]) ∧ u' = .returning ∧ Keep (one' eb) w w' ∧ w'.heap[eb]? = some (.cells #[err] 52) := by
  have c0 : w.drew.cell? ⟨eb, 0, none⟩ = some err := cell_of_heap (w := w) hb rfl
  have f0 : w.drew.frozen? ⟨eb, 0, none⟩ = false := free_of_heap (w := w) hb
  have hpost : Keep (one' eb) w (w.drew.setCell ⟨eb, 0, none⟩ err) ∧ (w.drew.setCell ⟨eb, 0, none⟩ err).heap[eb]? = some (.cells #[err] 52) :=
    ⟨(Keep.drew _ _).trans (Keep.setCell _ _ (fun _ => rfl)), heap_set_same (w := w.drew) (c := #[err]) hb⟩
  refine callsD_of_wpS Tryd.func64 rfl fun c₀ cs hu => ?_
  have hcc : ({ c₀ with mode := FrameMode.returning } : Frame) = c₀ := by rw [← hu]
  refine wpS_region_draw fun t => ?_
  rw [follows_mixed]
  rcases rd1_order t _ rfl with h | h
  all_goals
    rw [h]
    simp [wpOpsS, go_sem, recoverD, hu, Tryd.ntmps64, c0, f0]
    refine (caught_nil err _).mono ?_
    rintro e w' ⟨rfl, rfl⟩
    rcases he with rfl | ⟨T, v, rfl⟩
    all_goals
      simp [go_sem, c0, f0, bodyPostS, results, Tryd.results64]
      exact ⟨.returning, hcc.symm, rfl, hpost⟩

set_option maxHeartbeats 1000000 in
theorem rd1_stop (eb pos : Nat) (err : Value) (w : World) (he : err = .nilIface ∨ ∃ T v, err = .iface T v) (hb : w.heap[eb]? = some (.cells #[err] 52)) :
    CallsD Tryd.prog 64 #[.pointer (some ⟨eb, 0, none⟩)] (.panicking (stopE pos)) w fun e u' w' => e = .returned (.tuple #[]) ∧ u' = .panicking [{ v := .iface 213 (.agg #[.int .i64 pos]), recovered := true }] ∧ Keep (one' eb) w w' ∧
      w'.heap[w.heap.size + 1]? = some (.cells #[.int .i64 pos] 60) ∧ w'.heap[eb]? = some (.cells #[.iface 58 (.pointer (some ⟨w.heap.size + 1, 0, none⟩))] 52) := by
  have c0 : w.drew.cell? ⟨eb, 0, none⟩ = some err := cell_of_heap (w := w) hb rfl
  have f0 : w.drew.frozen? ⟨eb, 0, none⟩ = false := free_of_heap (w := w) hb
  have hlt := lt_of_heap hb
  let W : World := (w.drew.alloc (.cells #[.int .i64 pos] 213)).alloc (.cells #[.int .i64 pos] 60)
  have kW : Keep none' w W := ((Keep.drew _ _).trans (Keep.alloc _ _ _)).trans (Keep.alloc _ _ _)
  have hW : W.heap[eb]? = some (.cells #[err] 52) := kW.get hb (fun x => x)
  have hS : W.heap[w.heap.size + 1]? = some (.cells #[.int .i64 pos] 60) := by
    have := heap_new (w.drew.alloc (.cells #[.int .i64 pos] 213)) (.cells #[.int .i64 pos] 60)
    rw [show (w.drew.alloc (.cells #[.int .i64 pos] 213)).heap.size = w.heap.size + 1 from by show (w.heap.push _).size = _; simp] at this
    exact this
  have c1 : W.cell? ⟨eb, 0, none⟩ = some err := cell_of_heap hW rfl
  have f1 : W.frozen? ⟨eb, 0, none⟩ = false := free_of_heap hW
  have hpost : Keep (one' eb) w (W.setCell ⟨eb, 0, none⟩ (.iface 58 (.pointer (some ⟨w.heap.size + 1, 0, none⟩)))) ∧ (W.setCell ⟨eb, 0, none⟩ (.iface 58 (.pointer (some ⟨w.heap.size + 1, 0, none⟩)))).heap[w.heap.size + 1]? = some (.cells #[.int .i64 pos] 60) ∧
      (W.setCell ⟨eb, 0, none⟩ (.iface 58 (.pointer (some ⟨w.heap.size + 1, 0, none⟩)))).heap[eb]? = some (.cells #[.iface 58 (.pointer (some ⟨w.heap.size + 1, 0, none⟩))] 52) :=
    ⟨kW.of_none.trans (Keep.setCell _ _ (fun _ => rfl)), heap_set_other hS (by simp; omega), heap_set_same (c := #[err]) hW⟩
  have HP := Lib.hid hpost; have HW : Hid (W = (w.drew.alloc (.cells #[.int .i64 pos] 213)).alloc (.cells #[.int .i64 pos] 60)) := Lib.hid rfl
  clear hpost hS hW kW
  clear_value W
  refine callsD_of_wpS Tryd.func64 rfl fun c₀ cs hu => ?_
  refine wpS_region_draw fun t => ?_
  rw [follows_mixed]
  rcases rd1_order t _ rfl with h | h
  all_goals
    rw [h]
    simp [wpOpsS, go_sem, recoverD, hu, Tryd.ntmps64, c0, f0, stopE]
    refine (caught_stop pos err _).mono ?_
    rintro e w' ⟨rfl, hw⟩
    rw [← HW.out] at hw
    subst hw
    simp [go_sem, c1, f1, bodyPostS, results, Tryd.results64]
    have hp := HP.out
    simpa using hp

theorem rd2_order (t : Nat) : ∀ ops, Tryd.f73.body = some (.region 0 ops true) → Region.schedule true ops t = [0, 1, 2, 3] ∨ Region.schedule true ops t = [1, 0, 2, 3] := by
  intro ops h
  injection h with h
  injection h with _ h _
  subst h
  rcases (show t % 2 = 0 ∨ t % 2 = 1 by omega) with h | h
  · left
    simp [Region.schedule, Region.linearise, Region.linearise.go, List.range_succ, Region.binds, h, Nat.mod_one]
  · right
    simp [Region.schedule, Region.linearise, Region.linearise.go, List.range_succ, Region.binds, h, Nat.mod_one]

set_option maxHeartbeats 1000000 in
theorem rd2_ret (eb : Nat) (err : Value) (w : World) (he : err = .nilIface ∨ ∃ T v, err = .iface T v) (hb : w.heap[eb]? = some (.cells #[err] 52)) :
    CallsD Tryd.prog 73 #[.pointer (some ⟨eb, 0, none⟩)] .returning w fun e u' w' => e = .returned (.tuple #[]) ∧ u' = .returning ∧ Keep (one' eb) w w' ∧ w'.heap[eb]? = some (.cells #[err] 52) := by
  have c0 : w.drew.cell? ⟨eb, 0, none⟩ = some err := cell_of_heap (w := w) hb rfl
  have f0 : w.drew.frozen? ⟨eb, 0, none⟩ = false := free_of_heap (w := w) hb
  have hpost : Keep (one' eb) w (w.drew.setCell ⟨eb, 0, none⟩ err) ∧ (w.drew.setCell ⟨eb, 0, none⟩ err).heap[eb]? = some (.cells #[err] 52) :=
    ⟨(Keep.drew _ _).trans (Keep.setCell _ _ (fun _ => rfl)), heap_set_same (w := w.drew) (c := #[err]) hb⟩
  refine callsD_of_wpS Tryd.func73 rfl fun c₀ cs hu => ?_
  have hcc : ({ c₀ with mode := FrameMode.returning } : Frame) = c₀ := by rw [← hu]
  refine wpS_region_draw fun t => ?_
  rw [follows_mixed]
  rcases rd2_order t _ rfl with h | h
  all_goals
    rw [h]
    simp [wpOpsS, go_sem, recoverD, hu, Tryd.ntmps73, c0, f0]
    refine (caught_nil err _).mono ?_
    rintro e w' ⟨rfl, rfl⟩
    rcases he with rfl | ⟨T, v, rfl⟩
    all_goals
      simp [go_sem, c0, f0, bodyPostS, results, Tryd.results73]
      exact ⟨.returning, hcc.symm, rfl, hpost⟩

set_option maxHeartbeats 1000000 in
theorem rd2_stop (eb pos : Nat) (err : Value) (w : World) (he : err = .nilIface ∨ ∃ T v, err = .iface T v) (hb : w.heap[eb]? = some (.cells #[err] 52)) :
    CallsD Tryd.prog 73 #[.pointer (some ⟨eb, 0, none⟩)] (.panicking (stopE pos)) w fun e u' w' => e = .returned (.tuple #[]) ∧ u' = .panicking [{ v := .iface 213 (.agg #[.int .i64 pos]), recovered := true }] ∧ Keep (one' eb) w w' ∧
      w'.heap[w.heap.size + 1]? = some (.cells #[.int .i64 pos] 60) ∧ w'.heap[eb]? = some (.cells #[.iface 58 (.pointer (some ⟨w.heap.size + 1, 0, none⟩))] 52) := by
  have c0 : w.drew.cell? ⟨eb, 0, none⟩ = some err := cell_of_heap (w := w) hb rfl
  have f0 : w.drew.frozen? ⟨eb, 0, none⟩ = false := free_of_heap (w := w) hb
  have hlt := lt_of_heap hb
  let W : World := (w.drew.alloc (.cells #[.int .i64 pos] 213)).alloc (.cells #[.int .i64 pos] 60)
  have kW : Keep none' w W := ((Keep.drew _ _).trans (Keep.alloc _ _ _)).trans (Keep.alloc _ _ _)
  have hW : W.heap[eb]? = some (.cells #[err] 52) := kW.get hb (fun x => x)
  have hS : W.heap[w.heap.size + 1]? = some (.cells #[.int .i64 pos] 60) := by
    have := heap_new (w.drew.alloc (.cells #[.int .i64 pos] 213)) (.cells #[.int .i64 pos] 60)
    rw [show (w.drew.alloc (.cells #[.int .i64 pos] 213)).heap.size = w.heap.size + 1 from by show (w.heap.push _).size = _; simp] at this
    exact this
  have c1 : W.cell? ⟨eb, 0, none⟩ = some err := cell_of_heap hW rfl
  have f1 : W.frozen? ⟨eb, 0, none⟩ = false := free_of_heap hW
  have hpost : Keep (one' eb) w (W.setCell ⟨eb, 0, none⟩ (.iface 58 (.pointer (some ⟨w.heap.size + 1, 0, none⟩)))) ∧ (W.setCell ⟨eb, 0, none⟩ (.iface 58 (.pointer (some ⟨w.heap.size + 1, 0, none⟩)))).heap[w.heap.size + 1]? = some (.cells #[.int .i64 pos] 60) ∧
      (W.setCell ⟨eb, 0, none⟩ (.iface 58 (.pointer (some ⟨w.heap.size + 1, 0, none⟩)))).heap[eb]? = some (.cells #[.iface 58 (.pointer (some ⟨w.heap.size + 1, 0, none⟩))] 52) :=
    ⟨kW.of_none.trans (Keep.setCell _ _ (fun _ => rfl)), heap_set_other hS (by simp; omega), heap_set_same (c := #[err]) hW⟩
  have HP := Lib.hid hpost; have HW : Hid (W = (w.drew.alloc (.cells #[.int .i64 pos] 213)).alloc (.cells #[.int .i64 pos] 60)) := Lib.hid rfl
  clear hpost hS hW kW
  clear_value W
  refine callsD_of_wpS Tryd.func73 rfl fun c₀ cs hu => ?_
  refine wpS_region_draw fun t => ?_
  rw [follows_mixed]
  rcases rd2_order t _ rfl with h | h
  all_goals
    rw [h]
    simp [wpOpsS, go_sem, recoverD, hu, Tryd.ntmps73, c0, f0, stopE]
    refine (caught_stop pos err _).mono ?_
    rintro e w' ⟨rfl, hw⟩
    rw [← HW.out] at hw
    subst hw
    simp [go_sem, c1, f1, bodyPostS, results, Tryd.results73]
    have hp := HP.out
    simpa using hp
end Go.Proofs.YtabikmkoajdhmaaDoor

/- (*ast.reader).expr by a contract: let (not rec), given the contracts one step down. -/
namespace Go.Proofs.YtabikmkoajdhmaaDoor
open Go.RowKit

/-- A block of the call's own, not among G's: a store into it leaves the reader's state as it was. -/
theorem AInv.store {G : GH} {w : World} {ab rb : Nat} {S : ByteArray} {kw : Str → Bool} {kwf : Nat} {l : List Tok} (h : AInv G w ab rb S kw kwf l) {b i : Nat} (u : Value) (hb : G b = none) (hr : b ≠ rb) : AInv G (w.setCell ⟨b, i, none⟩ u) ab rb S kw kwf l := by
  have k : Keep (one' b) w (w.setCell ⟨b, i, none⟩ u) := Keep.setCell _ _ (fun _ => rfl)
  refine ⟨h.holds.keep k (fun c o hc (e : c = b) => by subst e; rw [hb] at hc; cases hc), h.ar, h.off, h.rd.keep k (fun e : rb = b => hr e.symm)⟩
/-- A new block that is not yet among G's. -/
theorem AInv.alloc0 {G : GH} {w : World} {ab rb : Nat} {S : ByteArray} {kw : Str → Bool} {kwf : Nat} {l : List Tok} (h : AInv G w ab rb S kw kwf l) (o : Obj) : AInv G (w.alloc o) ab rb S kw kwf l :=
  ⟨h.holds.keep0 (Keep.alloc none' w o), h.ar, h.off, h.rd.keep (Keep.alloc none' w o) (fun x => x)⟩
/-- A block that is done is taken among G's. -/
theorem AInv.take {G : GH} {w : World} {ab rb : Nat} {S : ByteArray} {kw : Str → Bool} {kwf : Nat} {l : List Tok} (h : AInv G w ab rb S kw kwf l) {b : Nat} {o : Obj} (hb : w.heap[b]? = some o) (hg : G b = none) (hr : b ≠ rb) :
    G.sub (G.put b o) ∧ AInv (G.put b o) w ab rb S kw kwf l := by
  have hab : ab ≠ b := fun e => by subst e; have := h.ar; rw [hg] at this; cases this
  refine ⟨GH.sub_put hg, h.holds.put hb, ?_, ?_, h.rd⟩
  · rw [GH.put_other _ _ hab]; exact h.ar
  · rw [GH.put_other _ _ (Ne.symm hr)]; exact h.off
theorem Grew.put {G G1 : GH} {w : World} (h : Grew G w G1) {b : Nat} (o : Obj) (hb : w.heap.size ≤ b) (hg : G1 b = none) : Grew G w (G1.put b o) :=
  ⟨h.sub.trans (GH.sub_put hg), fun c hc => by rw [GH.put_other _ _ (by omega)]; exact h.eq c hc⟩
theorem Keep.own {w a : World} {rb b i : Nat} (u : Value) (h : Keep (one' rb) w a) (hb : w.heap.size ≤ b) : Keep (one' rb) w (a.setCell ⟨b, i, none⟩ u) :=
  h.trans' (Keep.setCell (S := one' b) _ _ (fun _ => rfl)) (fun _ _ x => x) (fun j hj (e : j = b) => by omega)

set_option maxRecDepth 100000 in
set_option maxHeartbeats 4000000 in
theorem expr_let {kw : Str → Bool} {kwf : Nat} {S : ByteArray} (hx : Lx kw kwf S) (k : Nat) (ih : ExprOk kwf kw S k) (G : GH) (w : World) (ab rb : Nat) (l : List Tok) (r : Res (Ex × List Tok)) (hr : pExp (k + 1) l = r) (hne : r ≠ none)
    (hi : AInv G w ab rb S kw kwf l) (hk : (hd l).kind = .kw LET) (hk2 : ¬ (hd (adv l)).kind = .kw REC) :
    Calls Tryd.prog 68 #[.pointer (some ⟨ab, 0, none⟩)] w (ParsePost G w ab rb S kw kwf r) := by
  have c0 := hi.cell
  obtain ⟨t2, t4⟩ := hi.tok
  have e1 : ¬ (hd l).kind = .kw FUN := by rw [hk]; decide
  have e2 : ¬ (hd l).kind = .kw IF := by rw [hk]; decide
  simp only [pExp, if_neg e1, if_neg e2, if_pos hk, if_neg hk2] at hr
  have IH := Lib.hid ih; have HR := Lib.hid hr; have HNE := Lib.hid hne
  clear ih hr hne
  go_enter Tryd.func68, Tryd.ntmps68
  go_wp2_with fail
  refine (take_any hx (.kw FUN) good_FUN ne_bad _ rb l hi.rd).mono ?_
  rintro e wa ⟨ka, ha⟩
  rw [if_neg e1] at ha
  obtain ⟨rfl, rfl⟩ := ha
  go_wp2_with fail
  refine (take_any hx (.kw IF) good_IF ne_bad _ rb l hi.rd).mono ?_
  rintro e wa ⟨kb, ha⟩
  rw [if_neg e2] at ha
  obtain ⟨rfl, rfl⟩ := ha
  go_wp2_with fail
  refine (take_any hx (.kw LET) good_LET ne_bad _ rb l hi.rd).mono ?_
  rintro e w1 ⟨k1, h1⟩
  rw [if_pos hk] at h1
  obtain ⟨rfl, r1⟩ := h1
  have i1 := hi.step k1 r1
  have c1 := i1.cell
  clear t2 t4 hk e1 e2
  go_wp2_with fail
  refine (take_any hx (.kw REC) good_REC ne_bad _ rb _ i1.rd).mono ?_
  rintro e wa ⟨kc, ha⟩
  rw [if_neg hk2] at ha
  obtain ⟨rfl, rfl⟩ := ha
  clear hk2
  go_wp2_with fail
  refine (want_any hx .name good_name (by decide) _ rb _ i1.rd).mono ?_
  by_cases h2 : (hd (adv l)).kind = .name
  · rw [want_yes h2]
    have hr := HR.out; rw [want_yes h2] at hr; simp only [Res.bind] at hr; clear HR h2
    have HR := Lib.hid hr; clear hr
    rintro e w2 ⟨k2, rfl, r2⟩
    have i2 := i1.step k2 r2
    have c2 := i2.cell
    go_wp2_with fail
    refine (want_any hx (.kw EQ) good_EQ ne_bad _ rb _ i2.rd).mono ?_
    by_cases h3 : (hd (adv (adv l))).kind = .kw EQ
    · rw [want_yes h3]
      have hr := HR.out; rw [want_yes h3] at hr; simp only at hr; clear HR h3
      have HR := Lib.hid hr; clear hr
      rintro e w3 ⟨k3, rfl, r3⟩
      have i3 := i2.step k3 r3
      have c3 := i3.cell
      go_wp2_with fail
      cases hp : pExp k (adv (adv (adv l))) with
      | none => exact absurd (by rw [← HR.out, hp]) HNE.out
      | some rr =>
        refine (IH.out G w3 ab rb _ (some rr) hp (by simp) i3).mono ?_
        have hr := HR.out; rw [hp] at hr; clear HR
        cases rr with
        | error p =>
          simp only at hr
          rintro e w4 ⟨k4, rfl⟩
          go_wp2_with fail
          subst hr
          exact ⟨rfl, keepT k1 (keepT k2 (keepT k3 k4)), rfl⟩
        | ok xl =>
          obtain ⟨x, l4⟩ := xl
          simp only at hr
          have HR := Lib.hid hr; clear hr hp
          rintro e w4 ⟨k4, v, G4, rfl, s4, i4, x4⟩
          obtain ⟨Tv, bv, rfl⟩ := x4.shape
          have K4 : Keep (one' rb) w w4 := keepT k1 (keepT k2 (keepT k3 k4))
          have i5 := i4.alloc0 (.cells #[.int .i64 (hd l).pos, .string (bs (hd (adv l)).text), .iface Tv (.pointer (some ⟨bv, 0, none⟩)), .nilIface] 187)
          have hb5 : (w4.alloc (.cells #[.int .i64 (hd l).pos, .string (bs (hd (adv l)).text), .iface Tv (.pointer (some ⟨bv, 0, none⟩)), .nilIface] 187)).heap[w4.heap.size]? = _ := heap_new _ _
          have c5 := i5.cell
          have hrb : w4.heap.size ≠ rb := by have := i4.rd.lt; omega
          have hg4 : G4 w4.heap.size = none := i4.holds.fresh (Nat.le_refl _)
          go_wp2_with fail
          refine (want_any hx (.kw IN) good_IN ne_bad _ rb _ i5.rd).mono ?_
          by_cases h6 : (hd l4).kind = .kw IN
          · rw [want_yes h6]
            have hr := HR.out; rw [want_yes h6] at hr; simp only at hr; clear HR h6
            have HR := Lib.hid hr; clear hr
            rintro e w6 ⟨k6, rfl, r6⟩
            have i6 := i5.step k6 r6
            have hb6 := k6.get hb5 hrb
            have c6 := i6.cell
            go_wp2_with fail
            cases hp : pExp k (adv l4) with
            | none => exact absurd (by rw [← HR.out, hp]) HNE.out
            | some rr =>
              refine (IH.out G4 w6 ab rb _ (some rr) hp (by simp) i6).mono ?_
              have hr := HR.out; rw [hp] at hr; clear HR
              cases rr with
              | error p =>
                simp only at hr
                rintro e w7 ⟨k7, rfl⟩
                go_wp2_with fail
                subst hr
                exact ⟨rfl, keepT K4 (keepT (Keep.alloc _ _ _) (keepT k6 k7)), rfl⟩
              | ok yl =>
                obtain ⟨y, l7⟩ := yl
                simp only at hr
                have HR := Lib.hid hr; clear hr hp
                rintro e w7 ⟨k7, u, G7, rfl, s7, i7, y7⟩
                obtain ⟨Tu, bu, rfl⟩ := y7.shape
                have hb7 := k7.get hb6 hrb
                have d3 : w7.cell? ⟨w4.heap.size, 3, none⟩ = some .nilIface := cell_of_heap hb7 rfl
                have f3 : w7.frozen? ⟨w4.heap.size, 3, none⟩ = false := free_of_heap hb7
                have hg7 : G7 w4.heap.size = none := (s7.eq _ (lt_of_heap hb6)).trans hg4
                go_wp2_with fail
                go_ret
                refine ⟨Keep.own _ (keepT K4 (keepT (Keep.alloc _ _ _) (keepT k6 k7))) K4.size, ?_⟩
                rw [← HR.out]
                have hb8 := heap_set_same (i := 3) (u := .iface Tu (.pointer (some ⟨bu, 0, none⟩))) hb7
                obtain ⟨s8, i8⟩ := (i7.store (i := 3) (.iface Tu (.pointer (some ⟨bu, 0, none⟩))) hg7 hrb).take hb8 hg7 hrb
                refine ⟨_, _, rfl, ?_, i8, ?_⟩
                · exact Grew.put ((Grew.keep (keepT k1 (keepT k2 k3)) (s4.trans k4 (Grew.keep (keepT (Keep.alloc _ _ _) k6) s7))) ) _ K4.size hg7
                · exact ExR.lt (GH.put_same _ _ _) ((x4.sub s7.sub).sub s8) (y7.sub s8)
          · rw [want_no h6]
            have hr := HR.out; rw [want_no h6] at hr; simp only at hr; clear HR h6
            rintro e w6 ⟨k6, rfl⟩
            go_wp2_with fail
            subst hr
            exact ⟨rfl, keepT K4 (keepT (Keep.alloc _ _ _) k6), rfl⟩
    · rw [want_no h3]
      have hr := HR.out; rw [want_no h3] at hr; simp only at hr; clear HR h3
      rintro e w3 ⟨k3, rfl⟩
      go_wp2_with fail
      subst hr
      exact ⟨rfl, keepT k1 (keepT k2 k3), rfl⟩
  · rw [want_no h2]
    have hr := HR.out; rw [want_no h2] at hr; simp only [Res.bind] at hr; clear HR h2
    rintro e w2 ⟨k2, rfl⟩
    go_wp2_with fail
    subst hr
    exact ⟨rfl, keepT k1 k2, rfl⟩
end Go.Proofs.YtabikmkoajdhmaaDoor

/- (*ast.reader).expr by a contract: if, given the contracts one step down. -/
namespace Go.Proofs.YtabikmkoajdhmaaDoor
open Go.RowKit

set_option maxRecDepth 100000 in
set_option maxHeartbeats 4000000 in
theorem expr_if {kw : Str → Bool} {kwf : Nat} {S : ByteArray} (hx : Lx kw kwf S) (k : Nat) (ih : ExprOk kwf kw S k) (G : GH) (w : World) (ab rb : Nat) (l : List Tok) (r : Res (Ex × List Tok)) (hr : pExp (k + 1) l = r) (hne : r ≠ none)
    (hi : AInv G w ab rb S kw kwf l) (hk : (hd l).kind = .kw IF) :
    Calls Tryd.prog 68 #[.pointer (some ⟨ab, 0, none⟩)] w (ParsePost G w ab rb S kw kwf r) := by
  have c0 := hi.cell
  obtain ⟨t2, t4⟩ := hi.tok
  have e1 : ¬ (hd l).kind = .kw FUN := by rw [hk]; decide
  simp only [pExp, if_neg e1, if_pos hk] at hr
  have IH := Lib.hid ih; have HR := Lib.hid hr; have HNE := Lib.hid hne
  clear ih hr hne
  go_enter Tryd.func68, Tryd.ntmps68
  go_wp2_with fail
  refine (take_any hx (.kw FUN) good_FUN ne_bad _ rb l hi.rd).mono ?_
  rintro e wa ⟨ka, ha⟩
  rw [if_neg e1] at ha
  obtain ⟨rfl, rfl⟩ := ha
  go_wp2_with fail
  refine (take_any hx (.kw IF) good_IF ne_bad _ rb l hi.rd).mono ?_
  rintro e w1 ⟨k1, h1⟩
  rw [if_pos hk] at h1
  obtain ⟨rfl, r1⟩ := h1
  have i1 := hi.step k1 r1
  have c1 := i1.cell
  clear t2 t4 hk e1
  go_wp2_with fail
  cases hp : pExp k (adv l) with
  | none => exact absurd (by rw [← HR.out, hp] <;> rfl) HNE.out
  | some rr =>
    refine (IH.out G w1 ab rb _ (some rr) hp (by simp) i1).mono ?_
    have hr := HR.out; rw [hp] at hr; (try simp only [Res.bind] at hr); clear HR
    cases rr with
    | error p =>
      (try simp only at hr)
      rintro e wz ⟨kz, rfl⟩
      go_wp2_with fail
      subst hr
      exact ⟨rfl, keepT k1 kz, rfl⟩
    | ok xl =>
      obtain ⟨x1, m1⟩ := xl
      (try simp only at hr)
      have HR := Lib.hid hr; clear hr hp
      rintro e v1 ⟨kv1, u1, G1, rfl, s1, j1, y1⟩
      obtain ⟨T1, b1, rfl⟩ := y1.shape
      have KV1 : Keep (one' rb) w v1 := keepT k1 kv1
      have ia := j1.alloc0 (.cells #[.int .i64 (hd l).pos, .iface T1 (.pointer (some ⟨b1, 0, none⟩)), .nilIface, .nilIface] 190)
      have hb1 : (v1.alloc (.cells #[.int .i64 (hd l).pos, .iface T1 (.pointer (some ⟨b1, 0, none⟩)), .nilIface, .nilIface] 190)).heap[v1.heap.size]? = _ := heap_new _ _
      have ca := ia.cell
      have hrb : v1.heap.size ≠ rb := by have := j1.rd.lt; omega
      have hg1 : G1 v1.heap.size = none := j1.holds.fresh (Nat.le_refl _)
      have GA : Grew G w G1 := Grew.keep k1 s1
      go_wp2_with fail
      refine (want_any hx (.kw THEN) good_THEN ne_bad _ rb _ ia.rd).mono ?_
      by_cases hw : (hd m1).kind = .kw THEN
      · rw [want_yes hw]
        have hr := HR.out; rw [want_yes hw] at hr; (try simp only at hr); clear HR hw
        have HR := Lib.hid hr; clear hr
        rintro e w2 ⟨kw2, rfl, rw2⟩
        have KW2 : Keep (one' rb) w w2 := keepT (keepT KV1 (Keep.alloc _ _ _)) kw2
        have i2 := ia.step kw2 rw2
        have hb2 := kw2.get hb1 hrb
        have c2 := i2.cell
        go_wp2_with fail
        cases hp : pExp k (adv m1) with
        | none => exact absurd (by rw [← HR.out, hp] <;> rfl) HNE.out
        | some rr =>
          refine (IH.out G1 w2 ab rb _ (some rr) hp (by simp) i2).mono ?_
          have hr := HR.out; rw [hp] at hr; (try simp only [Res.bind] at hr); clear HR
          cases rr with
          | error p =>
            (try simp only at hr)
            rintro e wz ⟨kz, rfl⟩
            go_wp2_with fail
            subst hr
            exact ⟨rfl, keepT KW2 kz, rfl⟩
          | ok xl =>
            obtain ⟨x2, m2⟩ := xl
            (try simp only at hr)
            have HR := Lib.hid hr; clear hr hp
            rintro e v2 ⟨kv2, u2, G2, rfl, s2, j2, y2⟩
            obtain ⟨T2, b2, rfl⟩ := y2.shape
            have KV2 : Keep (one' rb) w v2 := keepT KW2 kv2
            have hb3 := kv2.get hb2 hrb
            have d2 : v2.cell? ⟨v1.heap.size, 2, none⟩ = some .nilIface := cell_of_heap hb3 rfl
            have f2 : v2.frozen? ⟨v1.heap.size, 2, none⟩ = false := free_of_heap hb3
            have hg2 : G2 v1.heap.size = none := (s2.eq _ (lt_of_heap hb2)).trans hg1
            have GB : Grew G w G2 := GA.trans KW2 s2
            have hb4 := heap_set_same (i := 2) (u := .iface T2 (.pointer (some ⟨b2, 0, none⟩))) hb3
            have ib := j2.store (i := 2) (.iface T2 (.pointer (some ⟨b2, 0, none⟩))) hg2 hrb
            have cb := ib.cell
            have KS : Keep (one' rb) w (v2.setCell ⟨v1.heap.size, 2, none⟩ (.iface T2 (.pointer (some ⟨b2, 0, none⟩)))) := Keep.own _ KV2 KV1.size
            go_wp2_with fail
            refine (want_any hx (.kw ELSE) good_ELSE ne_bad _ rb _ ib.rd).mono ?_
            by_cases hw : (hd m2).kind = .kw ELSE
            · rw [want_yes hw]
              have hr := HR.out; rw [want_yes hw] at hr; (try simp only at hr); clear HR hw
              have HR := Lib.hid hr; clear hr
              rintro e w3 ⟨kw3, rfl, rw3⟩
              have KW3 : Keep (one' rb) w w3 := keepT KS kw3
              have i3 := ib.step kw3 rw3
              have hb5 := kw3.get hb4 hrb
              have c3 := i3.cell
              go_wp2_with fail
              cases hp : pExp k (adv m2) with
              | none => exact absurd (by rw [← HR.out, hp] <;> rfl) HNE.out
              | some rr =>
                refine (IH.out G2 w3 ab rb _ (some rr) hp (by simp) i3).mono ?_
                have hr := HR.out; rw [hp] at hr; (try simp only [Res.bind] at hr); clear HR
                cases rr with
                | error p =>
                  (try simp only at hr)
                  rintro e wz ⟨kz, rfl⟩
                  go_wp2_with fail
                  subst hr
                  exact ⟨rfl, keepT KW3 kz, rfl⟩
                | ok xl =>
                  obtain ⟨x3, m3⟩ := xl
                  (try simp only at hr)
                  have HR := Lib.hid hr; clear hr hp
                  rintro e v3 ⟨kv3, u3, G3, rfl, s3, j3, y3⟩
                  obtain ⟨T3, b3, rfl⟩ := y3.shape
                  have KV3 : Keep (one' rb) w v3 := keepT KW3 kv3
                  have hb6 := kv3.get hb5 hrb
                  have d3 : v3.cell? ⟨v1.heap.size, 3, none⟩ = some .nilIface := cell_of_heap hb6 rfl
                  have f3 : v3.frozen? ⟨v1.heap.size, 3, none⟩ = false := free_of_heap hb6
                  have hg3 : G3 v1.heap.size = none := (s3.eq _ (lt_of_heap hb5)).trans hg2
                  have GC : Grew G w G3 := GB.trans KW3 s3
                  go_wp2_with fail
                  go_ret
                  refine ⟨Keep.own _ KV3 KV1.size, ?_⟩
                  rw [← HR.out]
                  have hb7 := heap_set_same (i := 3) (u := .iface T3 (.pointer (some ⟨b3, 0, none⟩))) hb6
                  obtain ⟨s8, i8⟩ := (j3.store (i := 3) (.iface T3 (.pointer (some ⟨b3, 0, none⟩))) hg3 hrb).take hb7 hg3 hrb
                  refine ⟨_, _, rfl, GC.put _ KV1.size hg3, i8, ?_⟩
                  exact ExR.ite (GH.put_same _ _ _) (((y1.sub s2.sub).sub s3.sub).sub s8) ((y2.sub s3.sub).sub s8) (y3.sub s8)
            · rw [want_no hw]
              have hr := HR.out; rw [want_no hw] at hr; (try simp only at hr); clear HR hw
              rintro e wz ⟨kz, rfl⟩
              go_wp2_with fail
              subst hr
              exact ⟨rfl, keepT KS kz, rfl⟩
      · rw [want_no hw]
        have hr := HR.out; rw [want_no hw] at hr; (try simp only at hr); clear HR hw
        rintro e wz ⟨kz, rfl⟩
        go_wp2_with fail
        subst hr
        exact ⟨rfl, keepT (keepT KV1 (Keep.alloc _ _ _)) kz, rfl⟩
end Go.Proofs.YtabikmkoajdhmaaDoor

/- (*ast.reader).expr by a contract: an atom, applied to atoms, given the contracts one step down. -/
namespace Go.Proofs.YtabikmkoajdhmaaDoor
open Go.RowKit

set_option maxRecDepth 100000 in
set_option maxHeartbeats 4000000 in
theorem expr_app {kw : Str → Bool} {kwf : Nat} {S : ByteArray} (hx : Lx kw kwf S) (k : Nat) (ih : ∀ j, j ≤ k → AtomOk kwf kw S j) (G : GH) (w : World) (ab rb : Nat) (l : List Tok) (r : Res (Ex × List Tok)) (hr : pExp (k + 1) l = r) (hne : r ≠ none)
    (hi : AInv G w ab rb S kw kwf l) (e1 : ¬ (hd l).kind = .kw FUN) (e2 : ¬ (hd l).kind = .kw IF) (e3 : ¬ (hd l).kind = .kw LET) :
    Calls Tryd.prog 68 #[.pointer (some ⟨ab, 0, none⟩)] w (ParsePost G w ab rb S kw kwf r) := by
  have c0 := hi.cell
  obtain ⟨t2, t4⟩ := hi.tok
  simp only [pExp, if_neg e1, if_neg e2, if_neg e3] at hr
  have IH := Lib.hid ih; have HR := Lib.hid hr; have HNE := Lib.hid hne
  clear ih hr hne
  go_enter Tryd.func68, Tryd.ntmps68
  go_wp2_with fail
  refine (take_any hx (.kw FUN) good_FUN ne_bad _ rb l hi.rd).mono ?_
  rintro e wa ⟨ka, ha⟩
  rw [if_neg e1] at ha
  obtain ⟨rfl, rfl⟩ := ha
  go_wp2_with fail
  refine (take_any hx (.kw IF) good_IF ne_bad _ rb l hi.rd).mono ?_
  rintro e wa ⟨kb, ha⟩
  rw [if_neg e2] at ha
  obtain ⟨rfl, rfl⟩ := ha
  go_wp2_with fail
  refine (take_any hx (.kw LET) good_LET ne_bad _ rb l hi.rd).mono ?_
  rintro e wa ⟨kc, ha⟩
  rw [if_neg e3] at ha
  obtain ⟨rfl, rfl⟩ := ha
  clear ka kb kc e1 e2 e3
  go_wp2_with fail
  cases hp : pAtom k l with
  | none => exact absurd (by rw [← HR.out, hp]; rfl) HNE.out
  | some rr =>
    refine (IH.out k (Nat.le_refl _) G w ab rb _ (some rr) hp (by simp) hi).mono ?_
    have hr := HR.out; rw [hp] at hr; simp only [Res.bind] at hr; clear HR
    cases rr with
    | error p =>
      simp only at hr
      rintro e w4 ⟨k4, rfl⟩
      go_wp2_with fail
      subst hr
      exact ⟨rfl, k4, rfl⟩
    | ok xl =>
      obtain ⟨x, l1⟩ := xl
      simp only at hr
      have HR := Lib.hid hr; clear hr hp
      rintro e w4 ⟨k4, v, G4, rfl, s4, i4, x4⟩
      obtain ⟨Tv, bv, rfl⟩ := x4.shape
      clear c0 t2
      go_wp2_with fail
      go_loopg [8] k (fun n s8 wr => ∃ x v T b G1 l1, n ≤ k ∧ Hid (pApps n x l1 = r) ∧ Hid (v = .iface T (.pointer (some ⟨b, 0, none⟩))) ∧ s8 = .iface T (.pointer (some ⟨b, 0, none⟩)) ∧ AInv G1 wr ab rb S kw kwf l1 ∧ ExR G1 v x ∧ Grew G w G1 ∧ Keep (one' rb) w wr)
      case atStart => exact ⟨x, _, Tv, bv, G4, l1, Nat.le_refl _, HR, Lib.hid rfl, rfl, i4, x4, s4, k4⟩
      case round =>
        clear HR x4 s4 i4 k4
        obtain ⟨x, v, T, b, G1, l1, hn, HR, HV, rfl, i1, x1, s1, k1⟩ := hrel
        obtain ⟨t2, t4'⟩ := i1.tok
        have c0 := i1.cell
        have hg := i1.good hx.good
        have HX := Lib.hid x1; clear x1 t4'
        cases gk with
        | zero => exact absurd (by rw [← HR.out]; rfl) HNE.out
        | succ n =>
          by_cases hmore : (hd l1).kind = .name ∨ (hd l1).kind = .num ∨ (hd l1).kind = .kw LP
          · have hr := HR.out; simp only [pApps, if_pos hmore] at hr; clear HR
            have HR := Lib.hid hr; clear hr
            have hq : ((bs (kstr (hd l1).kind)).toList == [97, 32, 110, 97, 109, 101]) = true ∨
                (((bs (kstr (hd l1).kind)).toList == [97, 32, 110, 97, 109, 101]) = false ∧ ((bs (kstr (hd l1).kind)).toList == [97, 32, 110, 117, 109, 98, 101, 114]) = true) ∨
                (((bs (kstr (hd l1).kind)).toList == [97, 32, 110, 97, 109, 101]) = false ∧ ((bs (kstr (hd l1).kind)).toList == [97, 32, 110, 117, 109, 98, 101, 114]) = false ∧ ((bs (kstr (hd l1).kind)).toList == [40]) = true) := by
              rcases hmore with h | h | h
              · left; rw [h]; exact (kind_is good_name good_name).trans (by simp)
              · right; left; rw [h]; exact ⟨(kind_is good_num good_name).trans (by simp), (kind_is good_num good_num).trans (by simp)⟩
              · right; right; rw [h]; exact ⟨(kind_is good_LP good_name).trans (by simp), (kind_is good_LP good_num).trans (by simp), (kind_is good_LP good_LP).trans (by simp)⟩
            clear hmore hg
            rcases hq with q1 | ⟨q1, q2⟩ | ⟨q1, q2, q3⟩
            all_goals
              go_wp2_with fail
              cases hp : pAtom n l1 with
              | none => exact absurd (by rw [← HR.out, hp]; rfl) HNE.out
              | some rr =>
                refine (IH.out n (by omega) G1 wr ab rb _ (some rr) hp (by simp) i1).mono ?_
                have hr := HR.out; rw [hp] at hr; simp only [Res.bind] at hr; clear HR
                cases rr with
                | error p =>
                  simp only at hr
                  rintro e w5 ⟨k5, rfl⟩
                  go_wp2_with fail
                  subst hr
                  exact ⟨rfl, keepT k1 k5, rfl⟩
                | ok yl =>
                  obtain ⟨y, l5⟩ := yl
                  simp only at hr
                  have HR := Lib.hid hr; clear hr hp
                  rintro e w5 ⟨k5, u, G5, rfl, s5, i5, y5⟩
                  obtain ⟨Tu, bu, rfl⟩ := y5.shape
                  obtain ⟨s6, i6⟩ := i5.alloc (.cells #[.int .i64 (hd l).pos, .iface T (.pointer (some ⟨b, 0, none⟩)), .iface Tu (.pointer (some ⟨bu, 0, none⟩))] 198)
                  go_wp2_with fail
                  go_roundg n
                  case measure => omega
                  case rel =>
                    refine ⟨.app x y, _, _, _, _, l5, by omega, HR, Lib.hid rfl, rfl, i6, ?_, s1.trans k1 (s5.trans k5 s6), keepT k1 (keepT k5 (Keep.alloc _ _ _))⟩
                    exact ExR.app (GH.put_same _ _ _) (((HV.out ▸ HX.out).sub s5.sub).sub s6.sub) (y5.sub s6.sub)
          · have hr := HR.out; simp only [pApps, if_neg hmore] at hr; clear HR
            simp only [not_or] at hmore
            have q1 : ((bs (kstr (hd l1).kind)).toList == [97, 32, 110, 97, 109, 101]) = false := (kind_is hg good_name).trans (by simpa using hmore.1)
            have q2 : ((bs (kstr (hd l1).kind)).toList == [97, 32, 110, 117, 109, 98, 101, 114]) = false := (kind_is hg good_num).trans (by simpa using hmore.2.1)
            have q3 : ((bs (kstr (hd l1).kind)).toList == [40]) = false := (kind_is hg good_LP).trans (by simpa using hmore.2.2)
            have HR := Lib.hid hr; clear hmore hg hr
            go_wp2_with fail
            go_ret
            refine ⟨k1, ?_⟩
            rw [← HR.out]
            exact ⟨_, _, rfl, s1, i1, HV.out ▸ HX.out⟩
end Go.Proofs.YtabikmkoajdhmaaDoor
