/- ast.Below by a contract: the expressions right below one. -/
import Derived.Test.YtabikmkoajdhmaaDoorQ21
import Derived.Test.YtabikmkoajdhmaaDoorQ22
set_option linter.unusedVariables false
set_option linter.unusedSimpArgs false
namespace Go.Proofs.YtabikmkoajdhmaaDoor
open Go.RowKit

def Ex.kids : Ex → List Ex
  | .name _ _ | .num _ => []
  | .fn _ b => [b]
  | .app f a => [f, a]
  | .pair a b => [a, b]
  | .lt _ a b => [a, b]
  | .rc bs e => bs.exprs ++ [e]
  | .ite c a b => [c, a, b]

def ExRs (G : GH) (vs : List Value) (xs : List Ex) : Prop := vs.length = xs.length ∧ ∀ (i : Nat) (v : Value) (x : Ex), vs[i]? = some v → xs[i]? = some x → ExR G v x
theorem ExRs.sub {G G' : GH} (hs : G.sub G') {vs : List Value} {xs : List Ex} (h : ExRs G vs xs) : ExRs G' vs xs := ⟨h.1, fun i v x a b => (h.2 i v x a b).sub hs⟩
theorem ExRs.nil (G : GH) : ExRs G [] [] := ⟨rfl, fun i v x a => by simp at a⟩
theorem ExRs.cons {G : GH} {v : Value} {x : Ex} {vs : List Value} {xs : List Ex} (h : ExR G v x) (t : ExRs G vs xs) : ExRs G (v :: vs) (x :: xs) :=
  ⟨by simp [t.1], fun i u y a b => by
    cases i with
    | zero => simp at a b; subst a; subst b; exact h
    | succ i => exact t.2 i u y (by simpa using a) (by simpa using b)⟩
theorem BsR.list {G : GH} : ∀ {vs : List Value} {bd : Bs}, BsR G vs bd → ExRs G vs bd.exprs
  | _, _, .nil => ExRs.nil G
  | _, _, .cons a b => ExRs.cons a b.list
theorem ExRs.snoc {G : GH} {v : Value} {x : Ex} (h : ExR G v x) : ∀ {vs : List Value} {xs : List Ex}, ExRs G vs xs → ExRs G (vs ++ [v]) (xs ++ [x])
  | [], [], _ => ExRs.cons h (ExRs.nil G)
  | [], y :: ys, t => absurd t.1 (by simp)
  | u :: us, [], t => absurd t.1 (by simp)
  | u :: us, y :: ys, t => ExRs.cons (t.2 0 u y rfl rfl) (ExRs.snoc h ⟨by simpa using t.1, fun i v x a b => t.2 (i + 1) v x (by simpa using a) (by simpa using b)⟩)

def BelowPost (G : GH) (w : World) (x : Ex) (e : Ending) (w' : World) : Prop :=
  ∃ u vs G', e = .returned u ∧ Keep none' w w' ∧ Grew G w G' ∧ Holds G' w' ∧ SlR G' u vs ∧ ExRs G' vs x.kids

/-- A new slice with these elements, laid behind all. -/
theorem below_new {G : GH} {w W : World} {x : Ex} {T : TypeId} {vs : List Value} (hG : Holds G W) (k : Keep none' w W) (hx : ExRs G vs x.kids) :
    BelowPost G w x (.returned (.slice (some ⟨W.heap.size, 0, none⟩) vs.length vs.length)) (W.alloc (.cells vs.toArray T)) := by
  have hf : G W.heap.size = none := hG.fresh (Nat.le_refl _)
  refine ⟨_, vs, G.put W.heap.size (.cells vs.toArray T), rfl, k.trans (Keep.alloc _ _ _), ⟨GH.sub_put hf, fun b hb => GH.put_other _ _ ?_⟩, (hG.keep0 (Keep.alloc none' W _)).put (heap_new _ _), ?_, hx.sub (GH.sub_put hf)⟩
  · have := k.size; omega
  · exact .inr ⟨W.heap.size, vs.toArray, T, vs.length, rfl, GH.put_same _ _ _, fun i hi => by simp [hi]⟩

set_option maxRecDepth 100000 in
set_option maxHeartbeats 2000000 in
theorem below_name (G : GH) (w : World) (b : Nat) (p : Nat) (n : Str) (hG : Holds G w) : Calls Tryd.prog 87 #[.iface 172 (.pointer (some ⟨b, 0, none⟩))] w (BelowPost G w (.name p n)) := by
  have aNameFun := taNameFun
  have aNameApp := taNameApp
  have aNamePair := taNamePair
  have aNameLet := taNameLet
  have aNameRec := taNameRec
  have aNameIf := taNameIf
  go_enter Tryd.func87, Tryd.ntmps87
  go_wp2_with fail
  go_ret
  exact ⟨_, [], G, rfl, Keep.refl _ _, Grew.refl _ _, hG, .inl ⟨rfl, rfl⟩, ExRs.nil G⟩
set_option maxRecDepth 100000 in
set_option maxHeartbeats 2000000 in
theorem below_num (G : GH) (w : World) (b : Nat) (n : Str) (hG : Holds G w) : Calls Tryd.prog 87 #[.iface 176 (.pointer (some ⟨b, 0, none⟩))] w (BelowPost G w (.num n)) := by
  have aNumFun := taNumFun
  have aNumApp := taNumApp
  have aNumPair := taNumPair
  have aNumLet := taNumLet
  have aNumRec := taNumRec
  have aNumIf := taNumIf
  go_enter Tryd.func87, Tryd.ntmps87
  go_wp2_with fail
  go_ret
  exact ⟨_, [], G, rfl, Keep.refl _ _, Grew.refl _ _, hG, .inl ⟨rfl, rfl⟩, ExRs.nil G⟩
set_option maxRecDepth 100000 in
set_option maxHeartbeats 2000000 in
theorem below_fn (G : GH) (w : World) (b : Nat) (p : Int) (n : Str) (v : Value) (x : Ex) (hG : Holds G w) (hb : G b = some (.cells #[.int .i64 p, .string (bs n), v] 181)) (hx : ExR G v x) :
    Calls Tryd.prog 87 #[.iface 179 (.pointer (some ⟨b, 0, none⟩))] w (BelowPost G w (.fn n x)) := by
  have c2 : w.cell? ⟨b, 2, none⟩ = some v := cell_of_heap (hG _ _ hb) rfl
  obtain ⟨Tv, bv, rfl⟩ := hx.shape
  have aFunFun := taFunFun
  go_enter Tryd.func87, Tryd.ntmps87
  go_wp2_with fail
  go_ret
  exact below_new (vs := [_]) hG (Keep.refl _ _) (ExRs.cons hx (ExRs.nil G))
set_option maxRecDepth 100000 in
set_option maxHeartbeats 2000000 in
theorem below_app (G : GH) (w : World) (b : Nat) (p : Int) (v u : Value) (x y : Ex) (hG : Holds G w) (hb : G b = some (.cells #[.int .i64 p, v, u] 198)) (hx : ExR G v x) (hy : ExR G u y) :
    Calls Tryd.prog 87 #[.iface 196 (.pointer (some ⟨b, 0, none⟩))] w (BelowPost G w (.app x y)) := by
  have c1 : w.cell? ⟨b, 1, none⟩ = some v := cell_of_heap (hG _ _ hb) rfl
  have c2 : w.cell? ⟨b, 2, none⟩ = some u := cell_of_heap (hG _ _ hb) rfl
  obtain ⟨Tv, bv, rfl⟩ := hx.shape
  obtain ⟨Tu, bu, rfl⟩ := hy.shape
  have aAppFun := taAppFun
  have aAppApp := taAppApp
  go_enter Tryd.func87, Tryd.ntmps87
  go_wp2_with fail
  (refine region_tail 8 (by kernel_rfl) (by kernel_rfl) ?_; simp only [List.take_succ_cons, List.take_zero, List.drop_succ_cons, List.drop_zero]; repeat still_step; try refine wpStill_nil ?_)
  go_wp2_with fail
  go_ret
  exact below_new (W := w.drew) (vs := [_, _]) (hG.keep0 (Keep.drew _ _)) (Keep.drew _ _) (ExRs.cons hx (ExRs.cons hy (ExRs.nil G)))
set_option maxRecDepth 100000 in
set_option maxHeartbeats 2000000 in
theorem below_pair (G : GH) (w : World) (b : Nat) (p : Int) (v u : Value) (x y : Ex) (hG : Holds G w) (hb : G b = some (.cells #[.int .i64 p, v, u] 184)) (hx : ExR G v x) (hy : ExR G u y) :
    Calls Tryd.prog 87 #[.iface 182 (.pointer (some ⟨b, 0, none⟩))] w (BelowPost G w (.pair x y)) := by
  have c1 : w.cell? ⟨b, 1, none⟩ = some v := cell_of_heap (hG _ _ hb) rfl
  have c2 : w.cell? ⟨b, 2, none⟩ = some u := cell_of_heap (hG _ _ hb) rfl
  obtain ⟨Tv, bv, rfl⟩ := hx.shape
  obtain ⟨Tu, bu, rfl⟩ := hy.shape
  have aPairFun := taPairFun
  have aPairApp := taPairApp
  have aPairPair := taPairPair
  go_enter Tryd.func87, Tryd.ntmps87
  go_wp2_with fail
  (refine region_tail 8 (by kernel_rfl) (by kernel_rfl) ?_; simp only [List.take_succ_cons, List.take_zero, List.drop_succ_cons, List.drop_zero]; repeat still_step; try refine wpStill_nil ?_)
  go_wp2_with fail
  go_ret
  exact below_new (W := w.drew) (vs := [_, _]) (hG.keep0 (Keep.drew _ _)) (Keep.drew _ _) (ExRs.cons hx (ExRs.cons hy (ExRs.nil G)))
set_option maxRecDepth 100000 in
set_option maxHeartbeats 2000000 in
theorem below_lt (G : GH) (w : World) (b : Nat) (p : Int) (n : Str) (v u : Value) (x y : Ex) (hG : Holds G w) (hb : G b = some (.cells #[.int .i64 p, .string (bs n), v, u] 187)) (hx : ExR G v x) (hy : ExR G u y) :
    Calls Tryd.prog 87 #[.iface 185 (.pointer (some ⟨b, 0, none⟩))] w (BelowPost G w (.lt n x y)) := by
  have c1 : w.cell? ⟨b, 2, none⟩ = some v := cell_of_heap (hG _ _ hb) rfl
  have c2 : w.cell? ⟨b, 3, none⟩ = some u := cell_of_heap (hG _ _ hb) rfl
  obtain ⟨Tv, bv, rfl⟩ := hx.shape
  obtain ⟨Tu, bu, rfl⟩ := hy.shape
  have aLetFun := taLetFun
  have aLetApp := taLetApp
  have aLetPair := taLetPair
  have aLetLet := taLetLet
  go_enter Tryd.func87, Tryd.ntmps87
  go_wp2_with fail
  (refine region_tail 8 (by kernel_rfl) (by kernel_rfl) ?_; simp only [List.take_succ_cons, List.take_zero, List.drop_succ_cons, List.drop_zero]; repeat still_step; try refine wpStill_nil ?_)
  go_wp2_with fail
  go_ret
  exact below_new (W := w.drew) (vs := [_, _]) (hG.keep0 (Keep.drew _ _)) (Keep.drew _ _) (ExRs.cons hx (ExRs.cons hy (ExRs.nil G)))
set_option maxRecDepth 100000 in
set_option maxHeartbeats 2000000 in
theorem below_ite (G : GH) (w : World) (b : Nat) (p : Int) (v u z : Value) (x y q : Ex) (hG : Holds G w) (hb : G b = some (.cells #[.int .i64 p, v, u, z] 190)) (hx : ExR G v x) (hy : ExR G u y) (hq : ExR G z q) :
    Calls Tryd.prog 87 #[.iface 188 (.pointer (some ⟨b, 0, none⟩))] w (BelowPost G w (.ite x y q)) := by
  have c1 : w.cell? ⟨b, 1, none⟩ = some v := cell_of_heap (hG _ _ hb) rfl
  have c2 : w.cell? ⟨b, 2, none⟩ = some u := cell_of_heap (hG _ _ hb) rfl
  have c3 : w.cell? ⟨b, 3, none⟩ = some z := cell_of_heap (hG _ _ hb) rfl
  obtain ⟨Tv, bv, rfl⟩ := hx.shape
  obtain ⟨Tu, bu, rfl⟩ := hy.shape
  obtain ⟨Tz, bz, rfl⟩ := hq.shape
  have aIfFun := taIfFun
  have aIfApp := taIfApp
  have aIfPair := taIfPair
  have aIfLet := taIfLet
  have aIfRec := taIfRec
  have aIfIf := taIfIf
  go_enter Tryd.func87, Tryd.ntmps87
  go_wp2_with fail
  (refine region_tail 12 (by kernel_rfl) (by kernel_rfl) ?_; simp only [List.take_succ_cons, List.take_zero, List.drop_succ_cons, List.drop_zero]; repeat still_step; try refine wpStill_nil ?_)
  go_wp2_with fail
  go_ret
  exact below_new (W := w.drew) (vs := [_, _, _]) (hG.keep0 (Keep.drew _ _)) (Keep.drew _ _) (ExRs.cons hx (ExRs.cons hy (ExRs.cons hq (ExRs.nil G))))

theorem ExRs.shape {G : GH} {vs : List Value} {xs : List Ex} (h : ExRs G vs xs) : ∀ u ∈ vs, u.oneCell' = true := fun u hu => by
  obtain ⟨i, hi, rfl⟩ := List.getElem_of_mem hu
  have hx : i < xs.length := by rw [← h.1]; exact hi
  obtain ⟨T, b, e⟩ := (h.2 i vs[i] xs[i] (by simp [hi]) (by simp [hx])).shape
  rw [e]; rfl
theorem SlR.cells {G : GH} {w : World} {v : Value} {xs : List Value} (hG : Holds G w) (h : SlR G v xs) (hne : xs ≠ []) : ∃ b cap, v = .slice (some ⟨b, 0, none⟩) xs.length cap ∧ b < w.heap.size ∧ ∀ j u, xs[j]? = some u → w.cell? ((⟨b, 0, none⟩ : Addr).add j) = some u := by
  rcases h with ⟨_, h⟩ | ⟨b, arr, T, cap, rfl, hb, hx⟩
  · exact absurd h hne
  · refine ⟨b, cap, rfl, hG.lt hb, fun j u hj => ?_⟩
    have hadd : (⟨b, 0, none⟩ : Addr).add j = ⟨b, j, none⟩ := by unfold Addr.add; split <;> simp_all
    rw [hadd]
    obtain ⟨hlt, rfl⟩ := List.getElem?_eq_some_iff.1 hj
    exact cell_of_heap (hG _ _ hb) (hx j hlt)
/-- What an own slice becomes when it is handed out. -/
theorem below_own {G : GH} {w W : World} {x : Ex} {base T : Nat} {v : Value} {n : Nat} {vs : List Value} (hG : Holds G W) (k : Keep none' w W) (hx : ExRs G vs x.kids) (h : W.ownsRow base T 1 v n vs) (hb : w.heap.size ≤ base) (hg : ∀ b, w.heap.size ≤ b → G b = none) :
    BelowPost G w x (.returned v) W := by
  obtain ⟨hl, h⟩ := h
  rcases h with ⟨rfl, rfl⟩ | ⟨g, cap, cur, rfl, hbg, hgg, h1, h2, h3, h4⟩
  · have : vs = [] := by simpa using hl
    subst this
    exact ⟨_, [], G, rfl, k, Grew.refl _ _, hG, .inl ⟨rfl, rfl⟩, hx⟩
  · have hn : n = vs.length := by omega
    subst hn
    have hf : G g = none := hg g (by omega)
    refine ⟨_, vs, G.put g (.cells cur T), rfl, k, ⟨GH.sub_put hf, fun b hb => GH.put_other _ _ (by omega)⟩, hG.put hgg, .inr ⟨g, cur, T, cap, rfl, GH.put_same _ _ _, fun i hi => ?_⟩, hx.sub (GH.sub_put hf)⟩
    have h5 : cur.toList[i]? = some vs[i] := by
      have : (cur.toList.take (vs.length * 1))[i]? = vs[i]? := by rw [h4]
      rw [List.getElem?_take, if_pos (by omega)] at this
      rw [this]; simp [hi]
    simpa using h5

set_option maxRecDepth 100000 in
set_option maxHeartbeats 4000000 in
theorem below_rc (G : GH) (w : World) (b : Nat) (p : Int) (nv lv ev : Value) (vs : List Value) (bd : Bs) (x : Ex) (hG : Holds G w) (hb : G b = some (.cells #[.int .i64 p, nv, lv, ev] 194)) (hl : SlR G lv vs) (hbd : BsR G vs bd) (hv : vs ≠ [] ∧ vs.length ≤ 1000000000) (hx : ExR G ev x) :
    Calls Tryd.prog 87 #[.iface 191 (.pointer (some ⟨b, 0, none⟩))] w (BelowPost G w (.rc bd x)) := by
  obtain ⟨ie, hie, ze0, ze1, ze2⟩ := info_parts info_expr
  obtain ⟨lb, lc, rfl, hlb, hcs⟩ := hl.cells hG hv.1
  obtain ⟨Tv, bv, rfl⟩ := hx.shape
  have c2 : w.cell? ⟨b, 2, none⟩ = some (.slice (some ⟨lb, 0, none⟩) vs.length lc) := cell_of_heap (hG _ _ hb) rfl
  have c3 : w.cell? ⟨b, 3, none⟩ = some (.iface Tv (.pointer (some ⟨bv, 0, none⟩))) := cell_of_heap (hG _ _ hb) rfl
  have hbl := hG.lt hb
  have HCS := Lib.hid hcs; have HL := Lib.hid hbd.list; have hone := hbd.list.shape; have HONE := Lib.hid hone
  obtain ⟨hv1, hv2⟩ := hv
  clear hcs hl hone hv1
  have aRecFun := taRecFun
  have aRecApp := taRecApp
  have aRecPair := taRecPair
  have aRecLet := taRecLet
  have aRecRec := taRecRec
  go_enter Tryd.func87, Tryd.ntmps87
  go_wp2_with fail
  have zS : w.drew.cell? ⟨b, 2, none⟩ = some (.slice (some ⟨lb, 0, none⟩) vs.length lc) ∧ w.drew.cell? ⟨b, 3, none⟩ = some (.iface Tv (.pointer (some ⟨bv, 0, none⟩))) := ⟨c2, c3⟩
  refine wp_region_float (fun w' => w'.cell? ⟨b, 2, none⟩ = some (.slice (some ⟨lb, 0, none⟩) vs.length lc) ∧ w'.cell? ⟨b, 3, none⟩ = some (.iface Tv (.pointer (some ⟨bv, 0, none⟩)))) [1, 2, 3, 6, 7, 8] [4, 9] (by kernel_rfl) ?_
  (refine float0 (i := 1) (v := ?_) rfl (by kernel_rfl) (by kernel_rfl) (by kernel_rfl) (by kernel_rfl) (fun _ _ _ h => h) (by rfl) ?_ ?_); rotate_left
  (intro wF; go_simp; try with_reducible rfl)
  (try simp only [Act.put, List.setIfInBounds_toArray, List.set_cons_zero, List.set_cons_succ])
  (refine float0 (i := 2) (v := ?_) rfl (by kernel_rfl) (by kernel_rfl) (by kernel_rfl) (by kernel_rfl) (fun _ _ _ h => h) (by rfl) ?_ ?_); rotate_left
  (intro wF; go_simp; try with_reducible rfl)
  (try simp only [Act.put, List.setIfInBounds_toArray, List.set_cons_zero, List.set_cons_succ])
  (refine float0 (i := 3) (v := ?_) rfl (by kernel_rfl) (by kernel_rfl) (by kernel_rfl) (by kernel_rfl) (fun _ _ _ h => h) (by rfl) ?_ ?_); rotate_left
  (intro wF; go_simp; try with_reducible rfl)
  (try simp only [Act.put, List.setIfInBounds_toArray, List.set_cons_zero, List.set_cons_succ])
  (refine floatS (i := 4) (v := ?_) rfl (by kernel_rfl) (by kernel_rfl) (by kernel_rfl) (by kernel_rfl) (fun _ _ _ h => h) (by assumption) (by rfl) ?_ ?_); rotate_left
  (intro wF hF; (try dsimp only at hF); go_simp; try with_reducible rfl)
  (try simp only [Act.put, List.setIfInBounds_toArray, List.set_cons_zero, List.set_cons_succ])
  (refine float0 (i := 6) (v := ?_) rfl (by kernel_rfl) (by kernel_rfl) (by kernel_rfl) (by kernel_rfl) (fun _ _ _ h => h) (by rfl) ?_ ?_); rotate_left
  (intro wF; go_simp; try with_reducible rfl)
  (try simp only [Act.put, List.setIfInBounds_toArray, List.set_cons_zero, List.set_cons_succ])
  (refine float0 (i := 7) (v := ?_) rfl (by kernel_rfl) (by kernel_rfl) (by kernel_rfl) (by kernel_rfl) (fun _ _ _ h => h) (by rfl) ?_ ?_); rotate_left
  (intro wF; go_simp; try with_reducible rfl)
  (try simp only [Act.put, List.setIfInBounds_toArray, List.set_cons_zero, List.set_cons_succ])
  (refine float0 (i := 8) (v := ?_) rfl (by kernel_rfl) (by kernel_rfl) (by kernel_rfl) (by kernel_rfl) (fun _ _ _ h => h) (by rfl) ?_ ?_); rotate_left
  (intro wF; go_simp; try with_reducible rfl)
  (try simp only [Act.put, List.setIfInBounds_toArray, List.set_cons_zero, List.set_cons_succ])
  (refine floatS (i := 9) (v := ?_) rfl (by kernel_rfl) (by kernel_rfl) (by kernel_rfl) (by kernel_rfl) (fun _ _ _ h => h) (by assumption) (by rfl) ?_ ?_); rotate_left
  (intro wF hF; (try dsimp only at hF); go_simp; try with_reducible rfl)
  (try simp only [Act.put, List.setIfInBounds_toArray, List.set_cons_zero, List.set_cons_succ])
  have HSK : Hid (∀ W, Keep none' w W → (W.cell? ⟨b, 2, none⟩ = some (.slice (some ⟨lb, 0, none⟩) vs.length lc) ∧ W.cell? ⟨b, 3, none⟩ = some (.iface Tv (.pointer (some ⟨bv, 0, none⟩))))) := Lib.hid fun W k => ⟨k.cell_some c2 (fun x => x), k.cell_some c3 (fun x => x)⟩
  have HNW : Hid (∀ W, Keep none' w W → ∀ j u, vs[j]? = some u → W.cell? ((⟨lb, 0, none⟩ : Addr).add j) = some u) := Lib.hid fun W k j u hj => k.cell_some (HCS.out j u hj) (fun x => x)
  have HFIN : Hid (∀ (W : World) (v : Value) (n : Nat), Keep none' w W → W.ownsRow w.heap.size 109 1 v n (vs ++ [.iface Tv (.pointer (some ⟨bv, 0, none⟩))]) → BelowPost G w (.rc bd x) (.returned v) W) :=
    Lib.hid fun W v n k h => below_own (hG.keep0 k) k (HL.out.snoc hx) h (Nat.le_refl _) (fun b hb => hG.fresh hb)
  clear HCS HL hG hb hlb hbd hx zS c2 c3
  refine floatM2 (i := 0) (j := 10) rfl rfl (by kernel_rfl) (by kernel_rfl) (fun K hK => ?_) (fun K hK => ?_)
  · go_simp
    have k0 : Keep none' w (w.alloc (.cells #[] 109)).drew := (Keep.alloc _ _ _).trans (Keep.drew _ _)
    refine hK.out _ _ (fun _ => HSK.out _ k0) ?_
    clear hK K
    (try simp only [Act.put, List.setIfInBounds_toArray, List.set_cons_zero, List.set_cons_succ])
    refine floatM2 (i := 5) (j := 10) rfl rfl (by kernel_rfl) (by kernel_rfl) (fun K hK => ?_) (fun K hK => ?_)
    · have own0 : (w.alloc (.cells #[] 109)).drew.ownsRow w.heap.size 109 1 (.slice (some ⟨w.heap.size, 0, none⟩) 0 0) 0 [] := World.ownsRow_lit w #[] 0 (Nat.le_refl _) (by decide) rfl
      refine step_append_own_at rfl (.tmp 57) (.tmp 61) 192 rfl w.heap.size 109 ie .nilIface 1 16 und_exprs hie ze0 ze1 ze2 rfl (by decide) _ 0 [] rfl own0 ⟨lb, 0, none⟩ vs.length lc vs rfl (by simp) (HNW.out _ k0) HONE.out (by unfold maxLen; omega) (by omega) (by simp [World.drew]) ?_
      intro v5 w5 own5 g5 at5
      have k5 : Keep none' w w5 := Keep.grown0 k0 g5 (fun b e => by cases e; exact Nat.le_refl _)
      simp only [Nat.zero_add, List.nil_append] at own5
      refine hK.out _ _ (fun _ => HSK.out _ k5) ?_
      clear hK K
      (try simp only [Act.put, List.setIfInBounds_toArray, List.set_cons_zero, List.set_cons_succ])
      (refine floatM (i := 10) rfl (by kernel_rfl) (by kernel_rfl) (fun K hK => ?_)); go_simp
      have k6 : Keep none' w (w5.alloc (.cells #[.iface Tv (.pointer (some ⟨bv, 0, none⟩))] 109)) := k5.trans (Keep.alloc _ _ _)
      refine hK.out _ _ (fun _ => HSK.out _ k6) ?_
      clear hK K
      (try simp only [Act.put, List.setIfInBounds_toArray, List.set_cons_zero, List.set_cons_succ])
      (refine floatM (i := 11) rfl (by kernel_rfl) (by kernel_rfl) (fun K hK => ?_))
      have own6 := own5.alloc (.cells #[.iface Tv (.pointer (some ⟨bv, 0, none⟩))] 109)
      refine step_append_own_at rfl (.tmp 62) (.tmp 67) 192 rfl w.heap.size 109 ie .nilIface 1 16 und_exprs hie ze0 ze1 ze2 rfl (by decide) v5 vs.length vs rfl own6 ⟨w5.heap.size, 0, none⟩ 1 1 [.iface Tv (.pointer (some ⟨bv, 0, none⟩))] rfl rfl (cell_one_new _ _ _) (fun x hx => by simp at hx; subst hx; rfl) (by unfold maxLen; omega) (by omega) (by have := k6.size; exact this) ?_
      intro v7 w7 own7 g7 at7
      have k7 : Keep none' w w7 := Keep.grown0 k6 g7 (fun b e => (own5.lt b e).1)
      refine hK.out _ _ (fun _ => HSK.out _ k7) ?_
      clear hK K
      (try simp only [Act.put, List.setIfInBounds_toArray, List.set_cons_zero, List.set_cons_succ])
      (refine floatT (l := _) (k := 12) rfl rfl (by kernel_rfl) ?_)
      go_wp2_with fail
      go_ret
      exact HFIN.out _ _ _ k7 own7
    · go_simp
      have k1 : Keep none' w ((w.alloc (.cells #[] 109)).alloc (.cells #[.iface Tv (.pointer (some ⟨bv, 0, none⟩))] 109)).drew := ((Keep.alloc _ _ _).trans (Keep.alloc _ _ _)).trans (Keep.drew _ _)
      refine hK.out _ _ (fun _ => HSK.out _ k1) ?_
      clear hK K
      (try simp only [Act.put, List.setIfInBounds_toArray, List.set_cons_zero, List.set_cons_succ])
      (refine floatM (i := 5) rfl (by kernel_rfl) (by kernel_rfl) (fun K hK => ?_))
      have own0 : ((w.alloc (.cells #[] 109)).alloc (.cells #[.iface Tv (.pointer (some ⟨bv, 0, none⟩))] 109)).drew.ownsRow w.heap.size 109 1 (.slice (some ⟨w.heap.size, 0, none⟩) 0 0) 0 [] := (World.ownsRow_lit w #[] 0 (Nat.le_refl _) (by decide) rfl).alloc _
      refine step_append_own_at rfl (.tmp 57) (.tmp 61) 192 rfl w.heap.size 109 ie .nilIface 1 16 und_exprs hie ze0 ze1 ze2 rfl (by decide) _ 0 [] rfl own0 ⟨lb, 0, none⟩ vs.length lc vs rfl (by simp) (HNW.out _ k1) HONE.out (by unfold maxLen; omega) (by omega) (by have := k1.size; exact this) ?_
      intro v5 w5 own5 g5 at5
      have k5 : Keep none' w w5 := Keep.grown0 k1 g5 (fun b e => by cases e; exact Nat.le_refl _)
      have hne1 : ∀ j u, [Value.iface Tv (.pointer (some ⟨bv, 0, none⟩))][j]? = some u → w5.cell? ((⟨w.heap.size + 1, 0, none⟩ : Addr).add j) = some u := fun j u hj => by
        have h1 : ((w.alloc (.cells #[] 109)).alloc (.cells #[.iface Tv (.pointer (some ⟨bv, 0, none⟩))] 109)).drew.heap[w.heap.size + 1]? = some (.cells #[.iface Tv (.pointer (some ⟨bv, 0, none⟩))] 109) := by
          have := heap_new (w.alloc (.cells #[] 109)) (.cells #[.iface Tv (.pointer (some ⟨bv, 0, none⟩))] 109)
          rw [show (w.alloc (.cells #[] 109)).heap.size = w.heap.size + 1 by simp] at this
          exact this
        have h2 := (Keep.grown (S := fun b => b = w.heap.size) g5 (fun b e _ => by cases e; rfl)).get h1 (by omega)
        cases j with
        | zero => simp at hj; subst hj; exact cell_of_heap h2 rfl
        | succ j => simp at hj
      simp only [Nat.zero_add, List.nil_append] at own5
      refine hK.out _ _ (fun _ => HSK.out _ k5) ?_
      clear hK K
      (try simp only [Act.put, List.setIfInBounds_toArray, List.set_cons_zero, List.set_cons_succ])
      (refine floatM (i := 11) rfl (by kernel_rfl) (by kernel_rfl) (fun K hK => ?_))
      refine step_append_own_at rfl (.tmp 62) (.tmp 67) 192 rfl w.heap.size 109 ie .nilIface 1 16 und_exprs hie ze0 ze1 ze2 rfl (by decide) v5 vs.length vs rfl own5 ⟨w.heap.size + 1, 0, none⟩ 1 1 [.iface Tv (.pointer (some ⟨bv, 0, none⟩))] rfl rfl hne1 (fun x hx => by simp at hx; subst hx; rfl) (by unfold maxLen; omega) (by omega) (by have := k5.size; exact this) ?_
      intro v7 w7 own7 g7 at7
      have k7 : Keep none' w w7 := Keep.grown0 k5 g7 (fun b e => (own5.lt b e).1)
      refine hK.out _ _ (fun _ => HSK.out _ k7) ?_
      clear hK K
      (try simp only [Act.put, List.setIfInBounds_toArray, List.set_cons_zero, List.set_cons_succ])
      (refine floatT (l := _) (k := 12) rfl rfl (by kernel_rfl) ?_)
      go_wp2_with fail
      go_ret
      exact HFIN.out _ _ _ k7 own7
  · go_simp
    have k0 : Keep none' w (w.alloc (.cells #[.iface Tv (.pointer (some ⟨bv, 0, none⟩))] 109)).drew := (Keep.alloc _ _ _).trans (Keep.drew _ _)
    refine hK.out _ _ (fun _ => HSK.out _ k0) ?_
    clear hK K
    (try simp only [Act.put, List.setIfInBounds_toArray, List.set_cons_zero, List.set_cons_succ])
    (refine floatM (i := 0) rfl (by kernel_rfl) (by kernel_rfl) (fun K hK => ?_)); go_simp
    have k1 : Keep none' w ((w.alloc (.cells #[.iface Tv (.pointer (some ⟨bv, 0, none⟩))] 109)).alloc (.cells #[] 109)).drew := ((Keep.alloc _ _ _).trans (Keep.alloc _ _ _)).trans (Keep.drew _ _)
    refine hK.out _ _ (fun _ => HSK.out _ k1) ?_
    clear hK K
    (try simp only [Act.put, List.setIfInBounds_toArray, List.set_cons_zero, List.set_cons_succ])
    (refine floatM (i := 5) rfl (by kernel_rfl) (by kernel_rfl) (fun K hK => ?_))
    have own0 : ((w.alloc (.cells #[.iface Tv (.pointer (some ⟨bv, 0, none⟩))] 109)).alloc (.cells #[] 109)).drew.ownsRow w.heap.size 109 1 (.slice (some ⟨w.heap.size + 1, 0, none⟩) 0 0) 0 [] := by
      have := World.ownsRow_lit (base := w.heap.size) (e := 109) (size := 1) (w.alloc (.cells #[.iface Tv (.pointer (some ⟨bv, 0, none⟩))] 109)) #[] 0 (by simp) (by decide) rfl
      rw [show (w.alloc (.cells #[.iface Tv (.pointer (some ⟨bv, 0, none⟩))] 109)).heap.size = w.heap.size + 1 by simp] at this
      exact this
    refine step_append_own_at rfl (.tmp 57) (.tmp 61) 192 rfl w.heap.size 109 ie .nilIface 1 16 und_exprs hie ze0 ze1 ze2 rfl (by decide) _ 0 [] rfl own0 ⟨lb, 0, none⟩ vs.length lc vs rfl (by simp) (HNW.out _ k1) HONE.out (by unfold maxLen; omega) (by omega) (by have := k1.size; exact this) ?_
    intro v5 w5 own5 g5 at5
    have k5 : Keep none' w w5 := Keep.grown0 k1 g5 (fun b e => by cases e; exact Nat.le_succ _)
    have hne1 : ∀ j u, [Value.iface Tv (.pointer (some ⟨bv, 0, none⟩))][j]? = some u → w5.cell? ((⟨w.heap.size, 0, none⟩ : Addr).add j) = some u := fun j u hj => by
      have h1 : ((w.alloc (.cells #[.iface Tv (.pointer (some ⟨bv, 0, none⟩))] 109)).alloc (.cells #[] 109)).drew.heap[w.heap.size]? = some (.cells #[.iface Tv (.pointer (some ⟨bv, 0, none⟩))] 109) := heap_old (heap_new _ _)
      have h2 := (Keep.grown (S := fun b => b = w.heap.size + 1) g5 (fun b e _ => by cases e; rfl)).get h1 (by omega)
      cases j with
      | zero => simp at hj; subst hj; exact cell_of_heap h2 rfl
      | succ j => simp at hj
    simp only [Nat.zero_add, List.nil_append] at own5
    refine hK.out _ _ (fun _ => HSK.out _ k5) ?_
    clear hK K
    (try simp only [Act.put, List.setIfInBounds_toArray, List.set_cons_zero, List.set_cons_succ])
    (refine floatM (i := 11) rfl (by kernel_rfl) (by kernel_rfl) (fun K hK => ?_))
    refine step_append_own_at rfl (.tmp 62) (.tmp 67) 192 rfl w.heap.size 109 ie .nilIface 1 16 und_exprs hie ze0 ze1 ze2 rfl (by decide) v5 vs.length vs rfl own5 ⟨w.heap.size, 0, none⟩ 1 1 [.iface Tv (.pointer (some ⟨bv, 0, none⟩))] rfl rfl hne1 (fun x hx => by simp at hx; subst hx; rfl) (by unfold maxLen; omega) (by omega) (by have := k5.size; exact this) ?_
    intro v7 w7 own7 g7 at7
    have k7 : Keep none' w w7 := Keep.grown0 k5 g7 (fun b e => (own5.lt b e).1)
    refine hK.out _ _ (fun _ => HSK.out _ k7) ?_
    clear hK K
    (try simp only [Act.put, List.setIfInBounds_toArray, List.set_cons_zero, List.set_cons_succ])
    (refine floatT (l := _) (k := 12) rfl rfl (by kernel_rfl) ?_)
    go_wp2_with fail
    go_ret
    exact HFIN.out _ _ _ k7 own7
end Go.Proofs.YtabikmkoajdhmaaDoor
