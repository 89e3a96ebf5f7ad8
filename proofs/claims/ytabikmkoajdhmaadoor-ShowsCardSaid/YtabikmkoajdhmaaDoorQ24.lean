/- A let rec that is being read, in memory: plain lemmas, and append as one step of a region that draws. -/
import Derived.Test.YtabikmkoajdhmaaDoorQ23
import Derived.Maps.AppendAt
import Derived.Deep.RegionLaw
import Derived.Test.YtabikmkoajdhmaaDoorQ22
import Derived.Deep.RegionHeld3
import Derived.Test.YtabikmkoajdhmaaDoorQ04
import Derived.Test.YtabikmkoajdhmaaDoorQ21
import Derived.Carry
set_option linter.unusedVariables false
set_option linter.unusedSimpArgs false
namespace Go.Proofs.YtabikmkoajdhmaaDoor
open Go.RowKit

/-- append onto a slice of the call's own, as one step of a region that draws. -/
theorem step_append_own_at {P : Program} {w : World} {ops : Array Oper} {o : Oper} {a : Act} {K : Act → World → Prop} {Q : Exit → Act → World → Prop} {E : Prop} (hgd : o.guard = none) (s x : Operand) (t : TypeId)
    (ho : o.op = .call { callee := .builtin .append, args := #[s, x], argTypes := #[t, t] })
    (base : Nat) (e : TypeId) (i : TypeInfo) (z : Value) (size bytes : Nat) (ht : P.underlying t = some (.slice e)) (hi : P.info? e = some i) (hz : i.zero = some z)
    (hsize : i.size = size) (hby : i.bytes = bytes) (hzs : z.cells.size = size) (hsz : 0 < size)
    (v : Value) (n : Nat) (xs : List Value) (hs : a.eval s = v) (hown : w.ownsRow base e size v n xs)
    (ad : Addr) (m c : Nat) (news : List Value) (hx : a.eval x = .slice (some ad) m c) (hl : news.length = m * size) (hnews : ∀ j u, news[j]? = some u → w.cell? (ad.add j) = some u) (h1 : ∀ u ∈ news, u.oneCell' = true)
    (h63 : n + m ≤ maxLen) (hbytes : (n + m) * bytes ≤ 140737488355328) (hbase : base ≤ w.heap.size)
    (h : ∀ v' w', w'.ownsRow base e size v' (n + m) (xs ++ news) → w.grownBy w' v.ownBlock → (v'.ownBlock = v.ownBlock ∨ v'.ownBlock = some w.heap.size) → K (a.put o.dst v') w') :
    if Region.wanted o (yielded ops a.tmps) = true then Oper.wp P o a w K Q else E := by
  have hw : Region.wanted o (yielded ops a.tmps) = true := by simp [Region.wanted, hgd]
  rw [if_pos hw]
  obtain ⟨v', w', hr, h2, h3, h4, h5⟩ := run_append_own_at (P := P) w base t o.type e i z size bytes ht hi hz hsize hby hzs hsz v n xs hown ad m c news hl hnews h1 h63 hbytes hbase
  unfold Oper.wp execOp
  simp only [ho, resolve, invoke, builtin, Sem.run_bind, Sem.run_pure, Result.andThen_ok, List.map_toArray, List.map_cons, List.map_nil, hs, hx, hr]
  exact h v' w' h2 h3 h5

theorem own_keep {S : Nat → Prop} {w w' : World} {base : Nat} {e : TypeId} {size : Nat} {v : Value} {n : Nat} {xs : List Value} (h : w.ownsRow base e size v n xs) (k : Keep S w w') (hn : ∀ g, v.ownBlock = some g → ¬ S g) : w'.ownsRow base e size v n xs := by
  refine ⟨h.1, ?_⟩
  rcases h.2 with hz | ⟨g, cap, cur, rfl, hb, hgg, rest⟩
  · exact .inl hz
  · exact .inr ⟨g, cap, cur, rfl, hb, k.get hgg (hn g rfl), rest⟩
theorem names_of (l : List (Str × Ex)) : (Bs.of l).names = l.map (·.1) := by
  induction l with
  | nil => rfl
  | cons a l ih => obtain ⟨n, x⟩ := a; simp [Bs.of, Bs.names, ih]
theorem BsR.snoc {G : GH} {v : Value} {n : Str} {x : Ex} (hx : ExR G v x) : ∀ {vs : List Value} {l : List (Str × Ex)}, BsR G vs (Bs.of l) → BsR G (vs ++ [v]) (Bs.of (l ++ [(n, x)]))
  | vs, [], h => by cases h; exact .cons hx .nil
  | vs, (m, y) :: l, h => by
    simp only [Bs.of] at h
    cases h with
    | cons hv hr => exact .cons hv (hr.snoc hx)
theorem BsR.len {G : GH} : ∀ {vs : List Value} {l : List (Str × Ex)}, BsR G vs (Bs.of l) → vs.length = l.length
  | vs, [], h => by cases h; rfl
  | vs, (m, y) :: l, h => by
    simp only [Bs.of] at h
    cases h with
    | cons hv hr => simp [hr.len]

/-- A let rec in the making: its block xb, its two slices nv (the names ns) and lv (the bodies' values vs). -/
structure RecSt (G : GH) (w : World) (rb xb : Nat) (p : Nat) (nv lv : Value) (ns : List Str) (vs : List Value) : Prop where
  x : w.heap[xb]? = some (.cells #[.int .i64 p, nv, lv, .nilIface] 194)
  gx : G xb = none
  xr : xb ≠ rb
  n : w.ownsRow (xb + 1) 9 1 nv ns.length (ns.map fun n => .string (bs n))
  l : w.ownsRow (xb + 1) 109 1 lv vs.length vs
  gn : ∀ k, nv.ownBlock = some k → G k = none ∧ k ≠ rb
  gl : ∀ k, lv.ownBlock = some k → G k = none ∧ k ≠ rb
  apart : ∀ k, nv.ownBlock = some k → ¬ lv.ownBlock = some k

theorem RecSt.step {G G' : GH} {w w' : World} {rb xb p : Nat} {nv lv : Value} {ns : List Str} {vs : List Value} (h : RecSt G w rb xb p nv lv ns vs) (k : Keep (one' rb) w w') (g : Grew G w G') : RecSt G' w' rb xb p nv lv ns vs := by
  refine ⟨k.get h.x h.xr, (g.eq _ (lt_of_heap h.x)).trans h.gx, h.xr, own_keep h.n k (fun g hg => (h.gn g hg).2), own_keep h.l k (fun g hg => (h.gl g hg).2), fun b hb => ⟨(g.eq _ (h.n.lt b hb).2).trans (h.gn b hb).1, (h.gn b hb).2⟩,
    fun b hb => ⟨(g.eq _ (h.l.lt b hb).2).trans (h.gl b hb).1, (h.gl b hb).2⟩, h.apart⟩

/-- A name is appended and stored. -/
theorem RecSt.name {G : GH} {w w3 : World} {ab rb xb p : Nat} {S : ByteArray} {kw : Str → Bool} {kwf : Nat} {l : List Tok} {nv lv nv' : Value} {ns : List Str} {vs : List Value} {n : Str} {o : Obj} (h : RecSt G w rb xb p nv lv ns vs) (hi : AInv G w ab rb S kw kwf l)
    (own : w3.ownsRow (xb + 1) 9 1 nv' (ns.length + 1) ((ns.map fun n => .string (bs n)) ++ [.string (bs n)])) (g : (w.alloc o).grownBy w3 nv.ownBlock) (hat : nv'.ownBlock = nv.ownBlock ∨ nv'.ownBlock = some (w.alloc o).heap.size) :
    RecSt G (w3.setCell ⟨xb, 1, none⟩ nv') rb xb p nv' lv (ns ++ [n]) vs ∧ AInv G (w3.setCell ⟨xb, 1, none⟩ nv') ab rb S kw kwf l := by
  have hxlt := lt_of_heap h.x
  have hrlt := hi.rd.lt
  have hsz : (w.alloc o).heap.size = w.heap.size + 1 := by simp
  let T : Nat → Prop := fun k => nv.ownBlock = some k
  have k1 : Keep T (w.alloc o) w3 := Keep.grown g (fun k e _ => e)
  have k2 : Keep T w w3 := (Keep.alloc T w o).trans k1
  have hx3 : w3.heap[xb]? = some (.cells #[.int .i64 p, nv, lv, .nilIface] 194) := k2.get h.x (fun e => by have := (h.n.lt xb e).1; omega)
  have k3 : Keep (one' xb) w3 (w3.setCell ⟨xb, 1, none⟩ nv') := Keep.setCell _ _ (fun _ => rfl)
  have hgn : ∀ k, nv'.ownBlock = some k → G k = none ∧ k ≠ rb := by
    intro k hk
    rcases hat with e | e
    · exact h.gn k (e ▸ hk)
    · rw [e] at hk; injection hk with hk; subst hk
      exact ⟨hi.holds.fresh (by omega), by omega⟩
  refine ⟨⟨heap_set_same hx3, h.gx, h.xr, ?_, ?_, hgn, h.gl, ?_⟩, ?_⟩
  · have := own_keep own k3 (fun g hg (e : g = xb) => by have := (own.lt g hg).1; omega)
    simpa using this
  · exact own_keep (own_keep h.l k2 (fun g hg e => h.apart g e hg)) k3 (fun g hg (e : g = xb) => by have := (h.l.lt g hg).1; omega)
  · intro k hk hk2
    rcases hat with e | e
    · exact h.apart k (e ▸ hk) hk2
    · rw [e] at hk; injection hk with hk; subst hk
      have := (h.l.lt _ hk2).2
      omega
  · have i3 : AInv G w3 ab rb S kw kwf l := ⟨hi.holds.keep k2 (fun c o' hc e => by have := (h.gn c e).1; rw [hc] at this; cases this), hi.ar, hi.off, hi.rd.keep k2 (fun e => (h.gn rb e).2 rfl)⟩
    exact i3.store nv' h.gx h.xr

/-- A body is appended and stored. -/
theorem RecSt.body {G : GH} {w w3 : World} {ab rb xb p : Nat} {S : ByteArray} {kw : Str → Bool} {kwf : Nat} {l : List Tok} {nv lv lv' : Value} {ns : List Str} {vs : List Value} {u : Value} {o : Obj} (h : RecSt G w rb xb p nv lv ns vs) (hi : AInv G w ab rb S kw kwf l)
    (own : w3.ownsRow (xb + 1) 109 1 lv' (vs.length + 1) (vs ++ [u])) (g : (w.alloc o).grownBy w3 lv.ownBlock) (hat : lv'.ownBlock = lv.ownBlock ∨ lv'.ownBlock = some (w.alloc o).heap.size) :
    RecSt G (w3.setCell ⟨xb, 2, none⟩ lv') rb xb p nv lv' ns (vs ++ [u]) ∧ AInv G (w3.setCell ⟨xb, 2, none⟩ lv') ab rb S kw kwf l := by
  have hxlt := lt_of_heap h.x
  have hrlt := hi.rd.lt
  have hsz : (w.alloc o).heap.size = w.heap.size + 1 := by simp
  let T : Nat → Prop := fun k => lv.ownBlock = some k
  have k1 : Keep T (w.alloc o) w3 := Keep.grown g (fun k e _ => e)
  have k2 : Keep T w w3 := (Keep.alloc T w o).trans k1
  have hx3 : w3.heap[xb]? = some (.cells #[.int .i64 p, nv, lv, .nilIface] 194) := k2.get h.x (fun e => by have := (h.l.lt xb e).1; omega)
  have k3 : Keep (one' xb) w3 (w3.setCell ⟨xb, 2, none⟩ lv') := Keep.setCell _ _ (fun _ => rfl)
  have hgl : ∀ k, lv'.ownBlock = some k → G k = none ∧ k ≠ rb := by
    intro k hk
    rcases hat with e | e
    · exact h.gl k (e ▸ hk)
    · rw [e] at hk; injection hk with hk; subst hk
      exact ⟨hi.holds.fresh (by omega), by omega⟩
  refine ⟨⟨heap_set_same hx3, h.gx, h.xr, ?_, ?_, h.gn, hgl, ?_⟩, ?_⟩
  · exact own_keep (own_keep h.n k2 (fun g hg e => h.apart g hg e)) k3 (fun g hg (e : g = xb) => by have := (h.n.lt g hg).1; omega)
  · have := own_keep own k3 (fun g hg (e : g = xb) => by have := (own.lt g hg).1; omega)
    simpa using this
  · intro k hk hk2
    rcases hat with e | e
    · exact h.apart k hk (e ▸ hk2)
    · rw [e] at hk2; injection hk2 with hk2; subst hk2
      have := (h.n.lt _ hk).2
      omega
  · have i3 : AInv G w3 ab rb S kw kwf l := ⟨hi.holds.keep k2 (fun c o' hc e => by have := (h.gl c e).1; rw [hc] at this; cases this), hi.ar, hi.off, hi.rd.keep k2 (fun e => (h.gl rb e).2 rfl)⟩
    exact i3.store lv' h.gx h.xr

/-- What an append and a store leave of the memory that was there when the call began. -/
theorem RecSt.keepN {G : GH} {w0 w w3 : World} {rb xb p i : Nat} {nv lv u v : Value} {ns : List Str} {vs : List Value} {o : Obj} (h : RecSt G w rb xb p nv lv ns vs) (k : Keep (one' rb) w0 w) (hx : w0.heap.size ≤ xb) (hv : v = nv ∨ v = lv) (g : (w.alloc o).grownBy w3 v.ownBlock) :
    Keep (one' rb) w0 (w3.setCell ⟨xb, i, none⟩ u) := by
  have hlo : ∀ b, v.ownBlock = some b → xb + 1 ≤ b := by
    rcases hv with rfl | rfl
    · exact fun b hb => (h.n.lt b hb).1
    · exact fun b hb => (h.l.lt b hb).1
  have k1 : Keep (fun b => v.ownBlock = some b) (w.alloc o) w3 := Keep.grown g (fun k e _ => e)
  have k2 : Keep (one' rb) w0 w3 := (k.trans (Keep.alloc _ w o)).trans' k1 (fun _ _ x => x) (fun b hb e => by have := hlo b e; omega)
  exact k2.own u hx
/-- A slice of the call's own is taken among the known blocks. -/
theorem seal_row {G : GH} {w : World} {ab rb base e : Nat} {S : ByteArray} {kw : Str → Bool} {kwf : Nat} {l : List Tok} {v : Value} {n : Nat} {xs : List Value} (hi : AInv G w ab rb S kw kwf l) (h : w.ownsRow base e 1 v n xs)
    (hg : ∀ k, v.ownBlock = some k → G k = none ∧ k ≠ rb) :
    ∃ G2, G.sub G2 ∧ AInv G2 w ab rb S kw kwf l ∧ SlR G2 v xs ∧ ∀ b, v.ownBlock ≠ some b → G2 b = G b := by
  obtain ⟨hl, h⟩ := h
  rcases h with ⟨rfl, rfl⟩ | ⟨g, cap, cur, rfl, hb, hgg, h1, h2, h3, h4⟩
  · have : xs = [] := by simpa using hl
    subst this
    exact ⟨G, GH.sub.refl G, hi, .inl ⟨rfl, rfl⟩, fun _ _ => rfl⟩
  · have hn : n = xs.length := by omega
    subst hn
    obtain ⟨hgn, hgr⟩ := hg g rfl
    obtain ⟨s2, i2⟩ := hi.take hgg hgn hgr
    refine ⟨_, s2, i2, .inr ⟨g, cur, e, cap, rfl, GH.put_same _ _ _, fun i hi => ?_⟩, fun b hb => GH.put_other _ _ (fun e => hb (by subst e; rfl))⟩
    have h5 : cur.toList[i]? = some xs[i] := by
      have : (cur.toList.take (xs.length * 1))[i]? = xs[i]? := by rw [h4]
      rw [List.getElem?_take, if_pos (by omega)] at this
      rw [this]; simp [hi]
    simpa using h5
/-- Both slices of a let rec. -/
theorem RecSt.stamp {G : GH} {w : World} {ab rb xb p : Nat} {S : ByteArray} {kw : Str → Bool} {kwf : Nat} {l : List Tok} {nv lv : Value} {ns : List Str} {vs : List Value} (h : RecSt G w rb xb p nv lv ns vs) (hi : AInv G w ab rb S kw kwf l) :
    ∃ G2, G.sub G2 ∧ AInv G2 w ab rb S kw kwf l ∧ SlR G2 nv (ns.map fun n => .string (bs n)) ∧ SlR G2 lv vs ∧ G2 xb = none ∧ ∀ b, b < xb → G2 b = G b := by
  obtain ⟨G1, s1, i1, r1, e1⟩ := seal_row hi h.n h.gn
  have hap : ∀ k, lv.ownBlock = some k → ¬ nv.ownBlock = some k := fun k hk hk' => h.apart k hk' hk
  obtain ⟨G2, s2, i2, r2, e2⟩ := seal_row i1 h.l (fun k hk => ⟨(e1 k (hap k hk)).trans (h.gl k hk).1, (h.gl k hk).2⟩)
  have hne : ∀ b, b ≤ xb → nv.ownBlock ≠ some b ∧ lv.ownBlock ≠ some b := fun b hb => ⟨fun e => by have := (h.n.lt b e).1; omega, fun e => by have := (h.l.lt b e).1; omega⟩
  have hb : ∀ b, b ≤ xb → G2 b = G b := fun b hb => (e2 b (hne b hb).2).trans (e1 b (hne b hb).1)
  exact ⟨G2, s1.trans s2, i2, r1.sub s2, r2, (hb xb (Nat.le_refl _)).trans h.gx, fun b hl => hb b (Nat.le_of_lt hl)⟩
end Go.Proofs.YtabikmkoajdhmaaDoor

/- (*ast.reader).rec by a contract, given expr's one step down. -/
namespace Go.Proofs.YtabikmkoajdhmaaDoor
open Go.RowKit

theorem own_shape {w : World} {base : Nat} {e : TypeId} {v : Value} {n : Nat} {xs : List Value} (h : w.ownsRow base e 1 v n xs) :
    ∃ ao cap, v = .slice ao n cap ∧ (0 < n → ∃ g, ao = some ⟨g, 0, none⟩ ∧ ∀ j u, xs[j]? = some u → w.cell? ⟨g, j, none⟩ = some u) := by
  have h1 := h
  rcases h.2 with ⟨rfl, rfl⟩ | ⟨g, cap, cur, rfl, rest⟩
  · exact ⟨none, 0, rfl, fun h => absurd h (Nat.lt_irrefl 0)⟩
  · refine ⟨some ⟨g, 0, none⟩, cap, rfl, fun _ => ⟨g, rfl, fun j u hu => ?_⟩⟩
    have hadd : (⟨g, 0, none⟩ : Addr).add j = ⟨g, j, none⟩ := by unfold Addr.add; split <;> simp_all
    rw [← hadd]
    exact h1.cells (g := g) rfl j u hu
theorem RecSt.mid {G : GH} {w w3 : World} {rb xb p : Nat} {nv lv v : Value} {ns : List Str} {vs : List Value} {o : Obj} (h : RecSt G w rb xb p nv lv ns vs) (hv : v = nv ∨ v = lv) (g : (w.alloc o).grownBy w3 v.ownBlock) : w3.heap[xb]? = some (.cells #[.int .i64 p, nv, lv, .nilIface] 194) := by
  have hlo : ∀ b, v.ownBlock = some b → xb + 1 ≤ b := by
    rcases hv with rfl | rfl
    · exact fun b hb => (h.n.lt b hb).1
    · exact fun b hb => (h.l.lt b hb).1
  have k1 : Keep (fun b => v.ownBlock = some b) (w.alloc o) w3 := Keep.grown g (fun k e _ => e)
  exact k1.get (heap_old h.x) (fun e => by have := hlo _ e; omega)
theorem AInv.drew {G : GH} {w : World} {ab rb : Nat} {S : ByteArray} {kw : Str → Bool} {kwf : Nat} {l : List Tok} (h : AInv G w ab rb S kw kwf l) : AInv G w.drew ab rb S kw kwf l :=
  ⟨h.holds.keep0 (Keep.drew none' w), h.ar, h.off, h.rd.keep (Keep.drew none' w) (fun x => x)⟩
theorem und_strs : Tryd.prog.underlying 39 = some (.slice 9) := by kernel_rfl
theorem und_exprs : Tryd.prog.underlying 192 = some (.slice 109) := by kernel_rfl
theorem info_str : (Tryd.prog.info? 9).map (fun i => (i.zero, i.size, i.bytes)) = some (some (.string ByteArray.empty), 1, 16) := by kernel_rfl
theorem info_expr : (Tryd.prog.info? 109).map (fun i => (i.zero, i.size, i.bytes)) = some (some .nilIface, 1, 16) := by kernel_rfl

set_option maxRecDepth 100000 in
set_option maxHeartbeats 4000000 in
theorem rec_all {kw : Str → Bool} {kwf : Nat} {S : ByteArray} (hx : Lx kw kwf S) (K : Nat) (hK : K ≤ 1000000000) (ih : ∀ j, j < K → ExprOk kwf kw S j) (G : GH) (w : World) (ab rb p : Nat) (l : List Tok) (r : Res (Ex × List Tok)) (hr : pRec K [] l = r) (hne : r ≠ none)
    (hi : AInv G w ab rb S kw kwf l) :
    Calls Tryd.prog 84 #[.pointer (some ⟨ab, 0, none⟩), .int .i64 p] w (ParsePost G w ab rb S kw kwf r) := by
  obtain ⟨is, his, zs0, zs1, zs2⟩ := info_parts info_str
  obtain ⟨ie, hie, ze0, ze1, ze2⟩ := info_parts info_expr
  have IH := Lib.hid ih; have HR := Lib.hid hr; have HNE := Lib.hid hne
  clear ih hr hne
  have i0 := hi.alloc0 (.cells #[.int .i64 p, .slice none 0 0, .slice none 0 0, .nilIface] 194)
  have hrl := hi.rd.lt
  have st0 : RecSt G (w.alloc (.cells #[.int .i64 p, .slice none 0 0, .slice none 0 0, .nilIface] 194)) rb w.heap.size p (.slice none 0 0) (.slice none 0 0) [] [] :=
    ⟨heap_new _ _, hi.holds.fresh (Nat.le_refl _), by omega, World.ownsRow_nil _ _ _ _, World.ownsRow_nil _ _ _ _, fun _ h => by simp [Value.ownBlock] at h, fun _ h => by simp [Value.ownBlock] at h, fun _ h => by simp [Value.ownBlock] at h⟩
  have HI0 := Lib.hid i0; have HST0 := Lib.hid st0
  clear i0 st0 hi
  go_enter Tryd.func84, Tryd.ntmps84
  go_wp2_with fail
  go_loopg [6] K (fun n s6 wr => ∃ (more : Bool) (acc : List (Str × Ex)) (l1 : List Tok) (G1 : GH) (nv lv : Value) (vs : List Value), n + acc.length ≤ K ∧ Hid (more = false → n < K ∧ vs ≠ [] ∧ vs.length ≤ 1000000000) ∧ s6 = .bool more ∧ Hid (AInv G1 wr ab rb S kw kwf l1) ∧ Hid (RecSt G1 wr rb w.heap.size p nv lv (acc.map (·.1)) vs) ∧ Hid (BsR G1 vs (Bs.of acc)) ∧
      Hid (Grew G w G1) ∧ Hid (Keep (one' rb) w wr) ∧ Hid (more = true → pRec n acc l1 = r) ∧ Hid (more = false → ((want (.kw IN) l1).bind fun (_, l4) => (pExp n l4).bind fun (e, l5) => some (.ok (.rc (Bs.of acc) e, l5))) = r))
  case atStart => exact ⟨true, [], l, G, _, _, [], by simp, Lib.hid (fun h => by cases h), rfl, HI0, HST0, Lib.hid .nil, Lib.hid (Grew.refl G w), Lib.hid (Keep.alloc _ _ _), Lib.hid (fun _ => HR.out), Lib.hid (fun h => by cases h)⟩
  case round =>
    clear HR HI0 HST0
    obtain ⟨more, acc, l1, G1, nv, lv, vs, hn, HLT, rfl, HI, HST, HB, HG, HKP, HR1, HR2⟩ := hrel
    have c0 := HI.out.cell
    obtain ⟨t2, t4⟩ := HI.out.tok
    cases more with
    | false =>
      have hr := HR2.out rfl; clear HR1 HR2
      have HR := Lib.hid hr; clear hr
      obtain ⟨hlt, hnv⟩ := HLT.out rfl
      have HNV := Lib.hid hnv
      clear HLT hnv
      go_wp2_with fail
      refine (want_any hx (.kw IN) good_IN ne_bad _ rb _ HI.out.rd).mono ?_
      by_cases h2 : (hd l1).kind = .kw IN
      · rw [want_yes h2]
        have hr := HR.out; rw [want_yes h2] at hr; simp only [Res.bind] at hr; clear HR h2
        have HR := Lib.hid hr; clear hr
        rintro e w2 ⟨k2, rfl, r2⟩
        have HI2 := Lib.hid (HI.out.step k2 r2)
        have HST2 := Lib.hid (HST.out.step k2 (Grew.refl G1 _))
        have HKP2 := Lib.hid (keepT HKP.out k2)
        have c2 := HI2.out.cell
        go_wp2_with fail
        cases hp : pExp gk (adv l1) with
        | none => exact absurd (by rw [← HR.out, hp]) HNE.out
        | some rr =>
          refine (IH.out gk hlt G1 w2 ab rb _ (some rr) hp (by simp) HI2.out).mono ?_
          have hr := HR.out; rw [hp] at hr; clear HR
          cases rr with
          | error q =>
            simp only at hr
            rintro e w4 ⟨k4, rfl⟩
            go_wp2_with fail
            subst hr
            exact ⟨rfl, keepT HKP2.out k4, rfl⟩
          | ok yl =>
            obtain ⟨y, l4⟩ := yl
            simp only at hr
            have HR := Lib.hid hr; clear hr hp
            rintro e w4 ⟨k4, u, G4, rfl, s4, i4, y4⟩
            obtain ⟨Tu, bu, rfl⟩ := y4.shape
            have HST4 := Lib.hid (HST2.out.step k4 s4)
            have HKP4 := Lib.hid (keepT HKP2.out k4)
            have d3 : w4.cell? ⟨w.heap.size, 3, none⟩ = some .nilIface := cell_of_heap HST4.out.x rfl
            have f3 : w4.frozen? ⟨w.heap.size, 3, none⟩ = false := free_of_heap HST4.out.x
            have HGR := Lib.hid (HG.out.trans HKP2.out s4)
            have HBS := Lib.hid (HB.out.sub s4.sub)
            clear HI HST HI2 HST2 HKP HKP2 HB HG k2 k4 r2 c0 c2 t2 t4 s4
            go_wp2_with fail
            go_ret
            refine ⟨Keep.own _ HKP4.out (Nat.le_refl _), ?_⟩
            rw [← HR.out]
            obtain ⟨G5, s5, i5, n5, l5, x5, e5⟩ := HST4.out.stamp i4
            have hb8 := heap_set_same (i := 3) (u := .iface Tu (.pointer (some ⟨bu, 0, none⟩))) HST4.out.x
            obtain ⟨s8, i8⟩ := (i5.store (i := 3) (.iface Tu (.pointer (some ⟨bu, 0, none⟩))) x5 HST4.out.xr).take hb8 x5 HST4.out.xr
            refine ⟨_, _, rfl, ⟨HGR.out.sub.trans (s5.trans s8), fun b hb => ?_⟩, i8, ?_⟩
            · rw [GH.put_other _ _ (by omega)]; exact (e5 b hb).trans (HGR.out.eq b hb)
            · refine ExR.rc (GH.put_same _ _ _) ?_ (l5.sub s8) ((HBS.out.sub s5).sub s8) HNV.out ((y4.sub s5).sub s8)
              rw [names_of]; exact n5.sub s8
      · rw [want_no h2]
        have hr := HR.out; rw [want_no h2] at hr; simp only [Res.bind] at hr; clear HR h2
        rintro e w2 ⟨k2, rfl⟩
        go_wp2_with fail
        subst hr
        exact ⟨rfl, keepT HKP.out k2, rfl⟩
    | true =>
      cases gk with
      | zero => exact absurd (by rw [← HR1.out rfl]; rfl) HNE.out
      | succ n =>
        have hr := HR1.out rfl; simp only [pRec] at hr; clear HR1 HR2
        have HR := Lib.hid hr; clear hr
        go_wp2_with fail
        refine (want_any hx .name good_name (by decide) _ rb _ HI.out.rd).mono ?_
        by_cases h2 : (hd l1).kind = .name
        · rw [want_yes h2]
          have hr := HR.out; rw [want_yes h2] at hr; simp only [Res.bind] at hr; clear HR h2
          have HR := Lib.hid hr; clear hr
          rintro e w2 ⟨k2, rfl, r2⟩
          have HI2 := Lib.hid (HI.out.step k2 r2)
          have HST2 := Lib.hid (HST.out.step k2 (Grew.refl G1 _))
          have HKP2 := Lib.hid (keepT HKP.out k2)
          clear HI HST HKP t2 t4 c0 k2 r2
          obtain ⟨ao, cap, hnv, hcs⟩ := own_shape HST2.out.n
          have c0 := HI2.out.cell
          have d1 : w2.cell? ⟨w.heap.size, 1, none⟩ = some nv := cell_of_heap HST2.out.x rfl
          rw [List.length_map] at hnv hcs
          subst hnv
          have HCS := Lib.hid hcs; clear hcs
          go_wp2_with fail
          go_loopg [38] acc.length (fun m s38 wr2 => ∃ j : Nat, j ≤ acc.length ∧ Hid (m = acc.length - j) ∧ s38 = .int .i64 j ∧ wr2 = w2 ∧ Hid (∀ i (h : i < acc.length), i < j → ¬ acc[i].1 = (hd l1).text))
          case atStart => exact ⟨0, Nat.zero_le _, Lib.hid rfl, rfl, rfl, Lib.hid (fun i h h' => by omega)⟩
          case round =>
            obtain ⟨j, hj, Hm, rfl, rfl, HND⟩ := hrel
            by_cases hlt : j < acc.length
            · obtain ⟨g, rfl, hcs⟩ := HCS.out (by omega)
              have cj : wr.cell? ⟨g, j, none⟩ = some (.string (bs acc[j].1)) := hcs j _ (by simp [hlt])
              have hjl : ((j : Int) < (acc.length : Int)) := by omega
              clear hcs HCS
              by_cases hd1 : acc[j].1 = (hd l1).text
              · have hq : ((bs acc[j].1).toList == (bs (hd l1).text).toList) = true := by rw [str_ne]; simpa using hd1
                have HA : Hid (acc.any (fun b => b.1 == (hd l1).text) = true) := Lib.hid (by rw [List.any_eq_true]; exact ⟨acc[j], List.getElem_mem _, by simpa using hd1⟩)
                clear hd1
                go_wp2_with fail
                refine (fail_any _ _).mono ?_
                rintro e w4 ⟨rfl, rfl⟩
                go_wp2_with fail
                have hr := HR.out; rw [if_pos HA.out] at hr
                subst hr
                exact ⟨rfl, HKP2.out, rfl⟩
              · have hq : ((bs acc[j].1).toList == (bs (hd l1).text).toList) = false := by rw [str_ne]; simpa using hd1
                have HND2 : Hid (∀ i (h : i < acc.length), i < j + 1 → ¬ acc[i].1 = (hd l1).text) := Lib.hid (fun i h h' => by
                  rcases (show i < j ∨ i = j by omega) with e | rfl
                  · exact HND.out i h e
                  · exact hd1)
                clear hd1 HND
                go_wp2_with fail
                go_roundg (acc.length - (j + 1))
                case measure => have := Hm.out; omega
                case rel => exact ⟨j + 1, by omega, Lib.hid rfl, rfl, rfl, HND2⟩
            · have hje : j = acc.length := by omega
              subst hje
              have HA : Hid (¬ acc.any (fun b => b.1 == (hd l1).text) = true) := Lib.hid (by
                rw [List.any_eq_true]
                rintro ⟨b, hb, hb2⟩
                obtain ⟨i, hi, rfl⟩ := List.getElem_of_mem hb
                exact HND.out i hi hi (by simpa using hb2))
              clear HND Hm HCS
              have hr := HR.out; rw [if_neg HA.out] at hr; clear HR HA
              have HR := Lib.hid hr; clear hr
              go_wp2_with fail
              refine (want_any hx (.kw EQ) good_EQ ne_bad _ rb _ HI2.out.rd).mono ?_
              by_cases h3 : (hd (adv l1)).kind = .kw EQ
              · rw [want_yes h3]
                have hr := HR.out; rw [want_yes h3] at hr; simp only [Res.bind] at hr; clear HR h3
                have HR := Lib.hid hr; clear hr
                rintro e w3 ⟨k3, rfl, r3⟩
                have HI3 := Lib.hid (HI2.out.step k3 r3)
                have HST3 := Lib.hid (HST2.out.step k3 (Grew.refl G1 _))
                have HKP3 := Lib.hid (keepT HKP2.out k3)
                clear HI2 HST2 HKP2 c0 d1 k3 r3
                have c0 := HI3.out.cell
                have d1 : w3.cell? ⟨w.heap.size, 1, none⟩ = some (.slice ao acc.length cap) := cell_of_heap HST3.out.x rfl
                have hsz3 := lt_of_heap HST3.out.x
                have own3 := HST3.out.n
                rw [List.length_map] at own3
                go_wp2_with (first | (at_builtin; refine wpList_append_own_at _ rfl _ _ 39 rfl (w.heap.size + 1) 9 is (.string ByteArray.empty) 1 16 und_strs his zs0 zs1 zs2 rfl (by decide) (.slice ao acc.length cap) acc.length _ rfl (own3.alloc _) ⟨w3.heap.size, 0, none⟩ 1 1 [.string (bs (hd l1).text)] rfl rfl (cell_one_new _ _ _) (fun x hx => by simp at hx; subst hx; rfl) (by unfold maxLen; omega) (by omega) (by simp; omega) ?_; intro v4 w4 own4 g4 _ at4; obtain ⟨ao4, cap4, rfl, _⟩ := own_shape own4; have x4 := HST3.out.mid (.inl rfl) g4; have m1 : w4.cell? ⟨w.heap.size, 1, none⟩ = some (.slice ao acc.length cap) := cell_of_heap x4 rfl; have m2 : w4.frozen? ⟨w.heap.size, 1, none⟩ = false := free_of_heap x4))
                obtain ⟨st5, i5⟩ := HST3.out.name HI3.out (by rw [List.length_map]; exact own4) g4 at4
                have HKP5 := Lib.hid (HST3.out.keepN (i := 1) (u := .slice ao4 (acc.length + 1) cap4) HKP3.out (Nat.le_refl _) (.inl rfl) g4)
                have HST5 := Lib.hid st5; have HI5 := Lib.hid i5
                clear st5 i5 HST3 HI3 HKP3 own3 own4 g4 at4 x4 c0 d1
                obtain ⟨aoL, capL, hlv, _⟩ := own_shape HST5.out.l
                subst hlv
                have z2 : (w4.setCell ⟨w.heap.size, 1, none⟩ (.slice ao4 (acc.length + 1) cap4)).cell? ⟨w.heap.size, 2, none⟩ = some (.slice aoL vs.length capL) := cell_of_heap HST5.out.x rfl
                have i6 := HI5.out.drew
                cases hp : pExp n (adv (adv l1)) with
                | none => exact absurd (by rw [← HR.out, hp]) HNE.out
                | some rr =>
                  have HEX := Lib.hid (IH.out n (by omega) G1 _ ab rb _ (some rr) hp (by simp) i6)
                  have hr := HR.out; rw [hp] at hr; clear HR hp i6
                  have HR := Lib.hid hr; clear hr
                  have hnr : w.heap.size ≠ rb := HST5.out.xr
                  have HVL : Hid (vs.length = acc.length) := Lib.hid HB.out.len
                  have hxl := lt_of_heap HST5.out.x
                  have zS : (w4.setCell ⟨w.heap.size, 1, none⟩ (.slice ao4 (acc.length + 1) cap4)).drew.cell? ⟨w.heap.size, 2, none⟩ = some (.slice aoL vs.length capL) := z2
                  refine wp_region_float (fun w' => w'.cell? ⟨w.heap.size, 2, none⟩ = some (.slice aoL vs.length capL)) [0, 1, 2, 3, 5] [4] (by kernel_rfl) ?_
                  (refine float0 (i := 0) (v := ?_) rfl (by kernel_rfl) (by kernel_rfl) (by kernel_rfl) (by kernel_rfl) (fun _ _ _ h => h) (by rfl) ?_ ?_); rotate_left
                  (intro wF; go_simp; try with_reducible rfl)
                  (try simp only [Act.put, List.setIfInBounds_toArray, List.set_cons_zero, List.set_cons_succ])
                  (refine float0 (i := 1) (v := ?_) rfl (by kernel_rfl) (by kernel_rfl) (by kernel_rfl) (by kernel_rfl) (fun _ _ _ h => h) (by rfl) ?_ ?_); rotate_left
                  (intro wF; go_simp; try with_reducible rfl)
                  (try simp only [Act.put, List.setIfInBounds_toArray, List.set_cons_zero, List.set_cons_succ])
                  (refine float0 (i := 2) (v := ?_) rfl (by kernel_rfl) (by kernel_rfl) (by kernel_rfl) (by kernel_rfl) (fun _ _ _ h => h) (by rfl) ?_ ?_); rotate_left
                  (intro wF; go_simp; try with_reducible rfl)
                  (try simp only [Act.put, List.setIfInBounds_toArray, List.set_cons_zero, List.set_cons_succ])
                  (refine float0 (i := 3) (v := ?_) rfl (by kernel_rfl) (by kernel_rfl) (by kernel_rfl) (by kernel_rfl) (fun _ _ _ h => h) (by rfl) ?_ ?_); rotate_left
                  (intro wF; go_simp; try with_reducible rfl)
                  (try simp only [Act.put, List.setIfInBounds_toArray, List.set_cons_zero, List.set_cons_succ])
                  (refine floatS (i := 4) (v := ?_) rfl (by kernel_rfl) (by kernel_rfl) (by kernel_rfl) (by kernel_rfl) (fun _ _ _ h => h) (by assumption) (by rfl) ?_ ?_); rotate_left
                  (intro wF hF; (try dsimp only at hF); go_simp; try with_reducible rfl)
                  (try simp only [Act.put, List.setIfInBounds_toArray, List.set_cons_zero, List.set_cons_succ])
                  (refine float0 (i := 5) (v := ?_) rfl (by kernel_rfl) (by kernel_rfl) (by kernel_rfl) (by kernel_rfl) (fun _ _ _ h => h) (by rfl) ?_ ?_); rotate_left
                  (intro wF; go_simp; try with_reducible rfl)
                  (try simp only [Act.put, List.setIfInBounds_toArray, List.set_cons_zero, List.set_cons_succ])
                  (refine floatM (i := 6) rfl (by kernel_rfl) (by kernel_rfl) (fun K hK => ?_)); go_simp
                  refine HEX.out.mono ?_
                  rintro e w7 ⟨k7, h7⟩
                  cases rr with
                  | error q =>
                    subst h7
                    have hr := HR.out; simp only at hr
                    go_wp2_with fail
                    subst hr
                    exact ⟨rfl, keepT HKP5.out (keepT (Keep.drew _ _) k7), rfl⟩
                  | ok xl =>
                    obtain ⟨b, l3⟩ := xl
                    have hr := HR.out; simp only at hr; clear HR
                    have HR := Lib.hid hr; clear hr
                    obtain ⟨v, G7, rfl, s7, i7, y7⟩ := h7
                    have z7 : w7.cell? ⟨w.heap.size, 2, none⟩ = some (.slice aoL vs.length capL) := k7.cell_some z2 hnr
                    have st7 := HST5.out.step (keepT (Keep.drew (one' rb) _) k7) (Grew.keep (Keep.drew none' _) s7)
                    have h7x := st7.x
                    have hl7 := lt_of_heap h7x
                    obtain ⟨Tv, bv, rfl⟩ := y7.shape
                    clear HEX
                    go_wp2_with fail
                    refine hK.out _ _ (fun _ => z7) ?_
                    clear hK K
                    (try simp only [Act.put, List.setIfInBounds_toArray, List.set_cons_zero, List.set_cons_succ])
                    (refine floatM (i := 7) rfl (by kernel_rfl) (by kernel_rfl) (fun K hK => ?_)); go_simp
                    refine hK.out _ _ (fun _ => cell_of_heap (heap_old h7x) rfl) ?_
                    clear hK K
                    (try simp only [Act.put, List.setIfInBounds_toArray, List.set_cons_zero, List.set_cons_succ])
                    (refine floatT (l := _) (k := 8) rfl rfl (by kernel_rfl) ?_)
                    have own7 := st7.l.alloc (.cells #[.iface Tv (.pointer (some ⟨bv, 0, none⟩))] 109)
                    refine wpList_append_own_at _ rfl _ _ 192 rfl (w.heap.size + 1) 109 ie .nilIface 1 16 und_exprs hie ze0 ze1 ze2 rfl (by decide) (.slice aoL vs.length capL) vs.length vs rfl own7 ⟨w7.heap.size, 0, none⟩ 1 1 [.iface Tv (.pointer (some ⟨bv, 0, none⟩))] rfl rfl (cell_one_new _ _ _) (fun x hx => by simp at hx; subst hx; rfl) (by have := HVL.out; unfold maxLen; omega) (by have := HVL.out; omega) (by simp; omega) ?_
                    intro v8 w8 own8 g8 _ at8
                    obtain ⟨ao8, cap8, rfl, _⟩ := own_shape own8
                    have h8 := st7.mid (.inr rfl) g8
                    have e8 : w8.cell? ⟨w.heap.size, 2, none⟩ = some (.slice aoL vs.length capL) := cell_of_heap h8 rfl
                    have f8 : w8.frozen? ⟨w.heap.size, 2, none⟩ = false := free_of_heap h8
                    obtain ⟨st9, i9⟩ := st7.body i7 own8 g8 at8
                    have HKP9 := Lib.hid (st7.keepN (i := 2) (u := .slice ao8 (vs.length + 1) cap8) (keepT HKP5.out (keepT (Keep.drew _ _) k7)) (Nat.le_refl _) (.inr rfl) g8)
                    have HBS := Lib.hid ((HB.out.sub s7.sub).snoc (n := (hd l1).text) y7)
                    have HGR := Lib.hid (HG.out.trans (keepT HKP5.out (Keep.drew _ _)) s7)
                    have HST9 := Lib.hid st9; have HI9 := Lib.hid i9
                    have c9 := HI9.out.cell
                    clear st9 i9 st7 HST5 HI5 HKP5 own8 g8 at8 h8 own7 HB HG y7 s7 i7 k7 z7 h7x zS z2 hxl hl7
                    go_wp2_with fail
                    refine (take_any hx (.kw AND) good_AND ne_bad _ rb _ HI9.out.rd).mono ?_
                    rintro e w10 ⟨k10, h10⟩
                    have HST10 := Lib.hid (HST9.out.step k10 (Grew.refl G7 _))
                    have HKP10 := Lib.hid (keepT HKP9.out k10)
                    by_cases hA : (hd l3).kind = .kw AND
                    · rw [if_pos hA] at h10
                      obtain ⟨rfl, r10⟩ := h10
                      have HI10 := Lib.hid (HI9.out.step k10 r10)
                      have hr := HR.out; rw [if_pos hA] at hr; clear HR
                      have HR := Lib.hid hr; clear hr hA k10 r10
                      go_wp2_with fail
                      go_roundg n
                      case measure => omega
                      case rel => exact ⟨true, acc ++ [((hd l1).text, b)], adv l3, G7, _, _, _, by simp; omega, Lib.hid (fun h => by cases h), rfl, HI10, Lib.hid (by have := HST10.out; simpa using this), HBS, HGR, HKP10, Lib.hid (fun _ => HR.out), Lib.hid (fun h => by cases h)⟩
                    · rw [if_neg hA] at h10
                      obtain ⟨rfl, rfl⟩ := h10
                      have hr := HR.out; rw [if_neg hA] at hr; clear HR
                      have HR := Lib.hid hr; clear hr hA k10
                      go_wp2_with fail
                      go_roundg n
                      case measure => omega
                      case rel => exact ⟨false, acc ++ [((hd l1).text, b)], l3, G7, _, _, _, by simp; omega, Lib.hid (fun _ => ⟨by omega, by simp, by have := HVL.out; simp; omega⟩), rfl, HI9, Lib.hid (by have := HST10.out; simpa using this), HBS, HGR, HKP10, Lib.hid (fun h => by cases h), Lib.hid (fun _ => HR.out)⟩
              · rw [want_no h3]
                have hr := HR.out; rw [want_no h3] at hr; simp only [Res.bind] at hr; clear HR h3
                rintro e w3 ⟨k3, rfl⟩
                go_wp2_with fail
                subst hr
                exact ⟨rfl, keepT HKP2.out k3, rfl⟩
        · rw [want_no h2]
          have hr := HR.out; rw [want_no h2] at hr; simp only [Res.bind] at hr; clear HR h2
          rintro e w2 ⟨k2, rfl⟩
          go_wp2_with fail
          subst hr
          exact ⟨rfl, keepT HKP.out k2, rfl⟩
end Go.Proofs.YtabikmkoajdhmaaDoor

/- (*ast.reader).expr and atom by contracts, whatever the tokens: by induction on the plain parser's fuel. -/
namespace Go.Proofs.YtabikmkoajdhmaaDoor
open Go.RowKit

set_option maxRecDepth 100000 in
set_option maxHeartbeats 4000000 in
theorem expr_rec {kw : Str → Bool} {kwf : Nat} {S : ByteArray} (hx : Lx kw kwf S) (k : Nat) (hK : k ≤ 1000000000) (ih : ∀ j, j < k → ExprOk kwf kw S j) (G : GH) (w : World) (ab rb : Nat) (l : List Tok) (r : Res (Ex × List Tok)) (hr : pExp (k + 1) l = r) (hne : r ≠ none)
    (hi : AInv G w ab rb S kw kwf l) (hk : (hd l).kind = .kw LET) (hk2 : (hd (adv l)).kind = .kw REC) :
    Calls Tryd.prog 68 #[.pointer (some ⟨ab, 0, none⟩)] w (ParsePost G w ab rb S kw kwf r) := by
  have c0 := hi.cell
  obtain ⟨t2, t4⟩ := hi.tok
  have e1 : ¬ (hd l).kind = .kw FUN := by rw [hk]; decide
  have e2 : ¬ (hd l).kind = .kw IF := by rw [hk]; decide
  simp only [pExp, if_neg e1, if_neg e2, if_pos hk, if_pos hk2] at hr
  have IH := Lib.hid ih; have HR := Lib.hid hr; have HNE := Lib.hid hne
  clear ih hr hne
  go_enter Tryd.func68, Tryd.ntmps68
  go_wp2_with fail
  refine (take_any hx (.kw FUN) good_FUN ne_bad _ rb l hi.rd).mono ?_
  rintro e wa ⟨ka, ha⟩
  rw [if_neg e1] at ha
  obtain ⟨rfl, rfl⟩ := ha
  go_wp2_with fail
  refine (take_any hx (.kw IF) good_IF ne_bad _ rb l hi.rd).mono ?_
  rintro e wa ⟨kb, ha⟩
  rw [if_neg e2] at ha
  obtain ⟨rfl, rfl⟩ := ha
  go_wp2_with fail
  refine (take_any hx (.kw LET) good_LET ne_bad _ rb l hi.rd).mono ?_
  rintro e w1 ⟨k1, h1⟩
  rw [if_pos hk] at h1
  obtain ⟨rfl, r1⟩ := h1
  have i1 := hi.step k1 r1
  have c1 := i1.cell
  clear t2 hk e1 e2
  go_wp2_with fail
  refine (take_any hx (.kw REC) good_REC ne_bad _ rb _ i1.rd).mono ?_
  rintro e w2 ⟨k2, h2⟩
  rw [if_pos hk2] at h2
  obtain ⟨rfl, r2⟩ := h2
  have i2 := i1.step k2 r2
  have c2 := i2.cell
  clear hk2
  go_wp2_with fail
  refine (rec_all hx k hK IH.out G w2 ab rb _ _ r HR.out HNE.out i2).mono ?_
  rintro e w3 ⟨k3, h3⟩
  cases r with
  | none => exact absurd rfl HNE.out
  | some rr =>
    cases rr with
    | error q =>
      subst h3
      go_wp2_with fail
      exact ⟨rfl, keepT k1 (keepT k2 k3), rfl⟩
    | ok xl =>
      obtain ⟨x, l3⟩ := xl
      obtain ⟨v, G3, rfl, s3, i3, x3⟩ := h3
      obtain ⟨Tv, bv, rfl⟩ := x3.shape
      go_wp2_with fail
      go_ret
      exact ⟨keepT k1 (keepT k2 k3), _, _, rfl, Grew.keep (keepT k1 k2) s3, i3, x3⟩

theorem parse_ok {kw : Str → Bool} {kwf : Nat} {S : ByteArray} (hx : Lx kw kwf S) : ∀ k, k ≤ 1000000000 → ExprOk kwf kw S k ∧ AtomOk kwf kw S k := by
  intro k
  induction k using Nat.strongRecOn with
  | _ k ih =>
    intro hK
    cases k with
    | zero => exact ⟨fun _ _ _ _ _ r hr hne => absurd hr.symm (by simpa [pExp] using hne), fun _ _ _ _ _ r hr hne => absurd hr.symm (by simpa [pAtom] using hne)⟩
    | succ k =>
      have hE : ∀ j, j ≤ k → ExprOk kwf kw S j := fun j hj => (ih j (by omega) (by omega)).1
      have hA : ∀ j, j ≤ k → AtomOk kwf kw S j := fun j hj => (ih j (by omega) (by omega)).2
      refine ⟨fun G w ab rb l r hr hne hi => ?_, fun G w ab rb l r hr hne hi => ?_⟩
      · by_cases e1 : (hd l).kind = .kw FUN
        · exact expr_fun hx k (hE k (Nat.le_refl _)) G w ab rb l r hr hne hi e1
        by_cases e2 : (hd l).kind = .kw IF
        · exact expr_if hx k (hE k (Nat.le_refl _)) G w ab rb l r hr hne hi e2
        by_cases e3 : (hd l).kind = .kw LET
        · by_cases e4 : (hd (adv l)).kind = .kw REC
          · exact expr_rec hx k (by omega) (fun j hj => hE j (by omega)) G w ab rb l r hr hne hi e3 e4
          · exact expr_let hx k (hE k (Nat.le_refl _)) G w ab rb l r hr hne hi e3 e4
        · exact expr_app hx k hA G w ab rb l r hr hne hi e1 e2 e3
      · by_cases e1 : (hd l).kind = .name
        · have : pAtom (k + 1) l = some (.ok (.name (hd l).pos (hd l).text, adv l)) := by simp only [pAtom, if_pos e1]
          rw [this] at hr; subst hr
          exact atom_name hx G w ab rb l hi e1
        by_cases e2 : (hd l).kind = .num
        · have : pAtom (k + 1) l = some (.ok (.num (hd l).text, adv l)) := by simp only [pAtom, if_neg e1, if_pos e2]
          rw [this] at hr; subst hr
          exact atom_num hx G w ab rb l hi e2
        · exact atom_paren hx k (hE k (Nat.le_refl _)) G w ab rb l r hr hne hi e1 e2
end Go.Proofs.YtabikmkoajdhmaaDoor

/- ast.Below by a contract: the expressions right below one. -/
namespace Go.Proofs.YtabikmkoajdhmaaDoor
open Go.RowKit

def Ex.kids : Ex → List Ex
  | .name _ _ | .num _ => []
  | .fn _ b => [b]
  | .app f a => [f, a]
  | .pair a b => [a, b]
  | .lt _ a b => [a, b]
  | .rc bs e => bs.exprs ++ [e]
  | .ite c a b => [c, a, b]

def ExRs (G : GH) (vs : List Value) (xs : List Ex) : Prop := vs.length = xs.length ∧ ∀ (i : Nat) (v : Value) (x : Ex), vs[i]? = some v → xs[i]? = some x → ExR G v x
theorem ExRs.sub {G G' : GH} (hs : G.sub G') {vs : List Value} {xs : List Ex} (h : ExRs G vs xs) : ExRs G' vs xs := ⟨h.1, fun i v x a b => (h.2 i v x a b).sub hs⟩
theorem ExRs.nil (G : GH) : ExRs G [] [] := ⟨rfl, fun i v x a => by simp at a⟩
theorem ExRs.cons {G : GH} {v : Value} {x : Ex} {vs : List Value} {xs : List Ex} (h : ExR G v x) (t : ExRs G vs xs) : ExRs G (v :: vs) (x :: xs) :=
  ⟨by simp [t.1], fun i u y a b => by
    cases i with
    | zero => simp at a b; subst a; subst b; exact h
    | succ i => exact t.2 i u y (by simpa using a) (by simpa using b)⟩
theorem BsR.list {G : GH} : ∀ {vs : List Value} {bd : Bs}, BsR G vs bd → ExRs G vs bd.exprs
  | _, _, .nil => ExRs.nil G
  | _, _, .cons a b => ExRs.cons a b.list
theorem ExRs.snoc {G : GH} {v : Value} {x : Ex} (h : ExR G v x) : ∀ {vs : List Value} {xs : List Ex}, ExRs G vs xs → ExRs G (vs ++ [v]) (xs ++ [x])
  | [], [], _ => ExRs.cons h (ExRs.nil G)
  | [], y :: ys, t => absurd t.1 (by simp)
  | u :: us, [], t => absurd t.1 (by simp)
  | u :: us, y :: ys, t => ExRs.cons (t.2 0 u y rfl rfl) (ExRs.snoc h ⟨by simpa using t.1, fun i v x a b => t.2 (i + 1) v x (by simpa using a) (by simpa using b)⟩)

def BelowPost (G : GH) (w : World) (x : Ex) (e : Ending) (w' : World) : Prop :=
  ∃ u vs G', e = .returned u ∧ Keep none' w w' ∧ Grew G w G' ∧ Holds G' w' ∧ SlR G' u vs ∧ ExRs G' vs x.kids

/-- A new slice with these elements, laid behind all. -/
theorem below_new {G : GH} {w W : World} {x : Ex} {T : TypeId} {vs : List Value} (hG : Holds G W) (k : Keep none' w W) (hx : ExRs G vs x.kids) :
    BelowPost G w x (.returned (.slice (some ⟨W.heap.size, 0, none⟩) vs.length vs.length)) (W.alloc (.cells vs.toArray T)) := by
  have hf : G W.heap.size = none := hG.fresh (Nat.le_refl _)
  refine ⟨_, vs, G.put W.heap.size (.cells vs.toArray T), rfl, k.trans (Keep.alloc _ _ _), ⟨GH.sub_put hf, fun b hb => GH.put_other _ _ ?_⟩, (hG.keep0 (Keep.alloc none' W _)).put (heap_new _ _), ?_, hx.sub (GH.sub_put hf)⟩
  · have := k.size; omega
  · exact .inr ⟨W.heap.size, vs.toArray, T, vs.length, rfl, GH.put_same _ _ _, fun i hi => by simp [hi]⟩

set_option maxRecDepth 100000 in
set_option maxHeartbeats 2000000 in
theorem below_name (G : GH) (w : World) (b : Nat) (p : Nat) (n : Str) (hG : Holds G w) : Calls Tryd.prog 87 #[.iface 172 (.pointer (some ⟨b, 0, none⟩))] w (BelowPost G w (.name p n)) := by
  have aNameFun := taNameFun
  have aNameApp := taNameApp
  have aNamePair := taNamePair
  have aNameLet := taNameLet
  have aNameRec := taNameRec
  have aNameIf := taNameIf
  go_enter Tryd.func87, Tryd.ntmps87
  go_wp2_with fail
  go_ret
  exact ⟨_, [], G, rfl, Keep.refl _ _, Grew.refl _ _, hG, .inl ⟨rfl, rfl⟩, ExRs.nil G⟩
set_option maxRecDepth 100000 in
set_option maxHeartbeats 2000000 in
theorem below_num (G : GH) (w : World) (b : Nat) (n : Str) (hG : Holds G w) : Calls Tryd.prog 87 #[.iface 176 (.pointer (some ⟨b, 0, none⟩))] w (BelowPost G w (.num n)) := by
  have aNumFun := taNumFun
  have aNumApp := taNumApp
  have aNumPair := taNumPair
  have aNumLet := taNumLet
  have aNumRec := taNumRec
  have aNumIf := taNumIf
  go_enter Tryd.func87, Tryd.ntmps87
  go_wp2_with fail
  go_ret
  exact ⟨_, [], G, rfl, Keep.refl _ _, Grew.refl _ _, hG, .inl ⟨rfl, rfl⟩, ExRs.nil G⟩
set_option maxRecDepth 100000 in
set_option maxHeartbeats 2000000 in
theorem below_fn (G : GH) (w : World) (b : Nat) (p : Int) (n : Str) (v : Value) (x : Ex) (hG : Holds G w) (hb : G b = some (.cells #[.int .i64 p, .string (bs n), v] 181)) (hx : ExR G v x) :
    Calls Tryd.prog 87 #[.iface 179 (.pointer (some ⟨b, 0, none⟩))] w (BelowPost G w (.fn n x)) := by
  have c2 : w.cell? ⟨b, 2, none⟩ = some v := cell_of_heap (hG _ _ hb) rfl
  obtain ⟨Tv, bv, rfl⟩ := hx.shape
  have aFunFun := taFunFun
  go_enter Tryd.func87, Tryd.ntmps87
  go_wp2_with fail
  go_ret
  exact below_new (vs := [_]) hG (Keep.refl _ _) (ExRs.cons hx (ExRs.nil G))
set_option maxRecDepth 100000 in
set_option maxHeartbeats 2000000 in
theorem below_app (G : GH) (w : World) (b : Nat) (p : Int) (v u : Value) (x y : Ex) (hG : Holds G w) (hb : G b = some (.cells #[.int .i64 p, v, u] 198)) (hx : ExR G v x) (hy : ExR G u y) :
    Calls Tryd.prog 87 #[.iface 196 (.pointer (some ⟨b, 0, none⟩))] w (BelowPost G w (.app x y)) := by
  have c1 : w.cell? ⟨b, 1, none⟩ = some v := cell_of_heap (hG _ _ hb) rfl
  have c2 : w.cell? ⟨b, 2, none⟩ = some u := cell_of_heap (hG _ _ hb) rfl
  obtain ⟨Tv, bv, rfl⟩ := hx.shape
  obtain ⟨Tu, bu, rfl⟩ := hy.shape
  have aAppFun := taAppFun
  have aAppApp := taAppApp
  go_enter Tryd.func87, Tryd.ntmps87
  go_wp2_with fail
  (refine region_tail 8 (by kernel_rfl) (by kernel_rfl) ?_; simp only [List.take_succ_cons, List.take_zero, List.drop_succ_cons, List.drop_zero]; repeat still_step; try refine wpStill_nil ?_)
  go_wp2_with fail
  go_ret
  exact below_new (W := w.drew) (vs := [_, _]) (hG.keep0 (Keep.drew _ _)) (Keep.drew _ _) (ExRs.cons hx (ExRs.cons hy (ExRs.nil G)))
set_option maxRecDepth 100000 in
set_option maxHeartbeats 2000000 in
theorem below_pair (G : GH) (w : World) (b : Nat) (p : Int) (v u : Value) (x y : Ex) (hG : Holds G w) (hb : G b = some (.cells #[.int .i64 p, v, u] 184)) (hx : ExR G v x) (hy : ExR G u y) :
    Calls Tryd.prog 87 #[.iface 182 (.pointer (some ⟨b, 0, none⟩))] w (BelowPost G w (.pair x y)) := by
  have c1 : w.cell? ⟨b, 1, none⟩ = some v := cell_of_heap (hG _ _ hb) rfl
  have c2 : w.cell? ⟨b, 2, none⟩ = some u := cell_of_heap (hG _ _ hb) rfl
  obtain ⟨Tv, bv, rfl⟩ := hx.shape
  obtain ⟨Tu, bu, rfl⟩ := hy.shape
  have aPairFun := taPairFun
  have aPairApp := taPairApp
  have aPairPair := taPairPair
  go_enter Tryd.func87, Tryd.ntmps87
  go_wp2_with fail
  (refine region_tail 8 (by kernel_rfl) (by kernel_rfl) ?_; simp only [List.take_succ_cons, List.take_zero, List.drop_succ_cons, List.drop_zero]; repeat still_step; try refine wpStill_nil ?_)
  go_wp2_with fail
  go_ret
  exact below_new (W := w.drew) (vs := [_, _]) (hG.keep0 (Keep.drew _ _)) (Keep.drew _ _) (ExRs.cons hx (ExRs.cons hy (ExRs.nil G)))
set_option maxRecDepth 100000 in
set_option maxHeartbeats 2000000 in
theorem below_lt (G : GH) (w : World) (b : Nat) (p : Int) (n : Str) (v u : Value) (x y : Ex) (hG : Holds G w) (hb : G b = some (.cells #[.int .i64 p, .string (bs n), v, u] 187)) (hx : ExR G v x) (hy : ExR G u y) :
    Calls Tryd.prog 87 #[.iface 185 (.pointer (some ⟨b, 0, none⟩))] w (BelowPost G w (.lt n x y)) := by
  have c1 : w.cell? ⟨b, 2, none⟩ = some v := cell_of_heap (hG _ _ hb) rfl
  have c2 : w.cell? ⟨b, 3, none⟩ = some u := cell_of_heap (hG _ _ hb) rfl
  obtain ⟨Tv, bv, rfl⟩ := hx.shape
  obtain ⟨Tu, bu, rfl⟩ := hy.shape
  have aLetFun := taLetFun
  have aLetApp := taLetApp
  have aLetPair := taLetPair
  have aLetLet := taLetLet
  go_enter Tryd.func87, Tryd.ntmps87
  go_wp2_with fail
  (refine region_tail 8 (by kernel_rfl) (by kernel_rfl) ?_; simp only [List.take_succ_cons, List.take_zero, List.drop_succ_cons, List.drop_zero]; repeat still_step; try refine wpStill_nil ?_)
  go_wp2_with fail
  go_ret
  exact below_new (W := w.drew) (vs := [_, _]) (hG.keep0 (Keep.drew _ _)) (Keep.drew _ _) (ExRs.cons hx (ExRs.cons hy (ExRs.nil G)))
set_option maxRecDepth 100000 in
set_option maxHeartbeats 2000000 in
theorem below_ite (G : GH) (w : World) (b : Nat) (p : Int) (v u z : Value) (x y q : Ex) (hG : Holds G w) (hb : G b = some (.cells #[.int .i64 p, v, u, z] 190)) (hx : ExR G v x) (hy : ExR G u y) (hq : ExR G z q) :
    Calls Tryd.prog 87 #[.iface 188 (.pointer (some ⟨b, 0, none⟩))] w (BelowPost G w (.ite x y q)) := by
  have c1 : w.cell? ⟨b, 1, none⟩ = some v := cell_of_heap (hG _ _ hb) rfl
  have c2 : w.cell? ⟨b, 2, none⟩ = some u := cell_of_heap (hG _ _ hb) rfl
  have c3 : w.cell? ⟨b, 3, none⟩ = some z := cell_of_heap (hG _ _ hb) rfl
  obtain ⟨Tv, bv, rfl⟩ := hx.shape
  obtain ⟨Tu, bu, rfl⟩ := hy.shape
  obtain ⟨Tz, bz, rfl⟩ := hq.shape
  have aIfFun := taIfFun
  have aIfApp := taIfApp
  have aIfPair := taIfPair
  have aIfLet := taIfLet
  have aIfRec := taIfRec
  have aIfIf := taIfIf
  go_enter Tryd.func87, Tryd.ntmps87
  go_wp2_with fail
  (refine region_tail 12 (by kernel_rfl) (by kernel_rfl) ?_; simp only [List.take_succ_cons, List.take_zero, List.drop_succ_cons, List.drop_zero]; repeat still_step; try refine wpStill_nil ?_)
  go_wp2_with fail
  go_ret
  exact below_new (W := w.drew) (vs := [_, _, _]) (hG.keep0 (Keep.drew _ _)) (Keep.drew _ _) (ExRs.cons hx (ExRs.cons hy (ExRs.cons hq (ExRs.nil G))))

theorem ExRs.shape {G : GH} {vs : List Value} {xs : List Ex} (h : ExRs G vs xs) : ∀ u ∈ vs, u.oneCell' = true := fun u hu => by
  obtain ⟨i, hi, rfl⟩ := List.getElem_of_mem hu
  have hx : i < xs.length := by rw [← h.1]; exact hi
  obtain ⟨T, b, e⟩ := (h.2 i vs[i] xs[i] (by simp [hi]) (by simp [hx])).shape
  rw [e]; rfl
theorem SlR.cells {G : GH} {w : World} {v : Value} {xs : List Value} (hG : Holds G w) (h : SlR G v xs) (hne : xs ≠ []) : ∃ b cap, v = .slice (some ⟨b, 0, none⟩) xs.length cap ∧ b < w.heap.size ∧ ∀ j u, xs[j]? = some u → w.cell? ((⟨b, 0, none⟩ : Addr).add j) = some u := by
  rcases h with ⟨_, h⟩ | ⟨b, arr, T, cap, rfl, hb, hx⟩
  · exact absurd h hne
  · refine ⟨b, cap, rfl, hG.lt hb, fun j u hj => ?_⟩
    have hadd : (⟨b, 0, none⟩ : Addr).add j = ⟨b, j, none⟩ := by unfold Addr.add; split <;> simp_all
    rw [hadd]
    obtain ⟨hlt, rfl⟩ := List.getElem?_eq_some_iff.1 hj
    exact cell_of_heap (hG _ _ hb) (hx j hlt)
/-- What an own slice becomes when it is handed out. -/
theorem below_own {G : GH} {w W : World} {x : Ex} {base T : Nat} {v : Value} {n : Nat} {vs : List Value} (hG : Holds G W) (k : Keep none' w W) (hx : ExRs G vs x.kids) (h : W.ownsRow base T 1 v n vs) (hb : w.heap.size ≤ base) (hg : ∀ b, w.heap.size ≤ b → G b = none) :
    BelowPost G w x (.returned v) W := by
  obtain ⟨hl, h⟩ := h
  rcases h with ⟨rfl, rfl⟩ | ⟨g, cap, cur, rfl, hbg, hgg, h1, h2, h3, h4⟩
  · have : vs = [] := by simpa using hl
    subst this
    exact ⟨_, [], G, rfl, k, Grew.refl _ _, hG, .inl ⟨rfl, rfl⟩, hx⟩
  · have hn : n = vs.length := by omega
    subst hn
    have hf : G g = none := hg g (by omega)
    refine ⟨_, vs, G.put g (.cells cur T), rfl, k, ⟨GH.sub_put hf, fun b hb => GH.put_other _ _ (by omega)⟩, hG.put hgg, .inr ⟨g, cur, T, cap, rfl, GH.put_same _ _ _, fun i hi => ?_⟩, hx.sub (GH.sub_put hf)⟩
    have h5 : cur.toList[i]? = some vs[i] := by
      have : (cur.toList.take (vs.length * 1))[i]? = vs[i]? := by rw [h4]
      rw [List.getElem?_take, if_pos (by omega)] at this
      rw [this]; simp [hi]
    simpa using h5

set_option maxRecDepth 100000 in
set_option maxHeartbeats 4000000 in
theorem below_rc (G : GH) (w : World) (b : Nat) (p : Int) (nv lv ev : Value) (vs : List Value) (bd : Bs) (x : Ex) (hG : Holds G w) (hb : G b = some (.cells #[.int .i64 p, nv, lv, ev] 194)) (hl : SlR G lv vs) (hbd : BsR G vs bd) (hv : vs ≠ [] ∧ vs.length ≤ 1000000000) (hx : ExR G ev x) :
    Calls Tryd.prog 87 #[.iface 191 (.pointer (some ⟨b, 0, none⟩))] w (BelowPost G w (.rc bd x)) := by
  obtain ⟨ie, hie, ze0, ze1, ze2⟩ := info_parts info_expr
  obtain ⟨lb, lc, rfl, hlb, hcs⟩ := hl.cells hG hv.1
  obtain ⟨Tv, bv, rfl⟩ := hx.shape
  have c2 : w.cell? ⟨b, 2, none⟩ = some (.slice (some ⟨lb, 0, none⟩) vs.length lc) := cell_of_heap (hG _ _ hb) rfl
  have c3 : w.cell? ⟨b, 3, none⟩ = some (.iface Tv (.pointer (some ⟨bv, 0, none⟩))) := cell_of_heap (hG _ _ hb) rfl
  have hbl := hG.lt hb
  have HCS := Lib.hid hcs; have HL := Lib.hid hbd.list; have hone := hbd.list.shape; have HONE := Lib.hid hone
  obtain ⟨hv1, hv2⟩ := hv
  clear hcs hl hone hv1
  have aRecFun := taRecFun
  have aRecApp := taRecApp
  have aRecPair := taRecPair
  have aRecLet := taRecLet
  have aRecRec := taRecRec
  go_enter Tryd.func87, Tryd.ntmps87
  go_wp2_with fail
  have zS : w.drew.cell? ⟨b, 2, none⟩ = some (.slice (some ⟨lb, 0, none⟩) vs.length lc) ∧ w.drew.cell? ⟨b, 3, none⟩ = some (.iface Tv (.pointer (some ⟨bv, 0, none⟩))) := ⟨c2, c3⟩
  refine wp_region_float (fun w' => w'.cell? ⟨b, 2, none⟩ = some (.slice (some ⟨lb, 0, none⟩) vs.length lc) ∧ w'.cell? ⟨b, 3, none⟩ = some (.iface Tv (.pointer (some ⟨bv, 0, none⟩)))) [1, 2, 3, 6, 7, 8] [4, 9] (by kernel_rfl) ?_
  (refine float0 (i := 1) (v := ?_) rfl (by kernel_rfl) (by kernel_rfl) (by kernel_rfl) (by kernel_rfl) (fun _ _ _ h => h) (by rfl) ?_ ?_); rotate_left
  (intro wF; go_simp; try with_reducible rfl)
  (try simp only [Act.put, List.setIfInBounds_toArray, List.set_cons_zero, List.set_cons_succ])
  (refine float0 (i := 2) (v := ?_) rfl (by kernel_rfl) (by kernel_rfl) (by kernel_rfl) (by kernel_rfl) (fun _ _ _ h => h) (by rfl) ?_ ?_); rotate_left
  (intro wF; go_simp; try with_reducible rfl)
  (try simp only [Act.put, List.setIfInBounds_toArray, List.set_cons_zero, List.set_cons_succ])
  (refine float0 (i := 3) (v := ?_) rfl (by kernel_rfl) (by kernel_rfl) (by kernel_rfl) (by kernel_rfl) (fun _ _ _ h => h) (by rfl) ?_ ?_); rotate_left
  (intro wF; go_simp; try with_reducible rfl)
  (try simp only [Act.put, List.setIfInBounds_toArray, List.set_cons_zero, List.set_cons_succ])
  (refine floatS (i := 4) (v := ?_) rfl (by kernel_rfl) (by kernel_rfl) (by kernel_rfl) (by kernel_rfl) (fun _ _ _ h => h) (by assumption) (by rfl) ?_ ?_); rotate_left
  (intro wF hF; (try dsimp only at hF); go_simp; try with_reducible rfl)
  (try simp only [Act.put, List.setIfInBounds_toArray, List.set_cons_zero, List.set_cons_succ])
  (refine float0 (i := 6) (v := ?_) rfl (by kernel_rfl) (by kernel_rfl) (by kernel_rfl) (by kernel_rfl) (fun _ _ _ h => h) (by rfl) ?_ ?_); rotate_left
  (intro wF; go_simp; try with_reducible rfl)
  (try simp only [Act.put, List.setIfInBounds_toArray, List.set_cons_zero, List.set_cons_succ])
  (refine float0 (i := 7) (v := ?_) rfl (by kernel_rfl) (by kernel_rfl) (by kernel_rfl) (by kernel_rfl) (fun _ _ _ h => h) (by rfl) ?_ ?_); rotate_left
  (intro wF; go_simp; try with_reducible rfl)
  (try simp only [Act.put, List.setIfInBounds_toArray, List.set_cons_zero, List.set_cons_succ])
  (refine float0 (i := 8) (v := ?_) rfl (by kernel_rfl) (by kernel_rfl) (by kernel_rfl) (by kernel_rfl) (fun _ _ _ h => h) (by rfl) ?_ ?_); rotate_left
  (intro wF; go_simp; try with_reducible rfl)
  (try simp only [Act.put, List.setIfInBounds_toArray, List.set_cons_zero, List.set_cons_succ])
  (refine floatS (i := 9) (v := ?_) rfl (by kernel_rfl) (by kernel_rfl) (by kernel_rfl) (by kernel_rfl) (fun _ _ _ h => h) (by assumption) (by rfl) ?_ ?_); rotate_left
  (intro wF hF; (try dsimp only at hF); go_simp; try with_reducible rfl)
  (try simp only [Act.put, List.setIfInBounds_toArray, List.set_cons_zero, List.set_cons_succ])
  have HSK : Hid (∀ W, Keep none' w W → (W.cell? ⟨b, 2, none⟩ = some (.slice (some ⟨lb, 0, none⟩) vs.length lc) ∧ W.cell? ⟨b, 3, none⟩ = some (.iface Tv (.pointer (some ⟨bv, 0, none⟩))))) := Lib.hid fun W k => ⟨k.cell_some c2 (fun x => x), k.cell_some c3 (fun x => x)⟩
  have HNW : Hid (∀ W, Keep none' w W → ∀ j u, vs[j]? = some u → W.cell? ((⟨lb, 0, none⟩ : Addr).add j) = some u) := Lib.hid fun W k j u hj => k.cell_some (HCS.out j u hj) (fun x => x)
  have HFIN : Hid (∀ (W : World) (v : Value) (n : Nat), Keep none' w W → W.ownsRow w.heap.size 109 1 v n (vs ++ [.iface Tv (.pointer (some ⟨bv, 0, none⟩))]) → BelowPost G w (.rc bd x) (.returned v) W) :=
    Lib.hid fun W v n k h => below_own (hG.keep0 k) k (HL.out.snoc hx) h (Nat.le_refl _) (fun b hb => hG.fresh hb)
  clear HCS HL hG hb hlb hbd hx zS c2 c3
  refine floatM2 (i := 0) (j := 10) rfl rfl (by kernel_rfl) (by kernel_rfl) (fun K hK => ?_) (fun K hK => ?_)
  · go_simp
    have k0 : Keep none' w (w.alloc (.cells #[] 109)).drew := (Keep.alloc _ _ _).trans (Keep.drew _ _)
    refine hK.out _ _ (fun _ => HSK.out _ k0) ?_
    clear hK K
    (try simp only [Act.put, List.setIfInBounds_toArray, List.set_cons_zero, List.set_cons_succ])
    refine floatM2 (i := 5) (j := 10) rfl rfl (by kernel_rfl) (by kernel_rfl) (fun K hK => ?_) (fun K hK => ?_)
    · have own0 : (w.alloc (.cells #[] 109)).drew.ownsRow w.heap.size 109 1 (.slice (some ⟨w.heap.size, 0, none⟩) 0 0) 0 [] := World.ownsRow_lit w #[] 0 (Nat.le_refl _) (by decide) rfl
      refine step_append_own_at rfl (.tmp 57) (.tmp 61) 192 rfl w.heap.size 109 ie .nilIface 1 16 und_exprs hie ze0 ze1 ze2 rfl (by decide) _ 0 [] rfl own0 ⟨lb, 0, none⟩ vs.length lc vs rfl (by simp) (HNW.out _ k0) HONE.out (by unfold maxLen; omega) (by omega) (by simp [World.drew]) ?_
      intro v5 w5 own5 g5 at5
      have k5 : Keep none' w w5 := Keep.grown0 k0 g5 (fun b e => by cases e; exact Nat.le_refl _)
      simp only [Nat.zero_add, List.nil_append] at own5
      refine hK.out _ _ (fun _ => HSK.out _ k5) ?_
      clear hK K
      (try simp only [Act.put, List.setIfInBounds_toArray, List.set_cons_zero, List.set_cons_succ])
      (refine floatM (i := 10) rfl (by kernel_rfl) (by kernel_rfl) (fun K hK => ?_)); go_simp
      have k6 : Keep none' w (w5.alloc (.cells #[.iface Tv (.pointer (some ⟨bv, 0, none⟩))] 109)) := k5.trans (Keep.alloc _ _ _)
      refine hK.out _ _ (fun _ => HSK.out _ k6) ?_
      clear hK K
      (try simp only [Act.put, List.setIfInBounds_toArray, List.set_cons_zero, List.set_cons_succ])
      (refine floatM (i := 11) rfl (by kernel_rfl) (by kernel_rfl) (fun K hK => ?_))
      have own6 := own5.alloc (.cells #[.iface Tv (.pointer (some ⟨bv, 0, none⟩))] 109)
      refine step_append_own_at rfl (.tmp 62) (.tmp 67) 192 rfl w.heap.size 109 ie .nilIface 1 16 und_exprs hie ze0 ze1 ze2 rfl (by decide) v5 vs.length vs rfl own6 ⟨w5.heap.size, 0, none⟩ 1 1 [.iface Tv (.pointer (some ⟨bv, 0, none⟩))] rfl rfl (cell_one_new _ _ _) (fun x hx => by simp at hx; subst hx; rfl) (by unfold maxLen; omega) (by omega) (by have := k6.size; exact this) ?_
      intro v7 w7 own7 g7 at7
      have k7 : Keep none' w w7 := Keep.grown0 k6 g7 (fun b e => (own5.lt b e).1)
      refine hK.out _ _ (fun _ => HSK.out _ k7) ?_
      clear hK K
      (try simp only [Act.put, List.setIfInBounds_toArray, List.set_cons_zero, List.set_cons_succ])
      (refine floatT (l := _) (k := 12) rfl rfl (by kernel_rfl) ?_)
      go_wp2_with fail
      go_ret
      exact HFIN.out _ _ _ k7 own7
    · go_simp
      have k1 : Keep none' w ((w.alloc (.cells #[] 109)).alloc (.cells #[.iface Tv (.pointer (some ⟨bv, 0, none⟩))] 109)).drew := ((Keep.alloc _ _ _).trans (Keep.alloc _ _ _)).trans (Keep.drew _ _)
      refine hK.out _ _ (fun _ => HSK.out _ k1) ?_
      clear hK K
      (try simp only [Act.put, List.setIfInBounds_toArray, List.set_cons_zero, List.set_cons_succ])
      (refine floatM (i := 5) rfl (by kernel_rfl) (by kernel_rfl) (fun K hK => ?_))
      have own0 : ((w.alloc (.cells #[] 109)).alloc (.cells #[.iface Tv (.pointer (some ⟨bv, 0, none⟩))] 109)).drew.ownsRow w.heap.size 109 1 (.slice (some ⟨w.heap.size, 0, none⟩) 0 0) 0 [] := (World.ownsRow_lit w #[] 0 (Nat.le_refl _) (by decide) rfl).alloc _
      refine step_append_own_at rfl (.tmp 57) (.tmp 61) 192 rfl w.heap.size 109 ie .nilIface 1 16 und_exprs hie ze0 ze1 ze2 rfl (by decide) _ 0 [] rfl own0 ⟨lb, 0, none⟩ vs.length lc vs rfl (by simp) (HNW.out _ k1) HONE.out (by unfold maxLen; omega) (by omega) (by have := k1.size; exact this) ?_
      intro v5 w5 own5 g5 at5
      have k5 : Keep none' w w5 := Keep.grown0 k1 g5 (fun b e => by cases e; exact Nat.le_refl _)
      have hne1 : ∀ j u, [Value.iface Tv (.pointer (some ⟨bv, 0, none⟩))][j]? = some u → w5.cell? ((⟨w.heap.size + 1, 0, none⟩ : Addr).add j) = some u := fun j u hj => by
        have h1 : ((w.alloc (.cells #[] 109)).alloc (.cells #[.iface Tv (.pointer (some ⟨bv, 0, none⟩))] 109)).drew.heap[w.heap.size + 1]? = some (.cells #[.iface Tv (.pointer (some ⟨bv, 0, none⟩))] 109) := by
          have := heap_new (w.alloc (.cells #[] 109)) (.cells #[.iface Tv (.pointer (some ⟨bv, 0, none⟩))] 109)
          rw [show (w.alloc (.cells #[] 109)).heap.size = w.heap.size + 1 by simp] at this
          exact this
        have h2 := (Keep.grown (S := fun b => b = w.heap.size) g5 (fun b e _ => by cases e; rfl)).get h1 (by omega)
        cases j with
        | zero => simp at hj; subst hj; exact cell_of_heap h2 rfl
        | succ j => simp at hj
      simp only [Nat.zero_add, List.nil_append] at own5
      refine hK.out _ _ (fun _ => HSK.out _ k5) ?_
      clear hK K
      (try simp only [Act.put, List.setIfInBounds_toArray, List.set_cons_zero, List.set_cons_succ])
      (refine floatM (i := 11) rfl (by kernel_rfl) (by kernel_rfl) (fun K hK => ?_))
      refine step_append_own_at rfl (.tmp 62) (.tmp 67) 192 rfl w.heap.size 109 ie .nilIface 1 16 und_exprs hie ze0 ze1 ze2 rfl (by decide) v5 vs.length vs rfl own5 ⟨w.heap.size + 1, 0, none⟩ 1 1 [.iface Tv (.pointer (some ⟨bv, 0, none⟩))] rfl rfl hne1 (fun x hx => by simp at hx; subst hx; rfl) (by unfold maxLen; omega) (by omega) (by have := k5.size; exact this) ?_
      intro v7 w7 own7 g7 at7
      have k7 : Keep none' w w7 := Keep.grown0 k5 g7 (fun b e => (own5.lt b e).1)
      refine hK.out _ _ (fun _ => HSK.out _ k7) ?_
      clear hK K
      (try simp only [Act.put, List.setIfInBounds_toArray, List.set_cons_zero, List.set_cons_succ])
      (refine floatT (l := _) (k := 12) rfl rfl (by kernel_rfl) ?_)
      go_wp2_with fail
      go_ret
      exact HFIN.out _ _ _ k7 own7
  · go_simp
    have k0 : Keep none' w (w.alloc (.cells #[.iface Tv (.pointer (some ⟨bv, 0, none⟩))] 109)).drew := (Keep.alloc _ _ _).trans (Keep.drew _ _)
    refine hK.out _ _ (fun _ => HSK.out _ k0) ?_
    clear hK K
    (try simp only [Act.put, List.setIfInBounds_toArray, List.set_cons_zero, List.set_cons_succ])
    (refine floatM (i := 0) rfl (by kernel_rfl) (by kernel_rfl) (fun K hK => ?_)); go_simp
    have k1 : Keep none' w ((w.alloc (.cells #[.iface Tv (.pointer (some ⟨bv, 0, none⟩))] 109)).alloc (.cells #[] 109)).drew := ((Keep.alloc _ _ _).trans (Keep.alloc _ _ _)).trans (Keep.drew _ _)
    refine hK.out _ _ (fun _ => HSK.out _ k1) ?_
    clear hK K
    (try simp only [Act.put, List.setIfInBounds_toArray, List.set_cons_zero, List.set_cons_succ])
    (refine floatM (i := 5) rfl (by kernel_rfl) (by kernel_rfl) (fun K hK => ?_))
    have own0 : ((w.alloc (.cells #[.iface Tv (.pointer (some ⟨bv, 0, none⟩))] 109)).alloc (.cells #[] 109)).drew.ownsRow w.heap.size 109 1 (.slice (some ⟨w.heap.size + 1, 0, none⟩) 0 0) 0 [] := by
      have := World.ownsRow_lit (base := w.heap.size) (e := 109) (size := 1) (w.alloc (.cells #[.iface Tv (.pointer (some ⟨bv, 0, none⟩))] 109)) #[] 0 (by simp) (by decide) rfl
      rw [show (w.alloc (.cells #[.iface Tv (.pointer (some ⟨bv, 0, none⟩))] 109)).heap.size = w.heap.size + 1 by simp] at this
      exact this
    refine step_append_own_at rfl (.tmp 57) (.tmp 61) 192 rfl w.heap.size 109 ie .nilIface 1 16 und_exprs hie ze0 ze1 ze2 rfl (by decide) _ 0 [] rfl own0 ⟨lb, 0, none⟩ vs.length lc vs rfl (by simp) (HNW.out _ k1) HONE.out (by unfold maxLen; omega) (by omega) (by have := k1.size; exact this) ?_
    intro v5 w5 own5 g5 at5
    have k5 : Keep none' w w5 := Keep.grown0 k1 g5 (fun b e => by cases e; exact Nat.le_succ _)
    have hne1 : ∀ j u, [Value.iface Tv (.pointer (some ⟨bv, 0, none⟩))][j]? = some u → w5.cell? ((⟨w.heap.size, 0, none⟩ : Addr).add j) = some u := fun j u hj => by
      have h1 : ((w.alloc (.cells #[.iface Tv (.pointer (some ⟨bv, 0, none⟩))] 109)).alloc (.cells #[] 109)).drew.heap[w.heap.size]? = some (.cells #[.iface Tv (.pointer (some ⟨bv, 0, none⟩))] 109) := heap_old (heap_new _ _)
      have h2 := (Keep.grown (S := fun b => b = w.heap.size + 1) g5 (fun b e _ => by cases e; rfl)).get h1 (by omega)
      cases j with
      | zero => simp at hj; subst hj; exact cell_of_heap h2 rfl
      | succ j => simp at hj
    simp only [Nat.zero_add, List.nil_append] at own5
    refine hK.out _ _ (fun _ => HSK.out _ k5) ?_
    clear hK K
    (try simp only [Act.put, List.setIfInBounds_toArray, List.set_cons_zero, List.set_cons_succ])
    (refine floatM (i := 11) rfl (by kernel_rfl) (by kernel_rfl) (fun K hK => ?_))
    refine step_append_own_at rfl (.tmp 62) (.tmp 67) 192 rfl w.heap.size 109 ie .nilIface 1 16 und_exprs hie ze0 ze1 ze2 rfl (by decide) v5 vs.length vs rfl own5 ⟨w.heap.size, 0, none⟩ 1 1 [.iface Tv (.pointer (some ⟨bv, 0, none⟩))] rfl rfl hne1 (fun x hx => by simp at hx; subst hx; rfl) (by unfold maxLen; omega) (by omega) (by have := k5.size; exact this) ?_
    intro v7 w7 own7 g7 at7
    have k7 : Keep none' w w7 := Keep.grown0 k5 g7 (fun b e => (own5.lt b e).1)
    refine hK.out _ _ (fun _ => HSK.out _ k7) ?_
    clear hK K
    (try simp only [Act.put, List.setIfInBounds_toArray, List.set_cons_zero, List.set_cons_succ])
    (refine floatT (l := _) (k := 12) rfl rfl (by kernel_rfl) ?_)
    go_wp2_with fail
    go_ret
    exact HFIN.out _ _ _ k7 own7
end Go.Proofs.YtabikmkoajdhmaaDoor

/- ast.depth by a contract. -/
namespace Go.Proofs.YtabikmkoajdhmaaDoor
open Go.RowKit

theorem below_any (G : GH) (w : World) (v : Value) (x : Ex) (hG : Holds G w) (hx : ExR G v x) : Calls Tryd.prog 87 #[v] w (BelowPost G w x) := by
  cases hx with
  | name h => exact below_name G w _ _ _ hG
  | num h => exact below_num G w _ _ hG
  | fn h a => exact below_fn G w _ _ _ _ _ hG h a
  | app h a b => exact below_app G w _ _ _ _ _ _ hG h a b
  | pair h a b => exact below_pair G w _ _ _ _ _ _ hG h a b
  | lt h a b => exact below_lt G w _ _ _ _ _ _ _ hG h a b
  | ite h a b c => exact below_ite G w _ _ _ _ _ _ _ _ hG h a b c
  | rc h n l b q e => exact below_rc G w _ _ _ _ _ _ _ _ hG h l b q e

def dmax : List Ex → Nat
  | [] => 0
  | x :: r => max x.depth (dmax r)
theorem dmax_snoc (x : Ex) : ∀ l, dmax (l ++ [x]) = max (dmax l) x.depth
  | [] => by simp [dmax]
  | y :: l => by simp only [List.cons_append, dmax, dmax_snoc x l]; omega
theorem dmax_bs : ∀ b : Bs, dmax b.exprs = b.depth
  | .nil => rfl
  | .cons _ x r => by simp only [Bs.exprs, dmax, Bs.depth, dmax_bs r]
theorem depth_kids : ∀ x : Ex, x.depth = dmax x.kids + 1
  | .name _ _ => rfl
  | .num _ => rfl
  | .fn _ b => by simp [Ex.kids, Ex.depth, dmax]
  | .app f a => by simp [Ex.kids, Ex.depth, dmax]
  | .pair a b => by simp [Ex.kids, Ex.depth, dmax]
  | .lt _ a b => by simp [Ex.kids, Ex.depth, dmax]
  | .rc bs e => by simp only [Ex.kids, Ex.depth, dmax_snoc, dmax_bs]
  | .ite c a b => by simp only [Ex.kids, Ex.depth, dmax]; omega
theorem dmax_le (l : List Ex) (x : Ex) (h : x ∈ l) : x.depth ≤ dmax l := by
  induction l with
  | nil => cases h
  | cons y l ih =>
    simp only [dmax]
    rcases List.mem_cons.1 h with rfl | h
    · omega
    · have := ih h; omega
theorem dmax_take (l : List Ex) (j : Nat) (hj : j < l.length) : dmax (l.take (j + 1)) = max (dmax (l.take j)) l[j].depth := by
  rw [List.take_succ_eq_append_getElem hj, dmax_snoc]
theorem dmax_take_le (l : List Ex) (j : Nat) : dmax (l.take j) ≤ dmax l := by
  induction l generalizing j with
  | nil => simp [dmax]
  | cons y l ih =>
    cases j with
    | zero => simp [dmax]
    | succ j => simp only [List.take_succ_cons, dmax]; have := ih j; omega

theorem ExR.kids_len {G : GH} {v : Value} {x : Ex} (h : ExR G v x) : x.kids.length ≤ 1000000001 := by
  cases h with
  | rc h n l b q e =>
    have := b.list.1
    simp only [Ex.kids, List.length_append, List.length_cons, List.length_nil]
    omega
  | _ => simp [Ex.kids]
def DepthOk (n : Nat) : Prop := ∀ (G : GH) (w : World) (v : Value) (x : Ex), Holds G w → ExR G v x → x.depth ≤ n → Calls Tryd.prog 70 #[v] w fun e w' => e = .returned (.int .i64 x.depth) ∧ Keep none' w w'

/-- A slice value that reads as a list: its two forms. -/
theorem SlR.shape {G : GH} {v : Value} {xs : List Value} (h : SlR G v xs) : ∃ a cap, v = .slice a xs.length cap ∧ ∀ w, Holds G w → ∀ j u, xs[j]? = some u → ∃ b, a = some ⟨b, 0, none⟩ ∧ w.cell? ⟨b, j, none⟩ = some u := by
  rcases h with ⟨rfl, rfl⟩ | ⟨b, arr, T, cap, rfl, hb, hx⟩
  · exact ⟨none, 0, rfl, fun w _ j u hj => by simp at hj⟩
  · refine ⟨some ⟨b, 0, none⟩, cap, rfl, fun w hG j u hj => ⟨b, rfl, ?_⟩⟩
    obtain ⟨hlt, rfl⟩ := List.getElem?_eq_some_iff.1 hj
    exact cell_of_heap (hG _ _ hb) (hx j hlt)

set_option maxRecDepth 100000 in
set_option maxHeartbeats 2000000 in
theorem depth_step (n : Nat) (hn : n + 1 ≤ 1000000000) (ih : DepthOk n) : DepthOk (n + 1) := by
  intro G w v x hG hx hd
  obtain ⟨Tv, bv, rfl⟩ := hx.shape
  have hk : dmax x.kids ≤ n := by have := depth_kids x; omega
  have IH := Lib.hid ih; have HD := Lib.hid (depth_kids x); have HB := Lib.hid (below_any G w _ x hG hx); have HKL := Lib.hid hx.kids_len
  clear ih hd
  go_enter Tryd.func70, Tryd.ntmps70
  go_wp2_with fail
  refine HB.out.mono ?_
  rintro e w1 ⟨u, vs, G1, rfl, k1, g1, hG1, hsl, hxs⟩
  obtain ⟨a, cap, rfl, hc⟩ := hsl.shape
  have HC := Lib.hid hc; have HX := Lib.hid hxs; have HK := Lib.hid k1; have HG1 := Lib.hid hG1; have HLen : Hid (vs.length = x.kids.length) := Lib.hid hxs.1
  clear hc hxs k1 hG1 hsl HB hG hx g1
  have hvl : vs.length ≤ 9223372036854775807 := by have := HKL.out; have := HLen.out; omega
  go_wp2_with fail
  go_loopg [3, 9] vs.length (fun m s3 s9 wr => ∃ j d : Nat, j ≤ vs.length ∧ d ≤ n ∧ Hid (m = vs.length - j) ∧ s9 = .int .i64 j ∧ s3 = .int .i64 d ∧ Hid (d = dmax (x.kids.take j)) ∧ Hid (Keep none' w1 wr))
  case atStart => exact ⟨0, 0, by omega, by omega, Lib.hid rfl, rfl, rfl, Lib.hid (by simp [dmax]), Lib.hid (Keep.refl _ _)⟩
  case round =>
    obtain ⟨j, d, hj, hdn, HM, rfl, rfl, HDM, HK2⟩ := hrel
    have hjj : (0 : Int) ≤ (j : Int) := by omega
    by_cases hlt : j < vs.length
    · have hltx : j < x.kids.length := by have := HLen.out; omega
      obtain ⟨b, rfl, cj⟩ := HC.out wr (HG1.out.keep0 HK2.out) j vs[j] (by simp [hlt])
      have hxj := HX.out.2 j vs[j] (x.kids[j]) (by simp [hlt]) (by simp [hltx])
      obtain ⟨T, b', e⟩ := hxj.shape
      rw [e] at cj hxj
      have HXJ := Lib.hid hxj; clear hxj
      have hji : ((j : Int) < (vs.length : Int)) := by omega
      have hdj : (x.kids[j]).depth ≤ n := Nat.le_trans (dmax_le _ _ (List.getElem_mem hltx)) hk
      clear e
      go_wp2_with fail
      refine (IH.out G1 wr _ _ (HG1.out.keep0 HK2.out) HXJ.out hdj).mono ?_
      rintro e w2 ⟨rfl, k2⟩
      have HK3 := Lib.hid (HK2.out.trans k2)
      clear k2
      go_wp2_with fail
      · go_roundg (vs.length - (j + 1))
        case measure => have := HM.out; omega
        case rel => exact ⟨j + 1, (x.kids[j]).depth, by omega, hdj, Lib.hid rfl, by go_num, rfl, Lib.hid (by rw [dmax_take _ _ hltx]; have := HDM.out; omega), HK3⟩
      · go_roundg (vs.length - (j + 1))
        case measure => have := HM.out; omega
        case rel => exact ⟨j + 1, d, by omega, hdn, Lib.hid rfl, by go_num, rfl, Lib.hid (by rw [dmax_take _ _ hltx]; have := HDM.out; omega), HK3⟩
    · have hje : j = vs.length := by omega
      subst hje
      go_wp2_with fail
      go_ret
      have e1 : dmax (x.kids.take vs.length) = dmax x.kids := by rw [HLen.out, List.take_length]
      refine ⟨?_, HK.out.trans HK2.out⟩
      rw [HD.out, ← e1, ← HDM.out]
      rfl

theorem depth_ok : ∀ n, n ≤ 1000000000 → DepthOk n
  | 0, _ => fun G w v x hG hx hd => by have := depth_kids x; omega
  | n + 1, h => depth_step n h (depth_ok n (by omega))
end Go.Proofs.YtabikmkoajdhmaaDoor

/- types.Show by a contract, for every closure that names variables and keeps a state. -/
namespace Go.Proofs.YtabikmkoajdhmaaDoor
open Go.RowKit

/-- The same meaning; touched are variables' blocks and those in S. -/
structure SameS (S : Nat → Prop) (G : GH) (A : GV) (n : Nat) (w w' : World) : Prop where
  keep : Keep (fun b => isV A b ∨ S b) w w'
  inv : TInv G A w' n
  tr : ∀ v t, TR G A w v t → TR G A w' v t
theorem Same.s {S : Nat → Prop} {G : GH} {A : GV} {n : Nat} {w w' : World} (h : Same G A n w w') : SameS S G A n w w' := ⟨h.keep.mono (fun _ _ x => .inl x), h.inv, h.tr⟩
theorem SameS.trans {S : Nat → Prop} {G : GH} {A : GV} {n : Nat} {a b c : World} (h : SameS S G A n a b) (k : SameS S G A n b c) : SameS S G A n a c := ⟨h.keep.trans k.keep, k.inv, fun v t r => k.tr v t (h.tr v t r)⟩
theorem SameS.trs {S : Nat → Prop} {G : GH} {A : GV} {n : Nat} {w w' : World} (h : SameS S G A n w w') : ∀ {vs : List Value} {ts : List Ty}, TRs G A w vs ts → TRs G A w' vs ts
  | _, _, .nil => .nil
  | _, _, .cons a b => .cons (h.tr _ _ a) (h.trs b)

/-- A closure that names variables: its state s, told by R of the world; it touches S alone. -/
structure NmOk (G : GH) (A : GV) (n : Nat) (S V : Nat → Prop) {St : Type} (nm : St → Nat → Str × St) (R : St → World → Prop) (f : FuncId) (caps : Array Value) : Prop where
  enter : ∀ args w, (callFunc f args).run Tryd.prog w = .ok (.enter f args) w
  len : ∀ s N, (nm s N).1.length ≤ 1000
  stable : ∀ s w w', R s w → Same G A n w w' → R s w'
  call : ∀ s w N b name, V N → R s w → TInv G A w n → A N = some (b, name) → TR G A w (varV b) (.var N) → Calls Tryd.prog f (#[.pointer (some ⟨b, 0, none⟩)] ++ caps) w (fun e w' => e = .returned (.string (bs (nm s N).1)) ∧ R (nm s N).2 w' ∧ SameS S G A n w w')

theorem TRs.one1 {G : GH} {A : GV} {w : World} {vs : List Value} {a : Ty} (h : TRs G A w vs [a]) : ∃ v, vs = [v] ∧ TR G A w v a := by
  cases h with
  | cons x y => cases y with | nil => exact ⟨_, rfl, x⟩
theorem TRs.two2 {G : GH} {A : GV} {w : World} {vs : List Value} {a b : Ty} (h : TRs G A w vs [a, b]) : ∃ v u, vs = [v, u] ∧ TR G A w v a ∧ TR G A w u b := by
  cases h with
  | cons x y =>
    obtain ⟨u, rfl, hu⟩ := y.one1
    exact ⟨_, u, rfl, x, hu⟩

theorem showS_len {St : Type} {nm : St → Nat → Str × St} (h : ∀ s N, (nm s N).1.length ≤ 1000) : ∀ (t : Ty) (s : St), (showS nm t s).1.length ≤ 1010 * t.size
  | .var N, s => by have := h s N; simp only [showS, Ty.size]; omega
  | .int, s => by simp [showS, Ty.size, INT]
  | .bool, s => by simp [showS, Ty.size, BOOL]
  | .list a, s => by have := showS_len h a s; simp [showS, Ty.size, LB, RB]; omega
  | .pair a b, s => by have := showS_len h a s; have := showS_len h b (showS nm a s).2; simp [showS, Ty.size, LP, RP]; omega
  | .fn a b, s => by
    have := showS_len h a s; have := showS_len h b (showS nm a s).2
    simp only [showS, Ty.size]
    split <;> simp [LP, RP] <;> omega

def ShowOk (G : GH) (A : GV) (n : Nat) (S V : Nat → Prop) {St : Type} (nm : St → Nat → Str × St) (R : St → World → Prop) (f : FuncId) (caps : Array Value) (m : Nat) : Prop :=
  ∀ (w : World) (v : Value) (t : Ty) (s : St), TInv G A w n → TR G A w v t → t.size ≤ m → (∀ N, t.has N = true → V N) → R s w → Calls Tryd.prog 52 #[v, .func (.func f) #[] caps] w (fun e w' => e = .returned (.string (bs (showS nm t s).1)) ∧ R (showS nm t s).2 w' ∧ SameS S G A n w w')

set_option maxRecDepth 100000 in
set_option maxHeartbeats 4000000 in
theorem show_step {G : GH} {A : GV} {n : Nat} {S V : Nat → Prop} {St : Type} {nm : St → Nat → Str × St} {R : St → World → Prop} {f : FuncId} {caps : Array Value} (hN : NmOk G A n S V nm R f caps) (m : Nat) (hmB : m + 1 ≤ 1000000000) (ih : ShowOk G A n S V nm R f caps m) : ShowOk G A n S V nm R f caps (m + 1) := by
  intro w v t s hi hv hm hVV hR
  obtain ⟨T, b, fd, rfl, hmt, hent, hF⟩ := find_fn hv
  have hc := hF _ _ _ _ _ hi hv
  have HF := Lib.hid hF; clear hF
  have HC := Lib.hid hc; have IH := Lib.hid ih; have HI := Lib.hid hi; have HM := Lib.hid hm; have HRR := Lib.hid hR; have HNM := Lib.hid hN; have HV := Lib.hid hv; have HVV := Lib.hid hVV
  have henf := hN.enter
  have HB := Lib.hid (fun (x : Ty) (s : St) (h : x.size ≤ m) => (show (bs (showS nm x s).1).size ≤ 1010000000000 from by rw [bs_size]; have := showS_len hN.len x s; omega))
  clear hc ih hi hm hv hVV hR hN
  go_enter Tryd.func52, Tryd.ntmps52
  go_wp2_with fail
  refine HC.out.mono ?_
  rintro e w1 ⟨r, rfl, hs, hr⟩
  cases hr with
  | @var N b1 name hA hb =>
    have hv1 := hs.tr _ _ HV.out
    have HS := Lib.hid hs; have HC2 := Lib.hid (HF.out _ _ _ _ _ hs.inv hv1); clear hs hb hv1
    simp only [varV]
    have ta := taVarCon
    have tb := tbVarVar
    go_wp2_with fail
    refine HC2.out.mono ?_
    rintro e w2 ⟨r2, rfl, hs2, hr2⟩
    cases hr2 with
    | con c _ _ _ => cases c
    | @var _ b2 name2 hA2 hb2 =>
      have hs3 := HS.out.trans hs2
      have hcl := HNM.out.call s w2 N b2 name2 (HVV.out N (by simp [Ty.has])) (HNM.out.stable _ _ _ HRR.out hs3) hs2.inv hA2 (.free hA2 hb2)
      have HCL := Lib.hid hcl; have HS3 := Lib.hid hs3; clear hcl hs3 hs2 hb2
      simp only [varV]
      go_wp2_with fail
      refine HCL.out.mono ?_
      rintro e w3 ⟨rfl, hR3, hs4⟩
      have HR3 := Lib.hid hR3; have HS4 := Lib.hid hs4; clear hR3 hs4
      go_wp2_with fail
      go_ret
      exact ⟨rfl, HR3.out, HS3.out.s.trans HS4.out⟩
  | con hcn hg hl hts =>
    rename_i b1 lv vs
    have c0 : w1.cell? ⟨b1, 0, none⟩ = some (.string (bs t.kind)) := cell_of_heap (hs.inv.holds _ _ hg) rfl
    have c1 : w1.cell? ⟨b1, 1, none⟩ = some lv := cell_of_heap (hs.inv.holds _ _ hg) rfl
    obtain ⟨a, cap, rfl, hcells⟩ := hl.shp
    have HS := Lib.hid hs; have HL := Lib.hid hcells
    have HK : Hid (∀ w', Holds G w' → w'.cell? ⟨b1, 1, none⟩ = some (.slice a vs.length cap)) := Lib.hid (fun w' h => cell_of_heap (h _ _ hg) rfl)
    clear hs hg hl hcells
    simp only [conV]
    have ta := taConCon
    cases t with
    | var x => cases hcn
    | int =>
      simp only [Ty.kind, bs, INT] at c0
      go_wp2_with fail
      go_ret
      exact ⟨rfl, HNM.out.stable _ _ _ HRR.out HS.out, HS.out.s⟩
    | bool =>
      simp only [Ty.kind, bs, BOOL] at c0
      go_wp2_with fail
      go_ret
      exact ⟨rfl, HNM.out.stable _ _ _ HRR.out HS.out, HS.out.s⟩
    | list x =>
      simp only [Ty.kind, bs, sList] at c0
      simp only [Ty.args] at hts
      obtain ⟨v1, rfl, hv1⟩ := hts.one1
      obtain ⟨b2, rfl, cj⟩ := HL.out w1 HS.out.inv.holds 0 v1 rfl
      obtain ⟨T2, b3, rfl⟩ := hv1.iface
      have HV1 := Lib.hid hv1; clear hv1
      go_wp2_with fail
      refine (IH.out w1 _ x s HS.out.inv HV1.out (by have := HM.out; simp only [Ty.size] at this; omega) (fun N h => HVV.out N (by simp [Ty.has, h])) (HNM.out.stable _ _ _ HRR.out HS.out)).mono ?_
      rintro e w2 ⟨rfl, hR2, hs2⟩
      have HR2 := Lib.hid hR2; have HS2 := Lib.hid hs2; clear hR2 hs2
      have b1 := HB.out x s (by have := HM.out; simp only [Ty.size] at this; omega)
      have q1 : ¬ 9223372036854775807 < 1 + (bs (showS nm x s).1).size := by omega
      have q2 : ¬ 9223372036854775807 < 1 + (bs (showS nm x s).1).size + 1 := by omega
      go_wp2_with fail
      go_ret
      refine ⟨?_, HR2.out, HS.out.s.trans HS2.out⟩
      show Ending.returned (.string (bs LB ++ bs _ ++ bs RB)) = _
      rw [bs_append, bs_append]; rfl
    | pair x y =>
      simp only [Ty.kind, bs, sPair] at c0
      simp only [Ty.args] at hts
      obtain ⟨v1, v2, rfl, hv1, hv2⟩ := hts.two2
      obtain ⟨b2, rfl, cj⟩ := HL.out w1 HS.out.inv.holds 0 v1 rfl
      have HCj : Hid (∀ w', Holds G w' → w'.cell? ⟨b2, 0, none⟩ = some v1 ∧ w'.cell? ⟨b2, 1, none⟩ = some v2) := Lib.hid (fun w' hG => by
        obtain ⟨b4, e4, g4⟩ := HL.out w' hG 0 v1 rfl
        obtain ⟨b5, e5, g5⟩ := HL.out w' hG 1 v2 rfl
        injection e4 with e4; injection e4 with e4; injection e5 with e5; injection e5 with e5
        subst e4; subst e5
        exact ⟨g4, g5⟩)
      obtain ⟨T2, b3, rfl⟩ := hv1.iface
      obtain ⟨T3, b4, rfl⟩ := hv2.iface
      have HV1 := Lib.hid hv1; have HV2 := Lib.hid hv2; clear hv1 hv2 hts cj
      have HSD1 : Hid (Same G A n w1 w1.drew) := Lib.hid (Same.of0 HS.out.inv (Keep.drew _ _))
      have HSD : Hid (Same G A n w w1.drew) := Lib.hid (HS.out.trans (Same.of0 HS.out.inv (Keep.drew _ _)))
      have HKK : Hid (∀ w', Holds G w' → w'.cell? ⟨b1, 1, none⟩ = some (.slice (some ⟨b2, 0, none⟩) 2 cap) ∧ w'.cell? ⟨b2, 0, none⟩ = some (.iface T2 (.pointer (some ⟨b3, 0, none⟩))) ∧ w'.cell? ⟨b2, 1, none⟩ = some (.iface T3 (.pointer (some ⟨b4, 0, none⟩)))) := Lib.hid (fun w' h => ⟨HK.out w' h, HCj.out w' h⟩)
      clear HK HCj c1
      (try simp only [List.length_cons, List.length_nil])
      go_wp2_with fail
      have S0 := HKK.out _ HSD.out.inv.holds
      refine wp_region_float (fun w' => w'.cell? ⟨b1, 1, none⟩ = some (.slice (some ⟨b2, 0, none⟩) 2 cap) ∧ w'.cell? ⟨b2, 0, none⟩ = some (.iface T2 (.pointer (some ⟨b3, 0, none⟩))) ∧ w'.cell? ⟨b2, 1, none⟩ = some (.iface T3 (.pointer (some ⟨b4, 0, none⟩)))) [0, 1, 2, 4, 6, 8, 9, 10, 11, 12, 14, 16, 18, 19] [3, 5, 13, 15] (by kernel_rfl) ?_
      (refine float0 (i := 0) (v := ?_) rfl (by kernel_rfl) (by kernel_rfl) (by kernel_rfl) (by kernel_rfl) (fun _ _ _ h => h) (by rfl) ?_ ?_); rotate_left
      (intro wF; go_simp; try with_reducible rfl)
      (try simp only [Act.put, List.setIfInBounds_toArray, List.set_cons_zero, List.set_cons_succ])
      (refine float0 (i := 1) (v := ?_) rfl (by kernel_rfl) (by kernel_rfl) (by kernel_rfl) (by kernel_rfl) (fun _ _ _ h => h) (by rfl) ?_ ?_); rotate_left
      (intro wF; go_simp; try with_reducible rfl)
      (try simp only [Act.put, List.setIfInBounds_toArray, List.set_cons_zero, List.set_cons_succ])
      (refine float0 (i := 2) (v := ?_) rfl (by kernel_rfl) (by kernel_rfl) (by kernel_rfl) (by kernel_rfl) (fun _ _ _ h => h) (by rfl) ?_ ?_); rotate_left
      (intro wF; go_simp; try with_reducible rfl)
      (try simp only [Act.put, List.setIfInBounds_toArray, List.set_cons_zero, List.set_cons_succ])
      (refine floatS (i := 3) (v := ?_) rfl (by kernel_rfl) (by kernel_rfl) (by kernel_rfl) (by kernel_rfl) (fun _ _ _ h => h) (by assumption) (by rfl) ?_ ?_); rotate_left
      (intro wF hF; (try dsimp only at hF); go_simp; try with_reducible rfl)
      (try simp only [Act.put, List.setIfInBounds_toArray, List.set_cons_zero, List.set_cons_succ])
      (refine float0 (i := 4) (v := ?_) rfl (by kernel_rfl) (by kernel_rfl) (by kernel_rfl) (by kernel_rfl) (fun _ _ _ h => h) (by rfl) ?_ ?_); rotate_left
      (intro wF; go_simp; try with_reducible rfl)
      (try simp only [Act.put, List.setIfInBounds_toArray, List.set_cons_zero, List.set_cons_succ])
      (refine floatS (i := 5) (v := ?_) rfl (by kernel_rfl) (by kernel_rfl) (by kernel_rfl) (by kernel_rfl) (fun _ _ _ h => h) (by assumption) (by rfl) ?_ ?_); rotate_left
      (intro wF hF; (try dsimp only at hF); go_simp; try with_reducible rfl)
      (try simp only [Act.put, List.setIfInBounds_toArray, List.set_cons_zero, List.set_cons_succ])
      (refine float0 (i := 6) (v := ?_) rfl (by kernel_rfl) (by kernel_rfl) (by kernel_rfl) (by kernel_rfl) (fun _ _ _ h => h) (by rfl) ?_ ?_); rotate_left
      (intro wF; go_simp; try with_reducible rfl)
      (try simp only [Act.put, List.setIfInBounds_toArray, List.set_cons_zero, List.set_cons_succ])
      (refine float0 (i := 10) (v := ?_) rfl (by kernel_rfl) (by kernel_rfl) (by kernel_rfl) (by kernel_rfl) (fun _ _ _ h => h) (by rfl) ?_ ?_); rotate_left
      (intro wF; go_simp; try with_reducible rfl)
      (try simp only [Act.put, List.setIfInBounds_toArray, List.set_cons_zero, List.set_cons_succ])
      (refine float0 (i := 11) (v := ?_) rfl (by kernel_rfl) (by kernel_rfl) (by kernel_rfl) (by kernel_rfl) (fun _ _ _ h => h) (by rfl) ?_ ?_); rotate_left
      (intro wF; go_simp; try with_reducible rfl)
      (try simp only [Act.put, List.setIfInBounds_toArray, List.set_cons_zero, List.set_cons_succ])
      (refine float0 (i := 12) (v := ?_) rfl (by kernel_rfl) (by kernel_rfl) (by kernel_rfl) (by kernel_rfl) (fun _ _ _ h => h) (by rfl) ?_ ?_); rotate_left
      (intro wF; go_simp; try with_reducible rfl)
      (try simp only [Act.put, List.setIfInBounds_toArray, List.set_cons_zero, List.set_cons_succ])
      (refine floatS (i := 13) (v := ?_) rfl (by kernel_rfl) (by kernel_rfl) (by kernel_rfl) (by kernel_rfl) (fun _ _ _ h => h) (by assumption) (by rfl) ?_ ?_); rotate_left
      (intro wF hF; (try dsimp only at hF); go_simp; try with_reducible rfl)
      (try simp only [Act.put, List.setIfInBounds_toArray, List.set_cons_zero, List.set_cons_succ])
      (refine float0 (i := 14) (v := ?_) rfl (by kernel_rfl) (by kernel_rfl) (by kernel_rfl) (by kernel_rfl) (fun _ _ _ h => h) (by rfl) ?_ ?_); rotate_left
      (intro wF; go_simp; try with_reducible rfl)
      (try simp only [Act.put, List.setIfInBounds_toArray, List.set_cons_zero, List.set_cons_succ])
      (refine floatS (i := 15) (v := ?_) rfl (by kernel_rfl) (by kernel_rfl) (by kernel_rfl) (by kernel_rfl) (fun _ _ _ h => h) (by assumption) (by rfl) ?_ ?_); rotate_left
      (intro wF hF; (try dsimp only at hF); go_simp; try with_reducible rfl)
      (try simp only [Act.put, List.setIfInBounds_toArray, List.set_cons_zero, List.set_cons_succ])
      (refine float0 (i := 16) (v := ?_) rfl (by kernel_rfl) (by kernel_rfl) (by kernel_rfl) (by kernel_rfl) (fun _ _ _ h => h) (by rfl) ?_ ?_); rotate_left
      (intro wF; go_simp; try with_reducible rfl)
      (try simp only [Act.put, List.setIfInBounds_toArray, List.set_cons_zero, List.set_cons_succ])
      (refine floatM (i := 7) rfl (by kernel_rfl) (by kernel_rfl) (fun K hK => ?_)); go_simp
      refine (IH.out _ _ x s HSD.out.inv (HSD1.out.tr _ _ HV1.out) (by have := HM.out; simp only [Ty.size] at this; omega) (fun N h => HVV.out N (by simp [Ty.has, h])) (HNM.out.stable _ _ _ HRR.out HSD.out)).mono ?_
      rintro e w2 ⟨rfl, hR2, hs2⟩
      have hs2' := (Same.s (S := S) HSD1.out).trans hs2
      have q1 : ¬ 9223372036854775807 < 1 + (bs (showS nm x s).1).size := by have := HB.out x s (by have := HM.out; simp only [Ty.size] at this; omega); omega
      have q2 : ¬ 9223372036854775807 < 1 + (bs (showS nm x s).1).size + 2 := by have := HB.out x s (by have := HM.out; simp only [Ty.size] at this; omega); omega
      have HR2 := Lib.hid hR2; have HS2 := Lib.hid hs2; have HS2' := Lib.hid hs2'; clear hR2 hs2 hs2'
      go_wp2_with fail
      refine hK.out _ _ (fun _ => HKK.out _ HS2.out.inv.holds) ?_
      clear hK K
      (try simp only [Act.put, List.setIfInBounds_toArray, List.set_cons_zero, List.set_cons_succ])
      (refine float0 (i := 8) (v := ?_) rfl (by kernel_rfl) (by kernel_rfl) (by kernel_rfl) (by kernel_rfl) (fun _ _ _ h => h) (by rfl) ?_ ?_); rotate_left
      (intro wF; go_simp; try with_reducible rfl)
      (try simp only [Act.put, List.setIfInBounds_toArray, List.set_cons_zero, List.set_cons_succ])
      (refine float0 (i := 9) (v := ?_) rfl (by kernel_rfl) (by kernel_rfl) (by kernel_rfl) (by kernel_rfl) (fun _ _ _ h => h) (by rfl) ?_ ?_); rotate_left
      (intro wF; go_simp; try with_reducible rfl)
      (try simp only [Act.put, List.setIfInBounds_toArray, List.set_cons_zero, List.set_cons_succ])
      (refine floatM (i := 17) rfl (by kernel_rfl) (by kernel_rfl) (fun K hK => ?_)); go_simp
      refine (IH.out _ _ y _ HS2.out.inv (HS2.out.tr _ _ (HSD1.out.tr _ _ HV2.out)) (by have := HM.out; simp only [Ty.size] at this; omega) (fun N h => HVV.out N (by simp [Ty.has, h])) HR2.out).mono ?_
      rintro e w3 ⟨rfl, hR3, hs3⟩
      have hs3' := HS2'.out.trans hs3
      have q3 : ¬ 9223372036854775807 < 1 + (bs (showS nm x s).1).size + 2 + (bs (showS nm y (showS nm x s).2).1).size := by
        have := HB.out x s (by have := HM.out; simp only [Ty.size] at this; omega)
        have := HB.out y (showS nm x s).2 (by have := HM.out; simp only [Ty.size] at this; omega)
        omega
      have q4 : ¬ 9223372036854775807 < 1 + (bs (showS nm x s).1).size + 2 + (bs (showS nm y (showS nm x s).2).1).size + 1 := by
        have := HB.out x s (by have := HM.out; simp only [Ty.size] at this; omega)
        have := HB.out y (showS nm x s).2 (by have := HM.out; simp only [Ty.size] at this; omega)
        omega
      have HR3 := Lib.hid hR3; have HS3 := Lib.hid hs3'; clear hR3 hs3 hs3'
      go_wp2_with fail
      refine hK.out _ _ (fun _ => HKK.out _ HS3.out.inv.holds) ?_
      clear hK K
      (try simp only [Act.put, List.setIfInBounds_toArray, List.set_cons_zero, List.set_cons_succ])
      (refine float0 (i := 18) (v := ?_) rfl (by kernel_rfl) (by kernel_rfl) (by kernel_rfl) (by kernel_rfl) (fun _ _ _ h => h) (by rfl) ?_ ?_); rotate_left
      (intro wF; go_simp; try with_reducible rfl)
      (try simp only [Act.put, List.setIfInBounds_toArray, List.set_cons_zero, List.set_cons_succ])
      (refine float0 (i := 19) (v := ?_) rfl (by kernel_rfl) (by kernel_rfl) (by kernel_rfl) (by kernel_rfl) (fun _ _ _ h => h) (by rfl) ?_ ?_); rotate_left
      (intro wF; go_simp; try with_reducible rfl)
      (try simp only [Act.put, List.setIfInBounds_toArray, List.set_cons_zero, List.set_cons_succ])
      (refine floatM (i := 20) rfl (by kernel_rfl) (by kernel_rfl) (fun K hK => ?_)); go_simp
      refine hK.out _ _ (fun _ => HKK.out _ HS3.out.inv.holds) ?_
      clear hK K
      (try simp only [Act.put, List.setIfInBounds_toArray, List.set_cons_zero, List.set_cons_succ])
      (refine floatE (by kernel_rfl) ?_)
      go_wp2_with fail
      go_ret
      refine ⟨?_, HR3.out, HS.out.s.trans HS3.out⟩
      show Ending.returned (.string (bs LP ++ bs _ ++ bs [44, 32] ++ bs _ ++ bs RP)) = _
      rw [bs_append, bs_append, bs_append, bs_append]; rfl
    | fn x y =>
      simp only [Ty.kind, bs, sFun] at c0
      simp only [Ty.args] at hts
      obtain ⟨v1, v2, rfl, hv1, hv2⟩ := hts.two2
      obtain ⟨b2, rfl, cj⟩ := HL.out w1 HS.out.inv.holds 0 v1 rfl
      have HCj : Hid (∀ w', Holds G w' → w'.cell? ⟨b2, 0, none⟩ = some v1 ∧ w'.cell? ⟨b2, 1, none⟩ = some v2) := Lib.hid (fun w' hG => by
        obtain ⟨b4, e4, g4⟩ := HL.out w' hG 0 v1 rfl
        obtain ⟨b5, e5, g5⟩ := HL.out w' hG 1 v2 rfl
        injection e4 with e4; injection e4 with e4; injection e5 with e5; injection e5 with e5
        subst e4; subst e5
        exact ⟨g4, g5⟩)
      obtain ⟨T2, b3, fd2, rfl, hmt2, hent2, hF2⟩ := find_fn hv1
      obtain ⟨T3, b4, rfl⟩ := hv2.iface
      have HF2 := Lib.hid hF2; clear hF2
      have HV1 := Lib.hid hv1; have HV2 := Lib.hid hv2; clear hv1 hv2 hts
      go_wp2_with fail
      refine (IH.out w1 _ x s HS.out.inv HV1.out (by have := HM.out; simp only [Ty.size] at this; omega) (fun N h => HVV.out N (by simp [Ty.has, h])) (HNM.out.stable _ _ _ HRR.out HS.out)).mono ?_
      rintro e w2 ⟨rfl, hR2, hs2⟩
      have d1 : w2.cell? ⟨b1, 1, none⟩ = some (.slice (some ⟨b2, 0, none⟩) 2 cap) := HK.out _ hs2.inv.holds
      obtain ⟨d2, d3⟩ := HCj.out _ hs2.inv.holds
      have hv12 := hs2.tr _ _ HV1.out
      have HFC := Lib.hid (HF2.out _ _ _ _ _ hs2.inv hv12)
      have q1 : (bs (showS nm x s).1).size ≤ 1010000000000 := HB.out x s (by have := HM.out; simp only [Ty.size] at this; omega)
      have HR2 := Lib.hid hR2; have HS2 := Lib.hid hs2; clear hR2 hs2 hv12 c0 c1 cj
      go_wp2_with fail
      refine HFC.out.mono ?_
      rintro e w3 ⟨r3, rfl, hs3, hr3⟩
      have c1 : w3.cell? ⟨b1, 1, none⟩ = some (.slice (some ⟨b2, 0, none⟩) 2 cap) := HK.out _ hs3.inv.holds
      obtain ⟨c2, c3⟩ := HCj.out _ hs3.inv.holds
      have HS3 := Lib.hid hs3
      clear d1 d2 d3
      clear HFC
      cases hr3 with
      | @var N5 b5 nm5 hA5 hb5 =>
        clear hb5
        simp only [varV]
        have taV := taVarCon
        have q2 : ¬ 9223372036854775807 < (bs (showS nm (.var N5) s).1).size + 4 := by omega
        clear hs3
        go_wp2_with fail
        refine (IH.out _ _ y _ HS3.out.inv (HS3.out.tr _ _ (HS2.out.tr _ _ HV2.out)) (by have := HM.out; simp only [Ty.size] at this; omega) (fun N h => HVV.out N (by simp [Ty.has, h])) (HNM.out.stable _ _ _ HR2.out HS3.out)).mono ?_
        rintro e w4 ⟨rfl, hR4, hs4⟩
        have q3 : ¬ 9223372036854775807 < (bs (showS nm (.var N5) s).1).size + 4 + (bs (showS nm y (showS nm (.var N5) s).2).1).size := by
          have := HB.out y (showS nm (.var N5) s).2 (by have := HM.out; simp only [Ty.size] at this; omega)
          omega
        have HR4 := Lib.hid hR4; have HS4 := Lib.hid hs4; clear hR4 hs4
        go_wp2_with fail
        go_ret
        refine ⟨?_, HR4.out, HS.out.s.trans (HS2.out.trans (HS3.out.s.trans HS4.out))⟩
        show Ending.returned (.string (bs _ ++ bs [32, 45, 62, 32] ++ bs _)) = _
        rw [bs_append, bs_append]; rfl
      | @con b5 lv5 vs5 _ hcn5 hg5 hl5 hts5 =>
        have d0 : w3.cell? ⟨b5, 0, none⟩ = some (.string (bs x.kind)) := cell_of_heap (hs3.inv.holds _ _ hg5) rfl
        clear hg5 hl5 hts5
        simp only [conV]
        cases x with
        | var N5 => cases hcn5
        | int  =>
          simp only [Ty.kind, bs, INT] at d0
          have q2 : ¬ 9223372036854775807 < (bs (showS nm .int s).1).size + 4 := by omega
          clear hs3
          go_wp2_with fail
          refine (IH.out _ _ y _ HS3.out.inv (HS3.out.tr _ _ (HS2.out.tr _ _ HV2.out)) (by have := HM.out; simp only [Ty.size] at this; omega) (fun N h => HVV.out N (by simp [Ty.has, h])) (HNM.out.stable _ _ _ HR2.out HS3.out)).mono ?_
          rintro e w4 ⟨rfl, hR4, hs4⟩
          have q3 : ¬ 9223372036854775807 < (bs (showS nm .int s).1).size + 4 + (bs (showS nm y (showS nm .int s).2).1).size := by
            have := HB.out y (showS nm .int s).2 (by have := HM.out; simp only [Ty.size] at this; omega)
            omega
          have HR4 := Lib.hid hR4; have HS4 := Lib.hid hs4; clear hR4 hs4
          go_wp2_with fail
          go_ret
          refine ⟨?_, HR4.out, HS.out.s.trans (HS2.out.trans (HS3.out.s.trans HS4.out))⟩
          show Ending.returned (.string (bs _ ++ bs [32, 45, 62, 32] ++ bs _)) = _
          rw [bs_append, bs_append]; rfl
        | bool  =>
          simp only [Ty.kind, bs, BOOL] at d0
          have q2 : ¬ 9223372036854775807 < (bs (showS nm .bool s).1).size + 4 := by omega
          clear hs3
          go_wp2_with fail
          refine (IH.out _ _ y _ HS3.out.inv (HS3.out.tr _ _ (HS2.out.tr _ _ HV2.out)) (by have := HM.out; simp only [Ty.size] at this; omega) (fun N h => HVV.out N (by simp [Ty.has, h])) (HNM.out.stable _ _ _ HR2.out HS3.out)).mono ?_
          rintro e w4 ⟨rfl, hR4, hs4⟩
          have q3 : ¬ 9223372036854775807 < (bs (showS nm .bool s).1).size + 4 + (bs (showS nm y (showS nm .bool s).2).1).size := by
            have := HB.out y (showS nm .bool s).2 (by have := HM.out; simp only [Ty.size] at this; omega)
            omega
          have HR4 := Lib.hid hR4; have HS4 := Lib.hid hs4; clear hR4 hs4
          go_wp2_with fail
          go_ret
          refine ⟨?_, HR4.out, HS.out.s.trans (HS2.out.trans (HS3.out.s.trans HS4.out))⟩
          show Ending.returned (.string (bs _ ++ bs [32, 45, 62, 32] ++ bs _)) = _
          rw [bs_append, bs_append]; rfl
        | list x1 =>
          simp only [Ty.kind, bs, sList] at d0
          have q2 : ¬ 9223372036854775807 < (bs (showS nm (.list x1) s).1).size + 4 := by omega
          clear hs3
          go_wp2_with fail
          refine (IH.out _ _ y _ HS3.out.inv (HS3.out.tr _ _ (HS2.out.tr _ _ HV2.out)) (by have := HM.out; simp only [Ty.size] at this; omega) (fun N h => HVV.out N (by simp [Ty.has, h])) (HNM.out.stable _ _ _ HR2.out HS3.out)).mono ?_
          rintro e w4 ⟨rfl, hR4, hs4⟩
          have q3 : ¬ 9223372036854775807 < (bs (showS nm (.list x1) s).1).size + 4 + (bs (showS nm y (showS nm (.list x1) s).2).1).size := by
            have := HB.out y (showS nm (.list x1) s).2 (by have := HM.out; simp only [Ty.size] at this; omega)
            omega
          have HR4 := Lib.hid hR4; have HS4 := Lib.hid hs4; clear hR4 hs4
          go_wp2_with fail
          go_ret
          refine ⟨?_, HR4.out, HS.out.s.trans (HS2.out.trans (HS3.out.s.trans HS4.out))⟩
          show Ending.returned (.string (bs _ ++ bs [32, 45, 62, 32] ++ bs _)) = _
          rw [bs_append, bs_append]; rfl
        | pair x1 x2 =>
          simp only [Ty.kind, bs, sPair] at d0
          have q2 : ¬ 9223372036854775807 < (bs (showS nm (.pair x1 x2) s).1).size + 4 := by omega
          clear hs3
          go_wp2_with fail
          refine (IH.out _ _ y _ HS3.out.inv (HS3.out.tr _ _ (HS2.out.tr _ _ HV2.out)) (by have := HM.out; simp only [Ty.size] at this; omega) (fun N h => HVV.out N (by simp [Ty.has, h])) (HNM.out.stable _ _ _ HR2.out HS3.out)).mono ?_
          rintro e w4 ⟨rfl, hR4, hs4⟩
          have q3 : ¬ 9223372036854775807 < (bs (showS nm (.pair x1 x2) s).1).size + 4 + (bs (showS nm y (showS nm (.pair x1 x2) s).2).1).size := by
            have := HB.out y (showS nm (.pair x1 x2) s).2 (by have := HM.out; simp only [Ty.size] at this; omega)
            omega
          have HR4 := Lib.hid hR4; have HS4 := Lib.hid hs4; clear hR4 hs4
          go_wp2_with fail
          go_ret
          refine ⟨?_, HR4.out, HS.out.s.trans (HS2.out.trans (HS3.out.s.trans HS4.out))⟩
          show Ending.returned (.string (bs _ ++ bs [32, 45, 62, 32] ++ bs _)) = _
          rw [bs_append, bs_append]; rfl
        | fn x1 x2 =>
          simp only [Ty.kind, bs, sFun] at d0
          have p1 : ¬ 9223372036854775807 < 1 + (bs (showS nm (.fn x1 x2) s).1).size := by omega
          have p2 : ¬ 9223372036854775807 < 1 + (bs (showS nm (.fn x1 x2) s).1).size + 1 := by omega
          have q2 : ¬ 9223372036854775807 < 1 + (bs (showS nm (.fn x1 x2) s).1).size + 1 + 4 := by omega
          clear hs3
          go_wp2_with fail
          refine (IH.out _ _ y _ HS3.out.inv (HS3.out.tr _ _ (HS2.out.tr _ _ HV2.out)) (by have := HM.out; simp only [Ty.size] at this; omega) (fun N h => HVV.out N (by simp [Ty.has, h])) (HNM.out.stable _ _ _ HR2.out HS3.out)).mono ?_
          rintro e w4 ⟨rfl, hR4, hs4⟩
          have q3 : ¬ 9223372036854775807 < 1 + (bs (showS nm (.fn x1 x2) s).1).size + 1 + 4 + (bs (showS nm y (showS nm (.fn x1 x2) s).2).1).size := by
            have := HB.out y (showS nm (.fn x1 x2) s).2 (by have := HM.out; simp only [Ty.size] at this; omega)
            omega
          have HR4 := Lib.hid hR4; have HS4 := Lib.hid hs4; clear hR4 hs4
          go_wp2_with fail
          go_ret
          refine ⟨?_, HR4.out, HS.out.s.trans (HS2.out.trans (HS3.out.s.trans HS4.out))⟩
          show Ending.returned (.string (bs LP ++ bs _ ++ bs RP ++ bs [32, 45, 62, 32] ++ bs _)) = _
          rw [bs_append, bs_append, bs_append, bs_append]; rfl
theorem show_ok {G : GH} {A : GV} {n : Nat} {S V : Nat → Prop} {St : Type} {nm : St → Nat → Str × St} {R : St → World → Prop} {f : FuncId} {caps : Array Value} (hN : NmOk G A n S V nm R f caps) : ∀ m, m ≤ 1000000000 → ShowOk G A n S V nm R f caps m
  | 0, _ => fun w v t s hi hv hm _ hR => by have : 1 ≤ t.size := (by cases t <;> simp [Ty.size]); omega
  | m + 1, h => show_step hN m h (show_ok hN m (by omega))
end Go.Proofs.YtabikmkoajdhmaaDoor
