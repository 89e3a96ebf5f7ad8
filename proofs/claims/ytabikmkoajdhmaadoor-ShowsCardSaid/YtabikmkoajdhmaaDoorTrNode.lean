/- An expression of the reference's in the making: its block, its two slices; what an append and a store leave of it. -/
import Derived.Test.YtabikmkoajdhmaaDoorTrX
import Derived.Test.YtabikmkoajdhmaaDoorQ24
set_option linter.unusedVariables false
set_option linter.unusedSimpArgs false
set_option linter.unnecessarySimpa false
namespace Go.Proofs.YtabikmkoajdhmaaDoor
open Go.RowKit

/-- An expression in the making: its block xb, its slices nv (the names ns) and lv (the parts ks). -/
structure NSt (G : GH) (w : World) (R : Rdr) (xb : Nat) (op : Str) (at' : Int) (nv lv : Value) (ns : List Str) (ks : List Nat) : Prop where
  x : w.heap[xb]? = some (xO op nv lv at')
  gx : G xb = none
  xr : R.rb < xb
  n : w.ownsRow (xb + 1) 9 1 nv ns.length (ns.map fun n => .string (bs n))
  l : w.ownsRow (xb + 1) 31 1 lv ks.length (ks.map ptr)
  gn : ∀ k, nv.ownBlock = some k → G k = none
  gl : ∀ k, lv.ownBlock = some k → G k = none
  apart : ∀ k, nv.ownBlock = some k → ¬ lv.ownBlock = some k
  tb : R.tb < xb
theorem NSt.nr {G : GH} {w : World} {R : Rdr} {xb : Nat} {op : Str} {at' : Int} {nv lv : Value} {ns : List Str} {ks : List Nat} (h : NSt G w R xb op at' nv lv ns ks) : ∀ k, nv.ownBlock = some k → xb < k ∧ k < w.heap.size := fun k hk => ⟨by have := (h.n.lt k hk).1; omega, (h.n.lt k hk).2⟩
theorem NSt.lr {G : GH} {w : World} {R : Rdr} {xb : Nat} {op : Str} {at' : Int} {nv lv : Value} {ns : List Str} {ks : List Nat} (h : NSt G w R xb op at' nv lv ns ks) : ∀ k, lv.ownBlock = some k → xb < k ∧ k < w.heap.size := fun k hk => ⟨by have := (h.l.lt k hk).1; omega, (h.l.lt k hk).2⟩
theorem NSt.step {G G' : GH} {w w' : World} {R : Rdr} {xb : Nat} {op : Str} {at' : Int} {nv lv : Value} {ns : List Str} {ks : List Nat} (h : NSt G w R xb op at' nv lv ns ks) (k : Keep (one' R.rb) w w') (g : Grew G w G') : NSt G' w' R xb op at' nv lv ns ks := by
  have hr := h.xr
  refine ⟨k.get h.x (fun (e : xb = R.rb) => by omega), (g.eq _ (lt_of_heap h.x)).trans h.gx, hr, own_keep h.n k (fun g hg (e : g = R.rb) => by have := (h.nr g hg).1; omega), own_keep h.l k (fun g hg (e : g = R.rb) => by have := (h.lr g hg).1; omega), fun b hb => (g.eq _ (h.nr b hb).2).trans (h.gn b hb), fun b hb => (g.eq _ (h.lr b hb).2).trans (h.gl b hb), h.apart, h.tb⟩
theorem NSt.start {G : GH} {w : World} {R : Rdr} {s : RS} (hi : EInv G R s w) (op : Str) (at' : Int) : NSt G (w.alloc (xO op (.slice none 0 0) (.slice none 0 0) at')) R w.heap.size op at' (.slice none 0 0) (.slice none 0 0) [] [] :=
  ⟨heap_new _ _, hi.holds.fresh (Nat.le_refl _), hi.ri.lt, World.ownsRow_nil _ _ _ _, World.ownsRow_nil _ _ _ _, fun _ h => by simp [Value.ownBlock] at h, fun _ h => by simp [Value.ownBlock] at h, fun _ h => by simp [Value.ownBlock] at h, lt_of_heap hi.ri.hb⟩
theorem EInv.alloc0 {G : GH} {R : Rdr} {s : RS} {w : World} (h : EInv G R s w) (o : Obj) : EInv G R s (w.alloc o) := h.keep0 (Keep.alloc _ _ _)
/-- Behind a store into the node. -/
theorem EInv.put {G : GH} {R : Rdr} {s : RS} {w : World} (h : EInv G R s w) {xb i : Nat} (u : Value) (gx : G xb = none) (xr : R.rb < xb) (xt : R.tb < xb) : EInv G R s (w.setCell ⟨xb, i, none⟩ u) := by
  have k : Keep (one' xb) w (w.setCell ⟨xb, i, none⟩ u) := Keep.setCell _ _ (fun _ => rfl)
  exact ⟨h.holds.keep k (fun b o hb (e : b = xb) => by subst e; rw [gx] at hb; cases hb), h.off, h.ri.keep k (fun (e : R.tb = xb) => by omega) (fun (e : R.rb = xb) => by omega)⟩
/-- What one appends to a row of the node leaves. -/
theorem NSt.mid {G : GH} {w w3 : World} {R : Rdr} {xb : Nat} {op : Str} {at' : Int} {nv lv v : Value} {ns : List Str} {ks : List Nat} {o : Obj} (h : NSt G w R xb op at' nv lv ns ks) (hv : v = nv ∨ v = lv) (g : (w.alloc o).grownBy w3 v.ownBlock) : Keep (fun k => v.ownBlock = some k) w w3 ∧ w3.heap[xb]? = some (xO op nv lv at') := by
  have hlo : ∀ b, v.ownBlock = some b → xb < b := by
    rcases hv with rfl | rfl
    · exact fun b hb => (h.nr b hb).1
    · exact fun b hb => (h.lr b hb).1
  have k1 : Keep (fun b => v.ownBlock = some b) (w.alloc o) w3 := Keep.grown g (fun k e _ => e)
  exact ⟨(Keep.alloc _ w o).trans k1, k1.get (heap_old h.x) (fun e => by have := hlo _ e; omega)⟩
theorem EInv.mid {G : GH} {R : Rdr} {s : RS} {w w3 : World} {xb : Nat} {v : Value} (h : EInv G R s w) (k : Keep (fun k => v.ownBlock = some k) w w3) (hg : ∀ k, v.ownBlock = some k → G k = none) (hlo : ∀ k, v.ownBlock = some k → xb < k) (xr : R.rb < xb) (xt : R.tb < xb) : EInv G R s w3 :=
  ⟨h.holds.keep k (fun c o hc e => by have := hg c e; rw [hc] at this; cases this), h.off, h.ri.keep k (fun e => by have := hlo _ e; omega) (fun e => by have := hlo _ e; omega)⟩
theorem NSt.name {G : GH} {w w3 : World} {R : Rdr} {s : RS} {xb : Nat} {op : Str} {at' : Int} {nv lv nv' : Value} {ns : List Str} {ks : List Nat} {n : Str} {o : Obj} (h : NSt G w R xb op at' nv lv ns ks) (hi : EInv G R s w)
    (own : w3.ownsRow (xb + 1) 9 1 nv' (ns.length + 1) ((ns.map fun n => .string (bs n)) ++ [.string (bs n)])) (g : (w.alloc o).grownBy w3 nv.ownBlock) (hat : nv'.ownBlock = nv.ownBlock ∨ nv'.ownBlock = some (w.alloc o).heap.size) :
    NSt G (w3.setCell ⟨xb, 1, none⟩ nv') R xb op at' nv' lv (ns ++ [n]) ks ∧ EInv G R s (w3.setCell ⟨xb, 1, none⟩ nv') := by
  have hxlt := lt_of_heap h.x
  have hsz : (w.alloc o).heap.size = w.heap.size + 1 := by simp
  obtain ⟨k2, hx3⟩ := h.mid (.inl rfl) g
  have k3 : Keep (one' xb) w3 (w3.setCell ⟨xb, 1, none⟩ nv') := Keep.setCell _ _ (fun _ => rfl)
  have hgn : ∀ k, nv'.ownBlock = some k → G k = none := by
    intro k hk
    rcases hat with e | e
    · exact h.gn k (e ▸ hk)
    · rw [e] at hk; injection hk with hk; subst hk
      exact hi.holds.fresh (by omega)
  refine ⟨⟨heap_set_same (i := 1) hx3, h.gx, h.xr, ?_, ?_, hgn, h.gl, ?_, h.tb⟩, ?_⟩
  · have := own_keep own k3 (fun g hg (e : g = xb) => by have := (own.lt g hg).1; omega)
    simpa using this
  · exact own_keep (own_keep h.l k2 (fun g hg e => h.apart g e hg)) k3 (fun g hg (e : g = xb) => by have := (h.l.lt g hg).1; omega)
  · intro k hk hk2
    rcases hat with e | e
    · exact h.apart k (e ▸ hk) hk2
    · rw [e] at hk; injection hk with hk; subst hk
      have := (h.l.lt _ hk2).2
      omega
  · exact (hi.mid k2 h.gn (fun k hk => (h.nr k hk).1) h.xr h.tb).put nv' h.gx h.xr h.tb
theorem NSt.kid {G : GH} {w w3 : World} {R : Rdr} {s : RS} {xb : Nat} {op : Str} {at' : Int} {nv lv lv' : Value} {ns : List Str} {ks : List Nat} {b : Nat} {o : Obj} (h : NSt G w R xb op at' nv lv ns ks) (hi : EInv G R s w)
    (own : w3.ownsRow (xb + 1) 31 1 lv' (ks.length + 1) (ks.map ptr ++ [ptr b])) (g : (w.alloc o).grownBy w3 lv.ownBlock) (hat : lv'.ownBlock = lv.ownBlock ∨ lv'.ownBlock = some (w.alloc o).heap.size) :
    NSt G (w3.setCell ⟨xb, 2, none⟩ lv') R xb op at' nv lv' ns (ks ++ [b]) ∧ EInv G R s (w3.setCell ⟨xb, 2, none⟩ lv') := by
  have hxlt := lt_of_heap h.x
  have hsz : (w.alloc o).heap.size = w.heap.size + 1 := by simp
  obtain ⟨k2, hx3⟩ := h.mid (.inr rfl) g
  have k3 : Keep (one' xb) w3 (w3.setCell ⟨xb, 2, none⟩ lv') := Keep.setCell _ _ (fun _ => rfl)
  have hgl : ∀ k, lv'.ownBlock = some k → G k = none := by
    intro k hk
    rcases hat with e | e
    · exact h.gl k (e ▸ hk)
    · rw [e] at hk; injection hk with hk; subst hk
      exact hi.holds.fresh (by omega)
  refine ⟨⟨heap_set_same (i := 2) hx3, h.gx, h.xr, ?_, ?_, h.gn, hgl, ?_, h.tb⟩, ?_⟩
  · exact own_keep (own_keep h.n k2 (fun g hg e => h.apart g hg e)) k3 (fun g hg (e : g = xb) => by have := (h.n.lt g hg).1; omega)
  · have := own_keep own k3 (fun g hg (e : g = xb) => by have := (own.lt g hg).1; omega)
    simpa using this
  · intro k hk hk2
    rcases hat with e | e
    · exact h.apart k hk (e ▸ hk2)
    · rw [e] at hk2; injection hk2 with hk2; subst hk2
      have := (h.n.lt _ hk).2
      omega
  · exact (hi.mid k2 h.gl (fun k hk => (h.lr k hk).1) h.xr h.tb).put lv' h.gx h.xr h.tb
/-- What an append and a store leave of the memory that was there when the call began. -/
theorem NSt.keepN {G : GH} {w0 w w3 : World} {R : Rdr} {xb i : Nat} {op : Str} {at' : Int} {nv lv u v : Value} {ns : List Str} {ks : List Nat} {o : Obj} (h : NSt G w R xb op at' nv lv ns ks) (k : Keep (one' R.rb) w0 w) (hx : w0.heap.size ≤ xb) (hv : v = nv ∨ v = lv) (g : (w.alloc o).grownBy w3 v.ownBlock) :
    Keep (one' R.rb) w0 (w3.setCell ⟨xb, i, none⟩ u) := by
  have hlo : ∀ b, v.ownBlock = some b → xb < b := by
    rcases hv with rfl | rfl
    · exact fun b hb => (h.nr b hb).1
    · exact fun b hb => (h.lr b hb).1
  have k2 : Keep (one' R.rb) w0 w3 := k.trans' (h.mid hv g).1 (fun _ _ x => x) (fun b hb e => by have := hlo b e; omega)
  exact k2.trans' (Keep.setCell (S := one' xb) w3 (p := ⟨xb, i, none⟩) u (fun _ => rfl)) (fun _ _ x => x) (fun b hb (e : b = xb) => by omega)
theorem EInv.take {G : GH} {R : Rdr} {s : RS} {w : World} (h : EInv G R s w) {b : Nat} {o : Obj} (hb : w.heap[b]? = some o) (hg : G b = none) (hr : R.rb ≠ b) : G.sub (G.put b o) ∧ EInv (G.put b o) R s w :=
  ⟨GH.sub_put hg, h.holds.put hb, by rw [GH.put_other _ _ hr]; exact h.off, h.ri⟩
theorem seal_rowR {G : GH} {R : Rdr} {s : RS} {w : World} {base e : Nat} {v : Value} {n : Nat} {xs : List Value} (hi : EInv G R s w) (h : w.ownsRow base e 1 v n xs) (hg : ∀ k, v.ownBlock = some k → G k = none ∧ R.rb ≠ k) :
    ∃ G2, G.sub G2 ∧ EInv G2 R s w ∧ SlR G2 v xs ∧ ∀ b, v.ownBlock ≠ some b → G2 b = G b := by
  obtain ⟨hl, h⟩ := h
  rcases h with ⟨rfl, rfl⟩ | ⟨g, cap, cur, rfl, hb, hgg, h1, h2, h3, h4⟩
  · have : xs = [] := by simpa using hl
    subst this
    exact ⟨G, GH.sub.refl G, hi, .inl ⟨rfl, rfl⟩, fun _ _ => rfl⟩
  · have hn : n = xs.length := by omega
    subst hn
    obtain ⟨hgn, hgr⟩ := hg g rfl
    obtain ⟨s2, i2⟩ := hi.take hgg hgn hgr
    refine ⟨_, s2, i2, .inr ⟨g, cur, e, cap, rfl, GH.put_same _ _ _, fun i hi => ?_⟩, fun b hb => GH.put_other _ _ (fun e => hb (by subst e; rfl))⟩
    have h5 : cur.toList[i]? = some xs[i] := by
      have : (cur.toList.take (xs.length * 1))[i]? = xs[i]? := by rw [h4]
      rw [List.getElem?_take, if_pos (by omega)] at this
      rw [this]; simp [hi]
    simpa using h5
/-- The node is done: it and its slices are taken among the known blocks. -/
theorem NSt.stamp {G : GH} {w : World} {R : Rdr} {s : RS} {xb : Nat} {op : Str} {at' : Int} {nv lv : Value} {ns : List Str} {ks : List Nat} (h : NSt G w R xb op at' nv lv ns ks) (hi : EInv G R s w) :
    ∃ G2, G.sub G2 ∧ EInv G2 R s w ∧ SlR G2 nv (ns.map fun n => .string (bs n)) ∧ SlR G2 lv (ks.map ptr) ∧ G2 xb = some (xO op nv lv at') ∧ ∀ b, b < xb → G2 b = G b := by
  have hr := h.xr
  obtain ⟨G1, s1, i1, r1, e1⟩ := seal_rowR hi h.n (fun k hk => ⟨h.gn k hk, by have := (h.nr k hk).1; omega⟩)
  have hap : ∀ k, lv.ownBlock = some k → ¬ nv.ownBlock = some k := fun k hk hk' => h.apart k hk' hk
  obtain ⟨G2, s2, i2, r2, e2⟩ := seal_rowR i1 h.l (fun k hk => ⟨(e1 k (hap k hk)).trans (h.gl k hk), by have := (h.lr k hk).1; omega⟩)
  have hne : ∀ b, b ≤ xb → nv.ownBlock ≠ some b ∧ lv.ownBlock ≠ some b := fun b hb => ⟨fun e => by have := (h.nr b e).1; omega, fun e => by have := (h.lr b e).1; omega⟩
  have hb : ∀ b, b ≤ xb → G2 b = G b := fun b hb => (e2 b (hne b hb).2).trans (e1 b (hne b hb).1)
  obtain ⟨s3, i3⟩ := i2.take h.x ((hb xb (Nat.le_refl _)).trans h.gx) (by omega)
  exact ⟨_, (s1.trans s2).trans s3, i3, (r1.sub s2).sub s3, r2.sub s3, GH.put_same _ _ _, fun b hl => by rw [GH.put_other _ _ (by omega)]; exact hb b (Nat.le_of_lt hl)⟩
theorem NSt.op {G : GH} {w : World} {R : Rdr} {xb : Nat} {op : Str} {at' : Int} {nv lv : Value} {ns : List Str} {ks : List Nat} (h : NSt G w R xb op at' nv lv ns ks) (op' : Str) : NSt G (w.setCell ⟨xb, 0, none⟩ (.string (bs op'))) R xb op' at' nv lv ns ks := by
  have k3 : Keep (one' xb) w (w.setCell ⟨xb, 0, none⟩ (.string (bs op'))) := Keep.setCell _ _ (fun _ => rfl)
  exact ⟨heap_set_same (i := 0) h.x, h.gx, h.xr, own_keep h.n k3 (fun g hg (e : g = xb) => by have := (h.nr g hg).1; omega), own_keep h.l k3 (fun g hg (e : g = xb) => by have := (h.lr g hg).1; omega), h.gn, h.gl, h.apart, h.tb⟩
theorem dup_false (s : RS) (a : Nat) : s.dup false a = s := by simp [RS.dup]
theorem exprs_of : ∀ acc : List (Str × Ex), (Bs.of acc).exprs = acc.map (·.2)
  | [] => rfl
  | (n, x) :: r => by simp [Bs.of, Bs.exprs, exprs_of r]
end Go.Proofs.YtabikmkoajdhmaaDoor
