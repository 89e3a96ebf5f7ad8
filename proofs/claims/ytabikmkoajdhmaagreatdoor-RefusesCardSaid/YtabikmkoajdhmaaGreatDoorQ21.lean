/- Types in memory: what shortening a way and binding a variable do to the meaning of all values. -/
import Derived.Test.YtabikmkoajdhmaaGreatDoorQ20
import Derived.Lib.Hide
import Derived.WideLaws
import Derived.LaidEql
import Derived.WalkLawsBesides
import Derived.WalkSpells
import Derived.BigQuiet
import Derived.Outline
import Derived.Test.YtabikmkoajdhmaaGreatDoorQ04
import Derived.Deep.LoopGhost
import Derived.Test.YtabikmkoajdhmaaGreatDoorQ22
set_option linter.unusedVariables false
set_option linter.unusedSimpArgs false
namespace Go.Proofs.YtabikmkoajdhmaaGreatDoor
open Go.RowKit

/-- A value that has become nothing further. -/
inductive Root (G : GH) (A : GV) (w : World) : Value → Ty → Prop
  | var {N b : Nat} {nm : Str} : A N = some (b, nm) → w.heap[b]? = some (varObj N .nilIface nm) → Root G A w (varV b) (.var N)
  | con {b : Nat} {lv : Value} {vs : List Value} {t : Ty} : t.con = true → G b = some (.cells #[.string (bs t.kind), lv] 169) → SlR G lv vs → TRs G A w vs t.args → Root G A w (conV b) t
theorem Root.tr {G : GH} {A : GV} {w : World} {v : Value} {t : Ty} (h : Root G A w v t) : TR G A w v t := by
  cases h with
  | var a b => exact .free a b
  | con a b c d => exact .con a b c d
theorem TR.iface {G : GH} {A : GV} {w : World} {v : Value} {t : Ty} (h : TR G A w v t) : ∃ T b, v = .iface T (.pointer (some ⟨b, 0, none⟩)) := by
  obtain ⟨b, rfl | rfl⟩ := h.shape
  · exact ⟨_, b, rfl⟩
  · exact ⟨_, b, rfl⟩
theorem Root.mono {G G' : GH} {A A' : GV} {w w' : World} (hG : G.sub G') (hA : A.sub A') (hw : ∀ N b nm, A N = some (b, nm) → w'.heap[b]? = w.heap[b]?) {v : Value} {t : Ty} (h : Root G A w v t) : Root G' A' w' v t := by
  cases h with
  | var a b => exact .var (hA _ _ a) ((hw _ _ _ a).trans b)
  | con a b c d => exact .con a (hG _ _ b) (c.sub hG) (d.mono hG hA hw)

/-- The blocks of variables. -/
def isV (A : GV) : Nat → Prop := fun b => ∃ N nm, A N = some (b, nm)

structure TInv (G : GH) (A : GV) (w : World) (n : Nat) : Prop where
  holds : Holds G w
  vars : ∀ N b nm, A N = some (b, nm) → 1 ≤ N ∧ N ≤ n ∧ G b = none ∧ ∃ is, w.heap[b]? = some (varObj N is nm)
theorem TInv.off {G : GH} {A : GV} {w : World} {n : Nat} (h : TInv G A w n) : G.off (isV A) := fun b o hb ⟨N, nm, e⟩ => by
  rw [(h.vars N b nm e).2.2.1] at hb; cases hb
theorem TInv.old {G : GH} {A : GV} {w : World} {n b : Nat} (h : TInv G A w n) (hb : isV A b) : b < w.heap.size := by
  obtain ⟨N, nm, e⟩ := hb
  obtain ⟨_, _, _, i, hi⟩ := h.vars N b nm e
  exact lt_of_heap hi
theorem TInv.one {G : GH} {A : GV} {w : World} {n N M b : Nat} {nm nm' : Str} (h : TInv G A w n) (hN : A N = some (b, nm)) (hM : A M = some (b, nm')) : N = M := by
  obtain ⟨_, _, _, i, e⟩ := h.vars N b nm hN
  obtain ⟨_, _, _, j, f⟩ := h.vars M b nm' hM
  rw [e] at f
  simp [varObj] at f
  exact Int.ofNat.inj f.1
theorem TInv.keep {G : GH} {A : GV} {w w' : World} {n : Nat} (h : TInv G A w n) {S : Nat → Prop} (k : Keep S w w') (hG : G.off S) (hS : ∀ b, isV A b → ¬ S b) : TInv G A w' n :=
  ⟨h.holds.keep k hG, fun N b nm e => let ⟨a, b', c, i, hi⟩ := h.vars N b nm e; ⟨a, b', c, i, k.get hi (hS b ⟨N, nm, e⟩)⟩⟩
theorem TInv.keep0 {G : GH} {A : GV} {w w' : World} {n : Nat} (h : TInv G A w n) (k : Keep none' w w') : TInv G A w' n := h.keep k (fun _ _ _ x => x) (fun _ _ x => x)
theorem TInv.up {G : GH} {A : GV} {w : World} {n m : Nat} (h : TInv G A w n) (hn : n ≤ m) : TInv G A w m :=
  ⟨h.holds, fun N b nm e => let ⟨a, b', c, i⟩ := h.vars N b nm e; ⟨a, Nat.le_trans b' hn, c, i⟩⟩
theorem TInv.blk {G : GH} {A : GV} {w w' : World} {n : Nat} (h : TInv G A w n) {S : Nat → Prop} (k : Keep S w w') (hS : ∀ b, isV A b → ¬ S b) : ∀ N b nm, A N = some (b, nm) → w'.heap[b]? = w.heap[b]? := fun N b nm e => by
  obtain ⟨_, _, _, i, hi⟩ := h.vars N b nm e
  rw [hi]; exact k.get hi (hS b ⟨N, nm, e⟩)
theorem TR.keep {G : GH} {A : GV} {w w' : World} {n : Nat} {v : Value} {t : Ty} (r : TR G A w v t) (h : TInv G A w n) {S : Nat → Prop} (k : Keep S w w') (hS : ∀ b, isV A b → ¬ S b) : TR G A w' v t :=
  r.mono (GH.sub.refl G) (GV.sub.refl A) (h.blk k hS)
theorem TR.keep0 {G : GH} {A : GV} {w w' : World} {n : Nat} {v : Value} {t : Ty} (r : TR G A w v t) (h : TInv G A w n) (k : Keep none' w w') : TR G A w' v t := r.keep h k (fun _ _ x => x)

/-- A free variable's block. -/
theorem TR.var_free {G : GH} {A : GV} {w : World} {N b : Nat} {nm : Str} (hN : A N = some (b, nm)) : ∀ {v : Value} {t : Ty}, TR G A w v t → t = .var N → w.heap[b]? = some (varObj N .nilIface nm)
  | _, _, .free h k, e => by
    injection e with e; subst e
    rw [hN] at h; injection h with h; injection h with h1 h2; subst h1; subst h2
    exact k
  | _, _, .link _ _ r, e => r.var_free hN e
  | _, _, .con c _ _ _, e => by subst e; cases c
/-- The one root that a variable leads to. -/
theorem TR.var_root {G : GH} {A : GV} {w : World} {N : Nat} : ∀ {v : Value} {t : Ty}, TR G A w v t → t = .var N → ∃ b nm, A N = some (b, nm) ∧ w.heap[b]? = some (varObj N .nilIface nm)
  | _, _, .free h k, e => by injection e with e; subst e; exact ⟨_, _, h, k⟩
  | _, _, .link _ _ r, e => r.var_root e
  | _, _, .con c _ _ _, e => by subst e; cases c

/-- The same meaning of all that has been there; nothing but variables' blocks is touched. -/
structure Same (G : GH) (A : GV) (n : Nat) (w w' : World) : Prop where
  keep : Keep (isV A) w w'
  inv : TInv G A w' n
  tr : ∀ v t, TR G A w v t → TR G A w' v t
theorem Same.refl {G : GH} {A : GV} {n : Nat} {w : World} (h : TInv G A w n) : Same G A n w w := ⟨Keep.refl _ _, h, fun _ _ r => r⟩
theorem Same.trans {G : GH} {A : GV} {n : Nat} {a b c : World} (h : Same G A n a b) (k : Same G A n b c) : Same G A n a c := ⟨h.keep.trans k.keep, k.inv, fun v t r => k.tr v t (h.tr v t r)⟩
theorem Same.of0 {G : GH} {A : GV} {n : Nat} {w w' : World} (h : TInv G A w n) (k : Keep none' w w') : Same G A n w w' := ⟨k.of_none, h.keep0 k, fun _ _ r => r.keep0 h k⟩
theorem Same.trs {G : GH} {A : GV} {n : Nat} {w w' : World} (h : Same G A n w w') : ∀ {vs : List Value} {ts : List Ty}, TRs G A w vs ts → TRs G A w' vs ts
  | _, _, .nil => .nil
  | _, _, .cons a b => .cons (h.tr _ _ a) (h.trs b)
/-- A free variable stays free. -/
theorem Same.free {G : GH} {A : GV} {n N b : Nat} {nm : Str} {w w' : World} (h : Same G A n w w') (hN : A N = some (b, nm)) (hf : w.heap[b]? = some (varObj N .nilIface nm)) : w'.heap[b]? = some (varObj N .nilIface nm) :=
  (h.tr _ _ (.free hN hf)).var_free hN rfl
theorem Same.root {G : GH} {A : GV} {n : Nat} {w w' : World} (h : Same G A n w w') {v : Value} {t : Ty} (r : Root G A w v t) : Root G A w' v t := by
  cases r with
  | var a b => exact .var a (h.free a b)
  | con a b c d => exact .con a b c (h.trs d)

theorem set_var {w : World} {b N : Nat} {is u : Value} {nm : Str} (h : w.heap[b]? = some (varObj N is nm)) : (w.setCell ⟨b, 1, none⟩ u).heap[b]? = some (varObj N u nm) := heap_set_same (c := #[.int .i64 N, is, .string (bs nm)]) h
theorem lt_of_mem {t : Ty} {ts : List Ty} {n : Nat} (h : ∀ a ∈ t :: ts, a.size < n) : t.size < n ∧ ∀ a ∈ ts, a.size < n := ⟨h t (by simp), fun a ha => h a (by simp [ha])⟩

/-! ### a way made shorter -/
section
variable {G : GH} {A : GV} {w : World} {N b b' : Nat} {nm : Str} {T : TypeId} {t : Ty}
mutual
theorem comp_small (hb : w.heap[b]? = some (varObj N (.iface T (.pointer (some ⟨b', 0, none⟩))) nm)) (ht : TR G A w (varV b) t) (u : Value) : ∀ {x : Value} {s : Ty}, TR G A w x s → s.size < t.size → TR G A (w.setCell ⟨b, 1, none⟩ u) x s
  | _, _, .free (b := b0) h k, _ => by
    refine .free h (heap_set_other k ?_)
    rintro rfl
    rw [k] at hb; simp [varObj] at hb
  | _, _, .link (b := b0) (t := s) h k r, hs => by
    by_cases e : b0 = b
    · subst e
      have := ht.det (.link h k r)
      subst this
      exact absurd hs (Nat.lt_irrefl _)
    · exact .link h (heap_set_other k e) (comp_small hb ht u r hs)
  | _, _, .con c g s r, hs => .con c g s (comp_smalls hb ht u r (fun a ha => Nat.lt_trans (Ty.arg_sz ha) hs))
theorem comp_smalls (hb : w.heap[b]? = some (varObj N (.iface T (.pointer (some ⟨b', 0, none⟩))) nm)) (ht : TR G A w (varV b) t) (u : Value) : ∀ {xs : List Value} {ss : List Ty}, TRs G A w xs ss → (∀ a ∈ ss, a.size < t.size) → TRs G A (w.setCell ⟨b, 1, none⟩ u) xs ss
  | _, _, .nil, _ => .nil
  | _, _, .cons a r, h => .cons (comp_small hb ht u a (lt_of_mem h).1) (comp_smalls hb ht u r (lt_of_mem h).2)
end
theorem comp_root (hb : w.heap[b]? = some (varObj N (.iface T (.pointer (some ⟨b', 0, none⟩))) nm)) (ht : TR G A w (varV b) t) {r : Value} (u : Value) (hr : Root G A w r t) : Root G A (w.setCell ⟨b, 1, none⟩ u) r t := by
  cases hr with
  | var h k =>
    refine .var h (heap_set_other k ?_)
    rintro rfl
    rw [k] at hb; simp [varObj] at hb
  | con c g s r => exact .con c g s (comp_smalls hb ht u r (fun a ha => Ty.arg_sz ha))
mutual
theorem comp_all (hN : A N = some (b, nm)) (hb : w.heap[b]? = some (varObj N (.iface T (.pointer (some ⟨b', 0, none⟩))) nm)) (ht : TR G A w (varV b) t) {r : Value} (hr : Root G A w r t) : ∀ {x : Value} {s : Ty}, TR G A w x s → TR G A (w.setCell ⟨b, 1, none⟩ r) x s
  | _, _, .free (b := b0) h k => by
    refine .free h (heap_set_other k ?_)
    rintro rfl
    rw [k] at hb; simp [varObj] at hb
  | _, _, .link (b := b0) (t := s) h k q => by
    by_cases e : b0 = b
    · subst e
      have := ht.det (.link h k q)
      subst this
      have hq := (comp_root hb ht r hr).tr
      obtain ⟨c, rfl | rfl⟩ := hq.shape
      · exact .link hN (set_var hb) hq
      · exact .link hN (set_var hb) hq
    · exact .link h (heap_set_other k e) (comp_all hN hb ht hr q)
  | _, _, .con c g s q => .con c g s (comp_alls hN hb ht hr q)
theorem comp_alls (hN : A N = some (b, nm)) (hb : w.heap[b]? = some (varObj N (.iface T (.pointer (some ⟨b', 0, none⟩))) nm)) (ht : TR G A w (varV b) t) {r : Value} (hr : Root G A w r t) : ∀ {xs : List Value} {ss : List Ty}, TRs G A w xs ss → TRs G A (w.setCell ⟨b, 1, none⟩ r) xs ss
  | _, _, .nil => .nil
  | _, _, .cons a q => .cons (comp_all hN hb ht hr a) (comp_alls hN hb ht hr q)
end
end
theorem set_inv {G : GH} {A : GV} {w : World} {n N b : Nat} {nm : Str} {is : Value} (h : TInv G A w n) (hN : A N = some (b, nm)) (hb : w.heap[b]? = some (varObj N is nm)) (u : Value) : TInv G A (w.setCell ⟨b, 1, none⟩ u) n := by
  refine ⟨h.holds.keep (S := one' b) (Keep.setCell _ _ (fun _ => rfl)) (fun k o hk (e : k = b) => ?_), fun M c nm' e => ?_⟩
  · subst e; rw [(h.vars N k nm hN).2.2.1] at hk; cases hk
  · obtain ⟨x1, x2, x3, i, hi⟩ := h.vars M c nm' e
    refine ⟨x1, x2, x3, ?_⟩
    by_cases hc : c = b
    · subst hc
      rw [hb] at hi
      simp [varObj] at hi
      have e1 := Int.ofNat.inj hi.1
      subst e1
      rw [hN] at e
      simp at e
      subst e
      exact ⟨u, set_var hb⟩
    · exact ⟨i, heap_set_other hi hc⟩
theorem set_keep {A : GV} {w : World} {N b : Nat} {nm : Str} (hN : A N = some (b, nm)) (u : Value) : Keep (isV A) w (w.setCell ⟨b, 1, none⟩ u) := Keep.setCell _ _ (fun _ => ⟨N, nm, hN⟩)
/-- A variable's way is made shorter: nothing has another meaning. -/
theorem Same.comp {G : GH} {A : GV} {w : World} {n N b b' : Nat} {nm : Str} {T : TypeId} {t : Ty} {r : Value} (h : TInv G A w n) (hN : A N = some (b, nm)) (hb : w.heap[b]? = some (varObj N (.iface T (.pointer (some ⟨b', 0, none⟩))) nm)) (ht : TR G A w (varV b) t) (hr : Root G A w r t) : Same G A n w (w.setCell ⟨b, 1, none⟩ r) :=
  ⟨set_keep hN r, set_inv h hN hb r, fun _ _ q => comp_all hN hb ht hr q⟩

/-! ### a variable bound -/
section
variable {G : GH} {A : GV} {w : World} {n N b : Nat} {nm : Str} {u : Value} {s : Ty}
mutual
theorem bind_not (hi : TInv G A w n) (hN : A N = some (b, nm)) (hb : w.heap[b]? = some (varObj N .nilIface nm)) (u : Value) : ∀ {x : Value} {t : Ty}, TR G A w x t → t.has N = false → TR G A (w.setCell ⟨b, 1, none⟩ u) x t
  | _, _, .free (b := b0) h k, hs => by
    refine .free h (heap_set_other k ?_)
    rintro rfl
    have := hi.one hN h
    subst this
    simp [Ty.has] at hs
  | _, _, .link (b := b0) h k r, hs => by
    refine .link h (heap_set_other k ?_) (bind_not hi hN hb u r hs)
    rintro rfl
    rw [k] at hb; simp [varObj] at hb
  | _, _, .con c g l r, hs => .con c g l (bind_nots hi hN hb u r (fun a ha => Ty.arg_has ha hs))
theorem bind_nots (hi : TInv G A w n) (hN : A N = some (b, nm)) (hb : w.heap[b]? = some (varObj N .nilIface nm)) (u : Value) : ∀ {xs : List Value} {ts : List Ty}, TRs G A w xs ts → (∀ a ∈ ts, a.has N = false) → TRs G A (w.setCell ⟨b, 1, none⟩ u) xs ts
  | _, _, .nil, _ => .nil
  | _, _, .cons a r, h => .cons (bind_not hi hN hb u a (h _ (by simp))) (bind_nots hi hN hb u r (fun x hx => h x (by simp [hx])))
end
mutual
theorem bind_all (hi : TInv G A w n) (hN : A N = some (b, nm)) (hb : w.heap[b]? = some (varObj N .nilIface nm)) (hu : TR G A w u s) (hs : s.has N = false) : ∀ {x : Value} {t : Ty}, TR G A w x t → TR G A (w.setCell ⟨b, 1, none⟩ u) x (Ty.sub N s t)
  | _, _, .free (N := M) (b := b0) h k => by
    by_cases e : M = N
    · subst e
      rw [hN] at h
      simp at h
      obtain ⟨rfl, rfl⟩ := h
      simp only [Ty.sub, if_true]
      have hq := bind_not hi hN hb u hu hs
      obtain ⟨c, rfl | rfl⟩ := hu.shape
      · exact .link hN (set_var hb) hq
      · exact .link hN (set_var hb) hq
    · simp only [Ty.sub, e, if_false]
      refine .free h (heap_set_other k ?_)
      rintro rfl
      exact e (hi.one h hN)
  | _, _, .link (b := b0) h k r => by
    refine .link h (heap_set_other k ?_) (bind_all hi hN hb hu hs r)
    rintro rfl
    rw [k] at hb; simp [varObj] at hb
  | _, _, .con (t := t) c g l r => by
    obtain ⟨e1, e2, e3⟩ := Ty.con_sub (N := N) (s := s) c
    refine .con e1 (by rw [e2]; exact g) l ?_
    rw [e3]
    exact bind_alls hi hN hb hu hs r
theorem bind_alls (hi : TInv G A w n) (hN : A N = some (b, nm)) (hb : w.heap[b]? = some (varObj N .nilIface nm)) (hu : TR G A w u s) (hs : s.has N = false) : ∀ {xs : List Value} {ts : List Ty}, TRs G A w xs ts → TRs G A (w.setCell ⟨b, 1, none⟩ u) xs (ts.map (Ty.sub N s))
  | _, _, .nil => .nil
  | _, _, .cons a r => .cons (bind_all hi hN hb hu hs a) (bind_alls hi hN hb hu hs r)
end
end
end Go.Proofs.YtabikmkoajdhmaaGreatDoor

/- find: of a variable and of a constructor: the root, by a contract; ways are made shorter. -/
namespace Go.Proofs.YtabikmkoajdhmaaGreatDoor
open Go.RowKit

theorem methFindV (v : Value) (w : World) : (Go.method 494 160 v "typer/types.find").run Tryz.prog w = .ok (230, v) w := by kernel_rfl
theorem methFindC (v : Value) (w : World) : (Go.method 494 165 v "typer/types.find").run Tryz.prog w = .ok (231, v) w := by kernel_rfl

def FindPost (G : GH) (A : GV) (n : Nat) (w : World) (t : Ty) (e : Ending) (w' : World) : Prop := ∃ r, e = .returned r ∧ Same G A n w w' ∧ Root G A w' r t

theorem find_con {G : GH} {A : GV} {w : World} {n b : Nat} {t : Ty} (hi : TInv G A w n) (h : TR G A w (conV b) t) : Calls Tryz.prog 231 #[.pointer (some ⟨b, 0, none⟩)] w (FindPost G A n w t) := by
  go_enter Tryz.func231, Tryz.ntmps231
  go_wp2_with fail
  go_ret
  refine ⟨conV b, rfl, Same.refl hi, ?_⟩
  cases h with
  | con a b c d => exact .con a b c d

theorem Same.linked {G : GH} {A : GV} {n N b b' : Nat} {nm : Str} {T : TypeId} {w w' : World} (hi : TInv G A w n) (h : Same G A n w w') (hN : A N = some (b, nm)) {t : Ty} (hb : w.heap[b]? = some (varObj N (.iface T (.pointer (some ⟨b', 0, none⟩))) nm)) (ht : TR G A w (varV b) t) :
    ∃ T1 b1, w'.heap[b]? = some (varObj N (.iface T1 (.pointer (some ⟨b1, 0, none⟩))) nm) := by
  cases h.tr _ _ ht with
  | free hM hk =>
    have := hi.one hN hM
    subst this
    have hk0 := ht.var_free hN rfl
    rw [hb] at hk0; simp [varObj] at hk0
  | link hM hk _ =>
    have := hi.one hN hM
    subst this
    obtain ⟨_, _, _, i, hi'⟩ := h.inv.vars _ _ _ hN
    rw [hi'] at hk
    simp [varObj] at hk
    obtain ⟨rfl, e2⟩ := hk
    exact ⟨_, _, hi'⟩

set_option maxHeartbeats 1000000 in
theorem find_var {G : GH} {A : GV} {w : World} {n : Nat} (hi : TInv G A w n) : ∀ {v : Value} {t : Ty}, TR G A w v t → ∀ b, v = varV b → Calls Tryz.prog 230 #[.pointer (some ⟨b, 0, none⟩)] w (FindPost G A n w t)
  | _, _, .free (N := N) (b := b) (nm := nm) hN hb, b1, e => by
    have : b = b1 := by simpa [varV] using e
    subst this
    have c1 : w.cell? ⟨b, 1, none⟩ = some .nilIface := cell_of_heap hb rfl
    have HB := Lib.hid hb; clear hb e
    go_enter Tryz.func230, Tryz.ntmps230
    go_wp2_with fail
    go_ret
    exact ⟨varV b, rfl, Same.refl hi, .var hN HB.out⟩
  | _, _, .link (N := N) (b := b) (b' := b') (nm := nm) (T := T) (t := t) hN hb r, b1, e => by
    have : b = b1 := by simpa [varV] using e
    subst this
    have HT := Lib.hid (TR.link hN hb r)
    have ih : ∃ f, (∀ w, (Go.method 494 T (.pointer (some ⟨b', 0, none⟩)) "typer/types.find").run Tryz.prog w = .ok (f, .pointer (some ⟨b', 0, none⟩)) w) ∧ (∀ w, (callFunc f #[.pointer (some ⟨b', 0, none⟩)]).run Tryz.prog w = .ok (.enter f #[.pointer (some ⟨b', 0, none⟩)]) w) ∧ Calls Tryz.prog f #[.pointer (some ⟨b', 0, none⟩)] w (FindPost G A n w t) := by
      obtain ⟨b2, e2 | e2⟩ := r.shape
      · have hc := find_var hi r b2 e2
        simp only [varV, Value.iface.injEq, Value.pointer.injEq, Option.some.injEq, Addr.mk.injEq, and_true] at e2
        obtain ⟨rfl, rfl⟩ := e2
        exact ⟨_, methFindV _, fun _ => by kernel_rfl, hc⟩
      · have hr := r
        rw [e2] at hr
        have hc := find_con hi hr
        simp only [conV, Value.iface.injEq, Value.pointer.injEq, Option.some.injEq, Addr.mk.injEq, and_true] at e2
        obtain ⟨rfl, rfl⟩ := e2
        exact ⟨_, methFindC _, fun _ => by kernel_rfl, hc⟩
    obtain ⟨f, hm, he, hc⟩ := ih
    have HC := Lib.hid hc; have HR := Lib.hid r; clear hc r
    have c1 : w.cell? ⟨b, 1, none⟩ = some (.iface T (.pointer (some ⟨b', 0, none⟩))) := cell_of_heap hb rfl
    have HB := Lib.hid hb; have HI := Lib.hid hi; clear hb e hi
    go_enter Tryz.func230, Tryz.ntmps230
    go_wp2_with fail
    refine HC.out.mono ?_
    rintro e w1 ⟨r1, rfl, hs, hr1⟩
    obtain ⟨T2, b2, rfl⟩ := hr1.tr.iface
    obtain ⟨T1, b1, h1⟩ := Same.linked HI.out hs hN HB.out HT.out
    have HS := Lib.hid hs; have HR1 := Lib.hid hr1; have H1 := Lib.hid h1
    have d1 : w1.cell? ⟨b, 1, none⟩ = some (.iface T1 (.pointer (some ⟨b1, 0, none⟩))) := cell_of_heap h1 rfl
    have f1 : ∀ i, w1.frozen? ⟨b, i, none⟩ = false := fun i => free_of_heap h1
    have d2 : (w1.setCell ⟨b, 1, none⟩ (.iface T2 (.pointer (some ⟨b2, 0, none⟩)))).cell? ⟨b, 1, none⟩ = some (.iface T2 (.pointer (some ⟨b2, 0, none⟩))) := cell_of_heap (set_var h1) rfl
    clear hs hr1 h1
    go_wp2_with fail
    go_ret
    have ht := HS.out.tr _ _ HT.out
    exact ⟨_, rfl, HS.out.trans (Same.comp HS.out.inv hN H1.out ht HR1.out), comp_root H1.out ht _ HR1.out⟩
  | _, _, .con _ _ _ _, b1, e => by simp [varV, conV] at e

/-- A type's value: to which function find leads, and what that gives in any world. -/
theorem find_fn {G : GH} {A : GV} {w : World} {v : Value} {t : Ty} (h : TR G A w v t) :
    ∃ T b f, v = .iface T (.pointer (some ⟨b, 0, none⟩)) ∧ (∀ w, (Go.method 494 T (.pointer (some ⟨b, 0, none⟩)) "typer/types.find").run Tryz.prog w = .ok (f, .pointer (some ⟨b, 0, none⟩)) w) ∧ (∀ w, (callFunc f #[.pointer (some ⟨b, 0, none⟩)]).run Tryz.prog w = .ok (.enter f #[.pointer (some ⟨b, 0, none⟩)]) w) ∧
      ∀ (G' : GH) (A' : GV) (w' : World) (n : Nat) (t' : Ty), TInv G' A' w' n → TR G' A' w' (.iface T (.pointer (some ⟨b, 0, none⟩))) t' → Calls Tryz.prog f #[.pointer (some ⟨b, 0, none⟩)] w' (FindPost G' A' n w' t') := by
  obtain ⟨b, rfl | rfl⟩ := h.shape
  · exact ⟨_, b, _, rfl, methFindV _, fun _ => by kernel_rfl, fun G' A' w' n t' hi h => find_var hi h b rfl⟩
  · exact ⟨_, b, _, rfl, methFindC _, fun _ => by kernel_rfl, fun G' A' w' n t' hi h => find_con hi h⟩
/-- A type's value: to which function find leads, and what that gives. -/
theorem find_any {G : GH} {A : GV} {w : World} {n : Nat} {v : Value} {t : Ty} (hi : TInv G A w n) (h : TR G A w v t) :
    ∃ T b f, v = .iface T (.pointer (some ⟨b, 0, none⟩)) ∧ (∀ w, (Go.method 494 T (.pointer (some ⟨b, 0, none⟩)) "typer/types.find").run Tryz.prog w = .ok (f, .pointer (some ⟨b, 0, none⟩)) w) ∧ (∀ w, (callFunc f #[.pointer (some ⟨b, 0, none⟩)]).run Tryz.prog w = .ok (.enter f #[.pointer (some ⟨b, 0, none⟩)]) w) ∧ Calls Tryz.prog f #[.pointer (some ⟨b, 0, none⟩)] w (FindPost G A n w t) := by
  obtain ⟨b, rfl | rfl⟩ := h.shape
  · exact ⟨_, b, _, rfl, methFindV _, fun _ => by kernel_rfl, find_var hi h b rfl⟩
  · exact ⟨_, b, _, rfl, methFindC _, fun _ => by kernel_rfl, find_con hi h⟩

/-- A slice value that reads as a list: its two forms. -/
theorem SlR.shp {G : GH} {v : Value} {xs : List Value} (h : SlR G v xs) : ∃ a cap, v = .slice a xs.length cap ∧ ∀ w, Holds G w → ∀ j u, xs[j]? = some u → ∃ b, a = some ⟨b, 0, none⟩ ∧ w.cell? ⟨b, j, none⟩ = some u := by
  rcases h with ⟨rfl, rfl⟩ | ⟨b, arr, T, cap, rfl, hb, hx⟩
  · exact ⟨none, 0, rfl, fun w _ j u hj => by simp at hj⟩
  · refine ⟨some ⟨b, 0, none⟩, cap, rfl, fun w hG j u hj => ⟨b, rfl, ?_⟩⟩
    obtain ⟨hlt, rfl⟩ := List.getElem?_eq_some_iff.1 hj
    exact cell_of_heap (hG _ _ hb) (hx j hlt)
end Go.Proofs.YtabikmkoajdhmaaGreatDoor

/- types.Size by a contract: a number that tells whether the size is beyond the bound. -/
namespace Go.Proofs.YtabikmkoajdhmaaGreatDoor
open Go.RowKit

def NB (S B k : Nat) : Prop := 1 ≤ k ∧ k ≤ B + 1 ∧ (S ≤ B → k = S) ∧ (B < S → B < k)
def sums : List Ty → Nat
  | [] => 1
  | t :: r => t.size + sums r
theorem sums_snoc (l : List Ty) (t : Ty) : sums (l ++ [t]) = sums l + t.size := by
  induction l with
  | nil => simp [sums]; omega
  | cons a r ih => simp only [List.cons_append, sums, ih]; omega
theorem Ty.size_pos : ∀ t : Ty, 1 ≤ t.size
  | .var _ => Nat.le_refl _
  | .int => Nat.le_refl _
  | .bool => Nat.le_refl _
  | .list _ => by simp [Ty.size]
  | .pair _ _ => by simp [Ty.size]
  | .fn _ _ => by simp [Ty.size]
theorem sums_args (t : Ty) : t.size = sums t.args := by
  cases t <;> simp [Ty.size, Ty.args, sums]
  omega
  omega
theorem sums_take (l : List Ty) (j : Nat) (h : j < l.length) : sums (l.take (j + 1)) = sums (l.take j) + (l[j]).size := by
  rw [← sums_snoc, List.take_succ_eq_append_getElem h]
def SizePost (G : GH) (A : GV) (n : Nat) (w : World) (t : Ty) (B : Nat) (e : Ending) (w' : World) : Prop := ∃ k : Nat, e = .returned (.int .i64 k) ∧ NB t.size B k ∧ Same G A n w w'
def SizeOk (m : Nat) : Prop := ∀ (G : GH) (A : GV) (w : World) (n : Nat) (v : Value) (t : Ty) (B : Nat), TInv G A w n → TR G A w v t → t.size ≤ m → B ≤ 1000 → Calls Tryz.prog 116 #[v, .int .i64 B] w (SizePost G A n w t B)

set_option maxRecDepth 100000 in
set_option maxHeartbeats 2000000 in
theorem size_step (m : Nat) (ih : SizeOk m) : SizeOk (m + 1) := by
  intro G A w n v t B hi hv hm hB
  obtain ⟨T, b, f, rfl, hmt, hent, hc⟩ := find_any hi hv
  have HC := Lib.hid hc; have IH := Lib.hid ih; have HI := Lib.hid hi; have HM := Lib.hid hm
  clear hc ih hi hm hv
  go_enter Tryz.func116, Tryz.ntmps116
  go_wp2_with fail
  refine HC.out.mono ?_
  rintro e w1 ⟨r, rfl, hs, hr⟩
  cases hr with
  | var hN hb =>
    have HS := Lib.hid hs; clear hs hb
    simp only [varV]
    have ta := taVarCon
    go_wp2_with fail
    go_ret
    exact ⟨1, rfl, ⟨by omega, by omega, fun _ => rfl, fun h => h⟩, HS.out⟩
  | con hcn hg hl hts =>
    rename_i b1 lv vs
    have c1 : w1.cell? ⟨b1, 1, none⟩ = some lv := cell_of_heap (hs.inv.holds _ _ hg) rfl
    obtain ⟨a, cap, rfl, hcells⟩ := hl.shp
    have HS := Lib.hid hs; have HL := Lib.hid hcells; have HT := Lib.hid hts; have HLen : Hid (vs.length = t.args.length) := Lib.hid hts.len
    clear hs hg hl hcells hts
    have hvl : vs.length ≤ 2 := by have := HLen.out; have := Ty.args_len (t := t); omega
    simp only [conV]
    have ta := taConCon
    go_wp2_with fail
    go_loopg [5, 22] vs.length (fun gn s5 s22 wr => ∃ j k : Nat, j ≤ vs.length ∧ Hid (gn = vs.length - j) ∧ s22 = .int .i64 j ∧ s5 = .int .i64 k ∧ 1 ≤ k ∧ k ≤ B + 1 ∧ Hid (NB (sums (t.args.take j)) B k) ∧ Hid (Same G A n w wr) ∧ Hid (TRs G A wr vs t.args))
    case atStart => exact ⟨0, 1, by omega, Lib.hid rfl, rfl, rfl, by omega, by omega, Lib.hid ⟨by omega, by omega, fun _ => by simp [sums], fun h => h⟩, HS, HT⟩
    case round =>
      obtain ⟨j, k, hj, HM2, rfl, rfl, hk1, hkB, HNB, HS2, HT2⟩ := hrel
      have hjj : (0 : Int) ≤ (j : Int) := by omega
      by_cases hlt : j < vs.length
      · have hltx : j < t.args.length := by have := HLen.out; omega
        obtain ⟨b2, rfl, cj⟩ := HL.out wr HS2.out.inv.holds j vs[j] (by simp [hlt])
        have hxj := HT2.out.get j hlt hltx
        obtain ⟨T2, b', e⟩ := hxj.iface
        rw [e] at cj hxj
        have HXJ := Lib.hid hxj; clear hxj e
        have hji : ((j : Int) < (vs.length : Int)) := by omega
        by_cases hkb : k ≤ B
        · have hkbi : (k : Int) ≤ (B : Int) := by omega
          have hsub : ((B : Int) - (k : Int)) = ((B - k : Nat) : Int) := by omega
          go_wp2_with fail
          refine (IH.out G A wr n _ _ (B - k) HS2.out.inv HXJ.out (by have := Ty.arg_sz (List.getElem_mem hltx); have := HM.out; omega) (by omega)).mono ?_
          rintro e w2 ⟨k2, rfl, hnb, hs2⟩
          have hk2 : k2 ≤ B - k + 1 := hnb.2.1
          have hk20 : 1 ≤ k2 := hnb.1
          have HNB2 := Lib.hid hnb; have HS3 := Lib.hid (HS2.out.trans hs2); have HT3 := Lib.hid (hs2.trs HT2.out)
          clear hnb hs2 hsub
          go_wp2_with fail
          go_roundg (vs.length - (j + 1))
          case measure => have := HM2.out; omega
          case rel => exact ⟨j + 1, k + k2, by omega, Lib.hid rfl, by go_num, by go_num, by omega, by omega, Lib.hid (by
            obtain ⟨n1, n2, n3, n4⟩ := HNB.out
            obtain ⟨m1, m2, m3, m4⟩ := HNB2.out
            rw [sums_take _ _ hltx]
            refine ⟨by omega, by omega, fun h => ?_, fun h => ?_⟩
            · rw [n3 (by omega), m3 (by omega)]
            · have e1 : sums (t.args.take j) ≤ B := by
                rcases Nat.lt_or_ge B (sums (t.args.take j)) with h' | h'
                · have := n4 h'; omega
                · exact h'
              have e2 := n3 e1
              have := m4 (by omega)
              omega), HS3, HT3⟩
        · have hkbi : ¬ (k : Int) ≤ (B : Int) := by omega
          go_wp2_with fail
          go_roundg (vs.length - (j + 1))
          case measure => have := HM2.out; omega
          case rel => exact ⟨j + 1, k, by omega, Lib.hid rfl, by go_num, rfl, hk1, hkB, Lib.hid (by
            obtain ⟨n1, n2, n3, n4⟩ := HNB.out
            rw [sums_take _ _ hltx]
            exact ⟨n1, n2, fun h => by omega, fun h => by omega⟩), HS2, HT2⟩
      · have hje : j = vs.length := by omega
        subst hje
        go_wp2_with fail
        go_ret
        refine ⟨k, rfl, ?_, HS2.out⟩
        have e1 : t.args.take vs.length = t.args := by rw [HLen.out, List.take_length]
        rw [sums_args, ← e1]
        exact HNB.out
theorem size_ok : ∀ m, SizeOk m
  | 0 => fun G A w n v t B hi hv hm hB => by have := t.size_pos; omega
  | m + 1 => size_step m (size_ok m)
theorem size_any {G : GH} {A : GV} {w : World} {n : Nat} {v : Value} {t : Ty} (hi : TInv G A w n) (hv : TR G A w v t) : Calls Tryz.prog 116 #[v, .int .i64 120] w (fun e w' => ∃ k : Nat, e = .returned (.int .i64 k) ∧ (t.size ≤ 120 ↔ k ≤ 120) ∧ Same G A n w w') := by
  refine (size_ok t.size G A w n v t 120 hi hv (Nat.le_refl _) (by omega)).mono ?_
  rintro e w' ⟨k, rfl, ⟨h1, h2, h3, h4⟩, hs⟩
  refine ⟨k, rfl, ⟨fun h => by have := h3 h; omega, fun h => ?_⟩, hs⟩
  rcases Nat.lt_or_ge 120 t.size with h' | h'
  · have := h4 h'; omega
  · exact h'
end Go.Proofs.YtabikmkoajdhmaaGreatDoor

/- types.occurs by a contract. -/
namespace Go.Proofs.YtabikmkoajdhmaaGreatDoor
open Go.RowKit

theorem Ty.has_args {N : Nat} : ∀ {t : Ty}, t.con = true → t.has N = t.args.any (Ty.has N)
  | .int, _ => rfl
  | .bool, _ => rfl
  | .list a, _ => by simp [Ty.has, Ty.args]
  | .pair a b, _ => by simp [Ty.has, Ty.args]
  | .fn a b, _ => by simp [Ty.has, Ty.args]
theorem int_beq (M N : Nat) : ((M : Int) == (N : Int)) = decide (M = N) := by
  by_cases h : M = N
  · subst h; simp
  · have : ¬ (M : Int) = (N : Int) := by omega
    simp [h, this]
def OccPost (G : GH) (A : GV) (n : Nat) (w : World) (N : Nat) (t : Ty) (e : Ending) (w' : World) : Prop := e = .returned (.bool (t.has N)) ∧ Same G A n w w'
def OccOk (m : Nat) : Prop := ∀ (G : GH) (A : GV) (w : World) (n : Nat) (v : Value) (t : Ty) (N b : Nat) (nm : Str), TInv G A w n → TR G A w v t → t.size ≤ m → A N = some (b, nm) → Calls Tryz.prog 195 #[.pointer (some ⟨b, 0, none⟩), v] w (OccPost G A n w N t)

set_option maxRecDepth 100000 in
set_option maxHeartbeats 2000000 in
theorem occ_step (m : Nat) (ih : OccOk m) : OccOk (m + 1) := by
  intro G A w n v t N bN nm hi hv hm hA
  obtain ⟨T, b, f, rfl, hmt, hent, hc⟩ := find_any hi hv
  have HC := Lib.hid hc; have IH := Lib.hid ih; have HI := Lib.hid hi; have HM := Lib.hid hm; have HA := Lib.hid hA
  clear hc ih hi hm hv hA
  go_enter Tryz.func195, Tryz.ntmps195
  go_wp2_with fail
  refine HC.out.mono ?_
  rintro e w1 ⟨r, rfl, hs, hr⟩
  cases hr with
  | @var M b1 nm1 hM hb =>
    obtain ⟨_, _, _, is, hbN⟩ := hs.inv.vars N bN nm HA.out
    have c1 : w1.cell? ⟨bN, 0, none⟩ = some (.int .i64 N) := cell_of_heap hbN rfl
    have c2 : w1.cell? ⟨b1, 0, none⟩ = some (.int .i64 M) := cell_of_heap hb rfl
    have HS := Lib.hid hs; clear hs hb hbN hM
    simp only [varV]
    have ta := taVarVar
    go_wp2_with fail
    (refine region_tail 9 (by kernel_rfl) (by kernel_rfl) ?_; simp only [List.take_succ_cons, List.take_zero, List.drop_succ_cons, List.drop_zero]; repeat still_step; try refine wpStill_nil ?_)
    go_wp2_with fail
    go_ret
    refine ⟨?_, HS.out.trans (Same.of0 HS.out.inv (Keep.drew _ _))⟩
    simp [Ty.has, int_beq]
  | @con b1 lv vs _ hcn hg hl hts =>
    have c1 : w1.cell? ⟨b1, 1, none⟩ = some lv := cell_of_heap (hs.inv.holds _ _ hg) rfl
    obtain ⟨a, cap, rfl, hcells⟩ := hl.shp
    have HS := Lib.hid hs; have HL := Lib.hid hcells; have HT := Lib.hid hts; have HLen : Hid (vs.length = t.args.length) := Lib.hid hts.len
    have HH := Lib.hid (Ty.has_args (N := N) hcn)
    clear hs hg hl hcells hts
    have hvl : vs.length ≤ 2 := by have := HLen.out; have := Ty.args_len (t := t); omega
    simp only [conV]
    have ta := taConCon
    have tb := taConVar
    go_wp2_with fail
    go_loopg [31] vs.length (fun gn s31 wr => ∃ j : Nat, j ≤ vs.length ∧ Hid (gn = vs.length - j) ∧ s31 = .int .i64 j ∧ Hid ((t.args.take j).any (Ty.has N) = false) ∧ Hid (Same G A n w wr) ∧ Hid (TRs G A wr vs t.args))
    case atStart => exact ⟨0, by omega, Lib.hid rfl, rfl, Lib.hid (by simp), HS, HT⟩
    case round =>
      obtain ⟨j, hj, HM2, rfl, HNO, HS2, HT2⟩ := hrel
      have hjj : (0 : Int) ≤ (j : Int) := by omega
      by_cases hlt : j < vs.length
      · have hltx : j < t.args.length := by have := HLen.out; omega
        obtain ⟨b2, rfl, cj⟩ := HL.out wr HS2.out.inv.holds j vs[j] (by simp [hlt])
        have hxj := HT2.out.get j hlt hltx
        obtain ⟨T2, b', e⟩ := hxj.iface
        rw [e] at cj hxj
        have HXJ := Lib.hid hxj; clear hxj e
        have hji : ((j : Int) < (vs.length : Int)) := by omega
        go_wp2_with fail
        refine (IH.out G A wr n _ _ N bN nm HS2.out.inv HXJ.out (by have := Ty.arg_sz (List.getElem_mem hltx); have := HM.out; omega) HA.out).mono ?_
        rintro e w2 ⟨rfl, hs2⟩
        have HS3 := Lib.hid (HS2.out.trans hs2); have HT3 := Lib.hid (hs2.trs HT2.out)
        clear hs2
        cases hh : (t.args[j]).has N with
        | true =>
          go_wp2_with fail
          go_ret
          refine ⟨?_, HS3.out⟩
          have : t.has N = true := by
            rw [HH.out, List.any_eq_true]
            exact ⟨_, List.getElem_mem hltx, hh⟩
          rw [this]; rfl
        | false =>
          have HF := Lib.hid hh; clear hh
          go_wp2_with fail
          go_roundg (vs.length - (j + 1))
          case measure => have := HM2.out; omega
          case rel => exact ⟨j + 1, by omega, Lib.hid rfl, by go_num, Lib.hid (by rw [List.take_succ_eq_append_getElem hltx, List.any_append, HNO.out]; simp [HF.out]), HS3, HT3⟩
      · have hje : j = vs.length := by omega
        subst hje
        go_wp2_with fail
        go_ret
        refine ⟨?_, HS2.out⟩
        have e1 : t.args.take vs.length = t.args := by rw [HLen.out, List.take_length]
        have := HNO.out
        rw [e1] at this
        rw [HH.out, this]; rfl
theorem occ_ok : ∀ m, OccOk m
  | 0 => fun G A w n v t N b nm hi hv hm hA => by have := t.size_pos; omega
  | m + 1 => occ_step m (occ_ok m)
end Go.Proofs.YtabikmkoajdhmaaGreatDoor

/- types.Unify: its plain function, on types with all that has been found out put in; what it leaves; words and plain lemmas. -/
namespace Go.Proofs.YtabikmkoajdhmaaGreatDoor
open Go.RowKit

/-- none: out of fuel; some none: they cannot be made equal; else what is found out. -/
def uni : Nat → Ty → Ty → Option (Option Dl)
  | 0, _, _ => none
  | k + 1, a, b =>
    match a with
    | .var x => if b = .var x then some (some []) else if b.has x then some none else some (some [(x, b)])
    | _ => match b with
      | .var y => uni k (.var y) a
      | _ => match a, b with
        | .int, .int => some (some [])
        | .bool, .bool => some (some [])
        | .list a, .list c => (match uni k a c with
          | some (some d) => some (some (d ++ []))
          | r => r)
        | .pair a b, .pair c e => (match uni k a c with
          | some (some d) => (match uni k (app d b) (app d e) with
            | some (some f) => some (some (d ++ (f ++ [])))
            | r => r)
          | r => r)
        | .fn a b, .fn c e => (match uni k a c with
          | some (some d) => (match uni k (app d b) (app d e) with
            | some (some f) => some (some (d ++ (f ++ [])))
            | r => r)
          | r => r)
        | _, _ => some none
/-- The arguments, one after the other. -/
def uniL (f : Ty → Ty → Option (Option Dl)) : List Ty → List Ty → Option (Option Dl)
  | a :: ar, b :: br => (match f a b with
    | some (some d) => (match uniL f (ar.map (app d)) (br.map (app d)) with
      | some (some e) => some (some (d ++ e))
      | r => r)
    | r => r)
  | _, _ => some (some [])
termination_by l => l.length
theorem uniL_nil (f : Ty → Ty → Option (Option Dl)) (l : List Ty) : uniL f [] l = some (some []) := by unfold uniL; rfl
theorem uniL_cons (f : Ty → Ty → Option (Option Dl)) (a b : Ty) (ar br : List Ty) : uniL f (a :: ar) (b :: br) = (match f a b with
    | some (some d) => (match uniL f (ar.map (app d)) (br.map (app d)) with
      | some (some e) => some (some (d ++ e))
      | r => r)
    | r => r) := by rw [uniL]
theorem uni_con {k : Nat} {t u : Ty} (ht : t.con = true) (hu : u.con = true) : uni (k + 1) t u = if t.kind = u.kind then uniL (uni k) t.args u.args else some none := by
  cases t <;> (try cases ht) <;> cases u <;> (try cases hu) <;> (try (simp [uni, Ty.kind, Ty.args, uniL_nil, uniL_cons, INT, BOOL, sList, sPair, sFun]; done))
  all_goals
    simp only [uni, Ty.kind, Ty.args, uniL_nil, uniL_cons, if_true]
    rcases uni k _ _ with _ | _ | d
    · rfl
    · rfl
    · simp only [List.map_nil, List.map_cons, uniL_nil, uniL_cons]
      first | rfl | (rcases uni k _ _ with _ | _ | d <;> rfl)
theorem uni_var {k x : Nat} {b : Ty} : uni (k + 1) (.var x) b = if b = .var x then some (some []) else if b.has x then some none else some (some [(x, b)]) := rfl
theorem uni_swap {k y : Nat} {t : Ty} (ht : t.con = true) : uni (k + 1) t (.var y) = uni k (.var y) t := by
  cases t <;> (try cases ht) <;> rfl

/-- What has been found out is d. -/
structure DSame (G : GH) (A : GV) (n : Nat) (w : World) (d : Dl) (w' : World) : Prop where
  keep : Keep (isV A) w w'
  inv : TInv G A w' n
  tr : ∀ v t, TR G A w v t → TR G A w' v (app d t)
theorem Same.d {G : GH} {A : GV} {n : Nat} {w w' : World} (h : Same G A n w w') : DSame G A n w [] w' := ⟨h.keep, h.inv, h.tr⟩
theorem DSame.trans {G : GH} {A : GV} {n : Nat} {a b c : World} {d e : Dl} (h : DSame G A n a d b) (k : DSame G A n b e c) : DSame G A n a (d ++ e) c :=
  ⟨h.keep.trans k.keep, k.inv, fun v t r => by rw [app_append]; exact k.tr _ _ (h.tr _ _ r)⟩
theorem DSame.trs {G : GH} {A : GV} {n : Nat} {w w' : World} {d : Dl} (h : DSame G A n w d w') : ∀ {vs : List Value} {ts : List Ty}, TRs G A w vs ts → TRs G A w' vs (ts.map (app d))
  | _, _, .nil => .nil
  | _, _, .cons a b => .cons (h.tr _ _ a) (h.trs b)
theorem Same.then {G : GH} {A : GV} {n : Nat} {a b c : World} {d : Dl} (h : Same G A n a b) (k : DSame G A n b d c) : DSame G A n a d c := h.d.trans k
theorem DSame.then {G : GH} {A : GV} {n : Nat} {a b c : World} {d : Dl} (h : DSame G A n a d b) (k : Same G A n b c) : DSame G A n a d c := by
  have := h.trans k.d; rwa [List.append_nil] at this
/-- A variable bound. -/
theorem DSame.bind {G : GH} {A : GV} {w : World} {n N b : Nat} {nm : Str} {u : Value} {s : Ty} (hi : TInv G A w n) (hN : A N = some (b, nm)) (hb : w.heap[b]? = some (varObj N .nilIface nm)) (hu : TR G A w u s) (hs : s.has N = false) : DSame G A n w [(N, s)] (w.setCell ⟨b, 1, none⟩ u) :=
  ⟨set_keep hN u, set_inv hi hN hb u, fun v t r => bind_all hi hN hb hu hs r⟩

def UniPost (G : GH) (A : GV) (n : Nat) (w : World) (r : Option Dl) (e : Ending) (w' : World) : Prop :=
  match r with
  | some d => e = .returned (.bool true) ∧ DSame G A n w d w'
  | none => e = .returned (.bool false) ∧ Keep (isV A) w w' ∧ TInv G A w' n
theorem UniPost.after {G : GH} {A : GV} {n : Nat} {w w1 : World} {r : Option Dl} {e : Ending} {w' : World} (h : Same G A n w w1) (k : UniPost G A n w1 r e w') : UniPost G A n w r e w' := by
  cases r with
  | some d => exact ⟨k.1, h.then k.2⟩
  | none => exact ⟨k.1, h.keep.trans k.2.1, k.2.2⟩
theorem UniPost.afterD {G : GH} {A : GV} {n : Nat} {w w1 : World} {d : Dl} {r : Option Dl} {e : Ending} {w' : World} (h : DSame G A n w d w1) (k : UniPost G A n w1 r e w') : UniPost G A n w (r.map (d ++ ·)) e w' := by
  cases r with
  | some d => exact ⟨k.1, h.trans k.2⟩
  | none => exact ⟨k.1, h.keep.trans k.2.1, k.2.2⟩
theorem UniPost.shape {G : GH} {A : GV} {n : Nat} {w : World} {r : Option Dl} {e : Ending} {w' : World} (h : UniPost G A n w r e w') : e = .returned (.bool r.isSome) := by
  cases r with
  | some d => exact h.1
  | none => exact h.1
def UniOk (k : Nat) : Prop := ∀ (G : GH) (A : GV) (w : World) (n : Nat) (va vb : Value) (a b : Ty) (r : Option Dl), TInv G A w n → TR G A w va a → TR G A w vb b → uni k a b = some r → Calls Tryz.prog 185 #[va, vb] w (UniPost G A n w r)
end Go.Proofs.YtabikmkoajdhmaaGreatDoor

/- types.Unify and types.same by contracts. -/
namespace Go.Proofs.YtabikmkoajdhmaaGreatDoor
open Go.RowKit

/-- A constructor's block. -/
structure ConR (G : GH) (A : GV) (w : World) (b : Nat) (t : Ty) (lv : Value) (vs : List Value) : Prop where
  con : t.con = true
  blk : G b = some (.cells #[.string (bs t.kind), lv] 169)
  sl : SlR G lv vs
  trs : TRs G A w vs t.args

def SameOk (k : Nat) : Prop := ∀ (G : GH) (A : GV) (w : World) (n : Nat) (b c : Nat) (t u : Ty) (lv mv : Value) (vs us : List Value) (r : Option Dl), TInv G A w n → ConR G A w b t lv vs → ConR G A w c u mv us → (if t.kind = u.kind then uniL (uni k) t.args u.args else some none) = some r →
  Calls Tryz.prog 194 #[.pointer (some ⟨b, 0, none⟩), .pointer (some ⟨c, 0, none⟩)] w (UniPost G A n w r)

theorem str_eq2 (a b : Str) : ((bs a).toList == (bs b).toList) = decide (a = b) := by
  have e : (bs b).toList = b := by rw [ByteArray.toList_eq]; exact bs_toList b
  rw [e, str_is]
theorem drop_cons {α : Type} {l : List α} {j : Nat} (h : j < l.length) : l.drop j = l[j] :: l.drop (j + 1) := by rw [List.drop_eq_getElem_cons h]
theorem Ty.kind_args {t u : Ty} (ht : t.con = true) (hu : u.con = true) (h : t.kind = u.kind) : t.args.length = u.args.length := by
  cases t <;> cases u <;> simp_all [Ty.con, Ty.kind, Ty.args, INT, BOOL, sList, sPair, sFun]

set_option maxRecDepth 100000 in
set_option maxHeartbeats 4000000 in
theorem same_step (k : Nat) (ih : UniOk k) : SameOk k := by
  intro G A w n b c t u lv mv vs us r hi hb hc hr
  have hK : ∀ w', Holds G w' → w'.cell? ⟨b, 0, none⟩ = some (.string (bs t.kind)) ∧ w'.cell? ⟨c, 0, none⟩ = some (.string (bs u.kind)) := fun w' h => ⟨cell_of_heap (h _ _ hb.blk) rfl, cell_of_heap (h _ _ hc.blk) rfl⟩
  have hL : ∀ w', Holds G w' → w'.cell? ⟨b, 1, none⟩ = some lv ∧ w'.cell? ⟨c, 1, none⟩ = some mv := fun w' h => ⟨cell_of_heap (h _ _ hb.blk) rfl, cell_of_heap (h _ _ hc.blk) rfl⟩
  obtain ⟨ab, cab, rfl, hcb⟩ := hb.sl.shp
  obtain ⟨ac, cac, rfl, hcc⟩ := hc.sl.shp
  have IH := Lib.hid ih; have HI := Lib.hid hi; have HR := Lib.hid hr; have HB := Lib.hid hb; have HC := Lib.hid hc; have HL := Lib.hid hL; have HCB := Lib.hid hcb; have HCC := Lib.hid hcc
  have S0 := hK w.drew (hi.holds.keep0 (Keep.drew _ _))
  have S1 : Same G A n w w.drew := Same.of0 hi (Keep.drew _ _)
  have HS1 := Lib.hid S1
  obtain ⟨c1, c2⟩ := hL w.drew (hi.holds.keep0 (Keep.drew _ _))
  clear ih hi hr hb hc hL hcb hcc S1 hK
  go_enter Tryz.func194, Tryz.ntmps194
  go_wp2_with fail
  by_cases hk : t.kind = u.kind
  · have q1 : ((bs t.kind).toList == (bs u.kind).toList) = true := by rw [str_eq2]; simp [hk]
    have HKK := Lib.hid hk; clear hk
    refine wp_region_float (fun w' => w'.cell? ⟨b, 0, none⟩ = some (.string (bs t.kind)) ∧ w'.cell? ⟨c, 0, none⟩ = some (.string (bs u.kind))) [0, 1, 2, 4, 5, 6, 8] [3, 7] (by kernel_rfl) ?_
    (refine float0 (i := 0) (v := ?_) rfl (by kernel_rfl) (by kernel_rfl) (by kernel_rfl) (by kernel_rfl) (fun _ _ _ h => h) (by rfl) ?_ ?_); rotate_left
    (intro wF; go_simp; try with_reducible rfl)
    (try simp only [Act.put, List.setIfInBounds_toArray, List.set_cons_zero, List.set_cons_succ])
    (refine float0 (i := 1) (v := ?_) rfl (by kernel_rfl) (by kernel_rfl) (by kernel_rfl) (by kernel_rfl) (fun _ _ _ h => h) (by rfl) ?_ ?_); rotate_left
    (intro wF; go_simp; try with_reducible rfl)
    (try simp only [Act.put, List.setIfInBounds_toArray, List.set_cons_zero, List.set_cons_succ])
    (refine float0 (i := 2) (v := ?_) rfl (by kernel_rfl) (by kernel_rfl) (by kernel_rfl) (by kernel_rfl) (fun _ _ _ h => h) (by rfl) ?_ ?_); rotate_left
    (intro wF; go_simp; try with_reducible rfl)
    (try simp only [Act.put, List.setIfInBounds_toArray, List.set_cons_zero, List.set_cons_succ])
    (refine floatS (i := 3) (v := ?_) rfl (by kernel_rfl) (by kernel_rfl) (by kernel_rfl) (by kernel_rfl) (fun _ _ _ h => h) (by assumption) (by rfl) ?_ ?_); rotate_left
    (intro wF hF; (try dsimp only at hF); go_simp; try with_reducible rfl)
    (try simp only [Act.put, List.setIfInBounds_toArray, List.set_cons_zero, List.set_cons_succ])
    (refine float0 (i := 4) (v := ?_) rfl (by kernel_rfl) (by kernel_rfl) (by kernel_rfl) (by kernel_rfl) (fun _ _ _ h => h) (by rfl) ?_ ?_); rotate_left
    (intro wF; go_simp; try with_reducible rfl)
    (try simp only [Act.put, List.setIfInBounds_toArray, List.set_cons_zero, List.set_cons_succ])
    (refine float0 (i := 5) (v := ?_) rfl (by kernel_rfl) (by kernel_rfl) (by kernel_rfl) (by kernel_rfl) (fun _ _ _ h => h) (by rfl) ?_ ?_); rotate_left
    (intro wF; go_simp; try with_reducible rfl)
    (try simp only [Act.put, List.setIfInBounds_toArray, List.set_cons_zero, List.set_cons_succ])
    (refine float0 (i := 6) (v := ?_) rfl (by kernel_rfl) (by kernel_rfl) (by kernel_rfl) (by kernel_rfl) (fun _ _ _ h => h) (by rfl) ?_ ?_); rotate_left
    (intro wF; go_simp; try with_reducible rfl)
    (try simp only [Act.put, List.setIfInBounds_toArray, List.set_cons_zero, List.set_cons_succ])
    (refine floatS (i := 7) (v := ?_) rfl (by kernel_rfl) (by kernel_rfl) (by kernel_rfl) (by kernel_rfl) (fun _ _ _ h => h) (by assumption) (by rfl) ?_ ?_); rotate_left
    (intro wF hF; (try dsimp only at hF); go_simp; try with_reducible rfl)
    (try simp only [Act.put, List.setIfInBounds_toArray, List.set_cons_zero, List.set_cons_succ])
    (refine float0 (i := 8) (v := ?_) rfl (by kernel_rfl) (by kernel_rfl) (by kernel_rfl) (by kernel_rfl) (fun _ _ _ h => h) (by rfl) ?_ ?_); rotate_left
    (intro wF; go_simp; try with_reducible rfl)
    (try simp only [Act.put, List.setIfInBounds_toArray, List.set_cons_zero, List.set_cons_succ])
    (refine floatE (by kernel_rfl) ?_)
    go_wp2_with fail
    clear S0 q1
    have hr := HR.out
    rw [if_pos HKK.out] at hr
    have hvl : vs.length = t.args.length := HB.out.trs.len
    have hul : us.length = t.args.length := by rw [HC.out.trs.len]; exact (Ty.kind_args HB.out.con HC.out.con HKK.out).symm
    have hau : u.args.length = t.args.length := (Ty.kind_args HB.out.con HC.out.con HKK.out).symm
    have hv2 : vs.length ≤ 2 := by have := Ty.args_len (t := t); omega
    have HVL := Lib.hid hvl; have HUL := Lib.hid hul; have HAU := Lib.hid hau
    have h0 : uniL (uni k) ((t.args.map (app [])).drop 0) ((u.args.map (app [])).drop 0) = some r := by
      have e : (app [] : Ty → Ty) = id := rfl
      rw [e, List.map_id, List.map_id]; exact hr
    have H0 := Lib.hid h0
    clear hr h0 hvl hul hau
    go_loopg [20] vs.length (fun gn s20 wr => ∃ (j : Nat) (d : Dl) (r1 : Option Dl), j ≤ vs.length ∧ Hid (gn = vs.length - j) ∧ s20 = .int .i64 j ∧ Hid (DSame G A n w d wr) ∧ Hid (uniL (uni k) ((t.args.map (app d)).drop j) ((u.args.map (app d)).drop j) = some r1) ∧ Hid (r = r1.map (d ++ ·)))
    case atStart => exact ⟨0, [], r, by omega, Lib.hid rfl, rfl, Lib.hid HS1.out.d, H0, Lib.hid (by cases r <;> rfl)⟩
    case round =>
      obtain ⟨j, d, r1, hj, HM2, rfl, HD, HU, HRR⟩ := hrel
      have hjj : (0 : Int) ≤ (j : Int) := by omega
      by_cases hlt : j < vs.length
      · have hlt1 : j < t.args.length := by have := HVL.out; omega
        have hlt2 : j < u.args.length := by have := HVL.out; have := HAU.out; omega
        have hlt3 : j < us.length := by have := HVL.out; have := HUL.out; omega
        obtain ⟨b2, rfl, cj⟩ := HCB.out wr HD.out.inv.holds j vs[j] (by simp [hlt])
        obtain ⟨c3, rfl, cj'⟩ := HCC.out wr HD.out.inv.holds j us[j] (by simp [hlt3])
        have hxa := (HD.out.trs HB.out.trs).get j hlt (by simpa using hlt1)
        have hxb := (HD.out.trs HC.out.trs).get j hlt3 (by simpa using hlt2)
        obtain ⟨Ta, ba, ea⟩ := hxa.iface
        obtain ⟨Tb, bb, eb⟩ := hxb.iface
        have HCA := Lib.hid (fun w' (h : Holds G w') => by
          have := HCB.out w' h j vs[j] (by simp [hlt])
          obtain ⟨b9, e9, g9⟩ := this
          injection e9 with e9; injection e9 with e9
          subst e9
          rw [ea] at g9; exact g9 : ∀ w', Holds G w' → w'.cell? ⟨b2, j, none⟩ = some (.iface Ta (.pointer (some ⟨ba, 0, none⟩))))
        have HCA' := Lib.hid (fun w' (h : Holds G w') => by
          have := HCC.out w' h j us[j] (by simp [hlt3])
          obtain ⟨b9, e9, g9⟩ := this
          injection e9 with e9; injection e9 with e9
          subst e9
          rw [eb] at g9; exact g9 : ∀ w', Holds G w' → w'.cell? ⟨c3, j, none⟩ = some (.iface Tb (.pointer (some ⟨bb, 0, none⟩))))
        rw [ea] at hxa; rw [eb] at hxb
        have HXA := Lib.hid hxa; have HXB := Lib.hid hxb
        have hd := HD.out
        have hwd : Same G A n wr wr.drew := Same.of0 hd.inv (Keep.drew _ _)
        have hlu : us.length = vs.length := by have := HVL.out; have := HUL.out; omega
        rw [hlu] at HL
        have S0 : wr.drew.cell? ⟨b, 1, none⟩ = some (.slice (some ⟨b2, 0, none⟩) vs.length cab) ∧ wr.drew.cell? ⟨b2, j, none⟩ = some (.iface Ta (.pointer (some ⟨ba, 0, none⟩))) ∧ wr.drew.cell? ⟨c, 1, none⟩ = some (.slice (some ⟨c3, 0, none⟩) vs.length cac) ∧ wr.drew.cell? ⟨c3, j, none⟩ = some (.iface Tb (.pointer (some ⟨bb, 0, none⟩))) := ⟨(HL.out _ hwd.inv.holds).1, HCA.out _ hwd.inv.holds, (HL.out _ hwd.inv.holds).2, HCA'.out _ hwd.inv.holds⟩
        have HWD := Lib.hid hwd
        have hji : ((j : Int) < (vs.length : Int)) := by omega
        clear hxa hxb ea eb cj cj' c1 c2 hd hwd hlu
        go_wp2_with fail
        have hu := HU.out
        rw [drop_cons (l := t.args.map (app d)) (by simpa using hlt1), drop_cons (l := u.args.map (app d)) (by simpa using hlt2), uniL_cons] at hu
        have hHS : Hid (∀ w', Holds G w' → w'.cell? ⟨b, 1, none⟩ = some (.slice (some ⟨b2, 0, none⟩) vs.length cab) ∧ w'.cell? ⟨b2, j, none⟩ = some (.iface Ta (.pointer (some ⟨ba, 0, none⟩))) ∧ w'.cell? ⟨c, 1, none⟩ = some (.slice (some ⟨c3, 0, none⟩) vs.length cac) ∧ w'.cell? ⟨c3, j, none⟩ = some (.iface Tb (.pointer (some ⟨bb, 0, none⟩)))) := Lib.hid (fun w' h => ⟨(HL.out _ h).1, HCA.out _ h, (HL.out _ h).2, HCA'.out _ h⟩)
        cases hun : uni k ((t.args.map (app d))[j]'(by simpa using hlt1)) ((u.args.map (app d))[j]'(by simpa using hlt2)) with
        | none => rw [hun] at hu; cases hu
        | some ra =>
          rw [hun] at hu
          have HUU := Lib.hid hu
          have hcall := IH.out G A wr.drew n _ _ _ _ ra HWD.out.inv (HWD.out.tr _ _ HXA.out) (HWD.out.tr _ _ HXB.out) hun
          have HCALL := Lib.hid hcall
          clear hu hun hcall
          refine wp_region_float (fun w' => w'.cell? ⟨b, 1, none⟩ = some (.slice (some ⟨b2, 0, none⟩) vs.length cab) ∧ w'.cell? ⟨b2, j, none⟩ = some (.iface Ta (.pointer (some ⟨ba, 0, none⟩))) ∧ w'.cell? ⟨c, 1, none⟩ = some (.slice (some ⟨c3, 0, none⟩) vs.length cac) ∧ w'.cell? ⟨c3, j, none⟩ = some (.iface Tb (.pointer (some ⟨bb, 0, none⟩)))) [0, 1, 2, 4, 5, 7, 8, 9, 11, 12, 15] [3, 6, 10, 13] (by kernel_rfl) ?_
          (refine float0 (i := 0) (v := ?_) rfl (by kernel_rfl) (by kernel_rfl) (by kernel_rfl) (by kernel_rfl) (fun _ _ _ h => h) (by rfl) ?_ ?_); rotate_left
          (intro wF; go_simp; try with_reducible rfl)
          (try simp only [Act.put, List.setIfInBounds_toArray, List.set_cons_zero, List.set_cons_succ])
          (refine float0 (i := 1) (v := ?_) rfl (by kernel_rfl) (by kernel_rfl) (by kernel_rfl) (by kernel_rfl) (fun _ _ _ h => h) (by rfl) ?_ ?_); rotate_left
          (intro wF; go_simp; try with_reducible rfl)
          (try simp only [Act.put, List.setIfInBounds_toArray, List.set_cons_zero, List.set_cons_succ])
          (refine float0 (i := 2) (v := ?_) rfl (by kernel_rfl) (by kernel_rfl) (by kernel_rfl) (by kernel_rfl) (fun _ _ _ h => h) (by rfl) ?_ ?_); rotate_left
          (intro wF; go_simp; try with_reducible rfl)
          (try simp only [Act.put, List.setIfInBounds_toArray, List.set_cons_zero, List.set_cons_succ])
          (refine floatS (i := 3) (v := ?_) rfl (by kernel_rfl) (by kernel_rfl) (by kernel_rfl) (by kernel_rfl) (fun _ _ _ h => h) (by assumption) (by rfl) ?_ ?_); rotate_left
          (intro wF hF; (try dsimp only at hF); go_simp; try with_reducible rfl)
          (try simp only [Act.put, List.setIfInBounds_toArray, List.set_cons_zero, List.set_cons_succ])
          (refine float0 (i := 4) (v := ?_) rfl (by kernel_rfl) (by kernel_rfl) (by kernel_rfl) (by kernel_rfl) (fun _ _ _ h => h) (by rfl) ?_ ?_); rotate_left
          (intro wF; go_simp; try with_reducible rfl)
          (try simp only [Act.put, List.setIfInBounds_toArray, List.set_cons_zero, List.set_cons_succ])
          (refine float0 (i := 5) (v := ?_) rfl (by kernel_rfl) (by kernel_rfl) (by kernel_rfl) (by kernel_rfl) (fun _ _ _ h => h) (by rfl) ?_ ?_); rotate_left
          (intro wF; go_simp; try with_reducible rfl)
          (try simp only [Act.put, List.setIfInBounds_toArray, List.set_cons_zero, List.set_cons_succ])
          (refine floatS (i := 6) (v := ?_) rfl (by kernel_rfl) (by kernel_rfl) (by kernel_rfl) (by kernel_rfl) (fun _ _ _ h => h) (by assumption) (by rfl) ?_ ?_); rotate_left
          (intro wF hF; (try dsimp only at hF); go_simp; try with_reducible rfl)
          (try simp only [Act.put, List.setIfInBounds_toArray, List.set_cons_zero, List.set_cons_succ])
          (refine float0 (i := 7) (v := ?_) rfl (by kernel_rfl) (by kernel_rfl) (by kernel_rfl) (by kernel_rfl) (fun _ _ _ h => h) (by rfl) ?_ ?_); rotate_left
          (intro wF; go_simp; try with_reducible rfl)
          (try simp only [Act.put, List.setIfInBounds_toArray, List.set_cons_zero, List.set_cons_succ])
          (refine float0 (i := 8) (v := ?_) rfl (by kernel_rfl) (by kernel_rfl) (by kernel_rfl) (by kernel_rfl) (fun _ _ _ h => h) (by rfl) ?_ ?_); rotate_left
          (intro wF; go_simp; try with_reducible rfl)
          (try simp only [Act.put, List.setIfInBounds_toArray, List.set_cons_zero, List.set_cons_succ])
          (refine float0 (i := 9) (v := ?_) rfl (by kernel_rfl) (by kernel_rfl) (by kernel_rfl) (by kernel_rfl) (fun _ _ _ h => h) (by rfl) ?_ ?_); rotate_left
          (intro wF; go_simp; try with_reducible rfl)
          (try simp only [Act.put, List.setIfInBounds_toArray, List.set_cons_zero, List.set_cons_succ])
          (refine floatS (i := 10) (v := ?_) rfl (by kernel_rfl) (by kernel_rfl) (by kernel_rfl) (by kernel_rfl) (fun _ _ _ h => h) (by assumption) (by rfl) ?_ ?_); rotate_left
          (intro wF hF; (try dsimp only at hF); go_simp; try with_reducible rfl)
          (try simp only [Act.put, List.setIfInBounds_toArray, List.set_cons_zero, List.set_cons_succ])
          (refine float0 (i := 11) (v := ?_) rfl (by kernel_rfl) (by kernel_rfl) (by kernel_rfl) (by kernel_rfl) (fun _ _ _ h => h) (by rfl) ?_ ?_); rotate_left
          (intro wF; go_simp; try with_reducible rfl)
          (try simp only [Act.put, List.setIfInBounds_toArray, List.set_cons_zero, List.set_cons_succ])
          (refine float0 (i := 12) (v := ?_) rfl (by kernel_rfl) (by kernel_rfl) (by kernel_rfl) (by kernel_rfl) (fun _ _ _ h => h) (by rfl) ?_ ?_); rotate_left
          (intro wF; go_simp; try with_reducible rfl)
          (try simp only [Act.put, List.setIfInBounds_toArray, List.set_cons_zero, List.set_cons_succ])
          (refine floatS (i := 13) (v := ?_) rfl (by kernel_rfl) (by kernel_rfl) (by kernel_rfl) (by kernel_rfl) (fun _ _ _ h => h) (by assumption) (by rfl) ?_ ?_); rotate_left
          (intro wF hF; (try dsimp only at hF); go_simp; try with_reducible rfl)
          (try simp only [Act.put, List.setIfInBounds_toArray, List.set_cons_zero, List.set_cons_succ])
          (refine floatM (i := 14) rfl (by kernel_rfl) (by kernel_rfl) (fun K hK => ?_)); go_simp
          refine HCALL.out.mono ?_
          cases ra with
          | none =>
            rintro e w2 ⟨rfl, k2, i2⟩
            have hu := HUU.out; simp only at hu
            go_wp2_with fail
            refine hK.out _ _ (fun _ => hHS.out _ i2.holds) ?_
            clear hK K
            (try simp only [Act.put, List.setIfInBounds_toArray, List.set_cons_zero, List.set_cons_succ])
            (refine float0 (i := 15) (v := ?_) rfl (by kernel_rfl) (by kernel_rfl) (by kernel_rfl) (by kernel_rfl) (fun _ _ _ h => h) (by rfl) ?_ ?_); rotate_left
            (intro wF; go_simp; try with_reducible rfl)
            (try simp only [Act.put, List.setIfInBounds_toArray, List.set_cons_zero, List.set_cons_succ])
            (refine floatE (by kernel_rfl) ?_)
            go_wp2_with fail
            go_ret
            have hr := HRR.out
            injection hu with hu
            subst hu
            subst hr
            exact ⟨rfl, HD.out.keep.trans ((HWD.out.keep).trans k2), i2⟩
          | some e1 =>
            rintro e w2 ⟨rfl, d2⟩
            have hu := HUU.out; simp only at hu
            have HD2 := Lib.hid ((HD.out.then HWD.out).trans d2)
            have hh2 := d2.inv.holds
            clear d2
            go_wp2_with fail
            refine hK.out _ _ (fun _ => hHS.out _ hh2) ?_
            clear hK K
            (try simp only [Act.put, List.setIfInBounds_toArray, List.set_cons_zero, List.set_cons_succ])
            (refine float0 (i := 15) (v := ?_) rfl (by kernel_rfl) (by kernel_rfl) (by kernel_rfl) (by kernel_rfl) (fun _ _ _ h => h) (by rfl) ?_ ?_); rotate_left
            (intro wF; go_simp; try with_reducible rfl)
            (try simp only [Act.put, List.setIfInBounds_toArray, List.set_cons_zero, List.set_cons_succ])
            (refine floatE (by kernel_rfl) ?_)
            go_wp2_with fail
            cases hu2 : uniL (uni k) (((t.args.map (app d)).drop (j + 1)).map (app e1)) (((u.args.map (app d)).drop (j + 1)).map (app e1)) with
            | none => rw [hu2] at hu; cases hu
            | some r2 =>
              rw [hu2] at hu
              have hmd : ∀ l : List Ty, ((l.map (app d)).drop (j + 1)).map (app e1) = (l.map (app (d ++ e1))).drop (j + 1) := fun l => by
                rw [List.map_drop, List.map_map]
                congr 2
                funext x
                simp [app_append]
              rw [hmd, hmd] at hu2
              have e3 : r = r2.map ((d ++ e1) ++ ·) := by
                rw [HRR.out]
                cases r2 with
                | none => simp only at hu; injection hu with hu; subst hu; rfl
                | some x => simp only at hu; injection hu with hu; subst hu; simp
              have HU2 := Lib.hid hu2; have HE3 := Lib.hid e3
              clear hu hu2 hmd e3
              go_roundg (vs.length - (j + 1))
              case measure => have := HM2.out; omega
              case rel => exact ⟨j + 1, d ++ e1, r2, by omega, Lib.hid rfl, by go_num, HD2, HU2, HE3⟩
      · have hje : j = vs.length := by omega
        subst hje
        go_wp2_with fail
        go_ret
        have hu := HU.out
        have e1 : (t.args.map (app d)).drop vs.length = [] := by rw [HVL.out]; simp
        rw [e1, uniL_nil] at hu
        injection hu with hu
        have hr := HRR.out
        rw [← hu] at hr
        simp only [Option.map_some, List.append_nil] at hr
        subst hr
        exact ⟨rfl, HD.out⟩
  · have q1 : ((bs t.kind).toList == (bs u.kind).toList) = false := by rw [str_eq2]; simp [hk]
    have hr := HR.out
    rw [if_neg hk] at hr
    have HRR := Lib.hid hr; clear hr hk
    refine wp_region_float (fun w' => w'.cell? ⟨b, 0, none⟩ = some (.string (bs t.kind)) ∧ w'.cell? ⟨c, 0, none⟩ = some (.string (bs u.kind))) [0, 1, 2, 4, 5, 6, 8] [3, 7] (by kernel_rfl) ?_
    (refine float0 (i := 0) (v := ?_) rfl (by kernel_rfl) (by kernel_rfl) (by kernel_rfl) (by kernel_rfl) (fun _ _ _ h => h) (by rfl) ?_ ?_); rotate_left
    (intro wF; go_simp; try with_reducible rfl)
    (try simp only [Act.put, List.setIfInBounds_toArray, List.set_cons_zero, List.set_cons_succ])
    (refine float0 (i := 1) (v := ?_) rfl (by kernel_rfl) (by kernel_rfl) (by kernel_rfl) (by kernel_rfl) (fun _ _ _ h => h) (by rfl) ?_ ?_); rotate_left
    (intro wF; go_simp; try with_reducible rfl)
    (try simp only [Act.put, List.setIfInBounds_toArray, List.set_cons_zero, List.set_cons_succ])
    (refine float0 (i := 2) (v := ?_) rfl (by kernel_rfl) (by kernel_rfl) (by kernel_rfl) (by kernel_rfl) (fun _ _ _ h => h) (by rfl) ?_ ?_); rotate_left
    (intro wF; go_simp; try with_reducible rfl)
    (try simp only [Act.put, List.setIfInBounds_toArray, List.set_cons_zero, List.set_cons_succ])
    (refine floatS (i := 3) (v := ?_) rfl (by kernel_rfl) (by kernel_rfl) (by kernel_rfl) (by kernel_rfl) (fun _ _ _ h => h) (by assumption) (by rfl) ?_ ?_); rotate_left
    (intro wF hF; (try dsimp only at hF); go_simp; try with_reducible rfl)
    (try simp only [Act.put, List.setIfInBounds_toArray, List.set_cons_zero, List.set_cons_succ])
    (refine float0 (i := 4) (v := ?_) rfl (by kernel_rfl) (by kernel_rfl) (by kernel_rfl) (by kernel_rfl) (fun _ _ _ h => h) (by rfl) ?_ ?_); rotate_left
    (intro wF; go_simp; try with_reducible rfl)
    (try simp only [Act.put, List.setIfInBounds_toArray, List.set_cons_zero, List.set_cons_succ])
    (refine float0 (i := 5) (v := ?_) rfl (by kernel_rfl) (by kernel_rfl) (by kernel_rfl) (by kernel_rfl) (fun _ _ _ h => h) (by rfl) ?_ ?_); rotate_left
    (intro wF; go_simp; try with_reducible rfl)
    (try simp only [Act.put, List.setIfInBounds_toArray, List.set_cons_zero, List.set_cons_succ])
    (refine float0 (i := 6) (v := ?_) rfl (by kernel_rfl) (by kernel_rfl) (by kernel_rfl) (by kernel_rfl) (fun _ _ _ h => h) (by rfl) ?_ ?_); rotate_left
    (intro wF; go_simp; try with_reducible rfl)
    (try simp only [Act.put, List.setIfInBounds_toArray, List.set_cons_zero, List.set_cons_succ])
    (refine floatS (i := 7) (v := ?_) rfl (by kernel_rfl) (by kernel_rfl) (by kernel_rfl) (by kernel_rfl) (fun _ _ _ h => h) (by assumption) (by rfl) ?_ ?_); rotate_left
    (intro wF hF; (try dsimp only at hF); go_simp; try with_reducible rfl)
    (try simp only [Act.put, List.setIfInBounds_toArray, List.set_cons_zero, List.set_cons_succ])
    (refine float0 (i := 8) (v := ?_) rfl (by kernel_rfl) (by kernel_rfl) (by kernel_rfl) (by kernel_rfl) (fun _ _ _ h => h) (by rfl) ?_ ?_); rotate_left
    (intro wF; go_simp; try with_reducible rfl)
    (try simp only [Act.put, List.setIfInBounds_toArray, List.set_cons_zero, List.set_cons_succ])
    (refine floatE (by kernel_rfl) ?_)
    go_wp2_with fail
    go_ret
    have hr := HRR.out
    injection hr with hr
    subst hr
    exact ⟨rfl, HS1.out.keep, HS1.out.inv⟩
end Go.Proofs.YtabikmkoajdhmaaGreatDoor
