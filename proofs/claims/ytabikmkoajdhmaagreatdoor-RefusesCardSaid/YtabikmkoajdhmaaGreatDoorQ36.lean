/- (*engine).rec: its state between rounds; plain lemmas. -/
import Derived.Test.YtabikmkoajdhmaaGreatDoorQ34
import Derived.Laws.EntriesVeiled
import Derived.Test.YtabikmkoajdhmaaGreatDoorQ37
import Derived.Test.YtabikmkoajdhmaaGreatDoorQ26
import Derived.Laws.MakeOwn
set_option linter.unusedVariables false
set_option linter.unusedSimpArgs false
namespace Go.Proofs.YtabikmkoajdhmaaGreatDoor
open Go.RowKit

/-- No watcher. -/
structure SurNil (u : Sur) : Prop where
  each : u.each = .nilFunc
  stop : u.stop = 0
  rw : ∀ l w, u.RW l w
  fuel : u.fuel ≤ 1000
/-- The same surroundings, a narrower frame. -/
def Sur.narrow (u : Sur) (P : Nat → Prop) : Sur := { u with P := P }
theorem SurOk.narrow {u : Sur} (h : SurOk u) {P : Nat → Prop} (hP : ∀ b, P b → u.P b) : SurOk (u.narrow P) :=
  ⟨h.stable, fun s k => h.sents s (k.mono (fun i _ x => hP i x))⟩
theorem ExtP.mono {P Q : Nat → Prop} {G G' : GH} {A A' : GV} {w w' : World} {d : Dl} (h : ExtP P G A w d G' A' w') (hP : ∀ b, P b → Q b) : ExtP Q G A w d G' A' w' := ⟨h.keep.mono (fun i _ x => hP i x), h.g, h.a, h.tr⟩
theorem Ext.tp {cb : Nat} {G G' : GH} {A A' : GV} {w w' : World} {d : Dl} (h : Ext cb G A w d G' A' w') : ExtP (touch cb A) G A w d G' A' w' := ⟨h.keep, h.g, h.a, h.tr⟩
theorem envApp_append (d e : Dl) (env : Env) : envApp (d ++ e) env = envApp e (envApp d env) := by
  simp only [envApp, List.map_map]
  refine List.map_congr_left (fun p _ => ?_)
  simp only [Function.comp, Sch.app, app_append]

/-- The state of rec: what has been found out since it was called (d), the schemes of the round. -/
structure RcSt (u : Sur) (G : GH) (A : GV) (w : World) (G4 : GH) (B : Nat) (sv : Value) (schs : List Sch) (d : Dl) (n1 : Nat) (G1 : GH) (A1 : GV) (w1 : World) : Prop where
  x : ExtP u.P G A w d G1 A1 w1
  ei : EI u.cb G1 A1 w1 n1
  sub : G4.sub G1
  bx : w1.heap[B]? = some (.cells #[sv] 340)
  og : G1 B = none
  ov : ¬ isV A1 B
  cb : u.cb ≠ B
  ss : SchSl G1 A1 w1 sv schs
theorem RcSt.ext {u : Sur} {G G4 G1 G2 : GH} {A A1 A2 : GV} {w w1 w2 : World} {B n1 n2 : Nat} {sv : Value} {schs : List Sch} {d dx : Dl} {P : Nat → Prop} (h : RcSt u G A w G4 B sv schs d n1 G1 A1 w1) (x : ExtP P G1 A1 w1 dx G2 A2 w2) (hP : ∀ b, P b → u.P b) (hB : ¬ P B) (ei : EI u.cb G2 A2 w2 n2) :
    RcSt u G A w G4 B sv (schs.map (Sch.app dx)) (d ++ dx) n2 G2 A2 w2 := by
  have hlt := lt_of_heap h.bx
  exact ⟨h.x.trans (x.mono hP), ei, h.sub.trans x.g.sub, x.keep.get h.bx hB, x.g.sz hlt h.og, x.a.isV hlt h.ov, h.cb, h.ss.map x.g.sub x.tr⟩
theorem map_app_nil (l : List Sch) : l.map (Sch.app []) = l := by
  have : Sch.app [] = id := funext fun s => rfl
  rw [this, List.map_id]
theorem RcSt.ext0 {u : Sur} {G G4 G1 G2 : GH} {A A1 A2 : GV} {w w1 w2 : World} {B n1 n2 : Nat} {sv : Value} {schs : List Sch} {d : Dl} {P : Nat → Prop} (h : RcSt u G A w G4 B sv schs d n1 G1 A1 w1) (x : ExtP P G1 A1 w1 [] G2 A2 w2) (hP : ∀ b, P b → u.P b) (hB : ¬ P B) (ei : EI u.cb G2 A2 w2 n2) :
    RcSt u G A w G4 B sv schs d n2 G2 A2 w2 := by
  have := h.ext x hP hB ei
  rwa [map_app_nil, List.append_nil] at this
theorem RcSt.po {u : Sur} {G G4 G1 : GH} {A A1 : GV} {w w1 : World} {B n1 : Nat} {sv : Value} {schs : List Sch} {d : Dl} (h : RcSt u G A w G4 B sv schs d n1 G1 A1 w1) (hp : PO u.P u.cb A w) : PO u.P u.cb A1 w1 := hp.up h.x
theorem RcSt.off {u : Sur} {G G4 G1 : GH} {A A1 : GV} {w w1 : World} {B n1 : Nat} {sv : Value} {schs : List Sch} {d : Dl} (h : RcSt u G A w G4 B sv schs d n1 G1 A1 w1) : ¬ touch u.cb A1 B := fun e => by
  rcases e with e | e
  · exact h.cb e.symm
  · exact h.ov e
/-- A step that finds out nothing and touches the engine's blocks alone. -/
theorem RcSt.step {u : Sur} {G G4 G1 G2 : GH} {A A1 A2 : GV} {w w1 w2 : World} {B n1 n2 : Nat} {sv : Value} {schs : List Sch} {d : Dl} (h : RcSt u G A w G4 B sv schs d n1 G1 A1 w1) (hp : PO u.P u.cb A w) (x : Ext u.cb G1 A1 w1 [] G2 A2 w2) (ei : EI u.cb G2 A2 w2 n2) :
    RcSt u G A w G4 B sv schs d n2 G2 A2 w2 := h.ext0 x.tp (h.po hp).t h.off ei

theorem Bs.names_len : ∀ b : Bs, b.names.length = b.exprs.length
  | .nil => rfl
  | .cons _ _ r => by simp [Bs.names, Bs.exprs, r.names_len]
theorem sch_app_append (d e : Dl) (l : List Sch) : (l.map (Sch.app d)).map (Sch.app e) = l.map (Sch.app (d ++ e)) := by
  rw [List.map_map]
  refine List.map_congr_left (fun s _ => ?_)
  simp only [Function.comp, Sch.app, app_append]
theorem TRs.mapD {G G' : GH} {A A' : GV} {w w' : World} {d : Dl} (h : ∀ v t, TR G A w v t → TR G' A' w' v (app d t)) : ∀ {vs : List Value} {ts : List Ty}, TRs G A w vs ts → TRs G' A' w' vs (ts.map (app d))
  | _, _, .nil => .nil
  | _, _, .cons a b => .cons (h _ _ a) (b.mapD h)
theorem TRs.ofG {G G' : GH} {A A' : GV} {w w' : World} (h : ∀ v t, TR G A w v t → TR G' A' w' v t) : ∀ {vs : List Value} {ts : List Ty}, TRs G A w vs ts → TRs G' A' w' vs ts
  | _, _, .nil => .nil
  | _, _, .cons a b => .cons (h _ _ a) (b.ofG h)
theorem all_take {α : Type} (p : α → Bool) (l : List α) (j : Nat) (h : j < l.length) : (l.take (j + 1)).all p = ((l.take j).all p && p l[j]) := by
  rw [List.take_succ_eq_append_getElem h, List.all_append]
  simp
/-- The box of the schemes is laid anew. -/
theorem RcSt.set {u : Sur} {G G4 G1 : GH} {A A1 : GV} {w w1 : World} {B n1 : Nat} {sv nsv : Value} {schs nschs : List Sch} {d : Dl} (h : RcSt u G A w G4 B sv schs d n1 G1 A1 w1) (hB : w.heap.size ≤ B) (hp : PO u.P u.cb A w) (hs : SchSl G1 A1 w1 nsv nschs) :
    RcSt u G A w G4 B nsv nschs d n1 G1 A1 (w1.setCell ⟨B, 0, none⟩ nsv) := by
  have k : Keep (one' B) w1 (w1.setCell ⟨B, 0, none⟩ nsv) := Keep.setCell (S := one' B) w1 (p := ⟨B, 0, none⟩) _ (fun _ => rfl)
  have hg : G1.off (one' B) := off_one h.og
  have hv : ∀ b, isV A1 b → ¬ one' B b := fun b hb (e : b = B) => h.ov (e ▸ hb)
  have tr : ∀ v t, TR G1 A1 w1 v t → TR G1 A1 (w1.setCell ⟨B, 0, none⟩ nsv) v t := fun v t r => r.keep h.ei.inv k hv
  exact ⟨⟨h.x.keep.trans' k (fun _ _ x => x) (fun i hi (e : i = B) => by omega), h.x.g, h.x.a, fun v t r => tr _ _ (h.x.tr v t r)⟩, ⟨h.ei.inv.keep k hg hv, k.get h.ei.cnt h.cb, h.ei.cg, h.ei.cv⟩, h.sub, heap_set_same (c := #[sv]) h.bx, h.og, h.ov, h.cb, hs.same (GH.sub.refl _) tr⟩
theorem SchAt.up {G G' : GH} {A A' : GV} {w w' : World} {arr : Array Value} {k : Nat} {s : Sch} (hG : G.sub G') (h : ∀ v t, TR G A w v t → TR G' A' w' v t) (r : SchAt G A w arr k s) : SchAt G' A' w' arr k s := by
  obtain ⟨tv, mv, a, b, c, e⟩ := r.ex
  exact ⟨tv, mv, a, b, h _ _ c, e.sub hG⟩
/-- An own block is written. -/
theorem RcSt.own {u : Sur} {G G4 G1 : GH} {A A1 : GV} {w w1 w2 : World} {B n1 : Nat} {sv : Value} {schs : List Sch} {d : Dl} {S : Nat → Prop} (h : RcSt u G A w G4 B sv schs d n1 G1 A1 w1) (hp : PO u.P u.cb A w) (k : Keep S w1 w2) (hS : ∀ g, S g → w.heap.size ≤ g ∧ G1 g = none ∧ ¬ isV A1 g ∧ g ≠ u.cb ∧ g ≠ B) :
    RcSt u G A w G4 B sv schs d n1 G1 A1 w2 ∧ ∀ v t, TR G1 A1 w1 v t → TR G1 A1 w2 v t := by
  have hg : G1.off S := fun b o hb hs => by rw [(hS b hs).2.1] at hb; cases hb
  have hv : ∀ b, isV A1 b → ¬ S b := fun b hb hs => (hS b hs).2.2.1 hb
  have tr : ∀ v t, TR G1 A1 w1 v t → TR G1 A1 w2 v t := fun v t r => r.keep h.ei.inv k hv
  refine ⟨h.ext0 ⟨k, Grew.refl _ _, GrewV.refl _ _, tr⟩ (fun b hb => hp.n b (hS b hb).1) (fun hb => (hS _ hb).2.2.2.2 rfl) ⟨h.ei.inv.keep k hg hv, k.get h.ei.cnt (fun hs => (hS _ hs).2.2.2.1 rfl), h.ei.cg, h.ei.cv⟩, tr⟩
/-- An own block is laid into the ghost heap. -/
theorem RcSt.stamp {u : Sur} {G G4 G1 G2 : GH} {A A1 : GV} {w w1 : World} {B n1 : Nat} {sv : Value} {schs : List Sch} {d : Dl} {S : Nat → Prop} (h : RcSt u G A w G4 B sv schs d n1 G1 A1 w1) (hs : G1.sub G2) (i : TInv G2 A1 w1 n1) (eq : ∀ b, ¬ S b → G2 b = G1 b) (hS : ∀ g, S g → w.heap.size ≤ g ∧ g ≠ u.cb ∧ g ≠ B) :
    RcSt u G A w G4 B sv schs d n1 G2 A1 w1 ∧ ∀ v t, TR G1 A1 w1 v t → TR G2 A1 w1 v t := by
  have tr : ∀ v t, TR G1 A1 w1 v t → TR G2 A1 w1 v t := fun v t r => r.mono hs (GV.sub.refl _) (fun _ _ _ _ => rfl)
  exact ⟨⟨⟨h.x.keep, ⟨h.x.g.sub.trans hs, fun b hb => (eq b (fun x => by have := (hS b x).1; omega)).trans (h.x.g.eq b hb)⟩, h.x.a, fun v t r => tr _ _ (h.x.tr v t r)⟩, ⟨i, h.ei.cnt, (eq _ (fun x => (hS _ x).2.1 rfl)).trans h.ei.cg, h.ei.cv⟩, h.sub.trans hs, h.bx, (eq _ (fun x => (hS _ x).2.2 rfl)).trans h.og, h.ov, h.cb, h.ss.same hs tr⟩, tr⟩
theorem newSchs_len : ∀ (m n : Nat), (newSchs m n).length = m
  | 0, _ => rfl
  | m + 1, n => by simp [newSchs, newSchs_len m (n + 1)]
theorem newSchs_get : ∀ (m n i : Nat) (h : i < (newSchs m n).length), (newSchs m n)[i] = ⟨.var (n + i + 1), [n + i + 1]⟩
  | m + 1, n, 0, h => rfl
  | m + 1, n, i + 1, h => by
    simp only [newSchs, List.getElem_cons_succ]
    rw [newSchs_get m (n + 1) i]
    simp only [show n + 1 + i + 1 = n + (i + 1) + 1 by omega]

/-- What has been typed of a group's bodies, and what is left. -/
def comb (ts : List Ty) (d1 : Dl) : Option (Except (Nat × List Told) (List Ty × Dl × Nat × List Told)) → Option (Except (Nat × List Told) (List Ty × Dl × Nat × List Told))
  | some (.ok (ts2, d2, n, l)) => some (.ok (ts.map (app d2) ++ ts2, d1 ++ d2, n, l))
  | r => r
theorem comb_nil (r : Option (Except (Nat × List Told) (List Ty × Dl × Nat × List Told))) : comb [] [] r = r := by
  rcases r with _ | e | ⟨ts, d, n, l⟩ <;> rfl
theorem comb_ok {fuel stop k n n' : Nat} {env : Env} {x : Ex} {xs : List Ex} {l l' : List Told} {t : Ty} {dx : Dl} (h : ofS fuel stop k env x n l = some (.ok (t, dx, n', l'))) (ts : List Ty) (d1 : Dl) :
    comb ts d1 (bodiesS fuel stop (k + 1) env (x :: xs) n l) = comb (ts.map (app dx) ++ [t]) (d1 ++ dx) (bodiesS fuel stop k (envApp dx env) xs n' l') := by
  simp only [bodiesS, h]
  rcases bodiesS fuel stop k (envApp dx env) xs n' l' with _ | e | ⟨ts2, d2, n2, l2⟩
  · rfl
  · rfl
  · simp only [comb, List.map_append, List.map_map, List.map_cons, List.map_nil, List.append_assoc, List.singleton_append]
    have : (app d2 ∘ app dx) = app (dx ++ d2) := funext fun t => (app_append dx d2 t).symm
    rw [this]
theorem comb_err {fuel stop k n : Nat} {env : Env} {x : Ex} {xs : List Ex} {l : List Told} {e : Nat × List Told} (h : ofS fuel stop k env x n l = some (.error e)) (ts : List Ty) (d1 : Dl) :
    comb ts d1 (bodiesS fuel stop (k + 1) env (x :: xs) n l) = some (.error e) := by
  simp only [bodiesS, h]
  rfl
theorem comb_none {fuel stop k n : Nat} {env : Env} {x : Ex} {xs : List Ex} {l : List Told} (h : ofS fuel stop k env x n l = none) (ts : List Ty) (d1 : Dl) :
    comb ts d1 (bodiesS fuel stop (k + 1) env (x :: xs) n l) = none := by
  simp only [bodiesS, h]
  rfl
theorem comb_end {fuel stop k n : Nat} {env : Env} {l : List Told} (ts : List Ty) (d1 : Dl) :
    comb ts d1 (bodiesS fuel stop (k + 1) env [] n l) = some (.ok (ts, d1, n, l)) := by
  simp only [bodiesS, comb]
  have : app [] = id := funext fun t => rfl
  simp [this]
/-- One round, by what the bodies give. -/
theorem round_ok {fuel k n n1 : Nat} {env : Env} {names : List Str} {exprs : List Ex} {x : Ex} {schs : List Sch} {rd : Nat} {l l1 : List Told} {d d1 : Dl} {ts : List Ty} (hf : rd ≤ fuel) (h : bodiesS fuel 0 k (bindS names schs env) exprs n l = some (.ok (ts, d1, n1, l1))) (hne : roundS fuel 0 (k + 1) env names exprs x schs rd n l d ≠ none) :
    roundS fuel 0 (k + 1) env names exprs x schs rd n l d =
      (if ((schs.map (Sch.app d1)).zip (ts.map fun t => (⟨t, closeAll (envApp d1 env) t⟩ : Sch))).all (fun p => alikeS p.1 p.2) then (match ofS fuel 0 k (bindS names (ts.map fun t => (⟨t, closeAll (envApp d1 env) t⟩ : Sch)) (envApp d1 env)) x n1 (l1 ++ [⟨names, rd, toldAll (ts.map fun t => (⟨t, closeAll (envApp d1 env) t⟩ : Sch)) []⟩]) with
          | some (.ok (t, d2, n2, l3)) => some (.ok (t, d ++ (d1 ++ d2), n2, l3))
          | r => r)
        else roundS fuel 0 k (envApp d1 env) names exprs x (ts.map fun t => (⟨t, closeAll (envApp d1 env) t⟩ : Sch)) (rd + 1) n1 (l1 ++ [⟨names, rd, toldAll (ts.map fun t => (⟨t, closeAll (envApp d1 env) t⟩ : Sch)) []⟩]) (d ++ d1)) := by
  have e : roundS fuel 0 (k + 1) env names exprs x schs rd n l d = roundS fuel 0 (k + 1) env names exprs x schs rd n l d := rfl
  conv at e => rhs; unfold roundS
  simp only [if_pos hf, h] at e
  by_cases hb : (List.flatMap (fun s : Sch => s.t.vs) (ts.map fun t => (⟨t, closeAll (envApp d1 env) t⟩ : Sch))).length > 2600
  · rw [if_pos hb] at e; exact absurd e hne
  · rw [if_neg hb, if_neg (by simp)] at e
    exact e
theorem round_err {fuel k n : Nat} {env : Env} {names : List Str} {exprs : List Ex} {x : Ex} {schs : List Sch} {rd : Nat} {l : List Told} {d : Dl} {e : Nat × List Told} (hf : rd ≤ fuel) (h : bodiesS fuel 0 k (bindS names schs env) exprs n l = some (.error e)) :
    roundS fuel 0 (k + 1) env names exprs x schs rd n l d = some (.error e) := by
  unfold roundS
  simp only [if_pos hf, h]
theorem round_none {fuel k n : Nat} {env : Env} {names : List Str} {exprs : List Ex} {x : Ex} {schs : List Sch} {rd : Nat} {l : List Told} {d : Dl} (hf : rd ≤ fuel) (h : bodiesS fuel 0 k (bindS names schs env) exprs n l = none) :
    roundS fuel 0 (k + 1) env names exprs x schs rd n l d = none := by
  unfold roundS
  simp only [if_pos hf, h]
theorem round0 {fuel stop n : Nat} {env : Env} {names : List Str} {exprs : List Ex} {x : Ex} {schs : List Sch} {rd : Nat} {l : List Told} {d : Dl} : roundS fuel stop 0 env names exprs x schs rd n l d = none := by unfold roundS; rfl
theorem bodies0 {fuel stop n : Nat} {env : Env} {exprs : List Ex} {l : List Told} : bodiesS fuel stop 0 env exprs n l = none := by unfold bodiesS; rfl
theorem round_end {fuel k n : Nat} {env : Env} {names : List Str} {exprs : List Ex} {x : Ex} {schs : List Sch} {rd : Nat} {l : List Told} {d : Dl} (hf : ¬ rd ≤ fuel) :
    roundS fuel 0 (k + 1) env names exprs x schs rd n l d = some (.error (5, l)) := by
  unfold roundS
  simp only [if_neg hf]
end Go.Proofs.YtabikmkoajdhmaaGreatDoor

/- The engine on expressions without let rec: by the plain engine whose stop is a sentinel, at which let rec has no answer. -/
namespace Go.Proofs.YtabikmkoajdhmaaGreatDoor
open Go.RowKit

theorem part_stepN (u : Sur) (hu : SurOk u) (hs : ¬ u.stop < 1000000) (k : Nat) (ih0 : OfOk u k) : PartOk u (k + 1) := by
  intro G A w n l env e xv x r hin hx hr hne
  cases hx with
  | num h =>
    simp only [partS] at hr; subst hr
    exact part_num u hu hin
  | @name b p nm h =>
    simp only [partS] at hr
    cases hl : env.lookup nm with
    | none => rw [hl] at hr; exact absurd hr.symm hne
    | some s =>
      rw [hl] at hr
      cases hi : inst s.all s.t ⟨[], n⟩ with
      | none => simp only [hi] at hr; exact absurd hr.symm hne
      | some tf =>
        obtain ⟨t, f⟩ := tf
        simp only [hi] at hr; subst hr
        exact part_name u hu hin h hl hi
  | fn h a => exact part_fn u hu k ih0 hin h a hr hne
  | app h a b => exact part_app u hu k ih0 hin h a b hr hne
  | pair h a b => exact part_pair u hu k ih0 hin h a b hr hne
  | lt h a b => exact part_lt u hu k ih0 hin h a b hr hne
  | ite h a b c => exact part_ite u hu k ih0 hin h a b c hr hne
  | rc h n l b q e =>
    simp only [partS] at hr
    rw [if_neg (fun c => hs c.1)] at hr
    exact absurd hr.symm hne
theorem engine_okN (u : Sur) (hu : SurOk u) (hs : ¬ u.stop < 1000000) : ∀ k : Nat, OfOk u k ∧ PartOk u k
  | 0 => ⟨fun G A w n l env e xv x r _ _ hr hne => absurd (by rw [← hr]; unfold ofS; rfl) hne, fun G A w n l env e xv x r _ _ hr hne => absurd (by rw [← hr]; unfold partS; rfl) hne⟩
  | k + 1 => ⟨of_step u hu k (engine_okN u hu hs k).2, part_stepN u hu hs k (engine_okN u hu hs k).1⟩

mutual
/-- Without let rec. -/
def Ex.plain : Ex → Bool
  | .name _ _ | .num _ => true
  | .fn _ b => b.plain
  | .app f a => f.plain && a.plain
  | .pair a b => a.plain && b.plain
  | .lt _ a b => a.plain && b.plain
  | .rc _ _ => false
  | .ite c a b => c.plain && a.plain && b.plain
end
/-- Without let rec neither the stop nor what was told matters. -/
def liftL (l : List Told) : ERes → ERes
  | none => none
  | some (.error (e, _)) => some (.error (e, l))
  | some (.ok (t, d, n, _)) => some (.ok (t, d, n, l))
mutual
theorem of_plain (fuel s s' : Nat) : ∀ (k : Nat) (env : Env) (x : Ex) (n : Nat) (l l' : List Told), x.plain = true → ofS fuel s k env x n l = liftL l (ofS fuel s' k env x n l')
  | 0, _, _, _, _, _, _ => by simp [ofS, liftL]
  | k + 1, env, x, n, l, l', hx => by
    have h := part_plain fuel s s' k env x n l l' hx
    simp only [ofS]
    rw [h]
    cases partS fuel s' k env x n l' with
    | none => rfl
    | some r =>
      cases r with
      | error q => obtain ⟨e, q⟩ := q; rfl
      | ok q =>
        obtain ⟨t, d, m, q⟩ := q
        simp only [liftL]
        split <;> rfl
theorem part_plain (fuel s s' : Nat) : ∀ (k : Nat) (env : Env) (x : Ex) (n : Nat) (l l' : List Told), x.plain = true → partS fuel s k env x n l = liftL l (partS fuel s' k env x n l')
  | 0, _, _, _, _, _, _ => by simp [partS, liftL]
  | k + 1, env, .num _, n, l, l', _ => by simp [partS, liftL]
  | k + 1, env, .name _ nm, n, l, l', _ => by
    simp only [partS]
    cases env.lookup nm with
    | none => rfl
    | some sc =>
      simp only
      cases inst sc.all sc.t ⟨[], n⟩ with
      | none => rfl
      | some q => obtain ⟨t, f⟩ := q; rfl
  | k + 1, env, .fn nm b, n, l, l', hx => by
    have h := of_plain fuel s s' k ((nm, ⟨.var (n + 1), []⟩) :: env) b (n + 1) l l' (by simpa [Ex.plain] using hx)
    simp only [partS]
    split
    · rw [h]
      rcases ofS fuel s' k ((nm, ⟨.var (n + 1), []⟩) :: env) b (n + 1) l' with _ | ⟨e, q⟩ | ⟨t, d, m, q⟩ <;> rfl
    · rfl
  | k + 1, env, .app f a, n, l, l', hx => by
    simp only [Ex.plain, Bool.and_eq_true] at hx
    have h := of_plain fuel s s' k env f n l l' hx.1
    simp only [partS]
    rw [h]
    rcases ofS fuel s' k env f n l' with _ | ⟨e, q⟩ | ⟨tf, d1, n1, q⟩
    · rfl
    · rfl
    · simp only [liftL]
      have h2 := of_plain fuel s s' k (envApp d1 env) a n1 l q hx.2
      rw [h2]
      rcases ofS fuel s' k (envApp d1 env) a n1 q with _ | ⟨e, q2⟩ | ⟨ta, d2, n2, q2⟩
      · rfl
      · rfl
      · simp only [liftL]
        split
        · split <;> rfl
        · rfl
  | k + 1, env, .pair a b, n, l, l', hx => by
    simp only [Ex.plain, Bool.and_eq_true] at hx
    have h := of_plain fuel s s' k env a n l l' hx.1
    simp only [partS]
    rw [h]
    rcases ofS fuel s' k env a n l' with _ | ⟨e, q⟩ | ⟨ta, d1, n1, q⟩
    · rfl
    · rfl
    · simp only [liftL]
      have h2 := of_plain fuel s s' k (envApp d1 env) b n1 l q hx.2
      rw [h2]
      rcases ofS fuel s' k (envApp d1 env) b n1 q with _ | ⟨e, q2⟩ | ⟨tb, d2, n2, q2⟩ <;> rfl
  | k + 1, env, .lt nm a b, n, l, l', hx => by
    simp only [Ex.plain, Bool.and_eq_true] at hx
    have h := of_plain fuel s s' k env a n l l' hx.1
    simp only [partS]
    rw [h]
    rcases ofS fuel s' k env a n l' with _ | ⟨e, q⟩ | ⟨ta, d1, n1, q⟩
    · rfl
    · rfl
    · simp only [liftL]
      have h2 := of_plain fuel s s' k ((nm, ⟨ta, closeAll (envApp d1 env) ta⟩) :: envApp d1 env) b n1 l q hx.2
      rw [h2]
      rcases ofS fuel s' k ((nm, ⟨ta, closeAll (envApp d1 env) ta⟩) :: envApp d1 env) b n1 q with _ | ⟨e, q2⟩ | ⟨tb, d2, n2, q2⟩ <;> rfl
  | k + 1, env, .rc _ _, n, l, l', hx => by simp [Ex.plain] at hx
  | k + 1, env, .ite c a b, n, l, l', hx => by
    simp only [Ex.plain, Bool.and_eq_true] at hx
    have h := of_plain fuel s s' k env c n l l' hx.1.1
    simp only [partS]
    rw [h]
    rcases ofS fuel s' k env c n l' with _ | ⟨e, q⟩ | ⟨tc, d1, n1, q⟩
    · rfl
    · rfl
    · simp only [liftL]
      cases uni uniK tc .bool with
      | none => rfl
      | some u1 =>
        cases u1 with
        | none => rfl
        | some d2 =>
          simp only
          have h2 := of_plain fuel s s' k (envApp (d1 ++ d2) env) a n1 l q hx.1.2
          rw [h2]
          rcases ofS fuel s' k (envApp (d1 ++ d2) env) a n1 q with _ | ⟨e, q2⟩ | ⟨ta, d3, n2, q2⟩
          · rfl
          · rfl
          · simp only [liftL]
            have h3 := of_plain fuel s s' k (envApp (d1 ++ d2 ++ d3) env) b n2 l q2 hx.2
            rw [h3]
            rcases ofS fuel s' k (envApp (d1 ++ d2 ++ d3) env) b n2 q2 with _ | ⟨e, q3⟩ | ⟨tb, d4, n3, q3⟩
            · rfl
            · rfl
            · simp only [liftL]
              split <;> rfl
end
theorem of_sent {fuel stop k n : Nat} {env : Env} {x : Ex} {l : List Told} (hx : x.plain = true) : ofS fuel 1000000 k env x n l = ofS fuel stop k env x n l := by
  rw [of_plain fuel 1000000 stop k env x n l l hx]
  have h := of_plain fuel stop stop k env x n l l hx
  exact h.symm
theorem of_told {fuel stop k n n' : Nat} {env : Env} {x : Ex} {l l' : List Told} {t : Ty} {d : Dl} (hx : x.plain = true) (h : ofS fuel stop k env x n l = some (.ok (t, d, n', l'))) : l' = l := by
  have := of_plain fuel stop stop k env x n l l hx
  rw [h] at this
  simp only [liftL, Option.some.injEq, Except.ok.injEq, Prod.mk.injEq] at this
  exact this.2.2.2
theorem of_told_err {fuel stop k n e : Nat} {env : Env} {x : Ex} {l l' : List Told} (hx : x.plain = true) (h : ofS fuel stop k env x n l = some (.error (e, l'))) : l' = l := by
  have := of_plain fuel stop stop k env x n l l hx
  rw [h] at this
  simp only [liftL, Option.some.injEq, Except.error.injEq, Prod.mk.injEq] at this
  exact this.2
end Go.Proofs.YtabikmkoajdhmaaGreatDoor
