/- alike by a contract. -/
import Derived.Test.YtabikmkoajdhmabGreatDoorQ35
import Derived.Laws.EntriesVeiled
import Derived.Test.YtabikmkoajdhmabGreatDoorQ34
import Derived.Test.YtabikmkoajdhmabGreatDoorQ37
import Derived.Test.YtabikmkoajdhmabGreatDoorQ26
import Derived.Laws.MakeOwn
set_option linter.unusedVariables false
set_option linter.unusedSimpArgs false
namespace Go.Proofs.YtabikmkoajdhmabGreatDoor
open Go.RowKit

theorem alk_ok (a b : List Nat) : ∀ k, AlkOk a b k
  | 0 => fun x G A n ta ma tb mb vx vy w tx ty m _ _ _ _ _ _ _ _ hk => by have := tx.size_pos; omega
  | k + 1 => alk_step a b k (alk_ok a b k)
theorem run_mkm (w : World) : (Instr.makeMap 225 none).run Tryz.prog w = .ok (.map (some w.heap.size)) (w.alloc (kmap kInt [])) := rfl

set_option maxRecDepth 100000 in
set_option maxHeartbeats 4000000 in
theorem alike_ok {G : GH} {A : GV} {n : Nat} {w : World} {ta ma tb mb : Value} {s u : Sch} (hi : TInv G A w n) (hta : TR G A w ta s.t) (hma : AllG G ma s.all) (htb : TR G A w tb u.t) (hmb : AllG G mb u.all) :
    Calls Tryz.prog 168 #[.agg #[ta, ma], .agg #[tb, mb]] w (fun e w' => e = .returned (.bool (alikeS s u)) ∧ Same G A n w w') := by
  obtain ⟨Ta, pa, rfl⟩ := hta.iface
  obtain ⟨Tb, pb, rfl⟩ := htb.iface
  obtain ⟨moa, rfl⟩ := hma.map
  obtain ⟨mob, rfl⟩ := hmb.map
  have hmk := run_mkm
  have hmf : ∀ (fn : Fn) (first cap : Array Value) (w : World), (Instr.makeFunc fn first cap).run Tryz.prog w = .ok (.func fn first cap) w := fun _ _ _ _ => rfl
  have HI := Lib.hid hi; have HTA := Lib.hid hta; have HMA := Lib.hid hma; have HTB := Lib.hid htb; have HMB := Lib.hid hmb
  clear hi hta hma htb hmb
  have hef : ∀ args w, (callFunc 182 args).run Tryz.prog w = .ok (.enter 182 args) w := fun args w => by kernel_rfl
  obtain ⟨w7, hw7⟩ : ∃ w7, w7 = (((((((w.alloc (.cells #[.iface Ta (.pointer (some ⟨pa, 0, none⟩)), .map moa] 119)).alloc (.cells #[.iface Tb (.pointer (some ⟨pb, 0, none⟩)), .map mob] 119)).alloc (kmap kInt [])).alloc (.cells #[.map (some (w.heap.size + 1 + 1))] 225)).alloc (kmap kInt [])).alloc (.cells #[.map (some (w.heap.size + 1 + 1 + 1 + 1))] 225)).alloc (.cells #[(.func (.func 182) #[] #[.pointer (some ⟨w.heap.size, 0, none⟩), .pointer (some ⟨w.heap.size + 1, 0, none⟩), .pointer (some ⟨w.heap.size + 1 + 1 + 1, 0, none⟩), .pointer (some ⟨w.heap.size + 1 + 1 + 1 + 1 + 1, 0, none⟩), .pointer (some ⟨w.heap.size + 1 + 1 + 1 + 1 + 1 + 1, 0, none⟩)])] 181)) := ⟨_, rfl⟩
  have z1 : (w.alloc (.cells #[.iface Ta (.pointer (some ⟨pa, 0, none⟩)), .map moa] 119)).heap.size = w.heap.size + 1 := by simp
  have z2 : ((w.alloc (.cells #[.iface Ta (.pointer (some ⟨pa, 0, none⟩)), .map moa] 119)).alloc (.cells #[.iface Tb (.pointer (some ⟨pb, 0, none⟩)), .map mob] 119)).heap.size = w.heap.size + 1 + 1 := by simp
  have z3 : (((w.alloc (.cells #[.iface Ta (.pointer (some ⟨pa, 0, none⟩)), .map moa] 119)).alloc (.cells #[.iface Tb (.pointer (some ⟨pb, 0, none⟩)), .map mob] 119)).alloc (kmap kInt [])).heap.size = w.heap.size + 1 + 1 + 1 := by simp
  have z4 : ((((w.alloc (.cells #[.iface Ta (.pointer (some ⟨pa, 0, none⟩)), .map moa] 119)).alloc (.cells #[.iface Tb (.pointer (some ⟨pb, 0, none⟩)), .map mob] 119)).alloc (kmap kInt [])).alloc (.cells #[.map (some (w.heap.size + 1 + 1))] 225)).heap.size = w.heap.size + 1 + 1 + 1 + 1 := by simp
  have z5 : (((((w.alloc (.cells #[.iface Ta (.pointer (some ⟨pa, 0, none⟩)), .map moa] 119)).alloc (.cells #[.iface Tb (.pointer (some ⟨pb, 0, none⟩)), .map mob] 119)).alloc (kmap kInt [])).alloc (.cells #[.map (some (w.heap.size + 1 + 1))] 225)).alloc (kmap kInt [])).heap.size = w.heap.size + 1 + 1 + 1 + 1 + 1 := by simp
  have z6 : ((((((w.alloc (.cells #[.iface Ta (.pointer (some ⟨pa, 0, none⟩)), .map moa] 119)).alloc (.cells #[.iface Tb (.pointer (some ⟨pb, 0, none⟩)), .map mob] 119)).alloc (kmap kInt [])).alloc (.cells #[.map (some (w.heap.size + 1 + 1))] 225)).alloc (kmap kInt [])).alloc (.cells #[.map (some (w.heap.size + 1 + 1 + 1 + 1))] 225)).heap.size = w.heap.size + 1 + 1 + 1 + 1 + 1 + 1 := by simp
  have c0 : w7.heap[w.heap.size]? = some (.cells #[.iface Ta (.pointer (some ⟨pa, 0, none⟩)), .map moa] 119) := by rw [hw7]; exact heap_old (heap_old (heap_old (heap_old (heap_old (heap_old (heap_new _ _))))))
  have c1 : w7.heap[w.heap.size + 1]? = some (.cells #[.iface Tb (.pointer (some ⟨pb, 0, none⟩)), .map mob] 119) := by rw [hw7, ← z1]; exact heap_old (heap_old (heap_old (heap_old (heap_old (heap_new _ _)))))
  have c2 : w7.heap[w.heap.size + 1 + 1]? = some (kmap kInt []) := by rw [hw7, ← z2]; exact heap_old (heap_old (heap_old (heap_old (heap_new _ _))))
  have c3 : w7.heap[w.heap.size + 1 + 1 + 1]? = some (.cells #[.map (some (w.heap.size + 1 + 1))] 225) := by rw [hw7, ← z3]; exact heap_old (heap_old (heap_old (heap_new _ _)))
  have c4 : w7.heap[w.heap.size + 1 + 1 + 1 + 1]? = some (kmap kInt []) := by rw [hw7, ← z4]; exact heap_old (heap_old (heap_new _ _))
  have c5 : w7.heap[w.heap.size + 1 + 1 + 1 + 1 + 1]? = some (.cells #[.map (some (w.heap.size + 1 + 1 + 1 + 1))] 225) := by rw [hw7, ← z5]; exact heap_old (heap_new _ _)
  have c6 : w7.heap[w.heap.size + 1 + 1 + 1 + 1 + 1 + 1]? = some (.cells #[(.func (.func 182) #[] #[.pointer (some ⟨w.heap.size, 0, none⟩), .pointer (some ⟨w.heap.size + 1, 0, none⟩), .pointer (some ⟨w.heap.size + 1 + 1 + 1, 0, none⟩), .pointer (some ⟨w.heap.size + 1 + 1 + 1 + 1 + 1, 0, none⟩), .pointer (some ⟨w.heap.size + 1 + 1 + 1 + 1 + 1 + 1, 0, none⟩)])] 181) := by rw [hw7, ← z6]; exact heap_new _ _
  have kW : Keep none' w w7 := by rw [hw7]; exact ((((((Keep.alloc _ _ _).trans (Keep.alloc _ _ _)).trans (Keep.alloc _ _ _)).trans (Keep.alloc _ _ _)).trans (Keep.alloc _ _ _)).trans (Keep.alloc _ _ _)).trans (Keep.alloc _ _ _)
  have S7 := Same.of0 HI.out kW
  have hR : AlkR (⟨w.heap.size, w.heap.size + 1, w.heap.size + 1 + 1 + 1, w.heap.size + 1 + 1 + 1 + 1 + 1, w.heap.size + 1 + 1 + 1 + 1 + 1 + 1, w.heap.size + 1 + 1, w.heap.size + 1 + 1 + 1 + 1⟩ : AlkB) G A (.iface Ta (.pointer (some ⟨pa, 0, none⟩))) (.map moa) (.iface Tb (.pointer (some ⟨pb, 0, none⟩))) (.map mob) [] w7 :=
    ⟨c0, c1, c3, c5, c6, c2, c4, by (try simp only); omega, fun i hi => by
      have : w.heap.size ≤ i := by (try simp only at hi); omega
      exact ⟨HI.out.holds.fresh this, fun h => by have := HI.out.old h; omega⟩, TwoWay.nil⟩
  have hc := alk_ok s.all u.all s.t.size (⟨w.heap.size, w.heap.size + 1, w.heap.size + 1 + 1 + 1, w.heap.size + 1 + 1 + 1 + 1 + 1, w.heap.size + 1 + 1 + 1 + 1 + 1 + 1, w.heap.size + 1 + 1, w.heap.size + 1 + 1 + 1 + 1⟩ : AlkB) G A n _ _ _ _ _ _ w7 s.t u.t [] S7.inv hR HMA.out HMB.out ⟨_, _, rfl⟩ ⟨_, _, rfl⟩ (S7.tr _ _ HTA.out) (S7.tr _ _ HTB.out) (Nat.le_refl _)
  simp only [AlkB.caps] at hc
  have hvs : ∀ b, isV A b → b < w.heap.size := fun b h => HI.out.old h
  have g0 : (((((((w.alloc (.cells #[.iface Ta (.pointer (some ⟨pa, 0, none⟩)), .map moa] 119)).alloc (.cells #[.iface Tb (.pointer (some ⟨pb, 0, none⟩)), .map mob] 119)).alloc (kmap kInt [])).alloc (.cells #[.map (some (w.heap.size + 1 + 1))] 225)).alloc (kmap kInt [])).alloc (.cells #[.map (some (w.heap.size + 1 + 1 + 1 + 1))] 225)).alloc (.cells #[(.func (.func 182) #[] #[.pointer (some ⟨w.heap.size, 0, none⟩), .pointer (some ⟨w.heap.size + 1, 0, none⟩), .pointer (some ⟨w.heap.size + 1 + 1 + 1, 0, none⟩), .pointer (some ⟨w.heap.size + 1 + 1 + 1 + 1 + 1, 0, none⟩), .pointer (some ⟨w.heap.size + 1 + 1 + 1 + 1 + 1 + 1, 0, none⟩)])] 181)).cell? ⟨w.heap.size, 0, none⟩ = some (.iface Ta (.pointer (some ⟨pa, 0, none⟩))) := by rw [← hw7]; exact cell_of_heap c0 rfl
  have g1 : (((((((w.alloc (.cells #[.iface Ta (.pointer (some ⟨pa, 0, none⟩)), .map moa] 119)).alloc (.cells #[.iface Tb (.pointer (some ⟨pb, 0, none⟩)), .map mob] 119)).alloc (kmap kInt [])).alloc (.cells #[.map (some (w.heap.size + 1 + 1))] 225)).alloc (kmap kInt [])).alloc (.cells #[.map (some (w.heap.size + 1 + 1 + 1 + 1))] 225)).alloc (.cells #[(.func (.func 182) #[] #[.pointer (some ⟨w.heap.size, 0, none⟩), .pointer (some ⟨w.heap.size + 1, 0, none⟩), .pointer (some ⟨w.heap.size + 1 + 1 + 1, 0, none⟩), .pointer (some ⟨w.heap.size + 1 + 1 + 1 + 1 + 1, 0, none⟩), .pointer (some ⟨w.heap.size + 1 + 1 + 1 + 1 + 1 + 1, 0, none⟩)])] 181)).cell? ⟨w.heap.size + 1, 0, none⟩ = some (.iface Tb (.pointer (some ⟨pb, 0, none⟩))) := by rw [← hw7]; exact cell_of_heap c1 rfl
  have HC := Lib.hid hc; have HS7 := Lib.hid S7; have HVS := Lib.hid hvs
  have HW7 := Lib.hid hw7
  clear c0 c1 c2 c3 c4 c5 c6 kW hR hc S7 z1 z2 z3 z4 z5 z6 hvs hw7
  go_enter Tryz.func168, Tryz.ntmps168
  go_wp2_with fail
  rw [← HW7.out]
  refine HC.out.mono ?_
  rintro e w8 ⟨rfl, s8, _⟩
  have HS8 := Lib.hid s8; clear s8
  go_wp2_with fail
  go_ret
  refine ⟨rfl, ?_⟩
  have kk : Keep (isV A) w w8 := HS7.out.keep.trans' HS8.out.keep (fun _ _ h => h) (fun i hi h => by
    rcases h with h | h | h
    · exact h
    · (try simp only at h); omega
    · (try simp only at h); omega)
  exact ⟨kk, HS8.out.inv, fun v t r => HS8.out.tr _ _ (HS7.out.tr _ _ r)⟩
end Go.Proofs.YtabikmkoajdhmabGreatDoor

/- (*engine).rec: its state between rounds; plain lemmas. -/
namespace Go.Proofs.YtabikmkoajdhmabGreatDoor
open Go.RowKit

/-- No watcher. -/
structure SurNil (u : Sur) : Prop where
  each : u.each = .nilFunc
  stop : u.stop = 0
  rw : ∀ l w, u.RW l w
  fuel : u.fuel ≤ 1000
/-- The same surroundings, a narrower frame. -/
def Sur.narrow (u : Sur) (P : Nat → Prop) : Sur := { u with P := P }
theorem SurOk.narrow {u : Sur} (h : SurOk u) {P : Nat → Prop} (hP : ∀ b, P b → u.P b) : SurOk (u.narrow P) :=
  ⟨h.stable, fun s k => h.sents s (k.mono (fun i _ x => hP i x))⟩
theorem ExtP.mono {P Q : Nat → Prop} {G G' : GH} {A A' : GV} {w w' : World} {d : Dl} (h : ExtP P G A w d G' A' w') (hP : ∀ b, P b → Q b) : ExtP Q G A w d G' A' w' := ⟨h.keep.mono (fun i _ x => hP i x), h.g, h.a, h.tr⟩
theorem Ext.tp {cb : Nat} {G G' : GH} {A A' : GV} {w w' : World} {d : Dl} (h : Ext cb G A w d G' A' w') : ExtP (touch cb A) G A w d G' A' w' := ⟨h.keep, h.g, h.a, h.tr⟩
theorem envApp_append (d e : Dl) (env : Env) : envApp (d ++ e) env = envApp e (envApp d env) := by
  simp only [envApp, List.map_map]
  refine List.map_congr_left (fun p _ => ?_)
  simp only [Function.comp, Sch.app, app_append]

/-- The state of rec: what has been found out since it was called (d), the schemes of the round. -/
structure RcSt (u : Sur) (G : GH) (A : GV) (w : World) (G4 : GH) (B : Nat) (sv : Value) (schs : List Sch) (d : Dl) (n1 : Nat) (G1 : GH) (A1 : GV) (w1 : World) : Prop where
  x : ExtP u.P G A w d G1 A1 w1
  ei : EI u.cb G1 A1 w1 n1
  sub : G4.sub G1
  bx : w1.heap[B]? = some (.cells #[sv] 323)
  og : G1 B = none
  ov : ¬ isV A1 B
  cb : u.cb ≠ B
  ss : SchSl G1 A1 w1 sv schs
theorem RcSt.ext {u : Sur} {G G4 G1 G2 : GH} {A A1 A2 : GV} {w w1 w2 : World} {B n1 n2 : Nat} {sv : Value} {schs : List Sch} {d dx : Dl} {P : Nat → Prop} (h : RcSt u G A w G4 B sv schs d n1 G1 A1 w1) (x : ExtP P G1 A1 w1 dx G2 A2 w2) (hP : ∀ b, P b → u.P b) (hB : ¬ P B) (ei : EI u.cb G2 A2 w2 n2) :
    RcSt u G A w G4 B sv (schs.map (Sch.app dx)) (d ++ dx) n2 G2 A2 w2 := by
  have hlt := lt_of_heap h.bx
  exact ⟨h.x.trans (x.mono hP), ei, h.sub.trans x.g.sub, x.keep.get h.bx hB, x.g.sz hlt h.og, x.a.isV hlt h.ov, h.cb, h.ss.map x.g.sub x.tr⟩
theorem map_app_nil (l : List Sch) : l.map (Sch.app []) = l := by
  have : Sch.app [] = id := funext fun s => rfl
  rw [this, List.map_id]
theorem RcSt.ext0 {u : Sur} {G G4 G1 G2 : GH} {A A1 A2 : GV} {w w1 w2 : World} {B n1 n2 : Nat} {sv : Value} {schs : List Sch} {d : Dl} {P : Nat → Prop} (h : RcSt u G A w G4 B sv schs d n1 G1 A1 w1) (x : ExtP P G1 A1 w1 [] G2 A2 w2) (hP : ∀ b, P b → u.P b) (hB : ¬ P B) (ei : EI u.cb G2 A2 w2 n2) :
    RcSt u G A w G4 B sv schs d n2 G2 A2 w2 := by
  have := h.ext x hP hB ei
  rwa [map_app_nil, List.append_nil] at this
theorem RcSt.po {u : Sur} {G G4 G1 : GH} {A A1 : GV} {w w1 : World} {B n1 : Nat} {sv : Value} {schs : List Sch} {d : Dl} (h : RcSt u G A w G4 B sv schs d n1 G1 A1 w1) (hp : PO u.P u.cb A w) : PO u.P u.cb A1 w1 := hp.up h.x
theorem RcSt.off {u : Sur} {G G4 G1 : GH} {A A1 : GV} {w w1 : World} {B n1 : Nat} {sv : Value} {schs : List Sch} {d : Dl} (h : RcSt u G A w G4 B sv schs d n1 G1 A1 w1) : ¬ touch u.cb A1 B := fun e => by
  rcases e with e | e
  · exact h.cb e.symm
  · exact h.ov e
/-- A step that finds out nothing and touches the engine's blocks alone. -/
theorem RcSt.step {u : Sur} {G G4 G1 G2 : GH} {A A1 A2 : GV} {w w1 w2 : World} {B n1 n2 : Nat} {sv : Value} {schs : List Sch} {d : Dl} (h : RcSt u G A w G4 B sv schs d n1 G1 A1 w1) (hp : PO u.P u.cb A w) (x : Ext u.cb G1 A1 w1 [] G2 A2 w2) (ei : EI u.cb G2 A2 w2 n2) :
    RcSt u G A w G4 B sv schs d n2 G2 A2 w2 := h.ext0 x.tp (h.po hp).t h.off ei

theorem Bs.names_len : ∀ b : Bs, b.names.length = b.exprs.length
  | .nil => rfl
  | .cons _ _ r => by simp [Bs.names, Bs.exprs, r.names_len]
theorem sch_app_append (d e : Dl) (l : List Sch) : (l.map (Sch.app d)).map (Sch.app e) = l.map (Sch.app (d ++ e)) := by
  rw [List.map_map]
  refine List.map_congr_left (fun s _ => ?_)
  simp only [Function.comp, Sch.app, app_append]
theorem TRs.mapD {G G' : GH} {A A' : GV} {w w' : World} {d : Dl} (h : ∀ v t, TR G A w v t → TR G' A' w' v (app d t)) : ∀ {vs : List Value} {ts : List Ty}, TRs G A w vs ts → TRs G' A' w' vs (ts.map (app d))
  | _, _, .nil => .nil
  | _, _, .cons a b => .cons (h _ _ a) (b.mapD h)
theorem TRs.ofG {G G' : GH} {A A' : GV} {w w' : World} (h : ∀ v t, TR G A w v t → TR G' A' w' v t) : ∀ {vs : List Value} {ts : List Ty}, TRs G A w vs ts → TRs G' A' w' vs ts
  | _, _, .nil => .nil
  | _, _, .cons a b => .cons (h _ _ a) (b.ofG h)
theorem all_take {α : Type} (p : α → Bool) (l : List α) (j : Nat) (h : j < l.length) : (l.take (j + 1)).all p = ((l.take j).all p && p l[j]) := by
  rw [List.take_succ_eq_append_getElem h, List.all_append]
  simp
/-- The box of the schemes is laid anew. -/
theorem RcSt.set {u : Sur} {G G4 G1 : GH} {A A1 : GV} {w w1 : World} {B n1 : Nat} {sv nsv : Value} {schs nschs : List Sch} {d : Dl} (h : RcSt u G A w G4 B sv schs d n1 G1 A1 w1) (hB : w.heap.size ≤ B) (hp : PO u.P u.cb A w) (hs : SchSl G1 A1 w1 nsv nschs) :
    RcSt u G A w G4 B nsv nschs d n1 G1 A1 (w1.setCell ⟨B, 0, none⟩ nsv) := by
  have k : Keep (one' B) w1 (w1.setCell ⟨B, 0, none⟩ nsv) := Keep.setCell (S := one' B) w1 (p := ⟨B, 0, none⟩) _ (fun _ => rfl)
  have hg : G1.off (one' B) := off_one h.og
  have hv : ∀ b, isV A1 b → ¬ one' B b := fun b hb (e : b = B) => h.ov (e ▸ hb)
  have tr : ∀ v t, TR G1 A1 w1 v t → TR G1 A1 (w1.setCell ⟨B, 0, none⟩ nsv) v t := fun v t r => r.keep h.ei.inv k hv
  exact ⟨⟨h.x.keep.trans' k (fun _ _ x => x) (fun i hi (e : i = B) => by omega), h.x.g, h.x.a, fun v t r => tr _ _ (h.x.tr v t r)⟩, ⟨h.ei.inv.keep k hg hv, k.get h.ei.cnt h.cb, h.ei.cg, h.ei.cv⟩, h.sub, heap_set_same (c := #[sv]) h.bx, h.og, h.ov, h.cb, hs.same (GH.sub.refl _) tr⟩
theorem SchAt.up {G G' : GH} {A A' : GV} {w w' : World} {arr : Array Value} {k : Nat} {s : Sch} (hG : G.sub G') (h : ∀ v t, TR G A w v t → TR G' A' w' v t) (r : SchAt G A w arr k s) : SchAt G' A' w' arr k s := by
  obtain ⟨tv, mv, a, b, c, e⟩ := r.ex
  exact ⟨tv, mv, a, b, h _ _ c, e.sub hG⟩
/-- An own block is written. -/
theorem RcSt.own {u : Sur} {G G4 G1 : GH} {A A1 : GV} {w w1 w2 : World} {B n1 : Nat} {sv : Value} {schs : List Sch} {d : Dl} {S : Nat → Prop} (h : RcSt u G A w G4 B sv schs d n1 G1 A1 w1) (hp : PO u.P u.cb A w) (k : Keep S w1 w2) (hS : ∀ g, S g → w.heap.size ≤ g ∧ G1 g = none ∧ ¬ isV A1 g ∧ g ≠ u.cb ∧ g ≠ B) :
    RcSt u G A w G4 B sv schs d n1 G1 A1 w2 ∧ ∀ v t, TR G1 A1 w1 v t → TR G1 A1 w2 v t := by
  have hg : G1.off S := fun b o hb hs => by rw [(hS b hs).2.1] at hb; cases hb
  have hv : ∀ b, isV A1 b → ¬ S b := fun b hb hs => (hS b hs).2.2.1 hb
  have tr : ∀ v t, TR G1 A1 w1 v t → TR G1 A1 w2 v t := fun v t r => r.keep h.ei.inv k hv
  refine ⟨h.ext0 ⟨k, Grew.refl _ _, GrewV.refl _ _, tr⟩ (fun b hb => hp.n b (hS b hb).1) (fun hb => (hS _ hb).2.2.2.2 rfl) ⟨h.ei.inv.keep k hg hv, k.get h.ei.cnt (fun hs => (hS _ hs).2.2.2.1 rfl), h.ei.cg, h.ei.cv⟩, tr⟩
/-- An own block is laid into the ghost heap. -/
theorem RcSt.stamp {u : Sur} {G G4 G1 G2 : GH} {A A1 : GV} {w w1 : World} {B n1 : Nat} {sv : Value} {schs : List Sch} {d : Dl} {S : Nat → Prop} (h : RcSt u G A w G4 B sv schs d n1 G1 A1 w1) (hs : G1.sub G2) (i : TInv G2 A1 w1 n1) (eq : ∀ b, ¬ S b → G2 b = G1 b) (hS : ∀ g, S g → w.heap.size ≤ g ∧ g ≠ u.cb ∧ g ≠ B) :
    RcSt u G A w G4 B sv schs d n1 G2 A1 w1 ∧ ∀ v t, TR G1 A1 w1 v t → TR G2 A1 w1 v t := by
  have tr : ∀ v t, TR G1 A1 w1 v t → TR G2 A1 w1 v t := fun v t r => r.mono hs (GV.sub.refl _) (fun _ _ _ _ => rfl)
  exact ⟨⟨⟨h.x.keep, ⟨h.x.g.sub.trans hs, fun b hb => (eq b (fun x => by have := (hS b x).1; omega)).trans (h.x.g.eq b hb)⟩, h.x.a, fun v t r => tr _ _ (h.x.tr v t r)⟩, ⟨i, h.ei.cnt, (eq _ (fun x => (hS _ x).2.1 rfl)).trans h.ei.cg, h.ei.cv⟩, h.sub.trans hs, h.bx, (eq _ (fun x => (hS _ x).2.2 rfl)).trans h.og, h.ov, h.cb, h.ss.same hs tr⟩, tr⟩
theorem newSchs_len : ∀ (m n : Nat), (newSchs m n).length = m
  | 0, _ => rfl
  | m + 1, n => by simp [newSchs, newSchs_len m (n + 1)]
theorem newSchs_get : ∀ (m n i : Nat) (h : i < (newSchs m n).length), (newSchs m n)[i] = ⟨.var (n + i + 1), [n + i + 1]⟩
  | m + 1, n, 0, h => rfl
  | m + 1, n, i + 1, h => by
    simp only [newSchs, List.getElem_cons_succ]
    rw [newSchs_get m (n + 1) i]
    simp only [show n + 1 + i + 1 = n + (i + 1) + 1 by omega]

/-- What has been typed of a group's bodies, and what is left. -/
def comb (ts : List Ty) (d1 : Dl) : Option (Except (Nat × List Told) (List Ty × Dl × Nat × List Told)) → Option (Except (Nat × List Told) (List Ty × Dl × Nat × List Told))
  | some (.ok (ts2, d2, n, l)) => some (.ok (ts.map (app d2) ++ ts2, d1 ++ d2, n, l))
  | r => r
theorem comb_nil (r : Option (Except (Nat × List Told) (List Ty × Dl × Nat × List Told))) : comb [] [] r = r := by
  rcases r with _ | e | ⟨ts, d, n, l⟩ <;> rfl
theorem comb_ok {fuel stop k n n' : Nat} {env : Env} {x : Ex} {xs : List Ex} {l l' : List Told} {t : Ty} {dx : Dl} (h : ofS fuel stop k env x n l = some (.ok (t, dx, n', l'))) (ts : List Ty) (d1 : Dl) :
    comb ts d1 (bodiesS fuel stop (k + 1) env (x :: xs) n l) = comb (ts.map (app dx) ++ [t]) (d1 ++ dx) (bodiesS fuel stop k (envApp dx env) xs n' l') := by
  simp only [bodiesS, h]
  rcases bodiesS fuel stop k (envApp dx env) xs n' l' with _ | e | ⟨ts2, d2, n2, l2⟩
  · rfl
  · rfl
  · simp only [comb, List.map_append, List.map_map, List.map_cons, List.map_nil, List.append_assoc, List.singleton_append]
    have : (app d2 ∘ app dx) = app (dx ++ d2) := funext fun t => (app_append dx d2 t).symm
    rw [this]
theorem comb_err {fuel stop k n : Nat} {env : Env} {x : Ex} {xs : List Ex} {l : List Told} {e : Nat × List Told} (h : ofS fuel stop k env x n l = some (.error e)) (ts : List Ty) (d1 : Dl) :
    comb ts d1 (bodiesS fuel stop (k + 1) env (x :: xs) n l) = some (.error e) := by
  simp only [bodiesS, h]
  rfl
theorem comb_none {fuel stop k n : Nat} {env : Env} {x : Ex} {xs : List Ex} {l : List Told} (h : ofS fuel stop k env x n l = none) (ts : List Ty) (d1 : Dl) :
    comb ts d1 (bodiesS fuel stop (k + 1) env (x :: xs) n l) = none := by
  simp only [bodiesS, h]
  rfl
theorem comb_end {fuel stop k n : Nat} {env : Env} {l : List Told} (ts : List Ty) (d1 : Dl) :
    comb ts d1 (bodiesS fuel stop (k + 1) env [] n l) = some (.ok (ts, d1, n, l)) := by
  simp only [bodiesS, comb]
  have : app [] = id := funext fun t => rfl
  simp [this]
/-- One round, by what the bodies give. -/
theorem round_ok {fuel k n n1 : Nat} {env : Env} {names : List Str} {exprs : List Ex} {x : Ex} {schs : List Sch} {rd : Nat} {l l1 : List Told} {d d1 : Dl} {ts : List Ty} (hf : rd ≤ fuel) (h : bodiesS fuel 0 k (bindS names schs env) exprs n l = some (.ok (ts, d1, n1, l1))) (hne : roundS fuel 0 (k + 1) env names exprs x schs rd n l d ≠ none) :
    roundS fuel 0 (k + 1) env names exprs x schs rd n l d =
      (if ((schs.map (Sch.app d1)).zip (ts.map fun t => (⟨t, closeAll (envApp d1 env) t⟩ : Sch))).all (fun p => alikeS p.1 p.2) then (match ofS fuel 0 k (bindS names (ts.map fun t => (⟨t, closeAll (envApp d1 env) t⟩ : Sch)) (envApp d1 env)) x n1 (l1 ++ [⟨names, rd, toldAll (ts.map fun t => (⟨t, closeAll (envApp d1 env) t⟩ : Sch)) []⟩]) with
          | some (.ok (t, d2, n2, l3)) => some (.ok (t, d ++ (d1 ++ d2), n2, l3))
          | r => r)
        else roundS fuel 0 k (envApp d1 env) names exprs x (ts.map fun t => (⟨t, closeAll (envApp d1 env) t⟩ : Sch)) (rd + 1) n1 (l1 ++ [⟨names, rd, toldAll (ts.map fun t => (⟨t, closeAll (envApp d1 env) t⟩ : Sch)) []⟩]) (d ++ d1)) := by
  have e : roundS fuel 0 (k + 1) env names exprs x schs rd n l d = roundS fuel 0 (k + 1) env names exprs x schs rd n l d := rfl
  conv at e => rhs; unfold roundS
  simp only [if_pos hf, h] at e
  by_cases hb : (List.flatMap (fun s : Sch => s.t.vs) (ts.map fun t => (⟨t, closeAll (envApp d1 env) t⟩ : Sch))).length > 2600
  · rw [if_pos hb] at e; exact absurd e hne
  · rw [if_neg hb, if_neg (by simp)] at e
    exact e
theorem round_err {fuel k n : Nat} {env : Env} {names : List Str} {exprs : List Ex} {x : Ex} {schs : List Sch} {rd : Nat} {l : List Told} {d : Dl} {e : Nat × List Told} (hf : rd ≤ fuel) (h : bodiesS fuel 0 k (bindS names schs env) exprs n l = some (.error e)) :
    roundS fuel 0 (k + 1) env names exprs x schs rd n l d = some (.error e) := by
  unfold roundS
  simp only [if_pos hf, h]
theorem round_none {fuel k n : Nat} {env : Env} {names : List Str} {exprs : List Ex} {x : Ex} {schs : List Sch} {rd : Nat} {l : List Told} {d : Dl} (hf : rd ≤ fuel) (h : bodiesS fuel 0 k (bindS names schs env) exprs n l = none) :
    roundS fuel 0 (k + 1) env names exprs x schs rd n l d = none := by
  unfold roundS
  simp only [if_pos hf, h]
theorem round0 {fuel stop n : Nat} {env : Env} {names : List Str} {exprs : List Ex} {x : Ex} {schs : List Sch} {rd : Nat} {l : List Told} {d : Dl} : roundS fuel stop 0 env names exprs x schs rd n l d = none := by unfold roundS; rfl
theorem bodies0 {fuel stop n : Nat} {env : Env} {exprs : List Ex} {l : List Told} : bodiesS fuel stop 0 env exprs n l = none := by unfold bodiesS; rfl
theorem round_end {fuel k n : Nat} {env : Env} {names : List Str} {exprs : List Ex} {x : Ex} {schs : List Sch} {rd : Nat} {l : List Told} {d : Dl} (hf : ¬ rd ≤ fuel) :
    roundS fuel 0 (k + 1) env names exprs x schs rd n l d = some (.error (5, l)) := by
  unfold roundS
  simp only [if_neg hf]
end Go.Proofs.YtabikmkoajdhmabGreatDoor
