/- Environments in memory; (*scope).get by a contract. -/
import Derived.Test.YtabikmkoajdhmaaGreatDoorQ24
import Derived.Test.YtabikmkoajdhmaaGreatDoorQ22
import Derived.Test.YtabikmkoajdhmaaGreatDoorQ27
set_option linter.unusedVariables false
set_option linter.unusedSimpArgs false
namespace Go.Proofs.YtabikmkoajdhmaaGreatDoor
open Go.RowKit

/-- A scheme: its type, all that has been found out put in; the variables that stand for any type. -/
structure Sch where
  t : Ty
  all : List Nat
abbrev Env := List (Str × Sch)
inductive EnvR (G : GH) (A : GV) (w : World) : Option Addr → Env → Prop
  | nil : EnvR G A w none []
  | cons {sb : Nat} {up : Option Addr} {nm : Str} {tv mv : Value} {s : Sch} {r : Env} : G sb = some (.cells #[.pointer up, .string (bs nm), tv, mv] 275) → TR G A w tv s.t → AllG G mv s.all → EnvR G A w up r → EnvR G A w (some ⟨sb, 0, none⟩) ((nm, s) :: r)
def Sch.app (d : Dl) (s : Sch) : Sch := ⟨Go.Proofs.YtabikmkoajdhmaaGreatDoor.app d s.t, s.all⟩
def envApp (d : Dl) (e : Env) : Env := e.map fun p => (p.1, p.2.app d)
theorem EnvR.map {G G' : GH} {A A' : GV} {w w' : World} {d : Dl} (hG : G.sub G') (h : ∀ v t, TR G A w v t → TR G' A' w' v (app d t)) : ∀ {e : Option Addr} {env : Env}, EnvR G A w e env → EnvR G' A' w' e (envApp d env)
  | _, _, .nil => .nil
  | _, _, .cons a b c r => .cons (hG _ _ a) (h _ _ b) (c.sub hG) (r.map hG h)
theorem EnvR.ext {cb : Nat} {G G' : GH} {A A' : GV} {w w' : World} {d : Dl} {e : Option Addr} {env : Env} (r : EnvR G A w e env) (h : Ext cb G A w d G' A' w') : EnvR G' A' w' e (envApp d env) := r.map h.g.sub h.tr
theorem envApp_nil (e : Env) : envApp [] e = e := by
  unfold envApp
  have : (fun p : Str × Sch => (p.1, p.2.app [])) = id := funext fun ⟨a, b⟩ => rfl
  rw [this, List.map_id]
theorem AllG.map {G : GH} {mv : Value} {all : List Nat} (h : AllG G mv all) : ∃ m, mv = .map m := by
  rcases h with ⟨rfl, _⟩ | ⟨m, rfl, _⟩ <;> exact ⟨_, rfl⟩

def GetPost (G : GH) (A : GV) (w : World) (r : Option Sch) (e : Ending) (w' : World) : Prop :=
  Keep none' w w' ∧ match r with
    | some s => ∃ tv mv, e = .returned (.tuple #[.agg #[tv, mv], .bool true]) ∧ TR G A w tv s.t ∧ AllG G mv s.all
    | none => e = .returned (.tuple #[.agg #[.nilIface, .map none], .bool false])
set_option maxRecDepth 100000 in
set_option maxHeartbeats 2000000 in
theorem get_ok {G : GH} {A : GV} {w : World} {e : Option Addr} {env : Env} (nm : Str) (hG : Holds G w) (he : EnvR G A w e env) : Calls Tryz.prog 84 #[.pointer e, .string (bs nm)] w (GetPost G A w (env.lookup nm)) := by
  have HG := Lib.hid hG; have HE := Lib.hid he; clear hG he
  have h0 : (w.alloc (.cells #[.nilIface, .map none] 180)).heap[w.heap.size]? = some (.cells #[.nilIface, .map none] 180) := heap_new _ _
  have c0 : (w.alloc (.cells #[.nilIface, .map none] 180)).cell? ⟨w.heap.size, 0, none⟩ = some .nilIface := cell_of_heap h0 rfl
  have c1 : (w.alloc (.cells #[.nilIface, .map none] 180)).cell? ⟨w.heap.size, 1, none⟩ = some (.map none) := cell_of_heap h0 rfl
  have f0 : ∀ i, (w.alloc (.cells #[.nilIface, .map none] 180)).frozen? ⟨w.heap.size, i, none⟩ = false := fun i => free_of_heap h0
  have H0 := Lib.hid h0; clear h0
  have HG1 := Lib.hid (HG.out.keep0 (Keep.alloc none' w (.cells #[.nilIface, .map none] 180)))
  go_enter Tryz.func84, Tryz.ntmps84
  go_wp2_with fail
  go_loopg [0] env.length (fun gn s0 wr => ∃ (e1 : Option Addr) (env1 : Env), Hid (gn = env1.length) ∧ s0 = .pointer e1 ∧ Hid (EnvR G A w e1 env1) ∧ Hid (env1.lookup nm = env.lookup nm) ∧ wr = w.alloc (.cells #[.nilIface, .map none] 180))
  case atStart => exact ⟨e, env, Lib.hid rfl, rfl, HE, Lib.hid rfl, rfl⟩
  case round =>
    obtain ⟨e1, env1, HM, rfl, HE1, HLK, rfl⟩ := hrel
    have he1 := HE1.out
    cases he1 with
    | nil =>
      go_wp2_with fail
      refine bodyPost_ret (v := .tuple #[.agg #[.nilIface, .map none], .bool false]) (by simp [results, Tryz.results84, go_sem, c0, c1]) rfl ⟨Keep.alloc _ _ _, ?_⟩
      rw [← HLK.out]
      rfl
    | @cons sb up nm1 tv mv s r hg ht ha hr =>
      have d0 : (w.alloc (.cells #[.nilIface, .map none] 180)).cell? ⟨sb, 0, none⟩ = some (.pointer up) := cell_of_heap (HG1.out _ _ hg) rfl
      have d1 : (w.alloc (.cells #[.nilIface, .map none] 180)).cell? ⟨sb, 1, none⟩ = some (.string (bs nm1)) := cell_of_heap (HG1.out _ _ hg) rfl
      have d2 : (w.alloc (.cells #[.nilIface, .map none] 180)).cell? ⟨sb, 2, none⟩ = some tv := cell_of_heap (HG1.out _ _ hg) rfl
      have d3 : (w.alloc (.cells #[.nilIface, .map none] 180)).cell? ⟨sb, 3, none⟩ = some mv := cell_of_heap (HG1.out _ _ hg) rfl
      obtain ⟨T, b, rfl⟩ := ht.iface
      obtain ⟨mo, rfl⟩ := ha.map
      have HT := Lib.hid ht; have HA := Lib.hid ha; have HR := Lib.hid hr
      clear hg ht ha hr HE1
      by_cases hn : nm1 = nm
      · have q : ((bs nm1).toList == (bs nm).toList) = true := by rw [str_eq2]; simp [hn]
        have HN := Lib.hid hn; clear hn
        go_wp2_with fail
        have g0 : (w.alloc (.cells #[.iface T (.pointer (some ⟨b, 0, none⟩)), .map mo] 180)).cell? ⟨w.heap.size, 0, none⟩ = some (.iface T (.pointer (some ⟨b, 0, none⟩))) := cell_of_heap (heap_new _ _) rfl
        have g1 : (w.alloc (.cells #[.iface T (.pointer (some ⟨b, 0, none⟩)), .map mo] 180)).cell? ⟨w.heap.size, 1, none⟩ = some (.map mo) := cell_of_heap (heap_new _ _) rfl
        refine bodyPost_ret (v := .tuple #[.agg #[.iface T (.pointer (some ⟨b, 0, none⟩)), .map mo], .bool true]) (by simp [results, Tryz.results84, go_sem, g0, g1]) rfl ⟨Keep.alloc _ _ _, ?_⟩
        have e1 : env.lookup nm = some s := by
          rw [← HLK.out, ← HN.out]
          simp [List.lookup]
        rw [e1]
        exact ⟨_, _, rfl, HT.out, HA.out⟩
      · have q : ((bs nm1).toList == (bs nm).toList) = false := by rw [str_eq2]; simp [hn]
        have HN := Lib.hid hn; clear hn
        go_wp2_with fail
        go_roundg r.length
        case measure => have := HM.out; simp only [List.length_cons] at this; omega
        case rel => exact ⟨up, r, Lib.hid rfl, rfl, HR, Lib.hid (by
          rw [← HLK.out, List.lookup_cons]
          have : (nm == nm1) = false := by
            have := HN.out
            simpa using fun e => this e.symm
          rw [this]), rfl⟩
end Go.Proofs.YtabikmkoajdhmaaGreatDoor

/- The closures of (*scope).close by contracts: sets of numbers that grow. -/
namespace Go.Proofs.YtabikmkoajdhmaaGreatDoor
open Go.RowKit

def addN (l : List Nat) (N : Nat) : List Nat := if l.contains N then l else l ++ [N]
/-- A number that stands for itself alone is free. -/
def freeN (all l : List Nat) (N : Nat) : List Nat := if all.contains N then l else addN l N
theorem kput_unit (N : Nat) : ∀ l : List Nat, kput (N : Int) unitV (setEnts l) = setEnts l
  | [] => rfl
  | M :: r => by
    simp only [setEnts, List.map_cons, kput]
    split
    · rfl
    · congr 1; exact kput_unit N r
theorem run_upd_set {w : World} {r N : Nat} {l : List Nat} (h : w.heap[r]? = some (kmap kInt (setEnts l))) :
    (Instr.mapUpdate 178 (.map (some r)) (.int .i64 N) unitV).run Tryz.prog w = .ok () (World.lay w r (kmap kInt (setEnts (addN l N)))) := by
  unfold addN
  cases hc : l.contains N with
  | true =>
    have := run_upd_old (P := Tryz.prog) und_set key_int (k := (N : Int)) (v := unitV) (u := unitV) h (by rw [set_look, hc]; rfl)
    rw [kput_unit] at this
    exact this
  | false =>
    have := run_upd_new (P := Tryz.prog) und_set key_int (k := (N : Int)) (v := unitV) h (by rw [set_look, hc]; rfl)
    have e : setEnts (l ++ [N]) = setEnts l ++ [((N : Int), unitV)] := by simp [setEnts]
    simp only [Bool.false_eq_true, if_false, e]
    exact this

/-- A set under way: its variable's block vb (cell i), its map's block mb. -/
structure SetR (G : GH) (A : GV) (mb : Nat) (l : List Nat) (w : World) : Prop where
  mp : w.heap[mb]? = some (kmap kInt (setEnts l))
  gm : G mb = none
  vm : ¬ isV A mb
theorem SetR.stable {G : GH} {A : GV} {mb n : Nat} {l : List Nat} {w w' : World} (h : SetR G A mb l w) (k : Same G A n w w') : SetR G A mb l w' := ⟨k.keep.get h.mp h.vm, h.gm, h.vm⟩
theorem SetR.keep0 {G : GH} {A : GV} {mb : Nat} {l : List Nat} {w w' : World} (h : SetR G A mb l w) (k : Keep none' w w') : SetR G A mb l w' := ⟨k.get h.mp (fun x => x), h.gm, h.vm⟩

/-- close$1's memory: the scope in hand, the set of what is free. -/
structure C1R (G : GH) (A : GV) (sB sb fB mb : Nat) (l : List Nat) (w : World) : Prop where
  cs : w.heap[sB]? = some (.cells #[.pointer (some ⟨sb, 0, none⟩)] 177)
  cf : w.heap[fB]? = some (.cells #[.map (some mb)] 178)
  vs : ¬ isV A sB
  vf : ¬ isV A fB
  set : SetR G A mb l w
theorem C1R.stable {G : GH} {A : GV} {sB sb fB mb n : Nat} {l : List Nat} {w w' : World} (h : C1R G A sB sb fB mb l w) (k : Same G A n w w') : C1R G A sB sb fB mb l w' :=
  ⟨k.keep.get h.cs h.vs, k.keep.get h.cf h.vf, h.vs, h.vf, h.set.stable k⟩

set_option maxRecDepth 100000 in
set_option maxHeartbeats 2000000 in
theorem close1 {G : GH} {A : GV} {sB sb fB mb n N b : Nat} {nm snm : Str} {l : List Nat} {w : World} {up : Option Addr} {tv mv : Value} {s : Sch} (h : C1R G A sB sb fB mb l w) (hi : TInv G A w n)
    (hg : G sb = some (.cells #[.pointer up, .string (bs snm), tv, mv] 275)) (ht : ∃ T tb, tv = .iface T (.pointer (some ⟨tb, 0, none⟩))) (ha : AllG G mv s.all) (hA : A N = some (b, nm)) :
    Calls Tryz.prog 162 #[.pointer (some ⟨b, 0, none⟩), .pointer (some ⟨sB, 0, none⟩), .pointer (some ⟨fB, 0, none⟩)] w (fun e w' => e = .returned (.tuple #[]) ∧ C1R G A sB sb fB mb (freeN s.all l N) w' ∧ Keep (one' mb) w w') := by
  obtain ⟨_, _, _, is, hb⟩ := hi.vars N b nm hA
  have d2 : w.cell? ⟨sb, 2, none⟩ = some tv := cell_of_heap (hi.holds _ _ hg) rfl
  have d3 : w.cell? ⟨sb, 3, none⟩ = some mv := cell_of_heap (hi.holds _ _ hg) rfl
  have c0 : w.cell? ⟨sB, 0, none⟩ = some (.pointer (some ⟨sb, 0, none⟩)) := cell_of_heap h.cs rfl
  have hany := any_ok ha hi.holds hb (let ⟨T, b, e⟩ := ht; ⟨T, _, e⟩)
  obtain ⟨T, tb, rfl⟩ := ht
  obtain ⟨mo, rfl⟩ := ha.map
  have HANY := Lib.hid hany; have HH := Lib.hid h; have HB := Lib.hid hb
  have hsf : sB ≠ mb := fun e => by have := h.cs; rw [e, h.set.mp] at this; simp [kmap] at this
  have hff : fB ≠ mb := fun e => by have := h.cf; rw [e, h.set.mp] at this; simp [kmap] at this
  clear hany h hg ha hi hb
  go_enter Tryz.func162, Tryz.ntmps162
  go_wp2_with fail
  refine HANY.out.mono ?_
  rintro e w1 ⟨rfl, k1⟩
  cases hc : s.all.contains N with
  | true =>
    have K1 := Lib.hid k1; have HC := Lib.hid hc; clear k1 hc
    go_wp2_with fail
    go_end0
    have e1 : freeN s.all l N = l := by unfold freeN; rw [if_pos HC.out]
    rw [e1]
    exact ⟨rfl, ⟨K1.out.get HH.out.cs (fun x => x), K1.out.get HH.out.cf (fun x => x), HH.out.vs, HH.out.vf, HH.out.set.keep0 K1.out⟩, K1.out.of_none⟩
  | false =>
    have c1 : w1.cell? ⟨fB, 0, none⟩ = some (.map (some mb)) := cell_of_heap (k1.get HH.out.cf (fun x => x)) rfl
    have c2 : w1.cell? ⟨b, 0, none⟩ = some (.int .i64 N) := cell_of_heap (k1.get HB.out (fun x => x)) rfl
    have hs1 := HH.out.set.keep0 k1
    have hup := run_upd_set (N := N) (w := w1.drew) (l := l) hs1.mp
    unfold unitV at hup
    have K1 := Lib.hid k1; have HS1 := Lib.hid hs1; have HC := Lib.hid hc; clear k1 hs1 hc
    go_wp2_with fail
    (refine region_tail 6 (by kernel_rfl) (by kernel_rfl) ?_; simp only [List.take_succ_cons, List.take_zero, List.drop_succ_cons, List.drop_zero]; repeat still_step; try refine wpStill_nil ?_)
    go_wp2_with fail
    go_end0
    have e1 : freeN s.all l N = addN l N := by unfold freeN; rw [HC.out]; simp
    rw [e1]
    have kl : Keep (one' mb) w1.drew (World.lay w1.drew mb (kmap kInt (setEnts (addN l N)))) := lay_keep _ _ _
    have kA : Keep (one' mb) w (World.lay w1.drew mb (kmap kInt (setEnts (addN l N)))) := (K1.out.of_none.trans (Keep.drew _ _)).trans kl
    exact ⟨rfl, ⟨kA.get HH.out.cs hsf, kA.get HH.out.cf hff, HH.out.vs, HH.out.vf, lay_same (lt_of_heap (w := w1.drew) HS1.out.mp), HH.out.set.gm, HH.out.set.vm⟩, kA⟩
end Go.Proofs.YtabikmkoajdhmaaGreatDoor

/- close's second closure by a contract. -/
namespace Go.Proofs.YtabikmkoajdhmaaGreatDoor
open Go.RowKit

/-- close$2's memory: what is free; the scheme that is made. -/
structure C2R (G : GH) (A : GV) (fB fm oB om : Nat) (tv : Value) (free l : List Nat) (w : World) : Prop where
  cf : w.heap[fB]? = some (.cells #[.map (some fm)] 178)
  co : w.heap[oB]? = some (.cells #[tv, .map (some om)] 180)
  vf : ¬ isV A fB
  vo : ¬ isV A oB
  fs : SetR G A fm free w
  os : SetR G A om l w
  ne : fm ≠ om
theorem C2R.stable {G : GH} {A : GV} {fB fm oB om n : Nat} {tv : Value} {free l : List Nat} {w w' : World} (h : C2R G A fB fm oB om tv free l w) (k : Same G A n w w') : C2R G A fB fm oB om tv free l w' :=
  ⟨k.keep.get h.cf h.vf, k.keep.get h.co h.vo, h.vf, h.vo, h.fs.stable k, h.os.stable k, h.ne⟩
def outN (free l : List Nat) (N : Nat) : List Nat := if free.contains N then l else addN l N

set_option maxRecDepth 100000 in
set_option maxHeartbeats 2000000 in
theorem close2 {G : GH} {A : GV} {fB fm oB om n N b : Nat} {nm : Str} {free l : List Nat} {tv : Value} {w : World} (h : C2R G A fB fm oB om tv free l w) (hi : TInv G A w n) (hA : A N = some (b, nm)) :
    Calls Tryz.prog 164 #[.pointer (some ⟨b, 0, none⟩), .pointer (some ⟨fB, 0, none⟩), .pointer (some ⟨oB, 0, none⟩)] w (fun e w' => e = .returned (.tuple #[]) ∧ C2R G A fB fm oB om tv free (outN free l N) w' ∧ Keep (one' om) w w') := by
  obtain ⟨_, _, _, is, hb⟩ := hi.vars N b nm hA
  have hL : ∀ w', Keep none' w w' → w'.cell? ⟨fB, 0, none⟩ = some (.map (some fm)) ∧ w'.cell? ⟨b, 0, none⟩ = some (.int .i64 N) ∧ (Instr.lookup 178 (.map (some fm)) (.int .i64 N) true).run Tryz.prog w' = .ok (.tuple #[.agg #[], .bool (free.contains N)]) w' := fun w' k =>
    ⟨cell_of_heap (k.get h.cf (fun x => x)) rfl, cell_of_heap (k.get hb (fun x => x)) rfl, run_look_set (k.get h.fs.mp (fun x => x))⟩
  have S0 := hL w.drew (Keep.drew _ _)
  have hof : fB ≠ om := fun e => by have := h.cf; rw [e, h.os.mp] at this; simp [kmap] at this
  have hoo : oB ≠ om := fun e => by have := h.co; rw [e, h.os.mp] at this; simp [kmap] at this
  have HL := Lib.hid hL; have HH := Lib.hid h; have HB := Lib.hid hb
  clear hL h hi hb
  go_enter Tryz.func164, Tryz.ntmps164
  go_wp2_with fail
  refine wp_region_float (fun w' => w'.cell? ⟨fB, 0, none⟩ = some (.map (some fm)) ∧ w'.cell? ⟨b, 0, none⟩ = some (.int .i64 N) ∧ (Instr.lookup 178 (.map (some fm)) (.int .i64 N) true).run Tryz.prog w' = .ok (.tuple #[.agg #[], .bool (free.contains N)]) w') [1, 2, 3, 6, 7, 8] [0, 4, 5] (by kernel_rfl) ?_
  (refine floatS (i := 0) (v := ?_) rfl (by kernel_rfl) (by kernel_rfl) (by kernel_rfl) (by kernel_rfl) (fun _ _ _ h => h) (by assumption) (by rfl) ?_ ?_); rotate_left
  (intro wF hF; (try dsimp only at hF); go_simp; try with_reducible rfl)
  (try simp only [Act.put, List.setIfInBounds_toArray, List.set_cons_zero, List.set_cons_succ])
  (refine float0 (i := 1) (v := ?_) rfl (by kernel_rfl) (by kernel_rfl) (by kernel_rfl) (by kernel_rfl) (fun _ _ _ h => h) (by rfl) ?_ ?_); rotate_left
  (intro wF; go_simp; try with_reducible rfl)
  (try simp only [Act.put, List.setIfInBounds_toArray, List.set_cons_zero, List.set_cons_succ])
  (refine float0 (i := 2) (v := ?_) rfl (by kernel_rfl) (by kernel_rfl) (by kernel_rfl) (by kernel_rfl) (fun _ _ _ h => h) (by rfl) ?_ ?_); rotate_left
  (intro wF; go_simp; try with_reducible rfl)
  (try simp only [Act.put, List.setIfInBounds_toArray, List.set_cons_zero, List.set_cons_succ])
  (refine float0 (i := 3) (v := ?_) rfl (by kernel_rfl) (by kernel_rfl) (by kernel_rfl) (by kernel_rfl) (fun _ _ _ h => h) (by rfl) ?_ ?_); rotate_left
  (intro wF; go_simp; try with_reducible rfl)
  (try simp only [Act.put, List.setIfInBounds_toArray, List.set_cons_zero, List.set_cons_succ])
  (refine floatS (i := 4) (v := ?_) rfl (by kernel_rfl) (by kernel_rfl) (by kernel_rfl) (by kernel_rfl) (fun _ _ _ h => h) (by assumption) (by rfl) ?_ ?_); rotate_left
  (intro wF hF; (try dsimp only at hF); go_simp; try with_reducible rfl)
  (try simp only [Act.put, List.setIfInBounds_toArray, List.set_cons_zero, List.set_cons_succ])
  (refine floatS (i := 5) (v := ?_) rfl (by kernel_rfl) (by kernel_rfl) (by kernel_rfl) (by kernel_rfl) (fun _ _ _ h => h) (by assumption) (by rfl) ?_ ?_); rotate_left
  (intro wF hF; (try dsimp only at hF); go_simp; try with_reducible rfl)
  (try simp only [Act.put, List.setIfInBounds_toArray, List.set_cons_zero, List.set_cons_succ])
  (refine float0 (i := 6) (v := ?_) rfl (by kernel_rfl) (by kernel_rfl) (by kernel_rfl) (by kernel_rfl) (fun _ _ _ h => h) (by rfl) ?_ ?_); rotate_left
  (intro wF; go_simp; try with_reducible rfl)
  (try simp only [Act.put, List.setIfInBounds_toArray, List.set_cons_zero, List.set_cons_succ])
  (refine float0 (i := 7) (v := ?_) rfl (by kernel_rfl) (by kernel_rfl) (by kernel_rfl) (by kernel_rfl) (fun _ _ _ h => h) (by rfl) ?_ ?_); rotate_left
  (intro wF; go_simp; try with_reducible rfl)
  (try simp only [Act.put, List.setIfInBounds_toArray, List.set_cons_zero, List.set_cons_succ])
  (refine float0 (i := 8) (v := ?_) rfl (by kernel_rfl) (by kernel_rfl) (by kernel_rfl) (by kernel_rfl) (fun _ _ _ h => h) (by rfl) ?_ ?_); rotate_left
  (intro wF; go_simp; try with_reducible rfl)
  (try simp only [Act.put, List.setIfInBounds_toArray, List.set_cons_zero, List.set_cons_succ])
  (refine floatM (i := 9) rfl (by kernel_rfl) (by kernel_rfl) (fun K hK => ?_)); go_simp
  refine hK.out _ _ (fun _ => HL.out _ ((Keep.alloc _ _ _).trans (Keep.drew _ _))) ?_
  clear hK K
  (try simp only [Act.put, List.setIfInBounds_toArray, List.set_cons_zero, List.set_cons_succ])
  (refine floatM (i := 10) rfl (by kernel_rfl) (by kernel_rfl) (fun K hK => ?_)); go_simp
  refine hK.out _ _ (fun _ => HL.out _ ((Keep.alloc _ _ _).trans (Keep.drew _ _))) ?_
  clear hK K
  (try simp only [Act.put, List.setIfInBounds_toArray, List.set_cons_zero, List.set_cons_succ])
  (refine floatM (i := 11) rfl (by kernel_rfl) (by kernel_rfl) (fun K hK => ?_)); go_simp
  refine hK.out _ _ (fun _ => HL.out _ ((Keep.alloc _ _ _).trans (Keep.drew _ _))) ?_
  clear hK K
  (try simp only [Act.put, List.setIfInBounds_toArray, List.set_cons_zero, List.set_cons_succ])
  (refine floatE (by kernel_rfl) ?_)
  have kA : Keep none' w (w.alloc (.cells #[] 321)).drew := (Keep.alloc _ _ _).trans (Keep.drew _ _)
  clear S0
  by_cases hc : N ∈ free
  · have HC := Lib.hid hc
    have KA := Lib.hid kA; clear kA
    go_wp2_with fail
    go_end0
    have e1 : outN free l N = l := by unfold outN; simp [HC.out]
    rw [e1]
    exact ⟨rfl, ⟨KA.out.get HH.out.cf (fun x => x), KA.out.get HH.out.co (fun x => x), HH.out.vf, HH.out.vo, HH.out.fs.keep0 KA.out, HH.out.os.keep0 KA.out, HH.out.ne⟩, KA.out.of_none⟩
  · have HC := Lib.hid hc
    obtain ⟨w1, hw1⟩ : ∃ w1, w1 = (w.alloc (.cells #[] 321)).drew := ⟨_, rfl⟩
    rw [← hw1] at kA
    have c1 : w1.cell? ⟨oB, 1, none⟩ = some (.map (some om)) := cell_of_heap (kA.get HH.out.co (fun x => x)) rfl
    have c2 : w1.cell? ⟨b, 0, none⟩ = some (.int .i64 N) := cell_of_heap (kA.get HB.out (fun x => x)) rfl
    have hs1 := HH.out.os.keep0 kA
    have hup := run_upd_set (N := N) (w := w1.drew) (l := l) hs1.mp
    unfold unitV at hup
    have K1 := Lib.hid kA; have HS1 := Lib.hid hs1; clear kA hs1
    rw [← hw1]
    clear hw1
    go_wp2_with fail
    (refine region_tail 7 (by kernel_rfl) (by kernel_rfl) ?_; simp only [List.take_succ_cons, List.take_zero, List.drop_succ_cons, List.drop_zero]; repeat still_step; try refine wpStill_nil ?_)
    go_wp2_with fail
    go_end0
    have e1 : outN free l N = addN l N := by unfold outN; simp [HC.out]
    rw [e1]
    have kl : Keep (one' om) w1.drew (World.lay w1.drew om (kmap kInt (setEnts (addN l N)))) := lay_keep _ _ _
    have kB : Keep (one' om) w (World.lay w1.drew om (kmap kInt (setEnts (addN l N)))) := (K1.out.of_none.trans (Keep.drew _ _)).trans kl
    exact ⟨rfl, ⟨kB.get HH.out.cf hof, kB.get HH.out.co hoo, HH.out.vf, HH.out.vo, ⟨kB.get HH.out.fs.mp HH.out.ne, HH.out.fs.gm, HH.out.fs.vm⟩, ⟨lay_same (lt_of_heap (w := w1.drew) HS1.out.mp), HH.out.os.gm, HH.out.os.vm⟩, HH.out.ne⟩, kB⟩
end Go.Proofs.YtabikmkoajdhmaaGreatDoor

/- (*scope).close by a contract. -/
namespace Go.Proofs.YtabikmkoajdhmaaGreatDoor
open Go.RowKit

def freeAll : Env → List Nat → List Nat
  | [], f => f
  | (_, s) :: r, f => freeAll r (s.t.vs.foldl (freeN s.all) f)
/-- The variables that stand for any type in a scheme that is closed. -/
def closeAll (env : Env) (t : Ty) : List Nat := t.vs.foldl (outN (freeAll env [])) []

theorem do1 {G : GH} {A : GV} {sB sb fB mb n : Nat} {snm : Str} {up : Option Addr} {tv mv : Value} {s : Sch}
    (hg : G sb = some (.cells #[.pointer up, .string (bs snm), tv, mv] 275)) (ht : ∃ T tb, tv = .iface T (.pointer (some ⟨tb, 0, none⟩))) (ha : AllG G mv s.all) :
    DoOk G A n (one' mb) (freeN s.all) (C1R G A sB sb fB mb) 162 #[.pointer (some ⟨sB, 0, none⟩), .pointer (some ⟨fB, 0, none⟩)] where
  enter := fun args w => by kernel_rfl
  stable := fun l w w' h k => h.stable k
  call := fun l w N b name hR hi hA _ => by
    refine (close1 hR hi hg ht ha hA).mono ?_
    rintro e w' ⟨rfl, hr, kk⟩
    exact ⟨rfl, hr, SameS.of_keep hi kk (off_one hR.set.gm) (fun x hx (e : x = mb) => hR.set.vm (e ▸ hx))⟩
theorem do2 {G : GH} {A : GV} {fB fm oB om n : Nat} {tv : Value} {free : List Nat} :
    DoOk G A n (one' om) (outN free) (C2R G A fB fm oB om tv free) 164 #[.pointer (some ⟨fB, 0, none⟩), .pointer (some ⟨oB, 0, none⟩)] where
  enter := fun args w => by kernel_rfl
  stable := fun l w w' h k => h.stable k
  call := fun l w N b name hR hi hA _ => by
    refine (close2 hR hi hA).mono ?_
    rintro e w' ⟨rfl, hr, kk⟩
    exact ⟨rfl, hr, SameS.of_keep hi kk (off_one hR.os.gm) (fun x hx (e : x = om) => hR.os.vm (e ▸ hx))⟩
theorem run_mkset (w : World) : (Instr.makeMap 178 none).run Tryz.prog w = .ok (.map (some w.heap.size)) (w.alloc (kmap kInt (setEnts []))) := rfl
def ClosePost (G : GH) (A : GV) (n : Nat) (w : World) (tv : Value) (all : List Nat) (e : Ending) (w' : World) : Prop :=
  ∃ om G', e = .returned (.agg #[tv, .map (some om)]) ∧ Grew G w G' ∧ TInv G' A w' n ∧ Keep (isV A) w w' ∧ (∀ v t, TR G A w v t → TR G' A w' v t) ∧ AllG G' (.map (some om)) all

theorem TInv.put {G : GH} {A : GV} {w : World} {n b : Nat} {o : Obj} (h : TInv G A w n) (hb : w.heap[b]? = some o) (hv : ¬ isV A b) : TInv (G.put b o) A w n :=
  ⟨h.holds.put hb, fun N c nm e => by
    obtain ⟨x1, x2, x3, i, hi⟩ := h.vars N c nm e
    exact ⟨x1, x2, by rw [GH.put_other _ _ (fun e' => hv (by rw [← e']; exact ⟨N, nm, e⟩))]; exact x3, i, hi⟩⟩
set_option maxRecDepth 100000 in
set_option maxHeartbeats 4000000 in
theorem close_ok {G : GH} {A : GV} {n : Nat} {w : World} {e : Option Addr} {env : Env} {tv : Value} {t : Ty} (hi : TInv G A w n) (he : EnvR G A w e env) (ht : TR G A w tv t) :
    Calls Tryz.prog 125 #[.pointer e, tv] w (ClosePost G A n w tv (closeAll env t)) := by
  obtain ⟨T, tb, rfl⟩ := ht.iface
  have hmk := run_mkset
  have HI := Lib.hid hi; have HE := Lib.hid he; have HT := Lib.hid ht
  clear hi he ht
  have hmf : ∀ (fn : Fn) (first cap : Array Value) (w : World), (Instr.makeFunc fn first cap).run Tryz.prog w = .ok (.func fn first cap) w := fun _ _ _ _ => rfl
  go_enter Tryz.func125, Tryz.ntmps125
  go_wp2_with fail
  obtain ⟨W0, hW0⟩ : ∃ W0 : World, W0 = (((w.alloc (.cells #[.nilIface, .map none] 180)).alloc (kmap kInt (setEnts []))).alloc (.cells #[.map (some (w.heap.size + 1))] 178)).alloc (.cells #[.pointer e] 177) := ⟨_, rfl⟩
  have z1 : (w.alloc (.cells #[.nilIface, .map none] 180)).heap.size = w.heap.size + 1 := by simp
  have z2 : ((w.alloc (.cells #[.nilIface, .map none] 180)).alloc (kmap kInt (setEnts []))).heap.size = w.heap.size + 2 := by simp
  have z3 : (((w.alloc (.cells #[.nilIface, .map none] 180)).alloc (kmap kInt (setEnts []))).alloc (.cells #[.map (some (w.heap.size + 1))] 178)).heap.size = w.heap.size + 3 := by simp
  have b0 : W0.heap[w.heap.size]? = some (.cells #[.nilIface, .map none] 180) := by rw [hW0]; exact heap_old (heap_old (heap_old (heap_new _ _)))
  have b1 : W0.heap[w.heap.size + 1]? = some (kmap kInt (setEnts [])) := by rw [hW0, ← z1]; exact heap_old (heap_old (heap_new _ _))
  have b2 : W0.heap[w.heap.size + 2]? = some (.cells #[.map (some (w.heap.size + 1))] 178) := by rw [hW0, ← z2]; exact heap_old (heap_new _ _)
  have b3 : W0.heap[w.heap.size + 3]? = some (.cells #[.pointer e] 177) := by rw [hW0, ← z3]; exact heap_new _ _
  have K0 : Keep none' w W0 := by rw [hW0]; exact (((Keep.alloc _ _ _).trans (Keep.alloc _ _ _)).trans (Keep.alloc _ _ _)).trans (Keep.alloc _ _ _)
  have hnv : ∀ i, w.heap.size ≤ i → ¬ isV A i := fun i h hv => by have := HI.out.old hv; omega
  have hng : ∀ i, w.heap.size ≤ i → G i = none := fun i h => HI.out.holds.fresh h
  have HNV := Lib.hid hnv; have HNG := Lib.hid hng
  have S0 := Same.of0 HI.out K0
  have hS0 : SetR G A (w.heap.size + 1) [] W0 := ⟨b1, hng _ (by omega), hnv _ (by omega)⟩
  have HB0 := Lib.hid b0; have HB2 := Lib.hid b2; have HB3 := Lib.hid b3; have HS0 := Lib.hid S0; have HSET := Lib.hid hS0
  have HE0 : Hid (EnvR G A W0 e env) := Lib.hid (by have := HE.out.map (GH.sub.refl G) (d := []) S0.tr; rwa [envApp_nil] at this)
  rw [← hW0]
  clear hW0 z1 z2 z3 b0 b1 b2 b3 K0 hnv hng S0 hS0
  go_loopg [6] env.length (fun gn s6 wr => ∃ (e1 : Option Addr) (env1 : Env) (f : List Nat) (sB : Nat), s6 = .pointer (some ⟨sB, 0, none⟩) ∧ Hid (gn = env1.length) ∧ w.heap.size ≤ sB ∧ Hid (wr.heap[sB]? = some (.cells #[.pointer e1] 177)) ∧ Hid (EnvR G A wr e1 env1) ∧ Hid (SetR G A (w.heap.size + 1) f wr) ∧ Hid (wr.heap[w.heap.size + 2]? = some (.cells #[.map (some (w.heap.size + 1))] 178)) ∧
    Hid (wr.heap[w.heap.size]? = some (.cells #[.nilIface, .map none] 180)) ∧ Hid (freeAll env1 f = freeAll env []) ∧ Hid (Same G A n w wr))
  case atStart => exact ⟨e, env, [], w.heap.size + 3, rfl, Lib.hid rfl, by omega, HB3, HE0, HSET, HB2, HB0, Lib.hid rfl, HS0⟩
  case round =>
    obtain ⟨e1, env1, f, sB, rfl, HM, hsB, HSB, HE1, HS1, HF1, HZ1, HFR, HSM⟩ := hrel
    have c0 : wr.cell? ⟨sB, 0, none⟩ = some (.pointer e1) := cell_of_heap HSB.out rfl
    have he1 := HE1.out
    cases he1 with
    | nil =>
      go_wp2_with fail
      have hlr : w.heap.size + 2 < wr.heap.size := lt_of_heap HF1.out
      have zr : (wr.alloc (kmap kInt (setEnts []))).heap.size = wr.heap.size + 1 := by simp
      obtain ⟨w2, hw2⟩ : ∃ w2 : World, w2 = (wr.alloc (kmap kInt (setEnts []))).alloc (.cells #[.iface T (.pointer (some ⟨tb, 0, none⟩)), .map (some wr.heap.size)] 180) := ⟨_, rfl⟩
      have k2 : Keep none' wr w2 := by rw [hw2]; exact (Keep.alloc _ _ _).trans (Keep.alloc _ _ _)
      have q0 : w2.heap[wr.heap.size]? = some (kmap kInt (setEnts [])) := by rw [hw2]; exact heap_old (heap_new _ _)
      have q1 : w2.heap[wr.heap.size + 1]? = some (.cells #[.iface T (.pointer (some ⟨tb, 0, none⟩)), .map (some wr.heap.size)] 180) := by rw [hw2, ← zr]; exact heap_new _ _
      have hc2 : C2R G A (w.heap.size + 2) (w.heap.size + 1) (wr.heap.size + 1) wr.heap.size (.iface T (.pointer (some ⟨tb, 0, none⟩))) f [] w2 :=
        ⟨k2.get HF1.out (fun x => x), q1, HNV.out _ (by omega), HNV.out _ (by omega), HS1.out.keep0 k2, ⟨q0, HNG.out _ (by omega), HNV.out _ (by omega)⟩, by omega⟩
      have S2 : Same G A n w w2 := HSM.out.trans (Same.of0 HSM.out.inv k2)
      have hea := each_ok (do2 (n := n)) t.size w2 _ t [] S2.inv (S2.tr _ _ HT.out) (Nat.le_refl _) hc2
      have hfr := HFR.out
      simp only [freeAll] at hfr
      have HEA := Lib.hid hea; have HS2 := Lib.hid S2; have HFR2 := Lib.hid hfr
      have HZ2 := Lib.hid (k2.get HZ1.out (fun x => x)); have HK2 := Lib.hid k2
      rw [← hw2]
      clear hea S2 hfr k2 hc2 q0 q1 zr hw2
      refine HEA.out.mono ?_
      rintro e w3 ⟨rfl, hc3, s3⟩
      have d0 : w3.cell? ⟨wr.heap.size + 1, 0, none⟩ = some (.iface T (.pointer (some ⟨tb, 0, none⟩))) := cell_of_heap hc3.co rfl
      have d1 : w3.cell? ⟨wr.heap.size + 1, 1, none⟩ = some (.map (some wr.heap.size)) := cell_of_heap hc3.co rfl
      have hz3 : w3.heap[w.heap.size]? = some (.cells #[.nilIface, .map none] 180) := s3.keep.get HZ2.out (fun e => by
        rcases e with e | e
        · exact HNV.out _ (Nat.le_refl _) e
        · have e' : w.heap.size = wr.heap.size := e
          omega)
      have c4 : w3.cell? ⟨w.heap.size, 0, none⟩ = some .nilIface := cell_of_heap hz3 rfl
      have c5 : w3.cell? ⟨w.heap.size, 1, none⟩ = some (.map none) := cell_of_heap hz3 rfl
      have f3 : ∀ i, w3.frozen? ⟨w.heap.size, i, none⟩ = false := fun i => free_of_heap hz3
      have hzz : ((w3.setCell ⟨w.heap.size, 0, none⟩ (.iface T (.pointer (some ⟨tb, 0, none⟩)))).setCell ⟨w.heap.size, 1, none⟩ (.map (some wr.heap.size))).heap[w.heap.size]? = some (.cells #[.iface T (.pointer (some ⟨tb, 0, none⟩)), .map (some wr.heap.size)] 180) := heap_set_same (c := #[.iface T (.pointer (some ⟨tb, 0, none⟩)), .map none]) (heap_set_same (c := #[.nilIface, .map none]) hz3)
      have g0 := cell_of_heap (i := 0) hzz rfl
      have g1 := cell_of_heap (i := 1) hzz rfl
      have HC3 := Lib.hid hc3; have HS3 := Lib.hid s3
      clear hc3 s3 hz3 hzz
      go_wp2_with fail
      refine bodyPost_ret (v := .agg #[.iface T (.pointer (some ⟨tb, 0, none⟩)), .map (some wr.heap.size)]) (by simp [results, Tryz.results125, go_sem, g0, g1]) rfl ?_
      have kz : Keep (one' w.heap.size) w3 ((w3.setCell ⟨w.heap.size, 0, none⟩ (.iface T (.pointer (some ⟨tb, 0, none⟩)))).setCell ⟨w.heap.size, 1, none⟩ (.map (some wr.heap.size))) := (Keep.setCell (S := one' w.heap.size) w3 (p := ⟨w.heap.size, 0, none⟩) _ (fun _ => rfl)).trans (Keep.setCell (S := one' w.heap.size) _ (p := ⟨w.heap.size, 1, none⟩) _ (fun _ => rfl))
      have hvz : ∀ b, isV A b → ¬ one' w.heap.size b := fun b hb (e : b = w.heap.size) => HNV.out _ (Nat.le_refl _) (e ▸ hb)
      have hgz : G.off (one' w.heap.size) := off_one (HNG.out _ (Nat.le_refl _))
      have hom : w3.heap[wr.heap.size]? = some (kmap kInt (setEnts (closeAll env t))) := by
        have := HC3.out.os.mp
        rw [HFR2.out] at this
        exact this
      have hom2 := kz.get hom (fun (e : wr.heap.size = w.heap.size) => by omega)
      have hgo : G wr.heap.size = none := HNG.out _ (by omega)
      have iz := (HS3.out.inv.keep kz hgz hvz)
      refine ⟨wr.heap.size, G.put wr.heap.size (kmap kInt (setEnts (closeAll env t))), rfl, ⟨GH.sub_put hgo, fun b hb => GH.put_other _ _ (by omega)⟩, iz.put hom2 (HNV.out _ (by omega)), ?_, fun v u r => ?_, .inr ⟨_, rfl, GH.put_same _ _ _⟩⟩
      · refine (HS2.out.keep.trans' HS3.out.keep (fun _ _ x => x) (fun i hi e => ?_)).trans' kz (fun _ _ x => x) (fun i hi (e : i = w.heap.size) => by omega)
        rcases e with e | e
        · exact e
        · have e' : i = wr.heap.size := e
          omega
      · exact (HS3.out.tr _ _ (HS2.out.tr _ _ r)).up HS3.out.inv kz hvz (GH.sub_put hgo) (GV.sub.refl A)
    | @cons sb up nm1 tv1 mv1 s1 r hg ht1 ha1 hr1 =>
      have hd := do1 (A := A) (n := n) (sB := sB) (fB := w.heap.size + 2) (mb := w.heap.size + 1) hg (let ⟨T, b, e⟩ := ht1.iface; ⟨T, b, e⟩) ha1
      have hc1 : C1R G A sB sb (w.heap.size + 2) (w.heap.size + 1) f wr := ⟨HSB.out, HF1.out, HNV.out _ hsB, HNV.out _ (by omega), HS1.out⟩
      have hea := each_ok hd s1.t.size wr _ s1.t f HSM.out.inv ht1 (Nat.le_refl _) hc1
      have d2 : wr.cell? ⟨sb, 2, none⟩ = some tv1 := cell_of_heap (HSM.out.inv.holds _ _ hg) rfl
      obtain ⟨T1, tb1, rfl⟩ := ht1.iface
      have HEA := Lib.hid hea; have HG1 := Lib.hid hg; have HR1 := Lib.hid hr1
      clear hea hd hc1 hg ht1 ha1 hr1
      go_wp2_with fail
      refine HEA.out.mono ?_
      rintro e w3 ⟨rfl, hc3, s3⟩
      have hlr : w.heap.size + 2 < wr.heap.size := lt_of_heap HF1.out
      have d0 : w3.cell? ⟨sB, 0, none⟩ = some (.pointer (some ⟨sb, 0, none⟩)) := cell_of_heap hc3.cs rfl
      have d3 : (w3.alloc (.cells #[.pointer (some ⟨sb, 0, none⟩)] 177)).cell? ⟨sb, 0, none⟩ = some (.pointer up) := cell_of_heap (heap_old (s3.inv.holds _ _ HG1.out)) rfl
      have HC3 := Lib.hid hc3; have HS3 := Lib.hid s3
      clear hc3 s3
      go_wp2_with fail
      have ka : Keep none' w3 (w3.alloc (.cells #[.pointer up] 177)) := Keep.alloc _ _ _
      have hnz : ∀ i, i < wr.heap.size → w.heap.size ≤ i → i ≠ w.heap.size + 1 → ¬ (isV A i ∨ one' (w.heap.size + 1) i) := fun i _ h h1 e => by
        rcases e with e | e
        · exact HNV.out _ h e
        · exact h1 e
      have k4 : Keep (fun b => isV A b ∨ one' (w.heap.size + 1) b) wr (w3.alloc (.cells #[.pointer up] 177)) := HS3.out.keep.trans ka.of_none
      have htr : ∀ v u, TR G A wr v u → TR G A (w3.alloc (.cells #[.pointer up] 177)) v u := fun v u h => (HS3.out.tr v u h).keep0 HS3.out.inv ka
      have S4 : Same G A n w (w3.alloc (.cells #[.pointer up] 177)) := ⟨HSM.out.keep.trans' k4 (fun _ _ x => x) (fun i hi e => by
        rcases e with e | e
        · exact e
        · have e' : i = w.heap.size + 1 := e
          omega), HS3.out.inv.keep0 ka, fun v u h => htr v u (HSM.out.tr v u h)⟩
      have HS4 := Lib.hid S4
      have HE4 : Hid (EnvR G A (w3.alloc (.cells #[.pointer up] 177)) up r) := Lib.hid (by have := HR1.out.map (GH.sub.refl G) (d := []) htr; rwa [envApp_nil] at this)
      have HZ4 := Lib.hid (k4.get HZ1.out (hnz _ (by omega) (Nat.le_refl _) (by omega)))
      have HF4 := Lib.hid (k4.get HF1.out (hnz _ (by omega) (by omega) (by omega)))
      have HSET4 := Lib.hid (HC3.out.set.keep0 ka)
      have hz3 : w.heap.size ≤ w3.heap.size := by have := HS3.out.keep.size; omega
      have HB4 : Hid ((w3.alloc (.cells #[.pointer up] 177)).heap[w3.heap.size]? = some (.cells #[.pointer up] 177)) := Lib.hid (heap_new _ _)
      clear ka k4 htr S4
      go_roundg r.length
      case measure => have := HM.out; simp only [List.length_cons] at this; omega
      case rel => exact ⟨up, r, s1.t.vs.foldl (freeN s1.all) f, w3.heap.size, rfl, Lib.hid rfl, hz3, HB4, HE4, HSET4, HF4, HZ4, Lib.hid (by have := HFR.out; simpa only [freeAll] using this), HS4⟩
end Go.Proofs.YtabikmkoajdhmaaGreatDoor

/- What a function that owns some boxes and a counter keeps while it calls the engine's readers. -/
namespace Go.Proofs.YtabikmkoajdhmaaGreatDoor
open Go.RowKit

/-- Since w: H, the boxes of its own; cb, its counter; G, what stands fixed. -/
structure WSt (w : World) (cb : Nat) (H G0 G : GH) (A : GV) (n : Nat) (wr : World) : Prop where
  k : Keep none' w wr
  g : G0.sub G
  ei : EI cb G A wr n
  hb : ∀ i, touch cb A i → w.heap.size ≤ i
  own : Holds H wr
  off : ∀ b o, H b = some o → G b = none ∧ ¬ touch cb A b ∧ w.heap.size ≤ b
theorem WSt.ext {w wr w' : World} {cb n n' : Nat} {H G0 G G' : GH} {A A' : GV} {d : Dl} (h : WSt w cb H G0 G A n wr) (x : Ext cb G A wr d G' A' w') (ei : EI cb G' A' w' n') : WSt w cb H G0 G' A' n' w' :=
  ⟨h.k.behind x.keep h.hb, h.g.trans x.g.sub, ei, GrewV.behind h.k.size x.a h.hb, h.own.keep x.keep (fun b o e => (h.off b o e).2.1), fun b o e =>
    ⟨(x.g.eq b (h.own.lt e)).trans (h.off b o e).1, fun t => (h.off b o e).2.1 (touch_old x.a (h.own.lt e) t), (h.off b o e).2.2⟩⟩
theorem WSt.keep0 {w wr w' : World} {cb n : Nat} {H G0 G : GH} {A : GV} (h : WSt w cb H G0 G A n wr) (k : Keep none' wr w') : WSt w cb H G0 G A n w' := by
  obtain ⟨ei, x⟩ := h.ei.keep0 k
  exact h.ext x ei
theorem WSt.grow {w wr w' : World} {cb n : Nat} {H G0 G G' : GH} {A : GV} (h : WSt w cb H G0 G A n wr) (k : Keep none' wr w') (g : Grew G wr G') (hG : Holds G' w') : WSt w cb H G0 G' A n w' := by
  have hi : TInv G' A w' n := ⟨hG, fun N b nm e => by
    obtain ⟨a, b', c, is, d⟩ := h.ei.inv.vars N b nm e
    exact ⟨a, b', (g.eq b (lt_of_heap d)).trans c, is, k.get d (fun x => x)⟩⟩
  obtain ⟨ei, x⟩ := h.ei.up k g hi
  exact h.ext x ei
theorem WSt.put {w wr : World} {cb n b : Nat} {o : Obj} {H G0 G : GH} {A : GV} (h : WSt w cb H G0 G A n wr) (hb : wr.heap[b]? = some o) (hg : G b = none) (hw : w.heap.size ≤ b) (ht : ¬ touch cb A b) : WSt w cb (H.put b o) G0 G A n wr :=
  ⟨h.k, h.g, h.ei, h.hb, h.own.put hb, fun c o' e => by
    by_cases hc : c = b
    · subst hc; exact ⟨hg, ht, hw⟩
    · rw [GH.put_other _ _ hc] at e; exact h.off c o' e⟩
theorem WSt.notouch {w wr : World} {cb n b : Nat} {H G0 G : GH} {A : GV} (h : WSt w cb H G0 G A n wr) (hb : wr.heap.size ≤ b) : ¬ touch cb A b := fun t => by
  rcases t with t | t
  · have := h.ei.lt; omega
  · have := h.ei.inv.old t; omega
/-- A new box. -/
theorem WSt.new {w wr w' : World} {cb n b : Nat} {o : Obj} {H G0 G : GH} {A : GV} (h : WSt w cb H G0 G A n wr) (k : Keep none' wr w') (hb : w'.heap[b]? = some o) (hn : wr.heap.size ≤ b) : WSt w cb (H.put b o) G0 G A n w' :=
  (h.keep0 k).put hb (h.ei.inv.holds.fresh hn) (Nat.le_trans h.k.size hn) (h.notouch hn)
theorem WSt.keepOwn {w wr w' : World} {cb n b : Nat} {o : Obj} {H G0 G : GH} {A : GV} (h : WSt w cb H G0 G A n wr) (hb : H b = some o) (k : Keep (one' b) wr w') : (∀ v t, TR G A wr v t → TR G A w' v t) ∧ EI cb G A w' n := by
  obtain ⟨hg, ht, _⟩ := h.off b o hb
  have hvo : ∀ c, isV A c → ¬ one' b c := fun c hc (e : c = b) => ht (.inr (e ▸ hc))
  have hgo : G.off (one' b) := fun c o' hc (e : c = b) => by subst e; rw [hg] at hc; cases hc
  exact ⟨fun v t r => r.up h.ei.inv k hvo (GH.sub.refl _) (GV.sub.refl _), ⟨h.ei.inv.keep k hgo hvo, k.get h.ei.cnt (fun e => ht (.inl (Eq.symm e))), h.ei.cg, h.ei.cv⟩⟩
/-- A box of its own is written. -/
theorem WSt.set {w wr w' : World} {cb n b : Nat} {o o' : Obj} {H G0 G : GH} {A : GV} (h : WSt w cb H G0 G A n wr) (hb : H b = some o) (k : Keep (one' b) wr w') (hz : w'.heap[b]? = some o') : WSt w cb (H.put b o') G0 G A n w' := by
  obtain ⟨hg, ht, hw⟩ := h.off b o hb
  refine ⟨h.k.behind k (fun i (e : i = b) => by omega), h.g, (h.keepOwn hb k).2, h.hb, fun c o2 e => ?_, fun c o2 e => ?_⟩
  · by_cases hc : c = b
    · subst hc; rw [GH.put_same] at e; cases e; exact hz
    · rw [GH.put_other _ _ hc] at e; exact k.get (h.own c o2 e) hc
  · by_cases hc : c = b
    · subst hc; exact ⟨hg, ht, hw⟩
    · rw [GH.put_other _ _ hc] at e; exact h.off c o2 e
/-- A row of its own, handed over by a call. -/
theorem WSt.row {w wr w' : World} {cb n base T : Nat} {v : Value} {xs : List Value} {H G0 G : GH} {A : GV} (h : WSt w cb H G0 G A n wr) (k : Keep none' wr w') (hr : w'.ownsRow base T 1 v xs.length xs) (hb : wr.heap.size ≤ base) :
    ∃ H', WSt w cb H' G0 G A n w' ∧ SlR H' v xs ∧ H.sub H' := by
  obtain ⟨hl, hr⟩ := hr
  rcases hr with ⟨rfl, hn⟩ | ⟨g, cap, cur, rfl, hbg, hgg, h1, h2, h3, h4⟩
  · have : xs = [] := List.length_eq_zero_iff.1 hn
    subst this
    exact ⟨H, h.keep0 k, .inl ⟨rfl, rfl⟩, GH.sub.refl _⟩
  · have hng : wr.heap.size ≤ g := Nat.le_trans hb hbg
    refine ⟨H.put g (.cells cur T), h.new k hgg hng, .inr ⟨g, cur, T, cap, rfl, GH.put_same _ _ _, fun i hi => ?_⟩, GH.sub_put (h.own.fresh hng)⟩
    have h5 : cur.toList[i]? = some xs[i] := by
      have : (cur.toList.take (xs.length * 1))[i]? = xs[i]? := by rw [h4]
      rw [List.getElem?_take, if_pos (by omega)] at this
      rw [this]; simp [hi]
    simpa using h5
/-- The counter is laid, nothing else. -/
theorem WSt.start {w W : World} {G : GH} (k : Keep none' w W) (hG : Holds G W) : WSt w W.heap.size noG G G noA 0 (W.alloc (cntObj 0)) :=
  ⟨k.trans (Keep.alloc _ _ _), GH.sub.refl _, ⟨⟨hG.keep0 (Keep.alloc _ _ _), fun N b nm e => by cases e⟩, heap_new _ _, hG.fresh (Nat.le_refl _), noA_isV _⟩, fun i hi => by
    rcases hi with rfl | hi
    · exact k.size
    · exact absurd hi (noA_isV i), noG_holds _, fun b o e => by cases e⟩
theorem noG_sub (G : GH) : noG.sub G := fun b o e => by cases e
/-- The row is never written again: it stands among the fixed blocks. -/
theorem WSt.rowG {w wr w' : World} {cb n base T : Nat} {v : Value} {xs : List Value} {H G0 G : GH} {A : GV} (h : WSt w cb H G0 G A n wr) (k : Keep none' wr w') (hr : w'.ownsRow base T 1 v xs.length xs) (hb : wr.heap.size ≤ base) :
    ∃ G', WSt w cb H G' G' A n w' ∧ SlR G' v xs ∧ G.sub G' := by
  obtain ⟨hl, hr⟩ := hr
  rcases hr with ⟨rfl, hn⟩ | ⟨g, cap, cur, rfl, hbg, hgg, h1, h2, h3, h4⟩
  · have : xs = [] := List.length_eq_zero_iff.1 hn
    subst this
    have st := h.keep0 k
    exact ⟨G, ⟨st.k, GH.sub.refl _, st.ei, st.hb, st.own, st.off⟩, .inl ⟨rfl, rfl⟩, GH.sub.refl _⟩
  · have hng : wr.heap.size ≤ g := Nat.le_trans hb hbg
    have hf : G g = none := h.ei.inv.holds.fresh hng
    have st := h.grow k (G' := G.put g (.cells cur T)) ⟨GH.sub_put hf, fun b hb => GH.put_other _ _ (by omega)⟩ ((h.ei.inv.holds.keep0 k).put hgg)
    refine ⟨_, ⟨st.k, GH.sub.refl _, st.ei, st.hb, st.own, st.off⟩, .inr ⟨g, cur, T, cap, rfl, GH.put_same _ _ _, fun i hi => ?_⟩, GH.sub_put hf⟩
    have h5 : cur.toList[i]? = some xs[i] := by
      have : (cur.toList.take (xs.length * 1))[i]? = xs[i]? := by rw [h4]
      rw [List.getElem?_take, if_pos (by omega)] at this
      rw [this]; simp [hi]
    simpa using h5
theorem GH.put_put (G : GH) (b : Nat) (o o' : Obj) : (G.put b o).put b o' = G.put b o' := funext fun k => by
  unfold GH.put; split <;> rfl
end Go.Proofs.YtabikmkoajdhmaaGreatDoor

/- infer.scheme by a contract. -/
namespace Go.Proofs.YtabikmkoajdhmaaGreatDoor
open Go.RowKit

/-- The scheme of a name and a type that were handed in. -/
def schS (nm typ : Str) (n : Nat) : Option (Except Flt (Sch × Nat)) :=
  if (hd (toks wordsB nm 0)).kind = .name ∧ (hd (toks wordsB nm 0)).text = nm then
    (match readTy typ n with
    | none => none
    | some (.error f) => some (.error { what := 5, s := nm, inner := f.what, innerAt := f.pos })
    | some (.ok (t, st)) => some (.ok (⟨t, closeAll [] t⟩, st.n)))
  else some (.error { what := 5, s := nm })
theorem readTy_err {s : Str} {n : Nat} {f : Flt} (h : readTy s n = some (.error f)) : f.what = 2 ∨ f.what = 1 ∨ f.what = 8 := by
  unfold readTy at h
  split at h
  · injection h with h; injection h with h; subst h; exact .inr (.inl rfl)
  · split at h
    · cases h
    · injection h with h; injection h with h; subst h; exact .inl rfl
    · split at h
      · injection h with h; injection h with h; subst h; exact .inr (.inr rfl)
      · cases h
def SchPost (cb : Nat) (G : GH) (A : GV) (p : Nat → Addr) (w : World) (r : Option (Except Flt (Sch × Nat))) (e : Ending) (w' : World) : Prop :=
  match r with
  | some (.ok (s, n)) => ∃ tv mv G' A', e = .returned (.tuple #[.agg #[tv, mv], .nilIface]) ∧ Ext cb G A w [] G' A' w' ∧ EI cb G' A' w' n ∧ TR G' A' w' tv s.t ∧ AllG G' mv s.all
  | some (.error f) => ∃ v G', e = .returned (.tuple #[.agg #[.nilIface, .map none], v]) ∧ Keep (touch cb A) w w' ∧ Grew G w G' ∧ Holds G' w' ∧ ErrR G' p v f
  | none => False

/-- What is left behind an error: a new *EnvError; the result's cells are written. -/
theorem sch_env {cb : Nat} {G G1 : GH} {A : GV} {p : Nat → Addr} {nm : Str} {w w1 : World} {ev : Value} {f : Flt} (k1 : Keep (touch cb A) w w1) (g1 : Grew G w G1) (h1 : Holds G1 w1) (hz : w1.heap[w.heap.size]? = some (.cells #[.nilIface, .map none] 180)) (hg : G1 w.heap.size = none)
    (hf : ∀ G2 : GH, G1.sub G2 → G2 w1.heap.size = some (.cells #[.string (bs nm), ev] 138) → ErrR G2 p (.iface 134 (.pointer (some ⟨w1.heap.size, 0, none⟩))) f) :
    SchPost cb G A p w (some (.error f)) (.returned (.tuple #[.agg #[.nilIface, .map none], .iface 134 (.pointer (some ⟨w1.heap.size, 0, none⟩))])) (((w1.alloc (.cells #[.string (bs nm), ev] 138)).setCell ⟨w.heap.size, 0, none⟩ .nilIface).setCell ⟨w.heap.size, 1, none⟩ (.map none)) := by
  have hlt := lt_of_heap hz
  have hf0 : G1 w1.heap.size = none := h1.fresh (Nat.le_refl _)
  have ks : Keep (one' w.heap.size) (w1.alloc (.cells #[.string (bs nm), ev] 138)) (((w1.alloc (.cells #[.string (bs nm), ev] 138)).setCell ⟨w.heap.size, 0, none⟩ .nilIface).setCell ⟨w.heap.size, 1, none⟩ (.map none)) := (Keep.setCell (S := one' w.heap.size) _ (p := ⟨w.heap.size, 0, none⟩) _ (fun _ => rfl)).trans (Keep.setCell (S := one' w.heap.size) _ (p := ⟨w.heap.size, 1, none⟩) _ (fun _ => rfl))
  have kk := (k1.trans (Keep.alloc _ w1 (.cells #[.string (bs nm), ev] 138))).trans' ks (fun _ _ h => h) (fun i hi (e : i = w.heap.size) => by omega)
  have h2 := ((h1.keep0 (Keep.alloc none' w1 (.cells #[.string (bs nm), ev] 138))).keep ks (off_one hg)).put (ks.get (heap_new w1 _) (fun (e : w1.heap.size = w.heap.size) => by omega))
  exact ⟨_, _, rfl, kk, ⟨g1.sub.trans (GH.sub_put hf0), fun b hb => (GH.put_other _ _ (by omega)).trans (g1.eq b hb)⟩, h2, hf _ (GH.sub_put hf0) (GH.put_same _ _ _)⟩

set_option maxRecDepth 100000 in
set_option maxHeartbeats 4000000 in
theorem scheme_ok (cb : Nat) (G : GH) (A : GV) (p : Nat → Addr) (nm : Str) (S : ByteArray) (w : World) (n : Nat) (hi : EI cb G A w n) (hs : Sents p w) (hso : Sents.off p (touch cb A)) (hnm : nm.length ≤ 1000000) (hm : S.size ≤ 9223372036854775807) {r : Option (Except Flt (Sch × Nat))} (hr : schS nm (bytes S) n = r) (hne : r ≠ none) :
    Calls Tryz.prog 80 #[.string (bs nm), .string S, .pointer (some ⟨cb, 0, none⟩)] w (SchPost cb G A p w r) := by
  have hbn : bytes (bs nm) = nm := by simp [bytes, bs]
  have hnew := new_any (words_lx (S := bs nm) (by rw [bs_size]; omega)) (w.alloc (.cells #[.nilIface, .map none] 180))
  rw [hbn] at hnew
  have hz : (w.alloc (.cells #[.nilIface, .map none] 180)).heap.size = w.heap.size + 1 := by simp
  rw [hz] at hnew
  have h0 : (w.alloc (.cells #[.nilIface, .map none] 180)).heap[w.heap.size]? = some (.cells #[.nilIface, .map none] 180) := heap_new _ _
  have HZ := Lib.hid h0
  have HNEW := Lib.hid hnew; have HI := Lib.hid hi; have HS := Lib.hid hs; have HSO := Lib.hid hso; have HR := Lib.hid hr; have HNE := Lib.hid hne
  clear hz h0 hnew hi hs hso hr hne
  go_enter Tryz.func80, Tryz.ntmps80
  go_wp2_with fail
  refine HNEW.out.mono ?_
  rintro e w1 ⟨rfl, k1, r1⟩
  obtain ⟨i0, hi0, hl, hrd⟩ := r1
  obtain ⟨T, hT⟩ : ∃ T, T = (lexAt wordsB (bytes (bs nm)) i0).1 := ⟨_, rfl⟩
  have hhd : hd (toks wordsB nm 0) = T := by rw [hl, hd_toks wordsB _ i0 (by rw [bytes_length]; exact hi0), hT]
  have hgk : goodK T.kind := by rw [hT]; exact lexAt_good words_good _ _
  rw [← hT] at hrd
  have d2 : w1.cell? ⟨w.heap.size + 1, 2, none⟩ = some (.string (bs (kstr T.kind))) := cell_of_heap hrd rfl
  have d3 : w1.cell? ⟨w.heap.size + 1, 3, none⟩ = some (.string (bs T.text)) := cell_of_heap hrd rfl
  have hkn := kind_is hgk good_name
  have kA : Keep none' w w1 := (Keep.alloc _ _ _).trans k1
  have hz1 := k1.get HZ.out (fun x => x)
  have HK := Lib.hid kA; have HZ1 := Lib.hid hz1; have HHD := Lib.hid hhd
  clear hl hrd hT hi0 hgk kA hz1 k1 hhd hbn
  by_cases hk : T.kind = .name
  · have q1 : ((bs (kstr T.kind)).toList == [97, 32, 110, 97, 109, 101]) = true := hkn.trans (by simp [hk])
    clear hkn
    by_cases ht : T.text = nm
    · have q2 : ((bs T.text).toList == (bs nm).toList) = true := by rw [str_eq2]; simp [ht]
      have hr := HR.out
      unfold schS at hr
      rw [if_pos (by rw [HHD.out]; exact ⟨hk, ht⟩)] at hr
      obtain ⟨ei1, x1⟩ := HI.out.keep0 HK.out
      cases hrt : readTy (bytes S) n with
      | none => rw [hrt] at hr; exact absurd hr.symm HNE.out
      | some rt =>
        have htr := tread_any cb G A p S w1 n ei1 (HS.out.keep0 HK.out) HSO.out hm hrt (by simp)
        have HTR := Lib.hid htr; have HRT := Lib.hid hrt; have HX1 := Lib.hid x1; have HRR := Lib.hid (hr)
        rw [hrt] at hr
        have HRR := Lib.hid hr
        clear htr hrt x1 ei1 hr hk ht
        go_wp2_with fail
        refine HTR.out.mono ?_
        cases rt with
        | error f =>
          rintro e2 w2 ⟨u1, u2, ev, G2, rfl, k2, g2, h2, er2⟩
          obtain ⟨Te, ae, rfl⟩ := er2.iface
          have hzn : ¬ touch cb A w.heap.size := fun h => by
            rcases h with h | h
            · have := HI.out.lt; omega
            · have := HI.out.inv.old h; omega
          have hz2 := k2.get HZ1.out hzn
          have hg2 : G2 w.heap.size = none := (g2.eq _ (lt_of_heap HZ1.out)).trans (HI.out.inv.holds.fresh (Nat.le_refl _))
          have hzE := heap_old (o' := .cells #[.string (bs nm), .iface Te (.pointer (some ae))] 138) hz2
          have z0 := cell_of_heap (i := 0) hzE rfl
          have z1 := cell_of_heap (i := 1) hzE rfl
          have zf : ∀ i, (w2.alloc (.cells #[.string (bs nm), .iface Te (.pointer (some ae))] 138)).frozen? ⟨w.heap.size, i, none⟩ = false := fun i => free_of_heap hzE
          have hzF : (((w2.alloc (.cells #[.string (bs nm), .iface Te (.pointer (some ae))] 138)).setCell ⟨w.heap.size, 0, none⟩ .nilIface).setCell ⟨w.heap.size, 1, none⟩ (.map none)).heap[w.heap.size]? = some (.cells #[.nilIface, .map none] 180) := heap_set_same (c := #[.nilIface, .map none]) (heap_set_same (c := #[.nilIface, .map none]) hzE)
          have y0 := cell_of_heap (i := 0) hzF rfl
          have y1 := cell_of_heap (i := 1) hzF rfl
          have hr := HRR.out
          simp only at hr
          have HRS := Lib.hid hr
          have HF := Lib.hid (sch_env (nm := nm) (HX1.out.keep.trans k2) (HX1.out.g.trans HX1.out.keep g2) h2 hz2 hg2 (fun G3 hs hg => .env (f := f) hg (er2.sub hs) (readTy_err HRT.out)))
          clear hzE hzF hz2 hg2 k2 g2 h2 er2 hr hzn
          go_wp2_with fail
          refine bodyPost_ret (v := .tuple #[.agg #[.nilIface, .map none], .iface 134 (.pointer (some ⟨w2.heap.size, 0, none⟩))]) (by simp [results, Tryz.results80, go_sem, y0, y1]) rfl ?_
          rw [← HRS.out]
          exact HF.out
        | ok q =>
          obtain ⟨t, st⟩ := q
          rintro e2 w2 ⟨tv, m, G2, A2, rfl, x2, ei2, y2, _⟩
          obtain ⟨Tt, bt, rfl⟩ := y2.iface
          have X2 := HX1.out.then0 x2
          have hzn : ¬ touch cb A w.heap.size := fun h => by
            rcases h with h | h
            · have := HI.out.lt; omega
            · have := HI.out.inv.old h; omega
          have hz2 := x2.keep.get HZ1.out hzn
          have hltz := lt_of_heap HZ1.out
          have hg2 : G2 w.heap.size = none := (x2.g.eq _ hltz).trans (HI.out.inv.holds.fresh (Nat.le_refl _))
          have hv2 : ¬ isV A2 w.heap.size := x2.a.isV hltz (fun h => hzn (.inr h))
          have HG2 := Lib.hid hg2; have HV2 := Lib.hid hv2
          have hcl := close_ok (e := none) (env := []) ei2.inv .nil y2
          have HCL := Lib.hid hcl; have HX2 := Lib.hid X2; have HE2 := Lib.hid ei2; have HY2 := Lib.hid y2; have HZ2 := Lib.hid hz2
          have hr := HRR.out
          simp only at hr
          have HRS := Lib.hid hr
          clear hcl X2 x2 ei2 y2 hz2 hr hzn hg2 hv2 hltz
          go_wp2_with fail
          refine HCL.out.mono ?_
          rintro e3 w3 ⟨om, G3, rfl, g3, i3, k3, tr3, ag3⟩
          have hz3 := k3.get HZ2.out HV2.out
          have z0 := cell_of_heap (i := 0) hz3 rfl
          have z1 := cell_of_heap (i := 1) hz3 rfl
          have zf : ∀ i, w3.frozen? ⟨w.heap.size, i, none⟩ = false := fun i => free_of_heap hz3
          have hzF : ((w3.setCell ⟨w.heap.size, 0, none⟩ (.iface Tt (.pointer (some ⟨bt, 0, none⟩)))).setCell ⟨w.heap.size, 1, none⟩ (.map (some om))).heap[w.heap.size]? = some (.cells #[.iface Tt (.pointer (some ⟨bt, 0, none⟩)), .map (some om)] 180) := heap_set_same (c := #[.iface Tt (.pointer (some ⟨bt, 0, none⟩)), .map none]) (heap_set_same (c := #[.nilIface, .map none]) hz3)
          have y0 := cell_of_heap (i := 0) hzF rfl
          have y1 := cell_of_heap (i := 1) hzF rfl
          have ei3 : EI cb G3 A2 w3 st.n := ⟨i3, k3.get HE2.out.cnt HE2.out.cv, g3.sz HE2.out.lt HE2.out.cg, HE2.out.cv⟩
          have x3 : Ext cb G2 A2 w2 [] G3 A2 w3 := ⟨k3.mono (fun i _ h => .inr h), g3, GrewV.refl _ _, fun v t r => tr3 v t r⟩
          have X3 := HX2.out.then0 x3
          have ks : Keep (one' w.heap.size) w3 ((w3.setCell ⟨w.heap.size, 0, none⟩ (.iface Tt (.pointer (some ⟨bt, 0, none⟩)))).setCell ⟨w.heap.size, 1, none⟩ (.map (some om))) := (Keep.setCell (S := one' w.heap.size) _ (p := ⟨w.heap.size, 0, none⟩) _ (fun _ => rfl)).trans (Keep.setCell (S := one' w.heap.size) _ (p := ⟨w.heap.size, 1, none⟩) _ (fun _ => rfl))
          have hg3 : G3 w.heap.size = none := (g3.eq _ (lt_of_heap HZ2.out)).trans HG2.out
          have hvs : ∀ b, isV A2 b → ¬ one' w.heap.size b := fun b hb (e : b = w.heap.size) => HV2.out (e ▸ hb)
          have HX3 := Lib.hid X3; have HE3 := Lib.hid ei3; have HKS := Lib.hid ks; have HG3 := Lib.hid hg3; have HVS := Lib.hid hvs; have HAG := Lib.hid ag3
          have HY3 := Lib.hid (tr3 _ _ HY2.out)
          clear hz3 hzF ei3 x3 X3 ks hg3 hvs ag3 g3 i3 k3 tr3
          go_wp2_with fail
          refine bodyPost_ret (v := .tuple #[.agg #[.iface Tt (.pointer (some ⟨bt, 0, none⟩)), .map (some om)], .nilIface]) (by simp [results, Tryz.results80, go_sem, y0, y1]) rfl ?_
          rw [← HRS.out]
          have hcbn : cb ≠ w.heap.size := by have := HI.out.lt; omega
          exact ⟨_, _, G3, A2, rfl, ⟨HX3.out.keep.trans' HKS.out (fun _ _ h => h) (fun i hi (e : i = w.heap.size) => by omega), HX3.out.g, HX3.out.a, fun v t r => (HX3.out.tr v t r).keep HE3.out.inv HKS.out HVS.out⟩, ⟨HE3.out.inv.keep HKS.out (off_one HG3.out) HVS.out, HKS.out.get HE3.out.cnt hcbn, HE3.out.cg, HE3.out.cv⟩, HY3.out.keep HE3.out.inv HKS.out HVS.out, HAG.out⟩
    · have q2 : ((bs T.text).toList == (bs nm).toList) = false := by rw [str_eq2]; simp [ht]
      have hneg : ¬ (T.kind = .name ∧ T.text = nm) := fun h => ht h.2
      clear hk ht
      have kE : Keep none' w1 (w1.alloc (.cells #[.string (bs nm), .nilIface] 138)) := Keep.alloc _ _ _
      have hzE := kE.get HZ1.out (fun x => x)
      have z0 := cell_of_heap (i := 0) hzE rfl
      have z1 := cell_of_heap (i := 1) hzE rfl
      have zf : ∀ i, (w1.alloc (.cells #[.string (bs nm), .nilIface] 138)).frozen? ⟨w.heap.size, i, none⟩ = false := fun i => free_of_heap hzE
      have hz2 : (((w1.alloc (.cells #[.string (bs nm), .nilIface] 138)).setCell ⟨w.heap.size, 0, none⟩ .nilIface).setCell ⟨w.heap.size, 1, none⟩ (.map none)).heap[w.heap.size]? = some (.cells #[.nilIface, .map none] 180) := heap_set_same (c := #[.nilIface, .map none]) (heap_set_same (c := #[.nilIface, .map none]) hzE)
      have y0 := cell_of_heap (i := 0) hz2 rfl
      have y1 := cell_of_heap (i := 1) hz2 rfl
      have hr := HR.out
      unfold schS at hr
      rw [if_neg (by rw [HHD.out]; exact hneg)] at hr
      have HRR := Lib.hid hr
      clear hz2 hzE kE hr hneg
      go_wp2_with fail
      refine bodyPost_ret (v := .tuple #[.agg #[.nilIface, .map none], .iface 134 (.pointer (some ⟨w1.heap.size, 0, none⟩))]) (by simp [results, Tryz.results80, go_sem, y0, y1]) rfl ?_
      rw [← HRR.out]
      exact sch_env HK.out.of_none (Grew.refl _ _) (HI.out.inv.holds.keep0 HK.out) HZ1.out (HI.out.inv.holds.fresh (Nat.le_refl _)) (fun G2 _ hg => .env0 hg)
  · have q1 : ((bs (kstr T.kind)).toList == [97, 32, 110, 97, 109, 101]) = false := hkn.trans (by simp [hk])
    have hneg : ¬ (T.kind = .name ∧ T.text = nm) := fun h => hk h.1
    clear hkn hk
    have kE : Keep none' w1 (w1.alloc (.cells #[.string (bs nm), .nilIface] 138)) := Keep.alloc _ _ _
    have hzE := kE.get HZ1.out (fun x => x)
    have z0 := cell_of_heap (i := 0) hzE rfl
    have z1 := cell_of_heap (i := 1) hzE rfl
    have zf : ∀ i, (w1.alloc (.cells #[.string (bs nm), .nilIface] 138)).frozen? ⟨w.heap.size, i, none⟩ = false := fun i => free_of_heap hzE
    have hz2 : (((w1.alloc (.cells #[.string (bs nm), .nilIface] 138)).setCell ⟨w.heap.size, 0, none⟩ .nilIface).setCell ⟨w.heap.size, 1, none⟩ (.map none)).heap[w.heap.size]? = some (.cells #[.nilIface, .map none] 180) := heap_set_same (c := #[.nilIface, .map none]) (heap_set_same (c := #[.nilIface, .map none]) hzE)
    have y0 := cell_of_heap (i := 0) hz2 rfl
    have y1 := cell_of_heap (i := 1) hz2 rfl
    have hr := HR.out
    unfold schS at hr
    rw [if_neg (by rw [HHD.out]; exact hneg)] at hr
    have HRR := Lib.hid hr
    clear hz2 hzE kE hr hneg
    go_wp2_with fail
    refine bodyPost_ret (v := .tuple #[.agg #[.nilIface, .map none], .iface 134 (.pointer (some ⟨w1.heap.size, 0, none⟩))]) (by simp [results, Tryz.results80, go_sem, y0, y1]) rfl ?_
    rw [← HRR.out]
    exact sch_env HK.out.of_none (Grew.refl _ _) (HI.out.inv.holds.keep0 HK.out) HZ1.out (HI.out.inv.holds.fresh (Nat.le_refl _)) (fun G2 _ hg => .env0 hg)

end Go.Proofs.YtabikmkoajdhmaaGreatDoor
