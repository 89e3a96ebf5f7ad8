/- (*engine).rec by a contract (no watcher): round after round. -/
import Derived.Test.YtabikmkoajdhmabGreatDoorQ36
set_option linter.unusedVariables false
set_option linter.unusedSimpArgs false
namespace Go.Proofs.YtabikmkoajdhmabGreatDoor
open Go.RowKit

theorem und_schs : Tryz.prog.underlying 323 = some (.slice 119) := by kernel_rfl
theorem info_sch : (Tryz.prog.info? 119).map (fun i => (i.zero, i.size, i.bytes)) = some (some (.agg #[.nilIface, .map none]), 2, 24) := by kernel_rfl
theorem make_schs (n : Nat) (h : n ≤ 1000000000) (w : World) : ∃ M : Array Value, M.size = n * 2 ∧ (Instr.makeSlice 323 (.int .i64 (n : Int)) (.int .i64 (n : Int))).run Tryz.prog w = .ok (.slice (some ⟨w.heap.size, 0, none⟩) n n) (w.alloc (.cells M 119)) := by
  obtain ⟨ity, hity, zs0, zs1, zs2⟩ := info_parts info_sch
  have hr := run_make (P := Tryz.prog) w 323 119 ity _ und_schs hity zs0 .i64 .i64 n n (by omega) (Int.le_refl _) (by rw [zs2]; omega) (by omega)
  simp only [Int.toNat_natCast, zs1] at hr
  exact ⟨_, size_madeCells _ _, hr⟩

theorem neq_nilFunc (w : World) : (binOp .neq 67 .nilFunc .nilFunc).run Tryz.prog w = .ok (.bool false) w := by kernel_rfl

set_option maxRecDepth 100000 in
set_option maxHeartbeats 4000000 in
theorem rec_ok (u : Sur) (hu : SurOk u) (hnl : SurNil u) (k : Nat) (ih : ∀ j, j ≤ k → ∀ P : Nat → Prop, (∀ b, P b → u.P b) → OfOk (u.narrow P) j) {G : GH} {A : GV} {w : World} {n : Nat} {pos : Int} {l : List Told} {env : Env} {e : Option Addr} {b : Nat} {nv lv ev : Value} {vs : List Value} {bd : Bs} {x : Ex} {r : ERes}
    (hin : EngIn u G A w n l env e) (hg : G b = some (.cells #[.int .i64 pos, nv, lv, ev] 221)) (hnv : SlR G nv (bd.names.map fun n => .string (bs n))) (hlv : SlR G lv vs) (hbd : BsR G vs bd) (hvs : vs ≠ [] ∧ vs.length ≤ 1000000000) (hx : ExR G ev x)
    (hn : n + bd.exprs.length < 1000000000) (hr : roundS u.fuel u.stop k env bd.names bd.exprs x (newSchs bd.exprs.length n) 1 (n + bd.exprs.length) l [] = r) (hne : r ≠ none) :
    Calls Tryz.prog 140 #[.pointer (some ⟨u.gB, 0, none⟩), .pointer (some ⟨b, 0, none⟩), .pointer e] w (EngPost u G A w r) := by
  have hvl : vs.length = bd.exprs.length := hbd.list.1
  obtain ⟨al, capl, rfl, hcl⟩ := hlv.shp
  have c0 : w.cell? ⟨b, 2, none⟩ = some (.slice al vs.length capl) := cell_of_heap (hin.ei.inv.holds _ _ hg) rfl
  have HIN := Lib.hid hin; have HU := Lib.hid hu; have HNL := Lib.hid hnl; have IH := Lib.hid ih; have HR := Lib.hid hr; have HNE := Lib.hid hne; have HB := Lib.hid hg; have HNV := Lib.hid hnv; have HBD := Lib.hid hbd; have HX := Lib.hid hx; have HCL := Lib.hid hcl; have HVL := Lib.hid hvl; have HVS := Lib.hid hvs; have HN := Lib.hid hn
  have hv2 : vs.length ≤ 1000000000 := hvs.2
  clear hin hu hnl ih hr hne hnv hbd hx hcl hvl hlv hvs hn
  have c2 : ((w.alloc (.cells #[.pointer (some ⟨b, 0, none⟩)] 218)).alloc (.cells #[.pointer e] 114)).cell? ⟨b, 2, none⟩ = some (.slice al vs.length capl) := cell_of_heap (heap_old (heap_old (HIN.out.ei.inv.holds _ _ HB.out))) rfl
  obtain ⟨M, hM, hmk⟩ := make_schs vs.length hv2 ((w.alloc (.cells #[.pointer (some ⟨b, 0, none⟩)] 218)).alloc (.cells #[.pointer e] 114))
  have HM := Lib.hid hM
  clear c0 hg hM
  go_enter Tryz.func140, Tryz.ntmps140
  go_wp2_with fail
  obtain ⟨w4, hw4⟩ : ∃ w4, w4 = ((((w.alloc (.cells #[.pointer (some ⟨b, 0, none⟩)] 218)).alloc (.cells #[.pointer e] 114)).alloc (.cells M 119)).alloc (.cells #[.slice (some ⟨w.heap.size + 1 + 1, 0, none⟩) vs.length vs.length] 323)) := ⟨_, rfl⟩
  obtain ⟨N, hN⟩ : ∃ N, N = w.heap.size := ⟨_, rfl⟩
  have z1 : (w.alloc (.cells #[.pointer (some ⟨b, 0, none⟩)] 218)).heap.size = N + 1 := by rw [hN]; simp
  have z2 : ((w.alloc (.cells #[.pointer (some ⟨b, 0, none⟩)] 218)).alloc (.cells #[.pointer e] 114)).heap.size = N + 1 + 1 := by rw [hN]; simp
  have z3 : (((w.alloc (.cells #[.pointer (some ⟨b, 0, none⟩)] 218)).alloc (.cells #[.pointer e] 114)).alloc (.cells M 119)).heap.size = N + 1 + 1 + 1 := by rw [hN]; simp
  have b0 : w4.heap[N]? = some (.cells #[.pointer (some ⟨b, 0, none⟩)] 218) := by rw [hw4, hN]; exact heap_old (heap_old (heap_old (heap_new _ _)))
  have b1 : w4.heap[N + 1]? = some (.cells #[.pointer e] 114) := by rw [hw4, ← z1]; exact heap_old (heap_old (heap_new _ _))
  have b2 : w4.heap[N + 1 + 1]? = some (.cells M 119) := by rw [hw4, ← z2]; exact heap_old (heap_new _ _)
  have b3 : w4.heap[N + 1 + 1 + 1]? = some (.cells #[.slice (some ⟨N + 1 + 1, 0, none⟩) vs.length vs.length] 323) := by rw [hw4, hN, ← hN, ← z3, hN]; exact heap_new _ _
  have k4 : Keep none' w w4 := by rw [hw4]; exact (((Keep.alloc _ _ _).trans (Keep.alloc _ _ _)).trans (Keep.alloc _ _ _)).trans (Keep.alloc _ _ _)
  have s4 : w4.heap.size = N + 1 + 1 + 1 + 1 := by rw [hw4, hN]; simp
  have f0 : ∀ i, N ≤ i → G i = none := fun i h => HIN.out.ei.inv.holds.fresh (by omega)
  have v0 : ∀ i, N ≤ i → ¬ isV A i := fun i h hv => by have := HIN.out.ei.inv.old hv; omega
  obtain ⟨G4, hG4⟩ : ∃ G4, G4 = (G.put N (.cells #[.pointer (some ⟨b, 0, none⟩)] 218)).put (N + 1) (.cells #[.pointer e] 114) := ⟨_, rfl⟩
  have q0 : G4 N = some (.cells #[.pointer (some ⟨b, 0, none⟩)] 218) := by rw [hG4, GH.put_other _ _ (by omega)]; exact GH.put_same _ _ _
  have q1 : G4 (N + 1) = some (.cells #[.pointer e] 114) := by rw [hG4]; exact GH.put_same _ _ _
  have q2 : ∀ i, i ≠ N → i ≠ N + 1 → G4 i = G i := fun i h1 h2 => by rw [hG4, GH.put_other _ _ h2, GH.put_other _ _ h1]
  have g4 : Grew G w G4 := ⟨fun i o h => by rw [q2 i (fun e => by rw [e, f0 N (Nat.le_refl _)] at h; cases h) (fun e => by rw [e, f0 (N + 1) (by omega)] at h; cases h)]; exact h, fun i hi => q2 i (by omega) (by omega)⟩
  have i4 : TInv G4 A w4 n := by rw [hG4]; exact ((HIN.out.ei.inv.keep0 k4).put b0 (v0 N (Nat.le_refl _))).put b1 (v0 (N + 1) (by omega))
  obtain ⟨ei4, x4⟩ := HIN.out.ei.up k4 g4 i4
  have r4 := HU.out.stable l G A n w w4 HIN.out.rw' HIN.out.ei x4.keep
  have hcb : u.cb < N := by have := HIN.out.ei.lt; omega
  have own4 : ∀ i, (i = N + 1 + 1 ∨ i = N + 1 + 1 + 1) → G4 i = none ∧ ¬ isV A i := fun i hi => ⟨(q2 i (by omega) (by omega)).trans (f0 i (by omega)), v0 i (by omega)⟩
  rw [← hw4, ← hN]
  have HE4 := Lib.hid ei4; have HX4 := Lib.hid x4; have HB2 := Lib.hid b2; have HB3 := Lib.hid b3; have HQ0 := Lib.hid q0; have HQ1 := Lib.hid q1; have HR4 := Lib.hid r4; have HOWN := Lib.hid own4; have HG4 := Lib.hid g4
  have HNW := Lib.hid hN
  have hcb' := Lib.hid hcb
  clear hw4 z1 z2 z3 b0 b1 b2 b3 k4 s4 f0 v0 hG4 q0 q1 q2 g4 i4 ei4 x4 r4 own4 hmk c2 hN hcb
  have hmks := run_mkset
  go_loopg [28] vs.length (fun gn s28 wr => ∃ (j : Nat) (arr : Array Value) (Gj : GH) (Aj : GV), j ≤ vs.length ∧ Hid (gn = vs.length - j) ∧ s28 = .int .i64 j ∧ Hid (EI u.cb Gj Aj wr (n + j)) ∧ Hid (Ext u.cb G A w [] Gj Aj wr) ∧ Hid (G4.sub Gj) ∧
    Hid (wr.heap[N + 1 + 1]? = some (.cells arr 119)) ∧ Hid (arr.size = vs.length * 2) ∧ Hid (wr.heap[N + 1 + 1 + 1]? = some (.cells #[.slice (some ⟨N + 1 + 1, 0, none⟩) vs.length vs.length] 323)) ∧ Hid (∀ i, (i = N + 1 + 1 ∨ i = N + 1 + 1 + 1) → Gj i = none ∧ ¬ isV Aj i) ∧
    Hid (∀ i, i < j → SchAt Gj Aj wr arr i ⟨.var (n + i + 1), [n + i + 1]⟩))
  case atStart => exact ⟨0, M, G4, A, by omega, Lib.hid rfl, rfl, HE4, HX4, Lib.hid (GH.sub.refl _), HB2, HM, HB3, HOWN, Lib.hid (fun i h => absurd h (Nat.not_lt_zero _))⟩
  case round =>
    obtain ⟨j, arr, Gj, Aj, hj, HMS, rfl, HEJ, HXJ, HSUB, HARR, HSZ, HBX, HOW, HAT⟩ := hrel
    have hjj : (0 : Int) ≤ (j : Int) := by omega
    by_cases hlt : j < vs.length
    · have g0 : wr.cell? ⟨u.gB, 0, none⟩ = some (.pointer (some ⟨u.cb, 0, none⟩)) := cell_of_heap (HEJ.out.inv.holds _ _ (HXJ.out.g.sub _ _ HIN.out.eng)) rfl
      have hn1 : n + j < 1000000000 := by have := HN.out; have := HVL.out; omega
      have hnew := new_ok HEJ.out.cnt hn1
      obtain ⟨kc, e5, cnt5⟩ := new_world HEJ.out.cnt
      obtain ⟨ei5, x5, y5⟩ := HEJ.out.new kc e5 cnt5
      have HNEW := Lib.hid hnew; have HE5 := Lib.hid ei5; have HX5 := Lib.hid x5; have HY5 := Lib.hid y5; have HV5 := Lib.hid e5
      clear hnew kc e5 cnt5 ei5 x5 y5
      have hji : ((j : Int) < (vs.length : Int)) := by omega
      go_wp2_with fail
      refine HNEW.out.mono ?_
      rintro e3 w3 ⟨rfl, hw3⟩
      rw [← hw3] at HE5 HX5 HY5 HV5
      obtain ⟨nb, hnb⟩ : ∃ nb, nb = wr.heap.size := ⟨_, rfl⟩
      rw [← hnb]
      rw [← hnb] at HE5 HX5 HY5 HV5
      have hsz3 : wr.heap.size ≤ w3.heap.size := HX5.out.keep.size
      have harr3 := HX5.out.keep.get HARR.out (fun h => by
        rcases h with h | h
        · have := hcb'.out; omega
        · exact (HOW.out _ (.inl rfl)).2 h)
      have hbx3 := HX5.out.keep.get HBX.out (fun h => by
        rcases h with h | h
        · have := hcb'.out; omega
        · exact (HOW.out _ (.inr rfl)).2 h)
      have hnbN : N + 1 + 1 + 1 < nb := by have := lt_of_heap HBX.out; omega
      have hlt3 : nb < w3.heap.size := lt_of_heap HV5.out
      obtain ⟨mk, hmk⟩ : ∃ mk, mk = w3.heap.size := ⟨_, rfl⟩
      have hup := run_upd_new (P := Tryz.prog) und_set key_int (k := ((n + j + 1 : Nat) : Int)) (v := unitV) (w := (w3.alloc (kmap kInt (setEnts []))).drew) (r := mk) (l := []) (by rw [hmk]; exact heap_new w3 _) rfl
      obtain ⟨W6, hW6⟩ : ∃ W6, W6 = World.lay (w3.alloc (kmap kInt (setEnts []))).drew mk (kmap kInt (setEnts [n + j + 1])) := ⟨_, rfl⟩
      have hup2 : (Instr.mapUpdate 117 (.map (some mk)) (.int .i64 ((n : Int) + (j : Int) + 1)) (.agg #[])).run Tryz.prog (w3.alloc (kmap kInt (setEnts []))).drew = .ok () W6 := by rw [hW6]; exact hup
      have k6 : Keep none' w3 W6 := by
        rw [hW6]
        exact ((Keep.alloc none' w3 _).trans (Keep.drew _ _)).trans' (lay_keep _ _ _) (fun _ _ h => h) (fun i hi (h : i = mk) => by omega)
      have hm6 : W6.heap[mk]? = some (kmap kInt (setEnts [n + j + 1])) := by rw [hW6]; exact lay_same (by rw [hmk]; exact lt_of_heap (heap_new w3 _))
      have harr6 := k6.get harr3 (fun x => x)
      have a1 : W6.cell? ⟨N + 1 + 1, j * 2, none⟩ = some (arr[j * 2]'(by have := HSZ.out; omega)) := cell_of_heap harr6 (by simp)
      have a2 : W6.cell? ⟨N + 1 + 1, j * 2 + 1, none⟩ = some (arr[j * 2 + 1]'(by have := HSZ.out; omega)) := cell_of_heap harr6 (by simp)
      have a3 : ∀ i, W6.frozen? ⟨N + 1 + 1, i, none⟩ = false := fun i => free_of_heap harr6
      have S0 : w3.drew.cell? ⟨N + 1 + 1 + 1, 0, none⟩ = some (.slice (some ⟨N + 1 + 1, 0, none⟩) vs.length vs.length) ∧ w3.drew.cell? ⟨nb, 0, none⟩ = some (.int .i64 ((n + j + 1 : Nat) : Int)) := ⟨cell_of_heap (w := w3) hbx3 rfl, cell_of_heap (w := w3) HV5.out rfl⟩
      have S5 : (w3.alloc (kmap kInt (setEnts []))).drew.cell? ⟨N + 1 + 1 + 1, 0, none⟩ = some (.slice (some ⟨N + 1 + 1, 0, none⟩) vs.length vs.length) ∧ (w3.alloc (kmap kInt (setEnts []))).drew.cell? ⟨nb, 0, none⟩ = some (.int .i64 ((n + j + 1 : Nat) : Int)) := ⟨cell_of_heap (w := w3.alloc _) (heap_old hbx3) rfl, cell_of_heap (w := w3.alloc _) (heap_old HV5.out) rfl⟩
      have S6 : W6.cell? ⟨N + 1 + 1 + 1, 0, none⟩ = some (.slice (some ⟨N + 1 + 1, 0, none⟩) vs.length vs.length) ∧ W6.cell? ⟨nb, 0, none⟩ = some (.int .i64 ((n + j + 1 : Nat) : Int)) := ⟨cell_of_heap (k6.get hbx3 (fun x => x)) rfl, cell_of_heap (k6.get HV5.out (fun x => x)) rfl⟩
      have HK6 := Lib.hid k6; have HM6 := Lib.hid hm6; have HA6 := Lib.hid harr6; have HBX3 := Lib.hid hbx3; have HMK := Lib.hid hmk; have HNB := Lib.hid hnb
      clear hmk hup hW6 hw3 hnb k6 hm6 harr6 harr3 hbx3 g0
      go_wp2_with fail
      refine wp_region_float (fun w' => w'.cell? ⟨N + 1 + 1 + 1, 0, none⟩ = some (.slice (some ⟨N + 1 + 1, 0, none⟩) vs.length vs.length) ∧ w'.cell? ⟨nb, 0, none⟩ = some (.int .i64 ((n + j + 1 : Nat) : Int))) [1, 2, 3, 5, 6, 7, 9, 11, 12, 13] [0, 8] (by kernel_rfl) ?_
      (refine floatS (i := 0) (v := ?_) rfl (by kernel_rfl) (by kernel_rfl) (by kernel_rfl) (by kernel_rfl) (fun _ _ _ h => h) (by assumption) (by rfl) ?_ ?_); rotate_left
      (intro wF hF; (try dsimp only at hF); go_simp; try with_reducible rfl)
      (try simp only [Act.put, List.setIfInBounds_toArray, List.set_cons_zero, List.set_cons_succ])
      (refine float0 (i := 1) (v := ?_) rfl (by kernel_rfl) (by kernel_rfl) (by kernel_rfl) (by kernel_rfl) (fun _ _ _ h => h) (by rfl) ?_ ?_); rotate_left
      (intro wF; go_simp; try with_reducible rfl)
      (try simp only [Act.put, List.setIfInBounds_toArray, List.set_cons_zero, List.set_cons_succ])
      (refine float0 (i := 2) (v := ?_) rfl (by kernel_rfl) (by kernel_rfl) (by kernel_rfl) (by kernel_rfl) (fun _ _ _ h => h) (by rfl) ?_ ?_); rotate_left
      (intro wF; go_simp; try with_reducible rfl)
      (try simp only [Act.put, List.setIfInBounds_toArray, List.set_cons_zero, List.set_cons_succ])
      (refine float0 (i := 3) (v := ?_) rfl (by kernel_rfl) (by kernel_rfl) (by kernel_rfl) (by kernel_rfl) (fun _ _ _ h => h) (by rfl) ?_ ?_); rotate_left
      (intro wF; go_simp; try with_reducible rfl)
      (try simp only [Act.put, List.setIfInBounds_toArray, List.set_cons_zero, List.set_cons_succ])
      (refine float0 (i := 5) (v := ?_) rfl (by kernel_rfl) (by kernel_rfl) (by kernel_rfl) (by kernel_rfl) (fun _ _ _ h => h) (by rfl) ?_ ?_); rotate_left
      (intro wF; go_simp; try with_reducible rfl)
      (try simp only [Act.put, List.setIfInBounds_toArray, List.set_cons_zero, List.set_cons_succ])
      (refine float0 (i := 6) (v := ?_) rfl (by kernel_rfl) (by kernel_rfl) (by kernel_rfl) (by kernel_rfl) (fun _ _ _ h => h) (by rfl) ?_ ?_); rotate_left
      (intro wF; go_simp; try with_reducible rfl)
      (try simp only [Act.put, List.setIfInBounds_toArray, List.set_cons_zero, List.set_cons_succ])
      (refine float0 (i := 7) (v := ?_) rfl (by kernel_rfl) (by kernel_rfl) (by kernel_rfl) (by kernel_rfl) (fun _ _ _ h => h) (by rfl) ?_ ?_); rotate_left
      (intro wF; go_simp; try with_reducible rfl)
      (try simp only [Act.put, List.setIfInBounds_toArray, List.set_cons_zero, List.set_cons_succ])
      (refine floatS (i := 8) (v := ?_) rfl (by kernel_rfl) (by kernel_rfl) (by kernel_rfl) (by kernel_rfl) (fun _ _ _ h => h) (by assumption) (by rfl) ?_ ?_); rotate_left
      (intro wF hF; (try dsimp only at hF); go_simp; try with_reducible rfl)
      (try simp only [Act.put, List.setIfInBounds_toArray, List.set_cons_zero, List.set_cons_succ])
      (refine float0 (i := 9) (v := ?_) rfl (by kernel_rfl) (by kernel_rfl) (by kernel_rfl) (by kernel_rfl) (fun _ _ _ h => h) (by rfl) ?_ ?_); rotate_left
      (intro wF; go_simp; try with_reducible rfl)
      (try simp only [Act.put, List.setIfInBounds_toArray, List.set_cons_zero, List.set_cons_succ])
      (refine floatM (i := 4) rfl (by kernel_rfl) (by kernel_rfl) (fun K hK => ?_)); go_simp
      rw [← HMK.out]
      refine hK.out _ _ (fun _ => S5) ?_
      clear hK K
      (try simp only [Act.put, List.setIfInBounds_toArray, List.set_cons_zero, List.set_cons_succ])
      (refine floatM (i := 10) rfl (by kernel_rfl) (by kernel_rfl) (fun K hK => ?_)); go_simp
      refine hK.out _ _ (fun _ => S6) ?_
      clear hK K
      (try simp only [Act.put, List.setIfInBounds_toArray, List.set_cons_zero, List.set_cons_succ])
      (refine float0 (i := 11) (v := ?_) rfl (by kernel_rfl) (by kernel_rfl) (by kernel_rfl) (by kernel_rfl) (fun _ _ _ h => h) (by rfl) ?_ ?_); rotate_left
      (intro wF; go_simp; try with_reducible rfl)
      (try simp only [Act.put, List.setIfInBounds_toArray, List.set_cons_zero, List.set_cons_succ])
      (refine float0 (i := 12) (v := ?_) rfl (by kernel_rfl) (by kernel_rfl) (by kernel_rfl) (by kernel_rfl) (fun _ _ _ h => h) (by rfl) ?_ ?_); rotate_left
      (intro wF; go_simp; try with_reducible rfl)
      (try simp only [Act.put, List.setIfInBounds_toArray, List.set_cons_zero, List.set_cons_succ])
      (refine float0 (i := 13) (v := ?_) rfl (by kernel_rfl) (by kernel_rfl) (by kernel_rfl) (by kernel_rfl) (fun _ _ _ h => h) (by rfl) ?_ ?_); rotate_left
      (intro wF; go_simp; try with_reducible rfl)
      (try simp only [Act.put, List.setIfInBounds_toArray, List.set_cons_zero, List.set_cons_succ])
      obtain ⟨W7, hW7⟩ : ∃ W7, W7 = (W6.setCell ⟨N + 1 + 1, j * 2, none⟩ (.iface 178 (.pointer (some ⟨nb, 0, none⟩)))).setCell ⟨N + 1 + 1, j * 2 + 1, none⟩ (.map (some mk)) := ⟨_, rfl⟩
      have k7 : Keep (one' (N + 1 + 1)) W6 W7 := by rw [hW7]; exact (Keep.setCell (S := one' (N + 1 + 1)) W6 (p := ⟨N + 1 + 1, j * 2, none⟩) _ (fun _ => rfl)).trans (Keep.setCell (S := one' (N + 1 + 1)) _ (p := ⟨N + 1 + 1, j * 2 + 1, none⟩) _ (fun _ => rfl))
      have harr7 : W7.heap[N + 1 + 1]? = some (.cells ((arr.setIfInBounds (j * 2) (.iface 178 (.pointer (some ⟨nb, 0, none⟩)))).setIfInBounds (j * 2 + 1) (.map (some mk))) 119) := by rw [hW7]; exact heap_set_same (heap_set_same HA6.out)
      have S7 : W7.cell? ⟨N + 1 + 1 + 1, 0, none⟩ = some (.slice (some ⟨N + 1 + 1, 0, none⟩) vs.length vs.length) ∧ W7.cell? ⟨nb, 0, none⟩ = some (.int .i64 ((n + j + 1 : Nat) : Int)) := ⟨cell_of_heap (k7.get (HK6.out.get HBX3.out (fun x => x)) (fun (h : N + 1 + 1 + 1 = N + 1 + 1) => by omega)) rfl, cell_of_heap (k7.get (HK6.out.get HV5.out (fun x => x)) (fun (h : nb = N + 1 + 1) => by omega)) rfl⟩
      have HK7 := Lib.hid k7; have HA7 := Lib.hid harr7; have HW7 := Lib.hid hW7
      clear k7 harr7 hW7
      (refine floatM (i := 14) rfl (by kernel_rfl) (by kernel_rfl) (fun K hK => ?_)); go_simp
      rw [← HW7.out]
      refine hK.out _ _ (fun _ => S7) ?_
      clear hK K
      (try simp only [Act.put, List.setIfInBounds_toArray, List.set_cons_zero, List.set_cons_succ])
      (refine floatE (by kernel_rfl) ?_)
      clear S0 S5 S6 S7 a1 a2 a3 hup2
      go_wp2_with fail
      have hsz := HSZ.out
      have hg6 : Gj mk = none := HE5.out.inv.holds.fresh (by have := HMK.out; omega)
      have hv6 : ¬ isV (Aj.put (n + j + 1) (nb, [])) mk := fun h => by have := HE5.out.inv.old h; have := HMK.out; omega
      have gg6 : Grew Gj w3 (Gj.put mk (kmap kInt (setEnts [n + j + 1]))) := ⟨GH.sub_put hg6, fun i hi => GH.put_other _ _ (by have := HMK.out; omega)⟩
      have i6 := (HE5.out.inv.keep0 HK6.out).put HM6.out hv6
      obtain ⟨ei6, x6⟩ := HE5.out.up HK6.out gg6 i6
      have ow6 : ∀ i, (i = N + 1 + 1 ∨ i = N + 1 + 1 + 1) → (Gj.put mk (kmap kInt (setEnts [n + j + 1]))) i = none ∧ ¬ isV (Aj.put (n + j + 1) (nb, [])) i := fun i hi => by
        have hlt : i < wr.heap.size := by have := lt_of_heap HBX.out; omega
        refine ⟨(GH.put_other _ _ (by have := HMK.out; omega)).trans (HOW.out i hi).1, HX5.out.a.isV hlt (HOW.out i hi).2⟩
      have og7 : (Gj.put mk (kmap kInt (setEnts [n + j + 1]))).off (one' (N + 1 + 1)) := off_one (ow6 _ (.inl rfl)).1
      have ov7 : ∀ b, isV (Aj.put (n + j + 1) (nb, [])) b → ¬ one' (N + 1 + 1) b := fun b hb (h : b = N + 1 + 1) => (ow6 _ (.inl rfl)).2 (h ▸ hb)
      have i7 := ei6.inv.keep HK7.out og7 ov7
      have hcb2 : u.cb ≠ N + 1 + 1 := by have := hcb'.out; omega
      have ei7 : EI u.cb (Gj.put mk (kmap kInt (setEnts [n + j + 1]))) (Aj.put (n + j + 1) (nb, [])) W7 (n + j + 1) := ⟨i7, HK7.out.get ei6.cnt hcb2, ei6.cg, ei6.cv⟩
      have tr7 : ∀ v t, TR Gj (Aj.put (n + j + 1) (nb, [])) w3 v t → TR (Gj.put mk (kmap kInt (setEnts [n + j + 1]))) (Aj.put (n + j + 1) (nb, [])) W7 v t := fun v t r => (x6.tr _ _ r).keep ei6.inv HK7.out ov7
      have XX := (HXJ.out.then0 HX5.out).then0 x6
      have x7 : Ext u.cb G A w [] (Gj.put mk (kmap kInt (setEnts [n + j + 1]))) (Aj.put (n + j + 1) (nb, [])) W7 := ⟨XX.keep.trans' HK7.out (fun _ _ h => h) (fun i hi (h : i = N + 1 + 1) => by have := HNW.out; omega), XX.g, XX.a, fun v t r => (XX.tr v t r).keep ei6.inv HK7.out ov7⟩
      have hat7 : ∀ i, i < j + 1 → SchAt (Gj.put mk (kmap kInt (setEnts [n + j + 1]))) (Aj.put (n + j + 1) (nb, [])) W7 ((arr.setIfInBounds (j * 2) (.iface 178 (.pointer (some ⟨nb, 0, none⟩)))).setIfInBounds (j * 2 + 1) (.map (some mk))) i ⟨.var (n + i + 1), [n + i + 1]⟩ := fun i hi => by
        by_cases hij : i = j
        · subst hij
          refine ⟨_, _, ?_, ?_, tr7 _ _ HY5.out, .inr ⟨mk, rfl, GH.put_same _ _ _⟩⟩
          · rw [Array.getElem?_setIfInBounds_ne (by omega), Array.getElem?_setIfInBounds_self_of_lt (by omega)]; rfl
          · rw [Array.getElem?_setIfInBounds_self_of_lt (by simp; omega)]
        · obtain ⟨tv, mv, p1, p2, p3, p4⟩ := (HAT.out i (by omega)).ex
          refine ⟨tv, mv, ?_, ?_, tr7 _ _ (HX5.out.tr _ _ p3), p4.sub gg6.sub⟩
          · rw [Array.getElem?_setIfInBounds_ne (by omega), Array.getElem?_setIfInBounds_ne (by omega)]; exact p1
          · rw [Array.getElem?_setIfInBounds_ne (by omega), Array.getElem?_setIfInBounds_ne (by omega)]; exact p2
      have hbx7 := HK7.out.get (HK6.out.get HBX3.out (fun x => x)) (fun (h : N + 1 + 1 + 1 = N + 1 + 1) => by omega)
      go_roundg (vs.length - (j + 1))
      case measure => have := HMS.out; omega
      case rel => exact ⟨j + 1, _, _, _, by omega, Lib.hid rfl, by go_num, Lib.hid ei7, Lib.hid x7, Lib.hid (HSUB.out.trans gg6.sub), HA7, Lib.hid (by simpa using hsz), Lib.hid hbx7, Lib.hid ow6, Lib.hid hat7⟩
    · have hje : j = vs.length := by omega
      subst hje
      go_wp2_with fail
      have hsz := HSZ.out
      have hoA := HOW.out (N + 1 + 1) (.inl rfl)
      have hoB := HOW.out (N + 1 + 1 + 1) (.inr rfl)
      have hsub5 : Gj.sub (Gj.put (N + 1 + 1) (.cells arr 119)) := GH.sub_put hoA.1
      have i5 := HEJ.out.inv.put HARR.out hoA.2
      have ei5 : EI u.cb (Gj.put (N + 1 + 1) (.cells arr 119)) Aj wr (n + vs.length) := ⟨i5, HEJ.out.cnt, by rw [GH.put_other _ _ (by have := hcb'.out; omega)]; exact HEJ.out.cg, HEJ.out.cv⟩
      have tr5 : ∀ v t, TR Gj Aj wr v t → TR (Gj.put (N + 1 + 1) (.cells arr 119)) Aj wr v t := fun v t r => r.mono hsub5 (GV.sub.refl _) (fun _ _ _ _ => rfl)
      have hlen5 : (newSchs bd.exprs.length n).length = vs.length := by rw [newSchs_len, HVL.out]
      have st5 : RcSt u G A w G4 (N + 1 + 1 + 1) (.slice (some ⟨N + 1 + 1, 0, none⟩) vs.length vs.length) (newSchs bd.exprs.length n) [] (n + bd.exprs.length) (Gj.put (N + 1 + 1) (.cells arr 119)) Aj wr :=
        ⟨⟨HXJ.out.keep.mono (fun i _ h => HIN.out.po.t i h), ⟨HXJ.out.g.sub.trans hsub5, fun i hi => (GH.put_other _ _ (by have := HNW.out; omega)).trans (HXJ.out.g.eq i hi)⟩, HXJ.out.a, fun v t r => tr5 _ _ (HXJ.out.tr v t r)⟩, by rw [← HVL.out]; exact ei5, HSUB.out.trans hsub5, HBX.out, by rw [GH.put_other _ _ (by omega)]; exact hoB.1, hoB.2, by have := hcb'.out; omega,
          ⟨N + 1 + 1, arr, by rw [hlen5], GH.put_same _ _ _, fun i hi => by
            rw [newSchs_get]
            obtain ⟨tv, mv, p1, p2, p3, p4⟩ := (HAT.out i (by omega)).ex
            exact ⟨tv, mv, p1, p2, tr5 _ _ p3, p4.sub hsub5⟩⟩⟩
      have HST := Lib.hid st5
      have HL5 := Lib.hid hlen5
      clear hoA hoB hsub5 i5 ei5 tr5 st5 hlen5 HEJ HXJ HSUB HARR HSZ HBX HOW HAT HB2 HB3 HM HOWN HE4 HX4 HR4 HMS hj hjj hsz
      have hef : ∀ args w, (callFunc 167 args).run Tryz.prog w = .ok (.enter 167 args) w := fun args w => by kernel_rfl
      have hfuel := HNL.out.fuel
      go_loopg [11] u.fuel (fun gn s11 wr => ∃ (rd kk n1 : Nat) (d : Dl) (schs : List Sch) (l1 : List Told) (G1 : GH) (A1 : GV) (sv : Value), s11 = .int .i64 rd ∧ 1 ≤ rd ∧ rd ≤ u.fuel + 1 ∧ Hid (gn = u.fuel + 1 - rd) ∧ kk ≤ k ∧ Hid (RcSt u G A w G4 (N + 1 + 1 + 1) sv schs d n1 G1 A1 wr) ∧ Hid (schs.length = vs.length) ∧ Hid (roundS u.fuel u.stop kk (envApp d env) bd.names bd.exprs x schs rd n1 l1 d = r))
      case atStart => exact ⟨1, k, _, [], _, l, _, _, _, rfl, by omega, by omega, Lib.hid (by omega), Nat.le_refl _, HST, HL5, Lib.hid (by rw [envApp_nil]; exact HR.out)⟩
      case round =>
        obtain ⟨rd, kk, n1, d, schs, l1, G1, A1, sv, rfl, hrd, hrd2, HMS, hkk, HS1, HL1, HRR⟩ := hrel
        have f1 : wr.cell? ⟨u.gB, 1, none⟩ = some (.int .i64 u.fuel) := cell_of_heap (HS1.out.ei.inv.holds _ _ (HS1.out.x.g.sub _ _ HIN.out.eng)) rfl
        cases kk with
        | zero => exact absurd (by rw [← HRR.out]; exact round0) HNE.out
        | succ k0 =>
          by_cases hle : rd ≤ u.fuel
          · have hlei : (rd : Int) ≤ (u.fuel : Int) := by omega
            have hbind := bind_ok (e := e) (names := bd.names) (ss := schs) (env := envApp d env) HS1.out.ei.inv (HS1.out.sub _ _ HQ1.out) (HS1.out.sub _ _ HQ0.out) (HS1.out.x.g.sub _ _ HB.out) (HNV.out.sub HS1.out.x.g.sub) HS1.out.bx HS1.out.ss (HIN.out.env.extP HS1.out.x) (by rw [HL1.out, HVL.out]; exact bd.names_len) (by have := bd.names_len; have := HVL.out; omega)
            have HBI := Lib.hid hbind; clear hbind
            go_wp2_with fail
            refine HBI.out.mono ?_
            rintro e2 wB ⟨eI, GB, rfl, kB, gB, iB, enB⟩
            obtain ⟨eiB, xB⟩ := HS1.out.ei.up kB gB iB
            have stB := HS1.out.step HIN.out.po xB eiB
            have cB : wB.cell? ⟨N, 0, none⟩ = some (.pointer (some ⟨b, 0, none⟩)) := cell_of_heap (stB.ei.inv.holds _ _ (stB.sub _ _ HQ0.out)) rfl
            have cB2 : wB.cell? ⟨b, 2, none⟩ = some (.slice al vs.length capl) := cell_of_heap (stB.ei.inv.holds _ _ (stB.x.g.sub _ _ HB.out)) rfl
            obtain ⟨envI, henvI⟩ : ∃ envI, envI = bindS bd.names schs (envApp d env) := ⟨_, rfl⟩
            rw [← henvI] at enB
            obtain ⟨RB, hRB⟩ : ∃ RB, RB = bodiesS u.fuel u.stop k0 envI bd.exprs n1 l1 := ⟨_, rfl⟩
            have hRBn : RB ≠ none := fun h => by
              rw [h, henvI, HNL.out.stop] at hRB
              have := HRR.out
              rw [HNL.out.stop, round_none hle hRB.symm] at this
              exact HNE.out this.symm
            have HSB := Lib.hid stB; have HEB := Lib.hid enB; have HRB := Lib.hid hRB; have HRBN := Lib.hid hRBn; have HEI := Lib.hid henvI
            obtain ⟨ity, hity, zs0, zs1, zs2⟩ := info_parts info_type
            clear kB gB iB eiB xB stB enB hRB hRBn HBI f1 henvI
            go_wp2_with fail
            go_loopg [13, 66] vs.length (fun gn s13 s66 wr => ∃ (j : Nat) (Lv : Value) (us : List Value) (ts : List Ty) (q n2 : Nat) (l2 : List Told) (d1 : Dl) (G3 : GH) (A3 : GV), j ≤ vs.length ∧ Hid (gn = vs.length - j) ∧ s66 = .int .i64 j ∧ s13 = Lv ∧ q ≤ k0 ∧
              Hid (RcSt u G A w G4 (N + 1 + 1 + 1) sv (schs.map (Sch.app d1)) (d ++ d1) n2 G3 A3 wr) ∧ Hid (EnvR G3 A3 wr eI (envApp d1 envI)) ∧ Hid (wr.ownsRow w.heap.size 116 1 Lv j us) ∧ Hid (∀ g, Lv.ownBlock = some g → G3 g = none ∧ ¬ isV A3 g ∧ g ≠ u.cb ∧ g ≠ N + 1 + 1 + 1) ∧ Hid (TRs G3 A3 wr us ts) ∧
              Hid (comb ts d1 (bodiesS u.fuel u.stop q (envApp d1 envI) (bd.exprs.drop j) n2 l2) = RB))
            case atStart => exact ⟨0, .slice none 0 0, [], [], k0, n1, l1, [], GB, A1, by omega, Lib.hid rfl, rfl, rfl, Nat.le_refl _, Lib.hid (by rw [map_app_nil, List.append_nil]; exact HSB.out), Lib.hid (by rw [envApp_nil]; exact HEB.out), Lib.hid (World.ownsRow_nil _ _ _ _), Lib.hid (fun g h => by cases h), Lib.hid .nil, Lib.hid (by rw [comb_nil, envApp_nil]; exact HRB.out.symm)⟩
            case round =>
              obtain ⟨j, Lv, us, ts, q, n2, l2, d1, G3, A3, hj, HM2, rfl, rfl, hq, HS3, HE3, HO3, HW3, HU3, HC3⟩ := hrel
              have hjj : (0 : Int) ≤ (j : Int) := by omega
              obtain ⟨ao, capL, rfl, _⟩ := own_shape HO3.out
              by_cases hlt : j < vs.length
              · have hltx : j < bd.exprs.length := by have := HVL.out; omega
                cases q with
                | zero => exact absurd (by rw [← HC3.out, bodies0]; rfl) HRBN.out
                | succ q0 =>
                  obtain ⟨pe, rfl, cj⟩ := HCL.out wr (HS3.out.ei.inv.holds.sub HS3.out.x.g.sub) j vs[j] (by simp [hlt])
                  have hxj := HBD.out.list.2 j vs[j] (bd.exprs[j]) (by simp [hlt]) (by simp [hltx])
                  obtain ⟨Tj, bj, ej⟩ := hxj.shape
                  rw [ej] at cj hxj
                  have hcc := HC3.out
                  rw [drop_cons hltx] at hcc
                  cases hp : ofS u.fuel u.stop q0 (envApp d1 envI) (bd.exprs[j]) n2 l2 with
                  | none => rw [comb_none hp] at hcc; exact absurd hcc.symm HRBN.out
                  | some rr =>
                    have hPn : ∀ i, (u.P i ∧ i ≠ N + 1 + 1 + 1 ∧ (Value.slice ao j capL).ownBlock ≠ some i) → u.P i := fun i h => h.1
                    have hpo := HS3.out.po HIN.out.po
                    have hpn : PO (fun i => u.P i ∧ i ≠ N + 1 + 1 + 1 ∧ (Value.slice ao j capL).ownBlock ≠ some i) u.cb A3 wr := ⟨fun i hi => ⟨hpo.t i hi, fun h => HS3.out.off (h ▸ hi), fun h => by
                        have := HW3.out i h
                        rcases hi with hi | hi
                        · exact this.2.2.1 hi
                        · exact this.2.1 hi⟩, fun i hi => ⟨hpo.n i hi, fun h => by have := lt_of_heap HS3.out.bx; omega, fun h => by have := (HO3.out.lt i h).2; omega⟩⟩
                    have hcall := IH.out q0 (by omega) _ hPn G3 A3 wr n2 l2 (envApp d1 envI) eI _ (bd.exprs[j]) _ ⟨HS3.out.ei, hpn, HNL.out.rw _ _, HE3.out, HS3.out.x.g.sub _ _ HIN.out.eng, HU.out.sents HIN.out.sen HS3.out.x.keep⟩ (hxj.sub HS3.out.x.g.sub) hp (by simp)
                    have HCALL := Lib.hid hcall; have HCC := Lib.hid hcc; have HP := Lib.hid hp
                    clear hcall hcc hpn hpo hPn hp ej hxj
                    have hji : ((j : Int) < (vs.length : Int)) := by omega
                    cases rr with
                    | error ee =>
                      obtain ⟨ke, le⟩ := ee
                      go_wp2_with fail
                      refine HCALL.out.mono ?_
                      rintro e5 w5 ⟨rfl, k5, _⟩
                      have HK5 := Lib.hid (HS3.out.x.keep.trans (k5.mono (T := u.P) (fun i _ h => h.1)))
                      clear k5
                      go_wp2_with fail
                      have hc := HCC.out
                      rw [comb_err HP.out] at hc
                      have hr := HRR.out
                      have hb := HRB.out
                      rw [← hc, HEI.out, HNL.out.stop] at hb
                      rw [HNL.out.stop, round_err hle hb.symm] at hr
                      subst hr
                      exact ⟨rfl, rfl, HK5.out, HNL.out.rw _ _⟩
                    | ok oo =>
                      obtain ⟨t5, dx, n5, l5⟩ := oo
                      go_wp2_with (first | (go_at_call 56; refine HCALL.out.mono ?_; rintro e5 w5 ⟨v5, G5, A5, rfl, x5, ei5, _, y5⟩; obtain ⟨T5, b5, rfl⟩ := y5.iface; have own5 := own_keep HO3.out x5.keep (fun g hg h => h.2.2 hg); have hsz5 : w.heap.size ≤ w5.heap.size := Nat.le_trans HS3.out.x.keep.size x5.keep.size; have HX5 := Lib.hid x5; have HE5 := Lib.hid ei5; have HY5 := Lib.hid y5; have HO5 := Lib.hid own5; clear x5 ei5 y5 own5) | (at_builtin; refine wpList_append_own_at _ rfl _ _ 185 rfl w.heap.size 116 ity .nilIface 1 16 und_types hity zs0 zs1 zs2 rfl (by decide) (.slice ao j capL) j _ rfl (HO5.out.alloc _) ⟨w5.heap.size, 0, none⟩ 1 1 [.iface T5 (.pointer (some ⟨b5, 0, none⟩))] rfl rfl (cell_one_new _ _ _) (fun x hx => by simp at hx; subst hx; rfl) (by unfold maxLen; omega) (by omega) (by simp; omega) ?_; intro v8 w8 own8 g8 _ at8; obtain ⟨ao8, cap8, rfl, _⟩ := own_shape own8; have HO8 := Lib.hid own8; have HG8 := Lib.hid g8; have HA8 := Lib.hid at8; clear own8 g8 at8))
                      have kO : Keep (fun i => (Value.slice ao j capL).ownBlock = some i) w5 w8 := (Keep.alloc none' w5 _).trans' (Keep.grown HG8.out (fun k e _ => e)) (fun _ _ h => h.elim) (fun i hi h => h)
                      have hS5 : ∀ g, (Value.slice ao j capL).ownBlock = some g → w.heap.size ≤ g ∧ G5 g = none ∧ ¬ isV A5 g ∧ g ≠ u.cb ∧ g ≠ N + 1 + 1 + 1 := fun g hg => by
                        have h1 := HO3.out.lt g hg
                        have h2 := HW3.out g hg
                        exact ⟨h1.1, HX5.out.g.sz h1.2 h2.1, HX5.out.a.isV h1.2 h2.2.1, h2.2.2.1, h2.2.2.2⟩
                      have st5 := HS3.out.ext HX5.out (fun b hb => hb.1) (fun hb => hb.2.1 rfl) HE5.out
                      rw [sch_app_append, List.append_assoc] at st5
                      obtain ⟨st8, tr8⟩ := st5.own HIN.out.po kO hS5
                      have en8 : EnvR G5 A5 w8 eI (envApp (d1 ++ dx) envI) := by
                        have h1 := (HE3.out.extP HX5.out).map (GH.sub.refl _) (d := []) tr8
                        rw [envApp_nil, ← envApp_append] at h1
                        exact h1
                      have us8 := ((HU3.out.mapD HX5.out.tr).of tr8).snoc (tr8 _ _ HY5.out)
                      have hc8 := HCC.out
                      rw [comb_ok HP.out, ← envApp_append] at hc8
                      have ow8 : ∀ g, (Value.slice ao8 (j + 1) cap8).ownBlock = some g → G5 g = none ∧ ¬ isV A5 g ∧ g ≠ u.cb ∧ g ≠ N + 1 + 1 + 1 := fun g hg => by
                        rcases HA8.out with h | h
                        · exact (hS5 g (h ▸ hg)).2
                        · rw [h] at hg; injection hg with hg
                          have hgs : w5.heap.size ≤ g := by rw [← hg]; simp
                          have h1 : u.cb < w5.heap.size := HE5.out.lt
                          have h2 := lt_of_heap st5.bx
                          exact ⟨HE5.out.inv.holds.fresh hgs, fun h => by have := HE5.out.inv.old h; omega, by omega, by omega⟩
                      go_roundg (vs.length - (j + 1))
                      case measure => have := HM2.out; omega
                      case rel => exact ⟨j + 1, _, _, _, q0, n5, l5, d1 ++ dx, G5, A5, by omega, Lib.hid rfl, by go_num, rfl, by omega, Lib.hid st8, Lib.hid en8, HO8, Lib.hid ow8, Lib.hid us8, Lib.hid hc8⟩
              · have hje : j = vs.length := by omega
                subst hje
                have hcc := HC3.out
                rw [List.drop_of_length_le (by have := HVL.out; omega)] at hcc
                cases q with
                | zero => exact absurd (by rw [← hcc, bodies0]; rfl) HRBN.out
                | succ q0 =>
                  rw [comb_end] at hcc
                  have hr := HRR.out
                  have hb := HRB.out
                  rw [← hcc, HEI.out, HNL.out.stop] at hb
                  rw [HNL.out.stop] at hr
                  rw [round_ok hle hb.symm (by rw [hr]; exact HNE.out)] at hr
                  have HR4 := Lib.hid hr
                  clear hr hb hcc
                  obtain ⟨G6, sub6, i6, sl6, eq6⟩ := seal_T HS3.out.ei.inv HO3.out (fun g hg => ⟨(HW3.out g hg).1, (HW3.out g hg).2.1⟩)
                  obtain ⟨st6, tr6⟩ := HS3.out.stamp (S := fun g => (Value.slice ao vs.length capL).ownBlock = some g) sub6 i6 (fun b hb => eq6 b hb) (fun g hg => ⟨(HO3.out.lt g hg).1, (HW3.out g hg).2.2⟩)
                  have us6 := HU3.out.ofG tr6
                  obtain ⟨al6, cap6, esl, hcl6⟩ := sl6.shp
                  have hul : us.length = vs.length := by have := HO3.out.1; omega
                  rw [hul] at esl
                  injection esl with es1 es2 es3
                  subst es1; subst es3
                  obtain ⟨M2, hM2, hmk2⟩ := make_schs vs.length hv2 wr
                  obtain ⟨nk, hnk⟩ : ∃ nk, nk = wr.heap.size := ⟨_, rfl⟩
                  have kM : Keep none' wr (wr.alloc (.cells M2 119)) := Keep.alloc _ _ _
                  obtain ⟨eiM, xM⟩ := st6.ei.keep0 kM
                  have stM := st6.step HIN.out.po xM eiM
                  have usM : TRs G6 A3 (wr.alloc (.cells M2 119)) us ts := us6.ofG (fun v t r => xM.tr v t r)
                  have bM : (wr.alloc (.cells M2 119)).heap[nk]? = some (.cells M2 119) := by rw [hnk]; exact heap_new _ _
                  have owM : w.heap.size ≤ nk ∧ G6 nk = none ∧ ¬ isV A3 nk ∧ nk ≠ u.cb ∧ nk ≠ N + 1 + 1 + 1 := by
                    have h1 := st6.x.keep.size; have h2 := st6.ei.lt; have h3 := lt_of_heap st6.bx
                    exact ⟨by omega, st6.ei.inv.holds.fresh (by omega), fun h => by have := st6.ei.inv.old h; omega, by omega, by omega⟩
                  have hlts : ts.length = vs.length := by rw [← us6.len, hul]
                  have HSM := Lib.hid stM; have HUM := Lib.hid usM; have HBM := Lib.hid bM; have HOM := Lib.hid owM; have HNK := Lib.hid hnk; have HM2' := Lib.hid hM2; have HC6 := Lib.hid hcl6; have HLT := Lib.hid hlts; have HUL := Lib.hid hul
                  clear hnk sub6 i6 sl6 eq6 st6 tr6 us6 hcl6 hM2 kM eiM xM stM usM bM owM hlts hul HS3 HE3 HO3 HW3 HU3 HC3 HSB HEB HRB HM2 cB cB2
                  obtain ⟨env1, henv1⟩ : ∃ env1, env1 = envApp (d ++ d1) env := ⟨_, rfl⟩
                  obtain ⟨sch1, hsch1⟩ : ∃ sch1, sch1 = schs.map (Sch.app d1) := ⟨_, rfl⟩
                  have hl1 : sch1.length = vs.length := by rw [hsch1, List.length_map]; exact HL1.out
                  have hr4 := HR4.out
                  rw [← envApp_append, ← henv1, ← hsch1] at hr4
                  have hsm := HSM.out
                  rw [← hsch1] at hsm
                  obtain ⟨nexts, hnexts⟩ : ∃ nexts, nexts = ts.map fun t => (⟨t, closeAll env1 t⟩ : Sch) := ⟨_, rfl⟩
                  rw [← hnexts] at hr4
                  have hln : nexts.length = vs.length := by rw [hnexts, List.length_map]; exact HLT.out
                  have HENV1 := Lib.hid henv1; have HR5 := Lib.hid hr4; have HSM1 := Lib.hid hsm; have HNX := Lib.hid hnexts; have HL1' := Lib.hid hl1; have HLN := Lib.hid hln
                  clear henv1 hsch1 hr4 hsm hnexts hl1 hln HR4 HSM HRR HS1 HL1
                  go_wp2_with fail
                  rw [← HNK.out]
                  go_loopg [17, 83] vs.length (fun gn s17 s83 wr => ∃ (j : Nat) (arr : Array Value) (sm : Bool) (G7 : GH), j ≤ vs.length ∧ Hid (gn = vs.length - j) ∧ s83 = .int .i64 j ∧ s17 = .bool sm ∧ Hid (RcSt u G A w G4 (N + 1 + 1 + 1) sv sch1 (d ++ d1) n2 G7 A3 wr) ∧ Hid (G6.sub G7) ∧ Hid (TRs G7 A3 wr us ts) ∧
                    Hid (wr.heap[nk]? = some (.cells arr 119)) ∧ Hid (arr.size = vs.length * 2) ∧ Hid (w.heap.size ≤ nk ∧ G7 nk = none ∧ ¬ isV A3 nk ∧ nk ≠ u.cb ∧ nk ≠ N + 1 + 1 + 1) ∧ Hid (∀ i (h : i < nexts.length), i < j → SchAt G7 A3 wr arr i nexts[i]) ∧
                    Hid (sm = ((sch1.zip nexts).take j).all fun p => alikeS p.1 p.2))
                  case atStart => exact ⟨0, M2, true, G6, by omega, Lib.hid rfl, rfl, rfl, HSM1, Lib.hid (GH.sub.refl _), HUM, HBM, HM2', HOM, Lib.hid (fun i h h' => absurd h' (Nat.not_lt_zero _)), Lib.hid (by simp)⟩
                  case round =>
                    obtain ⟨j, arr, sm, G7, hj, HM3, rfl, rfl, HS7, HG7, HU7, HA7, HZ7, HO7, HT7, HSM7⟩ := hrel
                    have hjj : (0 : Int) ≤ (j : Int) := by omega
                    by_cases hlt : j < vs.length
                    · have hltu : j < us.length := by have := HUL.out; omega
                      have hltt : j < ts.length := by have := HLT.out; omega
                      have hltn : j < nexts.length := by have := HLN.out; omega
                      have hlts : j < sch1.length := by have := HL1'.out; omega
                      obtain ⟨pe, rfl, cj⟩ := HC6.out wr (HS7.out.ei.inv.holds.sub HG7.out) j us[j] (by simp [hltu])
                      have hxj := HU7.out.get j hltu hltt
                      have hcl := close_ok HS7.out.ei.inv (HIN.out.env.extP HS7.out.x) hxj
                      rw [← HENV1.out] at hcl
                      obtain ⟨Tu, bu, eu⟩ := hxj.iface
                      rw [eu] at cj hxj hcl
                      have c5 : wr.cell? ⟨N + 1, 0, none⟩ = some (.pointer e) := cell_of_heap (HS7.out.ei.inv.holds _ _ (HS7.out.sub _ _ HQ1.out)) rfl
                      have HCL := Lib.hid hcl; have HXJ := Lib.hid hxj
                      clear hcl hxj eu
                      have hji : ((j : Int) < (vs.length : Int)) := by omega
                      go_wp2_with fail
                      refine HCL.out.mono ?_
                      rintro e2 w2 ⟨om, G8, rfl, g8, i8, k8, tr8, ag8⟩
                      have x8 : Ext u.cb G7 A3 wr [] G8 A3 w2 := ⟨k8.mono (fun i _ h => .inr h), g8, GrewV.refl _ _, fun v t r => tr8 v t r⟩
                      have ei8 : EI u.cb G8 A3 w2 n2 := ⟨i8, k8.get HS7.out.ei.cnt HS7.out.ei.cv, g8.sz HS7.out.ei.lt HS7.out.ei.cg, HS7.out.ei.cv⟩
                      have st8 := HS7.out.step HIN.out.po x8 ei8
                      have ha8 := k8.get HA7.out HO7.out.2.2.1
                      have ho8 : w.heap.size ≤ nk ∧ G8 nk = none ∧ ¬ isV A3 nk ∧ nk ≠ u.cb ∧ nk ≠ N + 1 + 1 + 1 := ⟨HO7.out.1, g8.sz (lt_of_heap HA7.out) HO7.out.2.1, HO7.out.2.2⟩
                      have hz := HZ7.out
                      have a1 : w2.cell? ⟨nk, j * 2, none⟩ = some (arr[j * 2]'(by omega)) := cell_of_heap ha8 (by simp)
                      have a2 : w2.cell? ⟨nk, j * 2 + 1, none⟩ = some (arr[j * 2 + 1]'(by omega)) := cell_of_heap ha8 (by simp)
                      have a3 : ∀ i, w2.frozen? ⟨nk, i, none⟩ = false := fun i => free_of_heap ha8
                      obtain ⟨w3, hw3⟩ : ∃ w3, w3 = (w2.setCell ⟨nk, j * 2, none⟩ (.iface Tu (.pointer (some ⟨bu, 0, none⟩)))).setCell ⟨nk, j * 2 + 1, none⟩ (.map (some om)) := ⟨_, rfl⟩
                      have k9 : Keep (one' nk) w2 w3 := by rw [hw3]; exact (Keep.setCell (S := one' nk) w2 (p := ⟨nk, j * 2, none⟩) _ (fun _ => rfl)).trans (Keep.setCell (S := one' nk) _ (p := ⟨nk, j * 2 + 1, none⟩) _ (fun _ => rfl))
                      have ha9 : w3.heap[nk]? = some (.cells ((arr.setIfInBounds (j * 2) (.iface Tu (.pointer (some ⟨bu, 0, none⟩)))).setIfInBounds (j * 2 + 1) (.map (some om))) 119) := by rw [hw3]; exact heap_set_same (heap_set_same ha8)
                      obtain ⟨st9, tr9⟩ := st8.own HIN.out.po k9 (fun g (hg : g = nk) => by rw [hg]; exact ho8)
                      have hx9 := tr9 _ _ (tr8 _ _ HXJ.out)
                      have hu9 := (HU7.out.ofG tr8).ofG tr9
                      have hb1 : ((arr.setIfInBounds (j * 2) (.iface Tu (.pointer (some ⟨bu, 0, none⟩)))).setIfInBounds (j * 2 + 1) (.map (some om)))[j * 2]? = some (.iface Tu (.pointer (some ⟨bu, 0, none⟩))) := by
                        rw [Array.getElem?_setIfInBounds_ne (by omega), Array.getElem?_setIfInBounds_self_of_lt (by omega)]
                      have hb2 : ((arr.setIfInBounds (j * 2) (.iface Tu (.pointer (some ⟨bu, 0, none⟩)))).setIfInBounds (j * 2 + 1) (.map (some om)))[j * 2 + 1]? = some (.map (some om)) := by
                        rw [Array.getElem?_setIfInBounds_self_of_lt (by simp; omega)]
                      have hnj : nexts[j] = ⟨ts[j], closeAll env1 ts[j]⟩ := by simp only [HNX.out, List.getElem_map]
                      have hat9 : ∀ i (h : i < nexts.length), i < j + 1 → SchAt G8 A3 w3 ((arr.setIfInBounds (j * 2) (.iface Tu (.pointer (some ⟨bu, 0, none⟩)))).setIfInBounds (j * 2 + 1) (.map (some om))) i nexts[i] := fun i h hi => by
                        by_cases hij : i = j
                        · subst hij
                          rw [hnj]
                          exact ⟨_, _, hb1, hb2, hx9, ag8⟩
                        · obtain ⟨tv, mv, p1, p2, p3, p4⟩ := (HT7.out i h (by omega)).ex
                          refine ⟨tv, mv, ?_, ?_, tr9 _ _ (tr8 _ _ p3), p4.sub g8.sub⟩
                          · rw [Array.getElem?_setIfInBounds_ne (by omega), Array.getElem?_setIfInBounds_ne (by omega)]; exact p1
                          · rw [Array.getElem?_setIfInBounds_ne (by omega), Array.getElem?_setIfInBounds_ne (by omega)]; exact p2
                      have hza : ((arr.setIfInBounds (j * 2) (.iface Tu (.pointer (some ⟨bu, 0, none⟩)))).setIfInBounds (j * 2 + 1) (.map (some om))).size = vs.length * 2 := by simpa using hz
                      obtain ⟨arr2, harr2⟩ : ∃ arr2, arr2 = (arr.setIfInBounds (j * 2) (.iface Tu (.pointer (some ⟨bu, 0, none⟩)))).setIfInBounds (j * 2 + 1) (.map (some om)) := ⟨_, rfl⟩
                      rw [← harr2] at ha9 hb1 hb2 hat9 hza
                      have htk := all_take (fun p : Sch × Sch => alikeS p.1 p.2) (sch1.zip nexts) j (by simp; omega)
                      rw [← HSM7.out, List.getElem_zip] at htk
                      have HST9 := Lib.hid st9; have HG9 := Lib.hid (HG7.out.trans g8.sub); have HU9 := Lib.hid hu9; have HA9 := Lib.hid ha9; have HO9 := Lib.hid ho8; have HT9 := Lib.hid hat9; have HZ9 := Lib.hid hza; have HTK := Lib.hid htk; have HX9 := Lib.hid hx9; have HAG := Lib.hid ag8; have HNJ := Lib.hid hnj; have HW3 := Lib.hid hw3
                      have HB1 := Lib.hid hb1; have HB2 := Lib.hid hb2
                      clear st9 hu9 ha9 ho8 hat9 hza htk hx9 ag8 hnj tr9 k9 hb1 hb2 harr2 st8 ei8 x8 g8 i8 k8 tr8 ha8 hw3 HS7 HG7 HU7 HA7 HZ7 HO7 HT7 HSM7
                      have kd : Keep none' w3 w3.drew := Keep.drew _ _
                      cases sm with
                      | false =>
                        obtain ⟨eid, xd⟩ := HST9.out.ei.keep0 kd
                        have std := HST9.out.step HIN.out.po xd eid
                        have HSD := Lib.hid std; have HUD : Hid (TRs G8 A3 w3.drew us ts) := Lib.hid (HU9.out.ofG (fun v t r => xd.tr v t r))
                        have HTD : Hid (∀ i (h : i < nexts.length), i < j + 1 → SchAt G8 A3 w3.drew arr2 i nexts[i]) := Lib.hid (fun i h hi => (HT9.out i h hi).up (GH.sub.refl _) (fun v t r => xd.tr v t r))
                        clear eid xd std
                        go_wp2_with fail
                        rw [← HW3.out]
                        refine wp_region_float (fun _ => True) [0, 1, 2, 3, 4, 5, 6, 7, 8, 9, 10, 11, 12] [] (by kernel_rfl) ?_
                        (refine float0 (i := 0) (v := ?_) rfl (by kernel_rfl) (by kernel_rfl) (by kernel_rfl) (by kernel_rfl) (fun _ _ _ h => h) (by rfl) ?_ ?_); rotate_left
                        (intro wF; go_simp; try with_reducible rfl)
                        (try simp only [Act.put, List.setIfInBounds_toArray, List.set_cons_zero, List.set_cons_succ])
                        (refine float0 (i := 1) (v := ?_) rfl (by kernel_rfl) (by kernel_rfl) (by kernel_rfl) (by kernel_rfl) (fun _ _ _ h => h) (by rfl) ?_ ?_); rotate_left
                        (intro wF; go_simp; try with_reducible rfl)
                        (try simp only [Act.put, List.setIfInBounds_toArray, List.set_cons_zero, List.set_cons_succ])
                        (refine floatU (i := 2) rfl (by kernel_rfl) (by kernel_rfl) (by kernel_rfl) (by kernel_rfl) (fun _ _ _ h => h) (by rfl) ?_)
                        (try simp only [Act.put, List.setIfInBounds_toArray, List.set_cons_zero, List.set_cons_succ])
                        (refine floatU (i := 3) rfl (by kernel_rfl) (by kernel_rfl) (by kernel_rfl) (by kernel_rfl) (fun _ _ _ h => h) (by rfl) ?_)
                        (try simp only [Act.put, List.setIfInBounds_toArray, List.set_cons_zero, List.set_cons_succ])
                        (refine floatU (i := 4) rfl (by kernel_rfl) (by kernel_rfl) (by kernel_rfl) (by kernel_rfl) (fun _ _ _ h => h) (by rfl) ?_)
                        (try simp only [Act.put, List.setIfInBounds_toArray, List.set_cons_zero, List.set_cons_succ])
                        (refine floatU (i := 5) rfl (by kernel_rfl) (by kernel_rfl) (by kernel_rfl) (by kernel_rfl) (fun _ _ _ h => h) (by rfl) ?_)
                        (try simp only [Act.put, List.setIfInBounds_toArray, List.set_cons_zero, List.set_cons_succ])
                        (refine floatU (i := 6) rfl (by kernel_rfl) (by kernel_rfl) (by kernel_rfl) (by kernel_rfl) (fun _ _ _ h => h) (by rfl) ?_)
                        (try simp only [Act.put, List.setIfInBounds_toArray, List.set_cons_zero, List.set_cons_succ])
                        (refine floatU (i := 7) rfl (by kernel_rfl) (by kernel_rfl) (by kernel_rfl) (by kernel_rfl) (fun _ _ _ h => h) (by rfl) ?_)
                        (try simp only [Act.put, List.setIfInBounds_toArray, List.set_cons_zero, List.set_cons_succ])
                        (refine floatU (i := 8) rfl (by kernel_rfl) (by kernel_rfl) (by kernel_rfl) (by kernel_rfl) (fun _ _ _ h => h) (by rfl) ?_)
                        (try simp only [Act.put, List.setIfInBounds_toArray, List.set_cons_zero, List.set_cons_succ])
                        (refine floatU (i := 9) rfl (by kernel_rfl) (by kernel_rfl) (by kernel_rfl) (by kernel_rfl) (fun _ _ _ h => h) (by rfl) ?_)
                        (try simp only [Act.put, List.setIfInBounds_toArray, List.set_cons_zero, List.set_cons_succ])
                        (refine floatU (i := 10) rfl (by kernel_rfl) (by kernel_rfl) (by kernel_rfl) (by kernel_rfl) (fun _ _ _ h => h) (by rfl) ?_)
                        (try simp only [Act.put, List.setIfInBounds_toArray, List.set_cons_zero, List.set_cons_succ])
                        (refine float0 (i := 11) (v := ?_) rfl (by kernel_rfl) (by kernel_rfl) (by kernel_rfl) (by kernel_rfl) (fun _ _ _ h => h) (by rfl) ?_ ?_); rotate_left
                        (intro wF; go_simp; try with_reducible rfl)
                        (try simp only [Act.put, List.setIfInBounds_toArray, List.set_cons_zero, List.set_cons_succ])
                        (refine float0 (i := 12) (v := ?_) rfl (by kernel_rfl) (by kernel_rfl) (by kernel_rfl) (by kernel_rfl) (fun _ _ _ h => h) (by rfl) ?_ ?_); rotate_left
                        (intro wF; go_simp; try with_reducible rfl)
                        (try simp only [Act.put, List.setIfInBounds_toArray, List.set_cons_zero, List.set_cons_succ])
                        (refine floatE (by kernel_rfl) ?_)
                        clear a1 a2 a3
                        go_wp2_with fail
                        go_roundg (vs.length - (j + 1))
                        case measure => have := HM3.out; omega
                        case rel => exact ⟨j + 1, arr2, false, G8, by omega, Lib.hid rfl, by go_num, rfl, HSD, HG9, HUD, HA9, HZ9, HO9, HTD, Lib.hid (by have := HTK.out; simpa using this.symm)⟩
                      | true =>
                        obtain ⟨blk, arrS, hsv, hblk, hatS⟩ := HST9.out.ss
                        have hbxS := HST9.out.bx
                        rw [hsv] at hbxS
                        obtain ⟨tvS, mvS, pS1, pS2, pS3, pS4⟩ := (hatS j hlts).ex
                        obtain ⟨Ts, bS, rfl⟩ := pS3.iface
                        obtain ⟨mS, rfl⟩ := pS4.map
                        have S0 : w3.drew.cell? ⟨N + 1 + 1 + 1, 0, none⟩ = some (.slice (some ⟨blk, 0, none⟩) sch1.length sch1.length) ∧ w3.drew.cell? ⟨blk, j * 2, none⟩ = some (.iface Ts (.pointer (some ⟨bS, 0, none⟩))) ∧ w3.drew.cell? ⟨blk, j * 2 + 1, none⟩ = some (.map mS) ∧ w3.drew.cell? ⟨nk, j * 2, none⟩ = some (.iface Tu (.pointer (some ⟨bu, 0, none⟩))) ∧ w3.drew.cell? ⟨nk, j * 2 + 1, none⟩ = some (.map (some om)) :=
                          ⟨cell_of_heap (w := w3) hbxS rfl, cell_of_heap (w := w3) (HST9.out.ei.inv.holds _ _ hblk) pS1, cell_of_heap (w := w3) (HST9.out.ei.inv.holds _ _ hblk) pS2, cell_of_heap (w := w3) HA9.out HB1.out, cell_of_heap (w := w3) HA9.out HB2.out⟩
                        obtain ⟨eid, xd⟩ := HST9.out.ei.keep0 kd
                        have hal := alike_ok (s := sch1[j]) (u := ⟨ts[j], closeAll env1 ts[j]⟩) eid.inv (xd.tr _ _ pS3) pS4 (xd.tr _ _ HX9.out) HAG.out
                        rw [← HNJ.out] at hal
                        have std := HST9.out.step HIN.out.po xd eid
                        have HSD := Lib.hid std; have HUD : Hid (TRs G8 A3 w3.drew us ts) := Lib.hid (HU9.out.ofG (fun v t r => xd.tr v t r))
                        have HTD : Hid (∀ i (h : i < nexts.length), i < j + 1 → SchAt G8 A3 w3.drew arr2 i nexts[i]) := Lib.hid (fun i h hi => (HT9.out i h hi).up (GH.sub.refl _) (fun v t r => xd.tr v t r))
                        have HALK := Lib.hid hal
                        have HBS := Lib.hid (And.intro hsv (And.intro hblk (And.intro pS1 pS2)))
                        have hjs : (j : Int) < (sch1.length : Int) := by omega
                        clear eid xd std hal hbxS hsv hblk hatS pS1 pS2 pS3 pS4
                        go_wp2_with fail
                        rw [← HW3.out]
                        refine wp_region_float (fun w' => w'.cell? ⟨N + 1 + 1 + 1, 0, none⟩ = some (.slice (some ⟨blk, 0, none⟩) sch1.length sch1.length) ∧ w'.cell? ⟨blk, j * 2, none⟩ = some (.iface Ts (.pointer (some ⟨bS, 0, none⟩))) ∧ w'.cell? ⟨blk, j * 2 + 1, none⟩ = some (.map mS) ∧ w'.cell? ⟨nk, j * 2, none⟩ = some (.iface Tu (.pointer (some ⟨bu, 0, none⟩))) ∧ w'.cell? ⟨nk, j * 2 + 1, none⟩ = some (.map (some om))) [0, 1, 3, 4, 6, 7, 8, 11, 12] [2, 5, 9] (by kernel_rfl) ?_
                        (refine float0 (i := 0) (v := ?_) rfl (by kernel_rfl) (by kernel_rfl) (by kernel_rfl) (by kernel_rfl) (fun _ _ _ h => h) (by rfl) ?_ ?_); rotate_left
                        (intro wF; go_simp; try with_reducible rfl)
                        (try simp only [Act.put, List.setIfInBounds_toArray, List.set_cons_zero, List.set_cons_succ])
                        (refine float0 (i := 1) (v := ?_) rfl (by kernel_rfl) (by kernel_rfl) (by kernel_rfl) (by kernel_rfl) (fun _ _ _ h => h) (by rfl) ?_ ?_); rotate_left
                        (intro wF; go_simp; try with_reducible rfl)
                        (try simp only [Act.put, List.setIfInBounds_toArray, List.set_cons_zero, List.set_cons_succ])
                        (refine floatS (i := 2) (v := ?_) rfl (by kernel_rfl) (by kernel_rfl) (by kernel_rfl) (by kernel_rfl) (fun _ _ _ h => h) (by assumption) (by rfl) ?_ ?_); rotate_left
                        (intro wF hF; (try dsimp only at hF); go_simp; try with_reducible rfl)
                        (try simp only [Act.put, List.setIfInBounds_toArray, List.set_cons_zero, List.set_cons_succ])
                        (refine float0 (i := 3) (v := ?_) rfl (by kernel_rfl) (by kernel_rfl) (by kernel_rfl) (by kernel_rfl) (fun _ _ _ h => h) (by rfl) ?_ ?_); rotate_left
                        (intro wF; go_simp; try with_reducible rfl)
                        (try simp only [Act.put, List.setIfInBounds_toArray, List.set_cons_zero, List.set_cons_succ])
                        (refine float0 (i := 4) (v := ?_) rfl (by kernel_rfl) (by kernel_rfl) (by kernel_rfl) (by kernel_rfl) (fun _ _ _ h => h) (by rfl) ?_ ?_); rotate_left
                        (intro wF; go_simp; try with_reducible rfl)
                        (try simp only [Act.put, List.setIfInBounds_toArray, List.set_cons_zero, List.set_cons_succ])
                        (refine floatS (i := 5) (v := ?_) rfl (by kernel_rfl) (by kernel_rfl) (by kernel_rfl) (by kernel_rfl) (fun _ _ _ h => h) (by assumption) (by rfl) ?_ ?_); rotate_left
                        (intro wF hF; (try dsimp only at hF); go_simp; try with_reducible rfl)
                        (try simp only [Act.put, List.setIfInBounds_toArray, List.set_cons_zero, List.set_cons_succ])
                        (refine float0 (i := 6) (v := ?_) rfl (by kernel_rfl) (by kernel_rfl) (by kernel_rfl) (by kernel_rfl) (fun _ _ _ h => h) (by rfl) ?_ ?_); rotate_left
                        (intro wF; go_simp; try with_reducible rfl)
                        (try simp only [Act.put, List.setIfInBounds_toArray, List.set_cons_zero, List.set_cons_succ])
                        (refine float0 (i := 7) (v := ?_) rfl (by kernel_rfl) (by kernel_rfl) (by kernel_rfl) (by kernel_rfl) (fun _ _ _ h => h) (by rfl) ?_ ?_); rotate_left
                        (intro wF; go_simp; try with_reducible rfl)
                        (try simp only [Act.put, List.setIfInBounds_toArray, List.set_cons_zero, List.set_cons_succ])
                        (refine float0 (i := 8) (v := ?_) rfl (by kernel_rfl) (by kernel_rfl) (by kernel_rfl) (by kernel_rfl) (fun _ _ _ h => h) (by rfl) ?_ ?_); rotate_left
                        (intro wF; go_simp; try with_reducible rfl)
                        (try simp only [Act.put, List.setIfInBounds_toArray, List.set_cons_zero, List.set_cons_succ])
                        (refine floatS (i := 9) (v := ?_) rfl (by kernel_rfl) (by kernel_rfl) (by kernel_rfl) (by kernel_rfl) (fun _ _ _ h => h) (by assumption) (by rfl) ?_ ?_); rotate_left
                        (intro wF hF; (try dsimp only at hF); go_simp; try with_reducible rfl)
                        (try simp only [Act.put, List.setIfInBounds_toArray, List.set_cons_zero, List.set_cons_succ])
                        (refine floatM (i := 10) rfl (by kernel_rfl) (by kernel_rfl) (fun K hK => ?_)); go_simp
                        refine HALK.out.mono ?_
                        rintro e5 w5 ⟨rfl, s5⟩
                        obtain ⟨ei5, x5⟩ := HSD.out.ei.same s5
                        have st5 := HSD.out.step HIN.out.po x5 ei5
                        have ha5 := s5.keep.get (show w3.drew.heap[nk]? = _ from HA9.out) HO9.out.2.2.1
                        have HS5 := Lib.hid st5; have HU5 : Hid (TRs G8 A3 w5 us ts) := Lib.hid (HUD.out.ofG (fun v t r => s5.tr v t r))
                        have HT5 : Hid (∀ i (h : i < nexts.length), i < j + 1 → SchAt G8 A3 w5 arr2 i nexts[i]) := Lib.hid (fun i h hi => (HTD.out i h hi).up (GH.sub.refl _) (fun v t r => s5.tr v t r))
                        have HA5 := Lib.hid ha5
                        have S5 : w5.cell? ⟨N + 1 + 1 + 1, 0, none⟩ = some (.slice (some ⟨blk, 0, none⟩) sch1.length sch1.length) ∧ w5.cell? ⟨blk, j * 2, none⟩ = some (.iface Ts (.pointer (some ⟨bS, 0, none⟩))) ∧ w5.cell? ⟨blk, j * 2 + 1, none⟩ = some (.map mS) ∧ w5.cell? ⟨nk, j * 2, none⟩ = some (.iface Tu (.pointer (some ⟨bu, 0, none⟩))) ∧ w5.cell? ⟨nk, j * 2 + 1, none⟩ = some (.map (some om)) := by
                          have hb := HBS.out
                          have hg5 := st5.ei.inv.holds _ _ hb.2.1
                          have hx5 := st5.bx
                          rw [hb.1] at hx5
                          exact ⟨cell_of_heap hx5 rfl, cell_of_heap hg5 hb.2.2.1, cell_of_heap hg5 hb.2.2.2, cell_of_heap ha5 HB1.out, cell_of_heap ha5 HB2.out⟩
                        clear s5 ei5 x5 st5 ha5 S0
                        go_wp2_with fail
                        refine hK.out _ _ (fun _ => S5) ?_
                        clear hK K
                        (try simp only [Act.put, List.setIfInBounds_toArray, List.set_cons_zero, List.set_cons_succ])
                        (refine float0 (i := 11) (v := ?_) rfl (by kernel_rfl) (by kernel_rfl) (by kernel_rfl) (by kernel_rfl) (fun _ _ _ h => h) (by rfl) ?_ ?_); rotate_left
                        (intro wF; go_simp; try with_reducible rfl)
                        (try simp only [Act.put, List.setIfInBounds_toArray, List.set_cons_zero, List.set_cons_succ])
                        (refine float0 (i := 12) (v := ?_) rfl (by kernel_rfl) (by kernel_rfl) (by kernel_rfl) (by kernel_rfl) (fun _ _ _ h => h) (by rfl) ?_ ?_); rotate_left
                        (intro wF; go_simp; try with_reducible rfl)
                        (try simp only [Act.put, List.setIfInBounds_toArray, List.set_cons_zero, List.set_cons_succ])
                        (refine floatE (by kernel_rfl) ?_)
                        clear a1 a2 a3 S5
                        go_wp2_with fail
                        go_roundg (vs.length - (j + 1))
                        case measure => have := HM3.out; omega
                        case rel => exact ⟨j + 1, arr2, _, G8, by omega, Lib.hid rfl, by go_num, rfl, HS5, HG9, HU5, HA5, HZ9, HO9, HT5, Lib.hid (by have := HTK.out; simpa using this.symm)⟩
                    · have hje : j = vs.length := by omega
                      subst hje
                      have hss : SchSl (G7.put nk (.cells arr 119)) A3 wr (.slice (some ⟨nk, 0, none⟩) vs.length vs.length) nexts :=
                        ⟨nk, arr, by rw [HLN.out], GH.put_same _ _ _, fun i hi => (HT7.out i hi (by have := HLN.out; omega)).up (GH.sub_put HO7.out.2.1) (fun v t r => r.mono (GH.sub_put HO7.out.2.1) (GV.sub.refl _) (fun _ _ _ _ => rfl))⟩
                      obtain ⟨st8, tr8⟩ := HS7.out.stamp (G2 := G7.put nk (.cells arr 119)) (S := one' nk) (GH.sub_put HO7.out.2.1) (HS7.out.ei.inv.put HA7.out HO7.out.2.2.1) (fun b hb => GH.put_other _ _ hb) (fun g (hg : g = nk) => by rw [hg]; exact ⟨HO7.out.1, HO7.out.2.2.2⟩)
                      have st9 := st8.set (by have := HNW.out; omega) HIN.out.po hss
                      have hsm := HSM7.out
                      rw [List.take_of_length_le (by simp; have := HLN.out; have := HL1'.out; omega)] at hsm
                      have d0 : wr.cell? ⟨N + 1 + 1 + 1, 0, none⟩ = some sv := cell_of_heap HS7.out.bx rfl
                      have d1' : ∀ i, wr.frozen? ⟨N + 1 + 1 + 1, i, none⟩ = false := fun i => free_of_heap HS7.out.bx
                      have HS9 := Lib.hid st9; have HSMM := Lib.hid hsm
                      have e2 : (wr.setCell ⟨N + 1 + 1 + 1, 0, none⟩ (.slice (some ⟨nk, 0, none⟩) vs.length vs.length)).cell? ⟨u.gB, 2, none⟩ = some .nilFunc := by
                        have h1 := HS9.out.ei.inv.holds _ _ (HS9.out.x.g.sub _ _ HIN.out.eng)
                        rw [HNL.out.each] at h1
                        exact cell_of_heap h1 rfl
                      clear hss st8 tr8 st9 hsm
                      obtain ⟨w4, hw4⟩ : ∃ w4, w4 = wr.setCell ⟨N + 1 + 1 + 1, 0, none⟩ (.slice (some ⟨nk, 0, none⟩) vs.length vs.length) := ⟨_, rfl⟩
                      rw [← hw4] at HS9 e2
                      have HW4 := Lib.hid hw4
                      clear hw4
                      obtain ⟨eid, xd⟩ := HS9.out.ei.keep0 (Keep.drew none' w4)
                      have std := HS9.out.step HIN.out.po xd eid
                      have HSD := Lib.hid std
                      clear HS7 HG7 HU7 HA7 HZ7 HO7 HT7 HSM7 HS9 eid xd std
                      go_wp2_with fail
                      rw [← HW4.out]
                      have S0 : w4.drew.cell? ⟨u.gB, 2, none⟩ = some .nilFunc := e2
                      have hnq := neq_nilFunc
                      refine wp_region_float (fun w' => w'.cell? ⟨u.gB, 2, none⟩ = some .nilFunc) [0, 1, 2, 4, 5, 6, 7, 8, 9, 10, 11, 12, 13, 14, 15, 16, 17, 18, 19, 20] [3] (by kernel_rfl) ?_
                      (refine float0 (i := 0) (v := ?_) rfl (by kernel_rfl) (by kernel_rfl) (by kernel_rfl) (by kernel_rfl) (fun _ _ _ h => h) (by rfl) ?_ ?_); rotate_left
                      (intro wF; go_simp; try with_reducible rfl)
                      (try simp only [Act.put, List.setIfInBounds_toArray, List.set_cons_zero, List.set_cons_succ])
                      (refine float0 (i := 1) (v := ?_) rfl (by kernel_rfl) (by kernel_rfl) (by kernel_rfl) (by kernel_rfl) (fun _ _ _ h => h) (by rfl) ?_ ?_); rotate_left
                      (intro wF; go_simp; try with_reducible rfl)
                      (try simp only [Act.put, List.setIfInBounds_toArray, List.set_cons_zero, List.set_cons_succ])
                      (refine float0 (i := 2) (v := ?_) rfl (by kernel_rfl) (by kernel_rfl) (by kernel_rfl) (by kernel_rfl) (fun _ _ _ h => h) (by rfl) ?_ ?_); rotate_left
                      (intro wF; go_simp; try with_reducible rfl)
                      (try simp only [Act.put, List.setIfInBounds_toArray, List.set_cons_zero, List.set_cons_succ])
                      (refine floatS (i := 3) (v := ?_) rfl (by kernel_rfl) (by kernel_rfl) (by kernel_rfl) (by kernel_rfl) (fun _ _ _ h => h) (by assumption) (by rfl) ?_ ?_); rotate_left
                      (intro wF hF; (try dsimp only at hF); go_simp; try with_reducible rfl)
                      (try simp only [Act.put, List.setIfInBounds_toArray, List.set_cons_zero, List.set_cons_succ])
                      (refine float0 (i := 4) (v := ?_) rfl (by kernel_rfl) (by kernel_rfl) (by kernel_rfl) (by kernel_rfl) (fun _ _ _ h => h) (by rfl) ?_ ?_); rotate_left
                      (intro wF; go_simp; try with_reducible rfl)
                      (try simp only [Act.put, List.setIfInBounds_toArray, List.set_cons_zero, List.set_cons_succ])
                      (refine float0 (i := 5) (v := ?_) rfl (by kernel_rfl) (by kernel_rfl) (by kernel_rfl) (by kernel_rfl) (fun _ _ _ h => h) (by rfl) ?_ ?_); rotate_left
                      (intro wF; go_simp; try with_reducible rfl)
                      (try simp only [Act.put, List.setIfInBounds_toArray, List.set_cons_zero, List.set_cons_succ])
                      (refine floatU (i := 6) rfl (by kernel_rfl) (by kernel_rfl) (by kernel_rfl) (by kernel_rfl) (fun _ _ _ h => h) (by rfl) ?_)
                      (try simp only [Act.put, List.setIfInBounds_toArray, List.set_cons_zero, List.set_cons_succ])
                      (refine floatU (i := 7) rfl (by kernel_rfl) (by kernel_rfl) (by kernel_rfl) (by kernel_rfl) (fun _ _ _ h => h) (by rfl) ?_)
                      (try simp only [Act.put, List.setIfInBounds_toArray, List.set_cons_zero, List.set_cons_succ])
                      (refine floatU (i := 8) rfl (by kernel_rfl) (by kernel_rfl) (by kernel_rfl) (by kernel_rfl) (fun _ _ _ h => h) (by rfl) ?_)
                      (try simp only [Act.put, List.setIfInBounds_toArray, List.set_cons_zero, List.set_cons_succ])
                      (refine floatU (i := 9) rfl (by kernel_rfl) (by kernel_rfl) (by kernel_rfl) (by kernel_rfl) (fun _ _ _ h => h) (by rfl) ?_)
                      (try simp only [Act.put, List.setIfInBounds_toArray, List.set_cons_zero, List.set_cons_succ])
                      (refine floatU (i := 10) rfl (by kernel_rfl) (by kernel_rfl) (by kernel_rfl) (by kernel_rfl) (fun _ _ _ h => h) (by rfl) ?_)
                      (try simp only [Act.put, List.setIfInBounds_toArray, List.set_cons_zero, List.set_cons_succ])
                      (refine floatU (i := 11) rfl (by kernel_rfl) (by kernel_rfl) (by kernel_rfl) (by kernel_rfl) (fun _ _ _ h => h) (by rfl) ?_)
                      (try simp only [Act.put, List.setIfInBounds_toArray, List.set_cons_zero, List.set_cons_succ])
                      (refine floatU (i := 12) rfl (by kernel_rfl) (by kernel_rfl) (by kernel_rfl) (by kernel_rfl) (fun _ _ _ h => h) (by rfl) ?_)
                      (try simp only [Act.put, List.setIfInBounds_toArray, List.set_cons_zero, List.set_cons_succ])
                      (refine floatU (i := 13) rfl (by kernel_rfl) (by kernel_rfl) (by kernel_rfl) (by kernel_rfl) (fun _ _ _ h => h) (by rfl) ?_)
                      (try simp only [Act.put, List.setIfInBounds_toArray, List.set_cons_zero, List.set_cons_succ])
                      (refine floatU (i := 14) rfl (by kernel_rfl) (by kernel_rfl) (by kernel_rfl) (by kernel_rfl) (fun _ _ _ h => h) (by rfl) ?_)
                      (try simp only [Act.put, List.setIfInBounds_toArray, List.set_cons_zero, List.set_cons_succ])
                      (refine floatU (i := 15) rfl (by kernel_rfl) (by kernel_rfl) (by kernel_rfl) (by kernel_rfl) (fun _ _ _ h => h) (by rfl) ?_)
                      (try simp only [Act.put, List.setIfInBounds_toArray, List.set_cons_zero, List.set_cons_succ])
                      (refine floatU (i := 16) rfl (by kernel_rfl) (by kernel_rfl) (by kernel_rfl) (by kernel_rfl) (fun _ _ _ h => h) (by rfl) ?_)
                      (try simp only [Act.put, List.setIfInBounds_toArray, List.set_cons_zero, List.set_cons_succ])
                      (refine floatU (i := 17) rfl (by kernel_rfl) (by kernel_rfl) (by kernel_rfl) (by kernel_rfl) (fun _ _ _ h => h) (by rfl) ?_)
                      (try simp only [Act.put, List.setIfInBounds_toArray, List.set_cons_zero, List.set_cons_succ])
                      (refine floatU (i := 18) rfl (by kernel_rfl) (by kernel_rfl) (by kernel_rfl) (by kernel_rfl) (fun _ _ _ h => h) (by rfl) ?_)
                      (try simp only [Act.put, List.setIfInBounds_toArray, List.set_cons_zero, List.set_cons_succ])
                      (refine floatU (i := 19) rfl (by kernel_rfl) (by kernel_rfl) (by kernel_rfl) (by kernel_rfl) (fun _ _ _ h => h) (by rfl) ?_)
                      (try simp only [Act.put, List.setIfInBounds_toArray, List.set_cons_zero, List.set_cons_succ])
                      (refine float0 (i := 20) (v := ?_) rfl (by kernel_rfl) (by kernel_rfl) (by kernel_rfl) (by kernel_rfl) (fun _ _ _ h => h) (by rfl) ?_ ?_); rotate_left
                      (intro wF; go_simp; try with_reducible rfl)
                      (try simp only [Act.put, List.setIfInBounds_toArray, List.set_cons_zero, List.set_cons_succ])
                      (refine floatE (by kernel_rfl) ?_)
                      clear S0 d0 d1' e2
                      cases sm with
                      | true =>
                        have hr := HR5.out
                        rw [if_pos HSMM.out.symm] at hr
                        have cy : w4.drew.cell? ⟨N, 0, none⟩ = some (.pointer (some ⟨b, 0, none⟩)) := cell_of_heap (HSD.out.ei.inv.holds _ _ (HSD.out.sub _ _ HQ0.out)) rfl
                        have cf : w4.drew.cell? ⟨b, 3, none⟩ = some ev := cell_of_heap (HSD.out.ei.inv.holds _ _ (HSD.out.x.g.sub _ _ HB.out)) rfl
                        obtain ⟨Tf, bf, hev⟩ := HX.out.shape
                        rw [hev] at cf
                        have HEV := Lib.hid hev
                        clear hev
                        generalize l2 ++ [(⟨bd.names, rd, toldAll nexts []⟩ : Told)] = lN at hr
                        generalize hp : ofS u.fuel 0 k0 (bindS bd.names nexts env1) x n2 lN = ro at hr
                        rw [← HNL.out.stop] at hp
                        obtain ⟨eid, xd⟩ := HSD.out.ei.keep0 (Keep.drew none' w4.drew)
                        have std := HSD.out.step HIN.out.po xd eid
                        have hbind := bind_ok (e := e) (names := bd.names) (ss := nexts) (env := env1) std.ei.inv (std.sub _ _ HQ1.out) (std.sub _ _ HQ0.out) (std.x.g.sub _ _ HB.out) (HNV.out.sub std.x.g.sub) std.bx std.ss (by rw [HENV1.out]; exact HIN.out.env.extP std.x) (by rw [HLN.out, HVL.out]; exact bd.names_len) (by have := bd.names_len; have := HVL.out; omega)
                        have HBI := Lib.hid hbind; have HST2 := Lib.hid std; have HRF := Lib.hid hr; have HP := Lib.hid hp
                        have S0 : w4.drew.drew.cell? ⟨N, 0, none⟩ = some (.pointer (some ⟨b, 0, none⟩)) ∧ w4.drew.drew.cell? ⟨b, 3, none⟩ = some (.iface Tf (.pointer (some ⟨bf, 0, none⟩))) := ⟨cy, cf⟩
                        clear hbind std hr hp eid xd cy cf
                        go_wp2_with fail
                        refine wp_region_float (fun w' => w'.cell? ⟨N, 0, none⟩ = some (.pointer (some ⟨b, 0, none⟩)) ∧ w'.cell? ⟨b, 3, none⟩ = some (.iface Tf (.pointer (some ⟨bf, 0, none⟩)))) [0, 2, 3, 5, 8] [1, 4] (by kernel_rfl) ?_
                        (refine float0 (i := 0) (v := ?_) rfl (by kernel_rfl) (by kernel_rfl) (by kernel_rfl) (by kernel_rfl) (fun _ _ _ h => h) (by rfl) ?_ ?_); rotate_left
                        (intro wF; go_simp; try with_reducible rfl)
                        (try simp only [Act.put, List.setIfInBounds_toArray, List.set_cons_zero, List.set_cons_succ])
                        (refine floatS (i := 1) (v := ?_) rfl (by kernel_rfl) (by kernel_rfl) (by kernel_rfl) (by kernel_rfl) (fun _ _ _ h => h) (by assumption) (by rfl) ?_ ?_); rotate_left
                        (intro wF hF; (try dsimp only at hF); go_simp; try with_reducible rfl)
                        (try simp only [Act.put, List.setIfInBounds_toArray, List.set_cons_zero, List.set_cons_succ])
                        (refine float0 (i := 2) (v := ?_) rfl (by kernel_rfl) (by kernel_rfl) (by kernel_rfl) (by kernel_rfl) (fun _ _ _ h => h) (by rfl) ?_ ?_); rotate_left
                        (intro wF; go_simp; try with_reducible rfl)
                        (try simp only [Act.put, List.setIfInBounds_toArray, List.set_cons_zero, List.set_cons_succ])
                        (refine float0 (i := 3) (v := ?_) rfl (by kernel_rfl) (by kernel_rfl) (by kernel_rfl) (by kernel_rfl) (fun _ _ _ h => h) (by rfl) ?_ ?_); rotate_left
                        (intro wF; go_simp; try with_reducible rfl)
                        (try simp only [Act.put, List.setIfInBounds_toArray, List.set_cons_zero, List.set_cons_succ])
                        (refine floatS (i := 4) (v := ?_) rfl (by kernel_rfl) (by kernel_rfl) (by kernel_rfl) (by kernel_rfl) (fun _ _ _ h => h) (by assumption) (by rfl) ?_ ?_); rotate_left
                        (intro wF hF; (try dsimp only at hF); go_simp; try with_reducible rfl)
                        (try simp only [Act.put, List.setIfInBounds_toArray, List.set_cons_zero, List.set_cons_succ])
                        (refine float0 (i := 5) (v := ?_) rfl (by kernel_rfl) (by kernel_rfl) (by kernel_rfl) (by kernel_rfl) (fun _ _ _ h => h) (by rfl) ?_ ?_); rotate_left
                        (intro wF; go_simp; try with_reducible rfl)
                        (try simp only [Act.put, List.setIfInBounds_toArray, List.set_cons_zero, List.set_cons_succ])
                        (refine floatM (i := 6) rfl (by kernel_rfl) (by kernel_rfl) (fun K hK => ?_)); go_simp
                        refine HBI.out.mono ?_
                        rintro e9 w9 ⟨e3, G9, rfl, k9, g9, i9, en9⟩
                        obtain ⟨ei9, x9⟩ := HST2.out.ei.up k9 g9 i9
                        have st9 := HST2.out.step HIN.out.po x9 ei9
                        have S9 : w9.cell? ⟨N, 0, none⟩ = some (.pointer (some ⟨b, 0, none⟩)) ∧ w9.cell? ⟨b, 3, none⟩ = some (.iface Tf (.pointer (some ⟨bf, 0, none⟩))) := by
                          have h := HEV.out
                          exact ⟨cell_of_heap (st9.ei.inv.holds _ _ (st9.sub _ _ HQ0.out)) rfl, cell_of_heap (st9.ei.inv.holds _ _ (st9.x.g.sub _ _ HB.out)) (by rw [← h]; rfl)⟩
                        have hex : ExR G9 (.iface Tf (.pointer (some ⟨bf, 0, none⟩))) x := by rw [← HEV.out]; exact HX.out.sub st9.x.g.sub
                        cases ro with
                        | none => exact absurd HRF.out.symm HNE.out
                        | some rr =>
                          have hcall := IH.out k0 (by omega) u.P (fun _ h => h) G9 A3 w9 n2 lN (bindS bd.names nexts env1) e3 _ x (some rr) ⟨st9.ei, st9.po HIN.out.po, HNL.out.rw _ _, en9, st9.x.g.sub _ _ HIN.out.eng, HU.out.sents HIN.out.sen st9.x.keep⟩ hex HP.out (by simp)
                          have HCALL := Lib.hid hcall; have HST9 := Lib.hid st9
                          clear hcall st9 hex ei9 x9 en9 i9 g9 k9 S0
                          go_wp2_with fail
                          refine hK.out _ _ (fun _ => S9) ?_
                          clear hK K
                          (try simp only [Act.put, List.setIfInBounds_toArray, List.set_cons_zero, List.set_cons_succ])
                          (refine floatM (i := 7) rfl (by kernel_rfl) (by kernel_rfl) (fun K hK => ?_)); go_simp
                          refine HCALL.out.mono ?_
                          cases rr with
                          | error ee =>
                            obtain ⟨ke, le⟩ := ee
                            rintro e5 w5 ⟨rfl, k5, _⟩
                            have HK5 := Lib.hid (HST9.out.x.keep.trans k5)
                            have hr := HRF.out
                            clear k5
                            go_wp2_with fail
                            subst hr
                            exact ⟨rfl, rfl, HK5.out, HNL.out.rw _ _⟩
                          | ok oo =>
                            obtain ⟨t5, dx, n5, l5⟩ := oo
                            rintro e5 w5 ⟨v5, G5, A5, rfl, x5, ei5, _, y5⟩
                            obtain ⟨T5, b5, rfl⟩ := y5.iface
                            have hr := HRF.out
                            have XX := HST9.out.x.trans x5
                            rw [List.append_assoc] at XX
                            have S5 : w5.cell? ⟨N, 0, none⟩ = some (.pointer (some ⟨b, 0, none⟩)) ∧ w5.cell? ⟨b, 3, none⟩ = some (.iface Tf (.pointer (some ⟨bf, 0, none⟩))) := by
                              have h := HEV.out
                              have hh := ei5.inv.holds
                              exact ⟨cell_of_heap (hh _ _ (x5.g.sub _ _ (HST9.out.sub _ _ HQ0.out))) rfl, cell_of_heap (hh _ _ (x5.g.sub _ _ (HST9.out.x.g.sub _ _ HB.out))) (by rw [← h]; rfl)⟩
                            have HXX := Lib.hid XX; have HE5 := Lib.hid ei5; have HY5 := Lib.hid y5; have HRG := Lib.hid hr
                            clear XX ei5 y5 x5 hr S9
                            go_wp2_with fail
                            refine hK.out _ _ (fun _ => S5) ?_
                            clear hK K
                            (try simp only [Act.put, List.setIfInBounds_toArray, List.set_cons_zero, List.set_cons_succ])
                            (refine float0 (i := 8) (v := ?_) rfl (by kernel_rfl) (by kernel_rfl) (by kernel_rfl) (by kernel_rfl) (fun _ _ _ h => h) (by rfl) ?_ ?_); rotate_left
                            (intro wF; go_simp; try with_reducible rfl)
                            (try simp only [Act.put, List.setIfInBounds_toArray, List.set_cons_zero, List.set_cons_succ])
                            (refine floatE (by kernel_rfl) ?_)
                            go_wp2_with fail
                            go_ret
                            have hr := HRG.out
                            subst hr
                            exact ⟨_, G5, A5, rfl, HXX.out, HE5.out, HNL.out.rw _ _, HY5.out⟩
                      | false =>
                        have hr := HR5.out
                        rw [if_neg (by rw [← HSMM.out]; simp)] at hr
                        have henvA : env1 = envApp (d ++ d1) env := HENV1.out
                        rw [henvA] at hr
                        have HR6 := Lib.hid hr
                        clear hr henvA
                        go_wp2_with fail
                        go_roundg (u.fuel + 1 - (rd + 1))
                        case measure => have := HMS.out; omega
                        case rel => exact ⟨rd + 1, k0, n2, d ++ d1, nexts, _, _, A3, _, by go_num, by omega, by omega, Lib.hid rfl, by omega, HSD, HLN, Lib.hid (by rw [HNL.out.stop]; exact HR6.out)⟩
          · have hlei : ¬ (rd : Int) ≤ (u.fuel : Int) := by omega
            have hr := HRR.out
            rw [HNL.out.stop, round_end hle] at hr
            have g5 := (HU.out.sents HIN.out.sen HS1.out.x.keep).glob 5 (by omega)
            simp only [gno, sen] at g5
            have HRE := Lib.hid hr; clear hr
            go_wp2_with fail
            refine (fail_ok _ _ _).mono ?_
            rintro e3 w3 ⟨rfl, rfl⟩
            go_wp2_with fail
            have hr := HRE.out
            subst hr
            exact ⟨rfl, rfl, HS1.out.x.keep, HNL.out.rw _ _⟩
end Go.Proofs.YtabikmkoajdhmabGreatDoor
