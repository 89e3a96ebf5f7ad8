/- types.Scheme.New's closure by a contract. -/
import Derived.Test.YtabikmkoajdhmaaGreatDoorQ28
import Derived.Test.YtabikmkoajdhmaaGreatDoorQ23
import Derived.Test.YtabikmkoajdhmaaGreatDoorQ25
import Derived.Test.YtabikmkoajdhmaaGreatDoorQ26
import Derived.Maps.AppendAt
set_option linter.unusedVariables false
set_option linter.unusedSimpArgs false
namespace Go.Proofs.YtabikmkoajdhmaaGreatDoor
open Go.RowKit

/-- Fresh variables for those that stand for any type: by which, from a counter on. -/
structure FS where
  m : List (Nat × Nat)
  n : Nat
def inst1 (all : List Nat) (v : Nat) (f : FS) : Option (Nat × FS) :=
  if all.contains v then (match f.m.lookup v with
    | some u => some (u, f)
    | none => if f.n < 1000000000 then some (f.n + 1, ⟨f.m ++ [(v, f.n + 1)], f.n + 1⟩) else none)
  else some (v, f)
def freshEnts (A : GV) (m : List (Nat × Nat)) : List (Int × Value) := m.map fun p => ((p.1 : Int), vptr A p.2)
theorem fresh_look (A : GV) (v : Nat) : ∀ m : List (Nat × Nat), (freshEnts A m).lookup (v : Int) = (m.lookup v).map (vptr A)
  | [] => rfl
  | (a, u) :: r => by
    simp only [freshEnts, List.map_cons, List.lookup_cons]
    by_cases h : v = a
    · subst h; simp
    · have h1 : ((v : Int) == (a : Int)) = false := by
        have : ¬ (v : Int) = (a : Int) := by omega
        simpa using this
      have h2 : (v == a) = false := by simpa using h
      rw [h1, h2]
      exact fresh_look A v r
theorem lookup_memN {α : Type} {n : Nat} {v : α} : ∀ {m : List (Nat × α)}, m.lookup n = some v → (n, v) ∈ m
  | (a, u) :: r, h => by
    rw [List.lookup_cons] at h
    cases e : n == a with
    | true =>
      rw [e] at h; simp only [if_true] at h
      injection h with h
      have := eq_of_beq e
      subst this; subst h
      simp
    | false =>
      rw [e] at h
      exact List.mem_cons_of_mem _ (lookup_memN (m := r) (by simpa using h))
theorem und_fresh : Tryz.prog.underlying 337 = some (.map 3 160) := by kernel_rfl
theorem zero_vptr : ∀ w, (zeroValue 160).run Tryz.prog w = .ok (.pointer none) w := fun w => by kernel_rfl

/-- The blocks of an instance that is made: the scheme's box, the counter's box, the map's variable, the map. -/
structure NB4 where
  sb : Nat
  lb : Nat
  fb : Nat
  r : Nat
structure NewR (x : NB4) (cb : Nat) (G : GH) (A : GV) (tv mv : Value) (m : List (Nat × Nat)) (w : World) : Prop where
  cs : w.heap[x.sb]? = some (.cells #[tv, mv] 180)
  cl : w.heap[x.lb]? = some (.cells #[.pointer (some ⟨cb, 0, none⟩)] 153)
  cf : w.heap[x.fb]? = some (.cells #[.map (some x.r)] 337)
  mp : w.heap[x.r]? = some (kmap kInt (freshEnts A m))
  dom : ∀ p ∈ m, ∃ y, A p.2 = some y ∧ TR G A w (varV y.1) (.var p.2)
  priv : ∀ i, (i = x.sb ∨ i = x.lb ∨ i = x.fb ∨ i = x.r) → G i = none ∧ ¬ isV A i ∧ i ≠ cb
/-- A step of the making: nothing is found out; touched are the counter, variables' blocks and the map. -/
structure ExtR (r cb : Nat) (G : GH) (A : GV) (w : World) (G' : GH) (A' : GV) (w' : World) : Prop where
  keep : Keep (fun b => touch cb A b ∨ b = r) w w'
  g : Grew G w G'
  a : GrewV A w A'
  tr : ∀ v t, TR G A w v t → TR G' A' w' v t
def New1Post (x : NB4) (cb : Nat) (G : GH) (A : GV) (tv mv : Value) (w : World) (u : Nat) (f : FS) (e : Ending) (w' : World) : Prop :=
  ∃ b A', e = .returned (.iface 160 (.pointer (some ⟨b, 0, none⟩))) ∧ EI cb G A' w' f.n ∧ ExtR x.r cb G A w G A' w' ∧ NewR x cb G A' tv mv f.m w' ∧ TR G A' w' (varV b) (.var u)
theorem ExtR.same {r cb n : Nat} {G : GH} {A : GV} {w w' : World} (s : Same G A n w w') : ExtR r cb G A w G A w' :=
  ⟨s.keep.mono (fun _ _ e => .inl (.inr e)), Grew.refl _ _, GrewV.refl _ _, s.tr⟩
theorem NewR.same {x : NB4} {cb n : Nat} {G : GH} {A : GV} {tv mv : Value} {m : List (Nat × Nat)} {w w' : World} (h : NewR x cb G A tv mv m w) (s : Same G A n w w') : NewR x cb G A tv mv m w' :=
  ⟨s.keep.get h.cs (h.priv _ (.inl rfl)).2.1, s.keep.get h.cl (h.priv _ (.inr (.inl rfl))).2.1, s.keep.get h.cf (h.priv _ (.inr (.inr (.inl rfl)))).2.1, s.keep.get h.mp (h.priv _ (.inr (.inr (.inr rfl)))).2.1, fun p hp => let ⟨y, e, ht⟩ := h.dom p hp; ⟨y, e, s.tr _ _ ht⟩, h.priv⟩

set_option maxRecDepth 100000 in
set_option maxHeartbeats 4000000 in
theorem new1_no {x : NB4} {cb n N b : Nat} {G : GH} {A : GV} {tv mv : Value} {all : List Nat} {m : List (Nat × Nat)} {nm : Str} {w : World} (h : NewR x cb G A tv mv m w) (hi : EI cb G A w n) (ha : AllG G mv all) (htv : ∃ T tb, tv = .iface T (.pointer (some ⟨tb, 0, none⟩))) (hA : A N = some (b, nm)) (hf : w.heap[b]? = some (varObj N .nilIface nm)) (hc : all.contains N = false) :
    Calls Tryz.prog 184 #[.pointer (some ⟨b, 0, none⟩), .pointer (some ⟨x.sb, 0, none⟩), .pointer (some ⟨x.fb, 0, none⟩), .pointer (some ⟨x.lb, 0, none⟩)] w (New1Post x cb G A tv mv w N ⟨m, n⟩) := by
  have hany := any_ok (tv := tv) ha hi.inv.holds hf (let ⟨T, b, e⟩ := htv; ⟨T, _, e⟩)
  have c0 : w.cell? ⟨x.sb, 0, none⟩ = some tv := cell_of_heap h.cs rfl
  have c1 : w.cell? ⟨x.sb, 1, none⟩ = some mv := cell_of_heap h.cs rfl
  obtain ⟨T, tb, rfl⟩ := htv
  obtain ⟨mo, rfl⟩ := ha.map
  rw [hc] at hany
  have HANY := Lib.hid hany; have HH := Lib.hid h; have HI := Lib.hid hi; have HF := Lib.hid hf
  clear hany h hi hf ha hc
  go_enter Tryz.func184, Tryz.ntmps184
  go_wp2_with fail
  refine HANY.out.mono ?_
  rintro e w1 ⟨rfl, k1⟩
  have HK := Lib.hid k1; clear k1
  go_wp2_with fail
  go_ret
  have s1 := Same.of0 HI.out.inv HK.out
  exact ⟨b, A, rfl, (HI.out.same s1).1, ExtR.same s1, HH.out.same s1, s1.tr _ _ (.free hA HF.out)⟩

set_option maxRecDepth 100000 in
set_option maxHeartbeats 4000000 in
theorem new1_old {x : NB4} {cb n N u b : Nat} {G : GH} {A : GV} {tv mv : Value} {all : List Nat} {m : List (Nat × Nat)} {nm : Str} {w : World} (h : NewR x cb G A tv mv m w) (hi : EI cb G A w n) (ha : AllG G mv all) (htv : ∃ T tb, tv = .iface T (.pointer (some ⟨tb, 0, none⟩))) (hA : A N = some (b, nm)) (hf : w.heap[b]? = some (varObj N .nilIface nm)) (hc : all.contains N = true) (hu : m.lookup N = some u) :
    Calls Tryz.prog 184 #[.pointer (some ⟨b, 0, none⟩), .pointer (some ⟨x.sb, 0, none⟩), .pointer (some ⟨x.fb, 0, none⟩), .pointer (some ⟨x.lb, 0, none⟩)] w (New1Post x cb G A tv mv w u ⟨m, n⟩) := by
  have hany := any_ok (tv := tv) ha hi.inv.holds hf (let ⟨T, b, e⟩ := htv; ⟨T, _, e⟩)
  have c0 : w.cell? ⟨x.sb, 0, none⟩ = some tv := cell_of_heap h.cs rfl
  have c1 : w.cell? ⟨x.sb, 1, none⟩ = some mv := cell_of_heap h.cs rfl
  obtain ⟨T, tb, rfl⟩ := htv
  obtain ⟨mo, rfl⟩ := ha.map
  rw [hc] at hany
  obtain ⟨⟨bu, nmu⟩, hAu, htu⟩ := h.dom (N, u) (lookup_memN hu)
  simp only at hAu htu
  have hL : ∀ w', Keep none' w w' → w'.cell? ⟨x.fb, 0, none⟩ = some (.map (some x.r)) ∧ w'.cell? ⟨b, 0, none⟩ = some (.int .i64 N) ∧ (Instr.lookup 337 (.map (some x.r)) (.int .i64 N) false).run Tryz.prog w' = .ok (.pointer (some ⟨bu, 0, none⟩)) w' := fun w' k =>
    ⟨cell_of_heap (k.get h.cf (fun x => x)) rfl, cell_of_heap (k.get hf (fun x => x)) rfl, by
      have := run_look_some (P := Tryz.prog) und_fresh key_int (k := (N : Int)) (v := .pointer (some ⟨bu, 0, none⟩)) (k.get h.mp (fun x => x)) (by rw [fresh_look, hu]; simp [vptr_some hAu]) false
      simpa using this⟩
  have HANY := Lib.hid hany; have HH := Lib.hid h; have HI := Lib.hid hi; have HL := Lib.hid hL; have HTU := Lib.hid htu
  clear hany h hi hf ha hc hL htu
  go_enter Tryz.func184, Tryz.ntmps184
  go_wp2_with fail
  refine HANY.out.mono ?_
  rintro e w1 ⟨rfl, k1⟩
  have HK := Lib.hid k1; clear k1
  have S0 := HL.out w1.drew (HK.out.trans (Keep.drew _ _))
  go_wp2_with fail
  refine wp_region_float (fun w' => w'.cell? ⟨x.fb, 0, none⟩ = some (.map (some x.r)) ∧ w'.cell? ⟨b, 0, none⟩ = some (.int .i64 N) ∧ (Instr.lookup 337 (.map (some x.r)) (.int .i64 N) false).run Tryz.prog w' = .ok (.pointer (some ⟨bu, 0, none⟩)) w') [1, 2, 3, 6] [0, 4, 5] (by kernel_rfl) ?_
  (refine floatS (i := 0) (v := ?_) rfl (by kernel_rfl) (by kernel_rfl) (by kernel_rfl) (by kernel_rfl) (fun _ _ _ h => h) (by assumption) (by rfl) ?_ ?_); rotate_left
  (intro wF hF; (try dsimp only at hF); go_simp; try with_reducible rfl)
  (try simp only [Act.put, List.setIfInBounds_toArray, List.set_cons_zero, List.set_cons_succ])
  (refine float0 (i := 1) (v := ?_) rfl (by kernel_rfl) (by kernel_rfl) (by kernel_rfl) (by kernel_rfl) (fun _ _ _ h => h) (by rfl) ?_ ?_); rotate_left
  (intro wF; go_simp; try with_reducible rfl)
  (try simp only [Act.put, List.setIfInBounds_toArray, List.set_cons_zero, List.set_cons_succ])
  (refine float0 (i := 2) (v := ?_) rfl (by kernel_rfl) (by kernel_rfl) (by kernel_rfl) (by kernel_rfl) (fun _ _ _ h => h) (by rfl) ?_ ?_); rotate_left
  (intro wF; go_simp; try with_reducible rfl)
  (try simp only [Act.put, List.setIfInBounds_toArray, List.set_cons_zero, List.set_cons_succ])
  (refine float0 (i := 3) (v := ?_) rfl (by kernel_rfl) (by kernel_rfl) (by kernel_rfl) (by kernel_rfl) (fun _ _ _ h => h) (by rfl) ?_ ?_); rotate_left
  (intro wF; go_simp; try with_reducible rfl)
  (try simp only [Act.put, List.setIfInBounds_toArray, List.set_cons_zero, List.set_cons_succ])
  (refine floatS (i := 4) (v := ?_) rfl (by kernel_rfl) (by kernel_rfl) (by kernel_rfl) (by kernel_rfl) (fun _ _ _ h => h) (by assumption) (by rfl) ?_ ?_); rotate_left
  (intro wF hF; (try dsimp only at hF); go_simp; try with_reducible rfl)
  (try simp only [Act.put, List.setIfInBounds_toArray, List.set_cons_zero, List.set_cons_succ])
  (refine floatS (i := 5) (v := ?_) rfl (by kernel_rfl) (by kernel_rfl) (by kernel_rfl) (by kernel_rfl) (fun _ _ _ h => h) (by assumption) (by rfl) ?_ ?_); rotate_left
  (intro wF hF; (try dsimp only at hF); go_simp; try with_reducible rfl)
  (try simp only [Act.put, List.setIfInBounds_toArray, List.set_cons_zero, List.set_cons_succ])
  (refine float0 (i := 6) (v := ?_) rfl (by kernel_rfl) (by kernel_rfl) (by kernel_rfl) (by kernel_rfl) (fun _ _ _ h => h) (by rfl) ?_ ?_); rotate_left
  (intro wF; go_simp; try with_reducible rfl)
  (try simp only [Act.put, List.setIfInBounds_toArray, List.set_cons_zero, List.set_cons_succ])
  (refine floatE (by kernel_rfl) ?_)
  clear S0
  have S0 := HL.out w1.drew.drew ((HK.out.trans (Keep.drew _ _)).trans (Keep.drew _ _))
  go_wp2_with fail
  refine wp_region_float (fun w' => w'.cell? ⟨x.fb, 0, none⟩ = some (.map (some x.r)) ∧ w'.cell? ⟨b, 0, none⟩ = some (.int .i64 N) ∧ (Instr.lookup 337 (.map (some x.r)) (.int .i64 N) false).run Tryz.prog w' = .ok (.pointer (some ⟨bu, 0, none⟩)) w') [1, 2, 3, 6] [0, 4, 5] (by kernel_rfl) ?_
  (refine floatS (i := 0) (v := ?_) rfl (by kernel_rfl) (by kernel_rfl) (by kernel_rfl) (by kernel_rfl) (fun _ _ _ h => h) (by assumption) (by rfl) ?_ ?_); rotate_left
  (intro wF hF; (try dsimp only at hF); go_simp; try with_reducible rfl)
  (try simp only [Act.put, List.setIfInBounds_toArray, List.set_cons_zero, List.set_cons_succ])
  (refine float0 (i := 1) (v := ?_) rfl (by kernel_rfl) (by kernel_rfl) (by kernel_rfl) (by kernel_rfl) (fun _ _ _ h => h) (by rfl) ?_ ?_); rotate_left
  (intro wF; go_simp; try with_reducible rfl)
  (try simp only [Act.put, List.setIfInBounds_toArray, List.set_cons_zero, List.set_cons_succ])
  (refine float0 (i := 2) (v := ?_) rfl (by kernel_rfl) (by kernel_rfl) (by kernel_rfl) (by kernel_rfl) (fun _ _ _ h => h) (by rfl) ?_ ?_); rotate_left
  (intro wF; go_simp; try with_reducible rfl)
  (try simp only [Act.put, List.setIfInBounds_toArray, List.set_cons_zero, List.set_cons_succ])
  (refine float0 (i := 3) (v := ?_) rfl (by kernel_rfl) (by kernel_rfl) (by kernel_rfl) (by kernel_rfl) (fun _ _ _ h => h) (by rfl) ?_ ?_); rotate_left
  (intro wF; go_simp; try with_reducible rfl)
  (try simp only [Act.put, List.setIfInBounds_toArray, List.set_cons_zero, List.set_cons_succ])
  (refine floatS (i := 4) (v := ?_) rfl (by kernel_rfl) (by kernel_rfl) (by kernel_rfl) (by kernel_rfl) (fun _ _ _ h => h) (by assumption) (by rfl) ?_ ?_); rotate_left
  (intro wF hF; (try dsimp only at hF); go_simp; try with_reducible rfl)
  (try simp only [Act.put, List.setIfInBounds_toArray, List.set_cons_zero, List.set_cons_succ])
  (refine floatS (i := 5) (v := ?_) rfl (by kernel_rfl) (by kernel_rfl) (by kernel_rfl) (by kernel_rfl) (fun _ _ _ h => h) (by assumption) (by rfl) ?_ ?_); rotate_left
  (intro wF hF; (try dsimp only at hF); go_simp; try with_reducible rfl)
  (try simp only [Act.put, List.setIfInBounds_toArray, List.set_cons_zero, List.set_cons_succ])
  (refine float0 (i := 6) (v := ?_) rfl (by kernel_rfl) (by kernel_rfl) (by kernel_rfl) (by kernel_rfl) (fun _ _ _ h => h) (by rfl) ?_ ?_); rotate_left
  (intro wF; go_simp; try with_reducible rfl)
  (try simp only [Act.put, List.setIfInBounds_toArray, List.set_cons_zero, List.set_cons_succ])
  (refine floatT (l := _) (k := 7) rfl rfl (by kernel_rfl) ?_)
  go_wp2_with fail
  go_ret
  have s1 := Same.of0 HI.out.inv ((HK.out.trans (Keep.drew _ _)).trans (Keep.drew _ _))
  exact ⟨bu, A, rfl, (HI.out.same s1).1, ExtR.same s1, HH.out.same s1, s1.tr _ _ HTU.out⟩

theorem fresh_snoc {x : NB4} {cb : Nat} {G : GH} {A A' : GV} {tv mv : Value} {m : List (Nat × Nat)} {w : World} (h : NewR x cb G A tv mv m w) (hA : A.sub A') {N u bu : Nat} {nm : Str} (hu : A' u = some (bu, nm)) :
    freshEnts A' (m ++ [(N, u)]) = freshEnts A m ++ [((N : Int), .pointer (some ⟨bu, 0, none⟩))] := by
  unfold freshEnts
  rw [List.map_append]
  congr 1
  · refine List.map_congr_left (fun p hp => ?_)
    obtain ⟨⟨b, q⟩, e, _⟩ := h.dom p hp
    rw [vptr_some e, vptr_some (hA _ _ e)]
  · simp [vptr_some hu]

set_option maxRecDepth 100000 in
set_option maxHeartbeats 4000000 in
theorem new1_new {x : NB4} {cb n N b : Nat} {G : GH} {A : GV} {tv mv : Value} {all : List Nat} {m : List (Nat × Nat)} {nm : Str} {w : World} (h : NewR x cb G A tv mv m w) (hi : EI cb G A w n) (ha : AllG G mv all) (htv : ∃ T tb, tv = .iface T (.pointer (some ⟨tb, 0, none⟩))) (hA : A N = some (b, nm)) (hf : w.heap[b]? = some (varObj N .nilIface nm)) (hc : all.contains N = true) (hu : m.lookup N = none) (hn : n < 1000000000) :
    Calls Tryz.prog 184 #[.pointer (some ⟨b, 0, none⟩), .pointer (some ⟨x.sb, 0, none⟩), .pointer (some ⟨x.fb, 0, none⟩), .pointer (some ⟨x.lb, 0, none⟩)] w (New1Post x cb G A tv mv w (n + 1) ⟨m ++ [(N, n + 1)], n + 1⟩) := by
  have hany := any_ok (tv := tv) ha hi.inv.holds hf (let ⟨T, b, e⟩ := htv; ⟨T, _, e⟩)
  have c0 : w.cell? ⟨x.sb, 0, none⟩ = some tv := cell_of_heap h.cs rfl
  have c1 : w.cell? ⟨x.sb, 1, none⟩ = some mv := cell_of_heap h.cs rfl
  obtain ⟨T, tb, rfl⟩ := htv
  obtain ⟨mo, rfl⟩ := ha.map
  rw [hc] at hany
  have hbc : b ≠ cb := fun e => hi.cv (e ▸ ⟨N, nm, hA⟩)
  have hfc : x.fb ≠ cb := (h.priv _ (.inr (.inr (.inl rfl)))).2.2
  have hlc : x.lb ≠ cb := (h.priv _ (.inr (.inl rfl))).2.2
  have hrc : x.r ≠ cb := (h.priv _ (.inr (.inr (.inr rfl)))).2.2
  have hsc : x.sb ≠ cb := (h.priv _ (.inl rfl)).2.2
  have hLK : ∀ w', Keep none' w w' → (Instr.lookup 337 (.map (some x.r)) (.int .i64 N) false).run Tryz.prog w' = .ok (.pointer none) w' := fun w' k => by
      have := run_look_none (P := Tryz.prog) und_fresh key_int zero_vptr (k := (N : Int)) (k.get h.mp (fun x => x)) (by rw [fresh_look, hu]; rfl) false
      simpa using this
  have hL : ∀ w', Keep (one' cb) w w' → w'.cell? ⟨x.fb, 0, none⟩ = some (.map (some x.r)) ∧ w'.cell? ⟨b, 0, none⟩ = some (.int .i64 N) ∧ w'.cell? ⟨x.lb, 0, none⟩ = some (.pointer (some ⟨cb, 0, none⟩)) := fun w' k =>
    ⟨cell_of_heap (k.get h.cf hfc) rfl, cell_of_heap (k.get hf hbc) rfl, cell_of_heap (k.get h.cl hlc) rfl⟩
  have HANY := Lib.hid hany; have HH := Lib.hid h; have HI := Lib.hid hi; have HL := Lib.hid hL; have HLK := Lib.hid hLK; have HF := Lib.hid hf; have HU := Lib.hid hu
  clear hany h hi hf ha hc hL hLK hu
  go_enter Tryz.func184, Tryz.ntmps184
  go_wp2_with fail
  refine HANY.out.mono ?_
  rintro e w1 ⟨rfl, k1⟩
  have HK := Lib.hid k1; clear k1
  have S0 : w1.drew.cell? ⟨x.fb, 0, none⟩ = some (.map (some x.r)) ∧ w1.drew.cell? ⟨b, 0, none⟩ = some (.int .i64 N) ∧ (Instr.lookup 337 (.map (some x.r)) (.int .i64 N) false).run Tryz.prog w1.drew = .ok (.pointer none) w1.drew :=
    ⟨(HL.out w1.drew (HK.out.of_none.trans (Keep.drew _ _))).1, (HL.out w1.drew (HK.out.of_none.trans (Keep.drew _ _))).2.1, HLK.out _ (HK.out.trans (Keep.drew _ _))⟩
  go_wp2_with fail
  refine wp_region_float (fun w' => w'.cell? ⟨x.fb, 0, none⟩ = some (.map (some x.r)) ∧ w'.cell? ⟨b, 0, none⟩ = some (.int .i64 N) ∧ (Instr.lookup 337 (.map (some x.r)) (.int .i64 N) false).run Tryz.prog w' = .ok (.pointer none) w') [1, 2, 3, 6] [0, 4, 5] (by kernel_rfl) ?_
  (refine floatS (i := 0) (v := ?_) rfl (by kernel_rfl) (by kernel_rfl) (by kernel_rfl) (by kernel_rfl) (fun _ _ _ h => h) (by assumption) (by rfl) ?_ ?_); rotate_left
  (intro wF hF; (try dsimp only at hF); go_simp; try with_reducible rfl)
  (try simp only [Act.put, List.setIfInBounds_toArray, List.set_cons_zero, List.set_cons_succ])
  (refine float0 (i := 1) (v := ?_) rfl (by kernel_rfl) (by kernel_rfl) (by kernel_rfl) (by kernel_rfl) (fun _ _ _ h => h) (by rfl) ?_ ?_); rotate_left
  (intro wF; go_simp; try with_reducible rfl)
  (try simp only [Act.put, List.setIfInBounds_toArray, List.set_cons_zero, List.set_cons_succ])
  (refine float0 (i := 2) (v := ?_) rfl (by kernel_rfl) (by kernel_rfl) (by kernel_rfl) (by kernel_rfl) (fun _ _ _ h => h) (by rfl) ?_ ?_); rotate_left
  (intro wF; go_simp; try with_reducible rfl)
  (try simp only [Act.put, List.setIfInBounds_toArray, List.set_cons_zero, List.set_cons_succ])
  (refine float0 (i := 3) (v := ?_) rfl (by kernel_rfl) (by kernel_rfl) (by kernel_rfl) (by kernel_rfl) (fun _ _ _ h => h) (by rfl) ?_ ?_); rotate_left
  (intro wF; go_simp; try with_reducible rfl)
  (try simp only [Act.put, List.setIfInBounds_toArray, List.set_cons_zero, List.set_cons_succ])
  (refine floatS (i := 4) (v := ?_) rfl (by kernel_rfl) (by kernel_rfl) (by kernel_rfl) (by kernel_rfl) (fun _ _ _ h => h) (by assumption) (by rfl) ?_ ?_); rotate_left
  (intro wF hF; (try dsimp only at hF); go_simp; try with_reducible rfl)
  (try simp only [Act.put, List.setIfInBounds_toArray, List.set_cons_zero, List.set_cons_succ])
  (refine floatS (i := 5) (v := ?_) rfl (by kernel_rfl) (by kernel_rfl) (by kernel_rfl) (by kernel_rfl) (fun _ _ _ h => h) (by assumption) (by rfl) ?_ ?_); rotate_left
  (intro wF hF; (try dsimp only at hF); go_simp; try with_reducible rfl)
  (try simp only [Act.put, List.setIfInBounds_toArray, List.set_cons_zero, List.set_cons_succ])
  (refine float0 (i := 6) (v := ?_) rfl (by kernel_rfl) (by kernel_rfl) (by kernel_rfl) (by kernel_rfl) (fun _ _ _ h => h) (by rfl) ?_ ?_); rotate_left
  (intro wF; go_simp; try with_reducible rfl)
  (try simp only [Act.put, List.setIfInBounds_toArray, List.set_cons_zero, List.set_cons_succ])
  (refine floatE (by kernel_rfl) ?_)
  clear S0
  obtain ⟨w4, hw4⟩ : ∃ w4, w4 = w1.drew.drew := ⟨_, rfl⟩
  have k4 : Keep none' w w4 := by rw [hw4]; exact (HK.out.trans (Keep.drew _ _)).trans (Keep.drew _ _)
  have S0 := HL.out w4 k4.of_none
  rw [hw4] at S0
  have hcnt := k4.get HI.out.cnt (fun x => x)
  have hnew := new_ok hcnt hn
  obtain ⟨kc, e5, cnt5⟩ := new_world hcnt
  have HNEW := Lib.hid hnew; have HKC := Lib.hid kc; have HE5 := Lib.hid e5; have HC5 := Lib.hid cnt5; have HK4 := Lib.hid k4
  clear hnew kc e5 cnt5 k4 hcnt
  rw [hw4] at HNEW
  go_wp2_with fail
  refine wp_region_float (fun w' => w'.cell? ⟨x.fb, 0, none⟩ = some (.map (some x.r)) ∧ w'.cell? ⟨b, 0, none⟩ = some (.int .i64 N) ∧ w'.cell? ⟨x.lb, 0, none⟩ = some (.pointer (some ⟨cb, 0, none⟩))) [1, 2, 3] [0, 4, 5] (by kernel_rfl) ?_
  (refine floatS (i := 0) (v := ?_) rfl (by kernel_rfl) (by kernel_rfl) (by kernel_rfl) (by kernel_rfl) (fun _ _ _ h => h) (by assumption) (by rfl) ?_ ?_); rotate_left
  (intro wF hF; (try dsimp only at hF); go_simp; try with_reducible rfl)
  (try simp only [Act.put, List.setIfInBounds_toArray, List.set_cons_zero, List.set_cons_succ])
  (refine float0 (i := 1) (v := ?_) rfl (by kernel_rfl) (by kernel_rfl) (by kernel_rfl) (by kernel_rfl) (fun _ _ _ h => h) (by rfl) ?_ ?_); rotate_left
  (intro wF; go_simp; try with_reducible rfl)
  (try simp only [Act.put, List.setIfInBounds_toArray, List.set_cons_zero, List.set_cons_succ])
  (refine float0 (i := 2) (v := ?_) rfl (by kernel_rfl) (by kernel_rfl) (by kernel_rfl) (by kernel_rfl) (fun _ _ _ h => h) (by rfl) ?_ ?_); rotate_left
  (intro wF; go_simp; try with_reducible rfl)
  (try simp only [Act.put, List.setIfInBounds_toArray, List.set_cons_zero, List.set_cons_succ])
  (refine float0 (i := 3) (v := ?_) rfl (by kernel_rfl) (by kernel_rfl) (by kernel_rfl) (by kernel_rfl) (fun _ _ _ h => h) (by rfl) ?_ ?_); rotate_left
  (intro wF; go_simp; try with_reducible rfl)
  (try simp only [Act.put, List.setIfInBounds_toArray, List.set_cons_zero, List.set_cons_succ])
  (refine floatS (i := 4) (v := ?_) rfl (by kernel_rfl) (by kernel_rfl) (by kernel_rfl) (by kernel_rfl) (fun _ _ _ h => h) (by assumption) (by rfl) ?_ ?_); rotate_left
  (intro wF hF; (try dsimp only at hF); go_simp; try with_reducible rfl)
  (try simp only [Act.put, List.setIfInBounds_toArray, List.set_cons_zero, List.set_cons_succ])
  (refine floatS (i := 5) (v := ?_) rfl (by kernel_rfl) (by kernel_rfl) (by kernel_rfl) (by kernel_rfl) (fun _ _ _ h => h) (by assumption) (by rfl) ?_ ?_); rotate_left
  (intro wF hF; (try dsimp only at hF); go_simp; try with_reducible rfl)
  (try simp only [Act.put, List.setIfInBounds_toArray, List.set_cons_zero, List.set_cons_succ])
  (refine floatM (i := 6) rfl (by kernel_rfl) (by kernel_rfl) (fun K hK => ?_)); go_simp
  refine HNEW.out.mono ?_
  rintro e w5 ⟨rfl, hw5⟩
  rw [← hw4] at hw5
  have kc5 : Keep (one' cb) w4 w5 := by rw [hw5]; exact HKC.out
  have e5 : w5.heap[w4.heap.size]? = some (varObj (n + 1) .nilIface []) := by rw [hw5]; exact HE5.out
  have cnt5 : w5.heap[cb]? = some (cntObj (n + 1)) := by rw [hw5]; exact HC5.out
  clear hw5
  have s4 := Same.of0 HI.out.inv HK4.out
  obtain ⟨ei4, x4⟩ := HI.out.same s4
  obtain ⟨ei5, x5, y5⟩ := ei4.new kc5 e5 cnt5
  have k5 : Keep (one' cb) w w5 := HK4.out.of_none.trans kc5
  have mp5 := k5.get HH.out.mp hrc
  obtain ⟨nb, hnb⟩ : ∃ nb, nb = w4.heap.size := ⟨_, rfl⟩
  have hrw : x.r < w.heap.size := lt_of_heap HH.out.mp
  have hnbw : w.heap.size ≤ nb := by rw [hnb]; exact HK4.out.size
  have hup := run_upd_new (P := Tryz.prog) und_fresh key_int (k := (N : Int)) (v := .pointer (some ⟨nb, 0, none⟩)) mp5 (by rw [fresh_look, HU.out]; rfl)
  obtain ⟨w6, hw6⟩ : ∃ w6, w6 = World.lay w5 x.r (kmap kInt (freshEnts A m ++ [((N : Int), .pointer (some ⟨nb, 0, none⟩))])) := ⟨_, rfl⟩
  rw [← hw6] at hup
  unfold kInt at hup
  have S5 := HL.out w5 k5
  have hwd : w1.drew.drew.heap.size = nb := by rw [hnb, hw4]
  rw [hwd]
  rw [← hnb] at ei5 x5 y5 e5
  have k6 : Keep (one' x.r) w5 w6 := by rw [hw6]; exact lay_keep _ _ _
  have mp6 : w6.heap[x.r]? = some (kmap kInt (freshEnts A m ++ [((N : Int), .pointer (some ⟨nb, 0, none⟩))])) := by rw [hw6]; exact lay_same (lt_of_heap mp5)
  have hbr : b ≠ x.r := fun e => (HH.out.priv _ (.inr (.inr (.inr rfl)))).2.1 (e ▸ ⟨N, nm, hA⟩)
  have hfr : x.fb ≠ x.r := fun e => by have := HH.out.cf; rw [e, HH.out.mp] at this; simp [kmap] at this
  have hlr : x.lb ≠ x.r := fun e => by have := HH.out.cl; rw [e, HH.out.mp] at this; simp [kmap] at this
  have hsr : x.sb ≠ x.r := fun e => by have := HH.out.cs; rw [e, HH.out.mp] at this; simp [kmap] at this
  have efs := fresh_snoc HH.out (A' := A.put (n + 1) (nb, [])) x5.a.sub (N := N) (GV.put_same A (n + 1) (nb, []))
  have lk6 := run_look_some (P := Tryz.prog) und_fresh key_int (k := (N : Int)) (v := .pointer (some ⟨nb, 0, none⟩)) (w := w6.drew) mp6 (by
    rw [← efs, fresh_look, List.lookup_append, HU.out]
    simp [vptr_some (GV.put_same A (n + 1) (nb, []))]) false
  have S6 : w6.drew.cell? ⟨x.fb, 0, none⟩ = some (.map (some x.r)) ∧ w6.drew.cell? ⟨b, 0, none⟩ = some (.int .i64 N) ∧ (Instr.lookup 337 (.map (some x.r)) (.int .i64 N) false).run Tryz.prog w6.drew = .ok (.pointer (some ⟨nb, 0, none⟩)) w6.drew :=
    ⟨cell_of_heap (w := w6) (k6.get (k5.get HH.out.cf hfc) hfr) rfl, cell_of_heap (w := w6) (k6.get (k5.get HF.out hbc) hbr) rfl, by simpa using lk6⟩
  have HEI := Lib.hid ei5; have HX := Lib.hid (x4.then0 x5); have HY := Lib.hid y5; have HK5 := Lib.hid k5; have HK6 := Lib.hid k6; have HMP := Lib.hid mp6; have HEF := Lib.hid efs; have HS6 := Lib.hid S6
  clear ei5 x5 y5 x4 ei4 s4 kc5 e5 cnt5 k5 k6 mp5 mp6 efs lk6 S6 S0 hw6 hwd hnb hw4
  go_wp2_with fail
  refine hK.out _ _ (fun _ => S5) ?_
  clear hK K
  (try simp only [Act.put, List.setIfInBounds_toArray, List.set_cons_zero, List.set_cons_succ])
  (refine floatT (l := _) (k := 7) rfl rfl (by kernel_rfl) ?_)
  go_wp2_with fail
  have S6 := HS6.out
  refine wp_region_float (fun w' => w'.cell? ⟨x.fb, 0, none⟩ = some (.map (some x.r)) ∧ w'.cell? ⟨b, 0, none⟩ = some (.int .i64 N) ∧ (Instr.lookup 337 (.map (some x.r)) (.int .i64 N) false).run Tryz.prog w' = .ok (.pointer (some ⟨nb, 0, none⟩)) w') [1, 2, 3, 6] [0, 4, 5] (by kernel_rfl) ?_
  (refine floatS (i := 0) (v := ?_) rfl (by kernel_rfl) (by kernel_rfl) (by kernel_rfl) (by kernel_rfl) (fun _ _ _ h => h) (by assumption) (by rfl) ?_ ?_); rotate_left
  (intro wF hF; (try dsimp only at hF); go_simp; try with_reducible rfl)
  (try simp only [Act.put, List.setIfInBounds_toArray, List.set_cons_zero, List.set_cons_succ])
  (refine float0 (i := 1) (v := ?_) rfl (by kernel_rfl) (by kernel_rfl) (by kernel_rfl) (by kernel_rfl) (fun _ _ _ h => h) (by rfl) ?_ ?_); rotate_left
  (intro wF; go_simp; try with_reducible rfl)
  (try simp only [Act.put, List.setIfInBounds_toArray, List.set_cons_zero, List.set_cons_succ])
  (refine float0 (i := 2) (v := ?_) rfl (by kernel_rfl) (by kernel_rfl) (by kernel_rfl) (by kernel_rfl) (fun _ _ _ h => h) (by rfl) ?_ ?_); rotate_left
  (intro wF; go_simp; try with_reducible rfl)
  (try simp only [Act.put, List.setIfInBounds_toArray, List.set_cons_zero, List.set_cons_succ])
  (refine float0 (i := 3) (v := ?_) rfl (by kernel_rfl) (by kernel_rfl) (by kernel_rfl) (by kernel_rfl) (fun _ _ _ h => h) (by rfl) ?_ ?_); rotate_left
  (intro wF; go_simp; try with_reducible rfl)
  (try simp only [Act.put, List.setIfInBounds_toArray, List.set_cons_zero, List.set_cons_succ])
  (refine floatS (i := 4) (v := ?_) rfl (by kernel_rfl) (by kernel_rfl) (by kernel_rfl) (by kernel_rfl) (fun _ _ _ h => h) (by assumption) (by rfl) ?_ ?_); rotate_left
  (intro wF hF; (try dsimp only at hF); go_simp; try with_reducible rfl)
  (try simp only [Act.put, List.setIfInBounds_toArray, List.set_cons_zero, List.set_cons_succ])
  (refine floatS (i := 5) (v := ?_) rfl (by kernel_rfl) (by kernel_rfl) (by kernel_rfl) (by kernel_rfl) (fun _ _ _ h => h) (by assumption) (by rfl) ?_ ?_); rotate_left
  (intro wF hF; (try dsimp only at hF); go_simp; try with_reducible rfl)
  (try simp only [Act.put, List.setIfInBounds_toArray, List.set_cons_zero, List.set_cons_succ])
  (refine float0 (i := 6) (v := ?_) rfl (by kernel_rfl) (by kernel_rfl) (by kernel_rfl) (by kernel_rfl) (fun _ _ _ h => h) (by rfl) ?_ ?_); rotate_left
  (intro wF; go_simp; try with_reducible rfl)
  (try simp only [Act.put, List.setIfInBounds_toArray, List.set_cons_zero, List.set_cons_succ])
  (refine floatT (l := _) (k := 7) rfl rfl (by kernel_rfl) ?_)
  go_wp2_with fail
  go_ret
  have hpr := HH.out.priv x.r (.inr (.inr (.inr rfl)))
  have hvA : ∀ i, isV (A.put (n + 1) (nb, [])) i → ¬ one' x.r i := fun i hi (e : i = x.r) => HX.out.a.isV hrw hpr.2.1 (e ▸ hi)
  have hgr : G.off (one' x.r) := off_one hpr.1
  have kd : Keep (one' x.r) w5 w6.drew := HK6.out.trans (Keep.drew _ _)
  have hcr : cb ≠ x.r := fun e => hrc e.symm
  have kall : Keep (fun i => touch cb A i ∨ i = x.r) w w6.drew := (HK5.out.mono (fun _ _ e => .inl (.inl e))).trans (kd.mono (fun _ _ e => .inr e))
  refine ⟨nb, A.put (n + 1) (nb, []), rfl, ⟨HEI.out.inv.keep kd hgr hvA, kd.get HEI.out.cnt hcr, HEI.out.cg, HEI.out.cv⟩, ⟨kall, Grew.refl _ _, HX.out.a, fun v t r => (HX.out.tr v t r).up HEI.out.inv kd hvA (GH.sub.refl _) (GV.sub.refl _)⟩, ⟨?_, ?_, ?_, ?_, ?_, ?_⟩, HY.out.up HEI.out.inv kd hvA (GH.sub.refl _) (GV.sub.refl _)⟩
  · exact kd.get (HK5.out.get HH.out.cs hsc) hsr
  · exact kd.get (HK5.out.get HH.out.cl hlc) hlr
  · exact kd.get (HK5.out.get HH.out.cf hfc) hfr
  · rw [HEF.out]; exact HMP.out
  · intro p hp
    rcases List.mem_append.1 hp with hp | hp
    · obtain ⟨y, e, ht⟩ := HH.out.dom p hp
      exact ⟨y, HX.out.a.sub _ _ e, (HX.out.tr _ _ ht).up HEI.out.inv kd hvA (GH.sub.refl _) (GV.sub.refl _)⟩
    · simp only [List.mem_singleton] at hp
      subst hp
      exact ⟨_, GV.put_same _ _ _, HY.out.up HEI.out.inv kd hvA (GH.sub.refl _) (GV.sub.refl _)⟩
  · intro i hi
    obtain ⟨h1, h2, h3⟩ := HH.out.priv i hi
    have hlt : i < w.heap.size := by
      rcases hi with rfl | rfl | rfl | rfl
      · exact lt_of_heap HH.out.cs
      · exact lt_of_heap HH.out.cl
      · exact lt_of_heap HH.out.cf
      · exact hrw
    exact ⟨h1, HX.out.a.isV hlt h2, h3⟩
end Go.Proofs.YtabikmkoajdhmaaGreatDoor

/- types.Map by a contract, for the closure of Scheme.New. -/
namespace Go.Proofs.YtabikmkoajdhmaaGreatDoor
open Go.RowKit

def inst (all : List Nat) : Ty → FS → Option (Ty × FS)
  | .var v, f => (inst1 all v f).map fun p => (.var p.1, p.2)
  | .int, f => some (.int, f)
  | .bool, f => some (.bool, f)
  | .list a, f => (inst all a f).bind fun p => some (.list p.1, p.2)
  | .pair a b, f => (inst all a f).bind fun p => (inst all b p.2).bind fun q => some (.pair p.1 q.1, q.2)
  | .fn a b, f => (inst all a f).bind fun p => (inst all b p.2).bind fun q => some (.fn p.1 q.1, q.2)
def instL (all : List Nat) : List Ty → FS → Option (List Ty × FS)
  | [], f => some ([], f)
  | a :: r, f => (inst all a f).bind fun p => (instL all r p.2).bind fun q => some (p.1 :: q.1, q.2)
theorem instL_snoc (all : List Nat) (a : Ty) : ∀ (l : List Ty) (f : FS), instL all (l ++ [a]) f = (instL all l f).bind fun p => (inst all a p.2).bind fun q => some (p.1 ++ [q.1], q.2)
  | [], f => by
    simp only [List.nil_append, instL, Option.bind_some]
  | b :: r, f => by
    simp only [List.cons_append, instL]
    rcases inst all b f with _ | p
    · rfl
    · simp only [Option.bind_some, instL_snoc all a r]
      rcases instL all r p.2 with _ | q
      · rfl
      · simp only [Option.bind_some]
        rcases inst all a q.2 with _ | s <;> rfl
theorem inst_con {all : List Nat} {t : Ty} (ht : t.con = true) {f f' : FS} {t' : Ty} (h : inst all t f = some (t', f')) : ∃ l, instL all t.args f = some (l, f') ∧ t'.con = true ∧ t'.kind = t.kind ∧ t'.args = l := by
  cases t with
  | var x => cases ht
  | int => simp only [inst] at h; injection h with h; injection h with h1 h2; subst h1; subst h2; exact ⟨[], rfl, rfl, rfl, rfl⟩
  | bool => simp only [inst] at h; injection h with h; injection h with h1 h2; subst h1; subst h2; exact ⟨[], rfl, rfl, rfl, rfl⟩
  | list a =>
    simp only [inst] at h
    obtain ⟨p, hp, h⟩ := Option.bind_eq_some_iff.1 h
    injection h with h; injection h with h1 h2; subst h1; subst h2
    exact ⟨[p.1], by simp [instL, Ty.args, hp], rfl, rfl, rfl⟩
  | pair a b =>
    simp only [inst] at h
    obtain ⟨p, hp, h⟩ := Option.bind_eq_some_iff.1 h
    obtain ⟨q, hq, h⟩ := Option.bind_eq_some_iff.1 h
    injection h with h; injection h with h1 h2; subst h1; subst h2
    exact ⟨[p.1, q.1], by simp [instL, Ty.args, hp, hq], rfl, rfl, rfl⟩
  | fn a b =>
    simp only [inst] at h
    obtain ⟨p, hp, h⟩ := Option.bind_eq_some_iff.1 h
    obtain ⟨q, hq, h⟩ := Option.bind_eq_some_iff.1 h
    injection h with h; injection h with h1 h2; subst h1; subst h2
    exact ⟨[p.1, q.1], by simp [instL, Ty.args, hp, hq], rfl, rfl, rfl⟩

def MapPost (x : NB4) (cb : Nat) (G : GH) (A : GV) (tv mv : Value) (w : World) (t : Ty) (f : FS) (e : Ending) (w' : World) : Prop :=
  ∃ v G' A', e = .returned v ∧ EI cb G' A' w' f.n ∧ ExtR x.r cb G A w G' A' w' ∧ NewR x cb G' A' tv mv f.m w' ∧ TR G' A' w' v t
theorem ExtR.trans {r cb : Nat} {G G1 G2 : GH} {A A1 A2 : GV} {w w1 w2 : World} (h : ExtR r cb G A w G1 A1 w1) (k : ExtR r cb G1 A1 w1 G2 A2 w2) : ExtR r cb G A w G2 A2 w2 :=
  ⟨h.keep.trans' k.keep (fun _ _ x => x) (fun i hi e => by
    rcases e with e | e
    · exact .inl (touch_old h.a hi e)
    · exact .inr e), h.g.trans h.keep k.g, h.a.trans h.keep k.a, fun v t r => k.tr _ _ (h.tr _ _ r)⟩
/-- Map's contract at sizes up to m. -/
def MapOk (all : List Nat) (m : Nat) : Prop := ∀ (x : NB4) (cb : Nat) (G : GH) (A : GV) (tv mv v : Value) (w : World) (t t' : Ty) (f f' : FS), EI cb G A w f.n → NewR x cb G A tv mv f.m w → AllG G mv all → (∃ T tb, tv = .iface T (.pointer (some ⟨tb, 0, none⟩))) → TR G A w v t → t.size ≤ m → inst all t f = some (t', f') →
  Calls Tryz.prog 183 #[v, .func (.func 184) #[] #[.pointer (some ⟨x.sb, 0, none⟩), .pointer (some ⟨x.fb, 0, none⟩), .pointer (some ⟨x.lb, 0, none⟩)]] w (MapPost x cb G A tv mv w t' f')
theorem new1_any {x : NB4} {cb N b u : Nat} {G : GH} {A : GV} {tv mv : Value} {all : List Nat} {f f' : FS} {nm : Str} {w : World} (h : NewR x cb G A tv mv f.m w) (hi : EI cb G A w f.n) (ha : AllG G mv all) (htv : ∃ T tb, tv = .iface T (.pointer (some ⟨tb, 0, none⟩))) (hA : A N = some (b, nm)) (hf : w.heap[b]? = some (varObj N .nilIface nm)) (hu : inst1 all N f = some (u, f')) :
    Calls Tryz.prog 184 #[.pointer (some ⟨b, 0, none⟩), .pointer (some ⟨x.sb, 0, none⟩), .pointer (some ⟨x.fb, 0, none⟩), .pointer (some ⟨x.lb, 0, none⟩)] w (New1Post x cb G A tv mv w u f') := by
  obtain ⟨m, n⟩ := f
  unfold inst1 at hu
  cases hc : all.contains N with
  | false =>
    rw [hc] at hu; simp only [Bool.false_eq_true, if_false] at hu
    injection hu with hu; injection hu with h1 h2; subst h1; subst h2
    exact new1_no h hi ha htv hA hf hc
  | true =>
    rw [hc] at hu; simp only [if_true] at hu
    cases hl : m.lookup N with
    | some u0 =>
      rw [hl] at hu; simp only at hu
      injection hu with hu; injection hu with h1 h2; subst h1; subst h2
      exact new1_old h hi ha htv hA hf hc hl
    | none =>
      rw [hl] at hu; simp only at hu
      by_cases hn : n < 1000000000
      · rw [if_pos hn] at hu
        injection hu with hu; injection hu with h1 h2; subst h1; subst h2
        exact new1_new h hi ha htv hA hf hc hl hn
      · rw [if_neg hn] at hu; cases hu
end Go.Proofs.YtabikmkoajdhmaaGreatDoor

/- types.Map: the walk. -/
namespace Go.Proofs.YtabikmkoajdhmaaGreatDoor
open Go.RowKit

theorem und_types : Tryz.prog.underlying 167 = some (.slice 149) := by kernel_rfl
theorem info_type : (Tryz.prog.info? 149).map (fun i => (i.zero, i.size, i.bytes)) = some (some .nilIface, 1, 16) := by kernel_rfl
theorem TRs.snoc {G : GH} {A : GV} {w : World} {v : Value} {t : Ty} (h : TR G A w v t) : ∀ {vs : List Value} {ts : List Ty}, TRs G A w vs ts → TRs G A w (vs ++ [v]) (ts ++ [t])
  | _, _, .nil => .cons h .nil
  | _, _, .cons a r => .cons a (r.snoc h)
theorem ExtR.trs {r cb : Nat} {G G' : GH} {A A' : GV} {w w' : World} (h : ExtR r cb G A w G' A' w') : ∀ {vs : List Value} {ts : List Ty}, TRs G A w vs ts → TRs G' A' w' vs ts
  | _, _, .nil => .nil
  | _, _, .cons a b => .cons (h.tr _ _ a) (h.trs b)
/-- A block of the walk's own. -/
structure Own (x : NB4) (cb : Nat) (G : GH) (A : GV) (w : World) (b : Nat) : Prop where
  g : G b = none
  v : ¬ isV A b
  c : b ≠ cb
  r : b ≠ x.r
  o : b ≠ x.sb ∧ b ≠ x.lb ∧ b ≠ x.fb
  lt : b < w.heap.size
theorem Own.ext {x : NB4} {cb b : Nat} {G G' : GH} {A A' : GV} {w w' : World} (h : Own x cb G A w b) (k : ExtR x.r cb G A w G' A' w') : Own x cb G' A' w' b :=
  ⟨k.g.sz h.lt h.g, k.a.isV h.lt h.v, h.c, h.r, h.o, Nat.lt_of_lt_of_le h.lt k.keep.size⟩
theorem Own.off {x : NB4} {cb b : Nat} {G : GH} {A : GV} {w : World} (h : Own x cb G A w b) : ¬ (touch cb A b ∨ b = x.r) := fun e => by
  rcases e with (e | e) | e
  · exact h.c e
  · exact h.v e
  · exact h.r e

/-- Blocks of the walk's own are written: the engine's state stands. -/
theorem own_step {x : NB4} {cb n : Nat} {G : GH} {A : GV} {tv mv : Value} {m : List (Nat × Nat)} {w w' : World} {S : Nat → Prop} (hi : EI cb G A w n) (hN : NewR x cb G A tv mv m w) (k : Keep S w w') (hS : ∀ b, b < w.heap.size → S b → Own x cb G A w b) (hS2 : ∀ b, S b → b < w.heap.size) :
    EI cb G A w' n ∧ NewR x cb G A tv mv m w' ∧ ∀ v t, TR G A w v t → TR G A w' v t := by
  have ho : ∀ b, S b → Own x cb G A w b := fun b h => hS b (hS2 b h) h
  have hg : G.off S := fun b o hb h => by rw [(ho b h).g] at hb; cases hb
  have hv : ∀ b, isV A b → ¬ S b := fun b hb h => (ho b h).v hb
  refine ⟨⟨hi.inv.keep k hg hv, k.get hi.cnt (fun h => (ho _ h).c rfl), hi.cg, hi.cv⟩, ⟨k.get hN.cs (fun h => (ho _ h).o.1 rfl), k.get hN.cl (fun h => (ho _ h).o.2.1 rfl), k.get hN.cf (fun h => (ho _ h).o.2.2 rfl), k.get hN.mp (fun h => (ho _ h).r rfl), fun p hp => ?_, hN.priv⟩, fun v t r => r.keep hi.inv k hv⟩
  obtain ⟨y, e, ht⟩ := hN.dom p hp
  exact ⟨y, e, ht.keep hi.inv k hv⟩
theorem seal_T {G : GH} {A : GV} {w : World} {base e n k : Nat} {v : Value} {xs : List Value} (hi : TInv G A w n) (h : w.ownsRow base e 1 v k xs) (hg : ∀ g, v.ownBlock = some g → G g = none ∧ ¬ isV A g) :
    ∃ G2, G.sub G2 ∧ TInv G2 A w n ∧ SlR G2 v xs ∧ ∀ b, v.ownBlock ≠ some b → G2 b = G b := by
  obtain ⟨hl, h⟩ := h
  rcases h with ⟨rfl, rfl⟩ | ⟨g, cap, cur, rfl, hb, hgg, h1, h2, h3, h4⟩
  · have : xs = [] := by simpa using hl
    subst this
    exact ⟨G, GH.sub.refl G, hi, .inl ⟨rfl, rfl⟩, fun _ _ => rfl⟩
  · have hn : k = xs.length := by omega
    subst hn
    obtain ⟨hgn, hgr⟩ := hg g rfl
    refine ⟨G.put g (.cells cur e), GH.sub_put hgn, hi.put hgg hgr, .inr ⟨g, cur, e, cap, rfl, GH.put_same _ _ _, fun i hi => ?_⟩, fun b hb => GH.put_other _ _ (fun e => hb (by subst e; rfl))⟩
    have h5 : cur.toList[i]? = some xs[i] := by
      have : (cur.toList.take (xs.length * 1))[i]? = xs[i]? := by rw [h4]
      rw [List.getElem?_take, if_pos (by omega)] at this
      rw [this]; simp [hi]
    simpa using h5
theorem TRs.of {G : GH} {A : GV} {w w' : World} (h : ∀ v t, TR G A w v t → TR G A w' v t) : ∀ {vs : List Value} {ts : List Ty}, TRs G A w vs ts → TRs G A w' vs ts
  | _, _, .nil => .nil
  | _, _, .cons a b => .cons (h _ _ a) (b.of h)

set_option maxRecDepth 100000 in
set_option maxHeartbeats 4000000 in
theorem map_step (all : List Nat) (m : Nat) (ih : MapOk all m) : MapOk all (m + 1) := by
  intro x cb G A tv mv v w t t' f f' hi hN ha htv hv hm hin
  obtain ⟨T, b, fd, rfl, hmt, hent, hc⟩ := find_any hi.inv hv
  have henf : ∀ args w, (callFunc 184 args).run Tryz.prog w = .ok (.enter 184 args) w := fun args w => by kernel_rfl
  obtain ⟨ity, hity, zs0, zs1, zs2⟩ := info_parts info_type
  have HC := Lib.hid hc; have IH := Lib.hid ih; have HI := Lib.hid hi; have HM := Lib.hid hm; have HN := Lib.hid hN; have HA := Lib.hid ha; have HTV := Lib.hid htv; have HIN := Lib.hid hin
  clear hc ih hi hm hv hN ha htv hin
  go_enter Tryz.func183, Tryz.ntmps183
  go_wp2_with fail
  refine HC.out.mono ?_
  rintro e w1 ⟨r, rfl, hs, hr⟩
  obtain ⟨ei1, x1⟩ := HI.out.same hs
  have hN1 := HN.out.same hs
  have X1 : ExtR x.r cb G A w G A w1 := ExtR.same hs
  cases hr with
  | @var N b1 name hA hb =>
    have hin := HIN.out
    simp only [inst] at hin
    obtain ⟨⟨u, g⟩, hu, hin⟩ := Option.map_eq_some_iff.1 hin
    injection hin with h1 h2; subst h1; subst h2
    have hcl := new1_any hN1 ei1 HA.out HTV.out hA hb hu
    have HCL := Lib.hid hcl; have HX1 := Lib.hid X1; clear hcl hs hb ei1 x1 hN1 X1
    simp only [varV]
    have ta := taVarVar
    go_wp2_with fail
    refine HCL.out.mono ?_
    rintro e w3 ⟨bu, A3, rfl, ei3, x3, n3, y3⟩
    have HE3 := Lib.hid ei3; have HX3 := Lib.hid x3; have HN3 := Lib.hid n3; have HY3 := Lib.hid y3; clear ei3 x3 n3 y3
    go_wp2_with fail
    go_ret
    exact ⟨_, G, A3, rfl, HE3.out, HX1.out.trans HX3.out, HN3.out, HY3.out⟩
  | @con b1 lv vs _ hcn hg hl hts =>
    obtain ⟨l, hl2, hc', hk', ha'⟩ := inst_con hcn HIN.out
    have c0 : w1.cell? ⟨b1, 0, none⟩ = some (.string (bs t.kind)) := cell_of_heap (ei1.inv.holds _ _ hg) rfl
    have c1 : (w1.alloc (.cells #[.string (bs t.kind), .slice none 0 0] 169)).cell? ⟨b1, 1, none⟩ = some lv := cell_of_heap (heap_old (ei1.inv.holds _ _ hg)) rfl
    obtain ⟨a, cap, rfl, hcells⟩ := hl.shp
    have HL := Lib.hid hcells; have HLen : Hid (vs.length = t.args.length) := Lib.hid hts.len
    have hvl : vs.length ≤ 2 := by have := HLen.out; have := Ty.args_len (t := t); omega
    obtain ⟨cB, hcB⟩ : ∃ cB, cB = w1.heap.size := ⟨_, rfl⟩
    have k2 : Keep none' w1 (w1.alloc (.cells #[.string (bs t.kind), .slice none 0 0] 169)) := Keep.alloc _ _ _
    have s2 := Same.of0 ei1.inv k2
    have X2 : ExtR x.r cb G A w G A (w1.alloc (.cells #[.string (bs t.kind), .slice none 0 0] 169)) := X1.trans (ExtR.same s2)
    have hown : Own x cb G A (w1.alloc (.cells #[.string (bs t.kind), .slice none 0 0] 169)) cB := by
      have h1 := ei1.lt; have h2 := lt_of_heap hN1.mp; have h3 := lt_of_heap hN1.cs; have h4 := lt_of_heap hN1.cl; have h5 := lt_of_heap hN1.cf
      exact ⟨ei1.inv.holds.fresh (by omega), fun h => by have := ei1.inv.old h; omega, by omega, by omega, ⟨by omega, by omega, by omega⟩, by simp; omega⟩
    have HCB : Hid ((w1.alloc (.cells #[.string (bs t.kind), .slice none 0 0] 169)).heap[cB]? = some (.cells #[.string (bs t.kind), .slice none 0 0] 169)) := Lib.hid (by rw [hcB]; exact heap_new _ _)
    have HX2 := Lib.hid X2; have HE2 := Lib.hid (ei1.same s2).1; have HN2 := Lib.hid (hN1.same s2); have HT2 := Lib.hid (s2.trs hts); have HOWN := Lib.hid hown
    have HIL := Lib.hid hl2; have HC' := Lib.hid hc'; have HK' := Lib.hid hk'; have HA' := Lib.hid ha'
    have hw1 : w.heap.size ≤ w1.heap.size := X1.keep.size
    clear hs ei1 x1 hN1 X1 hg hl hts hcells hl2 hc' hk' ha' k2 s2 X2 hown
    simp only [conV]
    have ta := taConCon
    have tb := taConVar
    go_wp2_with fail
    rw [← hcB]
    have hbase : w.heap.size ≤ cB := by omega
    clear hcB hw1 c0 c1
    have HL2 := HIL
    go_loopg [32] vs.length (fun gn s32 wr => ∃ (j : Nat) (Lv : Value) (us : List Value) (ts ls : List Ty) (fj : FS) (Gj : GH) (Aj : GV), j ≤ vs.length ∧ Hid (gn = vs.length - j) ∧ s32 = .int .i64 j ∧ Hid (EI cb Gj Aj wr fj.n) ∧ Hid (NewR x cb Gj Aj tv mv fj.m wr) ∧ Hid (ExtR x.r cb G A w Gj Aj wr) ∧ Hid (TRs Gj Aj wr vs t.args) ∧
      Hid (wr.heap[cB]? = some (.cells #[.string (bs t.kind), Lv] 169)) ∧ Hid (Own x cb Gj Aj wr cB) ∧ Hid (wr.ownsRow w.heap.size 149 1 Lv j us) ∧ Hid (∀ g, Lv.ownBlock = some g → Own x cb Gj Aj wr g ∧ g ≠ cB) ∧ Hid (TRs Gj Aj wr us ts) ∧ Hid (instL all (t.args.drop j) fj = some (ls, f')) ∧ Hid (l = ts ++ ls))
    case atStart => exact ⟨0, .slice none 0 0, [], [], l, f, G, A, by omega, Lib.hid rfl, rfl, HE2, HN2, HX2, HT2, HCB, HOWN, Lib.hid (World.ownsRow_nil _ _ _ _), Lib.hid (fun g h => by cases h), Lib.hid .nil, HL2, Lib.hid rfl⟩
    case round =>
      obtain ⟨j, Lv, us, ts, ls, fj, Gj, Aj, hj, HM2, rfl, HEJ, HNJ, HXJ, HTJ, HCJ, HOJ, HRJ, HBJ, HUJ, HIJ, HLJ⟩ := hrel
      have hjj : (0 : Int) ≤ (j : Int) := by omega
      obtain ⟨ao, capL, rfl, _⟩ := own_shape HRJ.out
      by_cases hlt : j < vs.length
      · have hltx : j < t.args.length := by have := HLen.out; omega
        obtain ⟨b2, rfl, cj⟩ := HL.out wr (HEJ.out.inv.holds.sub HXJ.out.g.sub) j vs[j] (by simp [hlt])
        have hxj := HTJ.out.get j hlt hltx
        obtain ⟨T2, b', e⟩ := hxj.iface
        rw [e] at cj hxj
        have hij := HIJ.out
        rw [drop_cons hltx] at hij
        simp only [instL] at hij
        obtain ⟨⟨ty, fy⟩, hy, hij⟩ := Option.bind_eq_some_iff.1 hij
        obtain ⟨⟨lr, fr⟩, hz, hij⟩ := Option.bind_eq_some_iff.1 hij
        injection hij with hij; injection hij with hi1 hi2
        have sd := Same.of0 HEJ.out.inv (Keep.drew none' wr)
        have hcall := IH.out x cb Gj Aj tv mv _ wr.drew (t.args[j]) ty fj fy (HEJ.out.same sd).1 (HNJ.out.same sd) (HA.out.sub HXJ.out.g.sub) HTV.out (sd.tr _ _ hxj) (by have := Ty.arg_sz (List.getElem_mem hltx); have := HM.out; omega) hy
        have HCALL := Lib.hid hcall; have HZ := Lib.hid hz; have HI1 := Lib.hid hi1; have HI2 := Lib.hid hi2; have HSD := Lib.hid sd
        clear hcall hy hz hi1 hi2 hxj e sd
        have hji : ((j : Int) < (vs.length : Int)) := by omega
        go_wp2_with fail
        have S0 : wr.drew.cell? ⟨cB, 1, none⟩ = some (.slice ao j capL) := cell_of_heap (w := wr) HCJ.out rfl
        refine wp_region_float (fun w' => w'.cell? ⟨cB, 1, none⟩ = some (.slice ao j capL)) [0, 1, 2, 3, 5, 6] [4] (by kernel_rfl) ?_
        (refine float0 (i := 0) (v := ?_) rfl (by kernel_rfl) (by kernel_rfl) (by kernel_rfl) (by kernel_rfl) (fun _ _ _ h => h) (by rfl) ?_ ?_); rotate_left
        (intro wF; go_simp; try with_reducible rfl)
        (try simp only [Act.put, List.setIfInBounds_toArray, List.set_cons_zero, List.set_cons_succ])
        (refine float0 (i := 1) (v := ?_) rfl (by kernel_rfl) (by kernel_rfl) (by kernel_rfl) (by kernel_rfl) (fun _ _ _ h => h) (by rfl) ?_ ?_); rotate_left
        (intro wF; go_simp; try with_reducible rfl)
        (try simp only [Act.put, List.setIfInBounds_toArray, List.set_cons_zero, List.set_cons_succ])
        (refine float0 (i := 2) (v := ?_) rfl (by kernel_rfl) (by kernel_rfl) (by kernel_rfl) (by kernel_rfl) (fun _ _ _ h => h) (by rfl) ?_ ?_); rotate_left
        (intro wF; go_simp; try with_reducible rfl)
        (try simp only [Act.put, List.setIfInBounds_toArray, List.set_cons_zero, List.set_cons_succ])
        (refine float0 (i := 3) (v := ?_) rfl (by kernel_rfl) (by kernel_rfl) (by kernel_rfl) (by kernel_rfl) (fun _ _ _ h => h) (by rfl) ?_ ?_); rotate_left
        (intro wF; go_simp; try with_reducible rfl)
        (try simp only [Act.put, List.setIfInBounds_toArray, List.set_cons_zero, List.set_cons_succ])
        (refine floatS (i := 4) (v := ?_) rfl (by kernel_rfl) (by kernel_rfl) (by kernel_rfl) (by kernel_rfl) (fun _ _ _ h => h) (by assumption) (by rfl) ?_ ?_); rotate_left
        (intro wF hF; (try dsimp only at hF); go_simp; try with_reducible rfl)
        (try simp only [Act.put, List.setIfInBounds_toArray, List.set_cons_zero, List.set_cons_succ])
        (refine float0 (i := 5) (v := ?_) rfl (by kernel_rfl) (by kernel_rfl) (by kernel_rfl) (by kernel_rfl) (fun _ _ _ h => h) (by rfl) ?_ ?_); rotate_left
        (intro wF; go_simp; try with_reducible rfl)
        (try simp only [Act.put, List.setIfInBounds_toArray, List.set_cons_zero, List.set_cons_succ])
        (refine float0 (i := 6) (v := ?_) rfl (by kernel_rfl) (by kernel_rfl) (by kernel_rfl) (by kernel_rfl) (fun _ _ _ h => h) (by rfl) ?_ ?_); rotate_left
        (intro wF; go_simp; try with_reducible rfl)
        (try simp only [Act.put, List.setIfInBounds_toArray, List.set_cons_zero, List.set_cons_succ])
        (refine floatM (i := 7) rfl (by kernel_rfl) (by kernel_rfl) (fun K hK => ?_)); go_simp
        refine HCALL.out.mono ?_
        rintro e w5 ⟨v5, G5, A5, rfl, ei5, x5, n5, y5⟩
        obtain ⟨T5, b5, rfl⟩ := y5.iface
        have X5 := (ExtR.same (r := x.r) (cb := cb) HSD.out).trans x5
        have hc5 := X5.keep.get HCJ.out HOJ.out.off
        have hl5 := lt_of_heap hc5
        have S5 : w5.cell? ⟨cB, 1, none⟩ = some (.slice ao j capL) := cell_of_heap hc5 rfl
        have S6 : (w5.alloc (.cells #[.iface T5 (.pointer (some ⟨b5, 0, none⟩))] 149)).cell? ⟨cB, 1, none⟩ = some (.slice ao j capL) := cell_of_heap (heap_old hc5) rfl
        have own5 := own_keep HRJ.out X5.keep (fun g hg => (HBJ.out g hg).1.off)
        have hsz5 : w.heap.size ≤ w5.heap.size := by have := HXJ.out.keep.size; have := X5.keep.size; omega
        have HX5 := Lib.hid X5; have HE5 := Lib.hid ei5; have HN5 := Lib.hid n5; have HY5 := Lib.hid y5; have HC5 := Lib.hid hc5
        clear ei5 x5 n5 y5 X5 hc5
        go_wp2_with fail
        refine hK.out _ _ (fun _ => S5) ?_
        clear hK K
        (try simp only [Act.put, List.setIfInBounds_toArray, List.set_cons_zero, List.set_cons_succ])
        (refine floatM (i := 8) rfl (by kernel_rfl) (by kernel_rfl) (fun K hK => ?_)); go_simp
        refine hK.out _ _ (fun _ => S6) ?_
        clear hK K
        (try simp only [Act.put, List.setIfInBounds_toArray, List.set_cons_zero, List.set_cons_succ])
        (refine floatT (l := _) (k := 9) rfl rfl (by kernel_rfl) ?_)
        refine wpList_append_own_at _ rfl _ _ 167 rfl w.heap.size 149 ity .nilIface 1 16 und_types hity zs0 zs1 zs2 rfl (by decide) (.slice ao j capL) j _ rfl (own5.alloc _) ⟨w5.heap.size, 0, none⟩ 1 1 [.iface T5 (.pointer (some ⟨b5, 0, none⟩))] rfl rfl (cell_one_new _ _ _) (fun x hx => by simp at hx; subst hx; rfl) (by unfold maxLen; omega) (by omega) (by simp; omega) ?_
        intro v8 w8 own8 g8 _ at8
        obtain ⟨ao8, cap8, rfl, _⟩ := own_shape own8
        have k8 : Keep (fun b => (Value.slice ao j capL).ownBlock = some b) (w5.alloc (.cells #[.iface T5 (.pointer (some ⟨b5, 0, none⟩))] 149)) w8 := Keep.grown g8 (fun k e _ => e)
        have hcO : ∀ b, (Value.slice ao j capL).ownBlock = some b → b ≠ cB := fun b hb => (HBJ.out b hb).2
        have h8 := k8.get (heap_old HC5.out) (fun e => hcO cB e rfl)
        have e8 : w8.cell? ⟨cB, 1, none⟩ = some (.slice ao j capL) := cell_of_heap h8 rfl
        have f8 : w8.frozen? ⟨cB, 1, none⟩ = false := free_of_heap h8
        have h9 : (w8.setCell ⟨cB, 1, none⟩ (.slice ao8 (j + 1) cap8)).heap[cB]? = some (.cells #[.string (bs t.kind), .slice ao8 (j + 1) cap8] 169) := heap_set_same (c := #[.string (bs t.kind), .slice ao j capL]) h8
        have k9 : Keep (fun b => b < w5.heap.size ∧ (b = cB ∨ (Value.slice ao j capL).ownBlock = some b)) w5 (w8.setCell ⟨cB, 1, none⟩ (.slice ao8 (j + 1) cap8)) :=
          ((Keep.alloc none' w5 _).trans' k8 (fun _ _ h => h.elim) (fun i hi h => ⟨hi, .inr h⟩)).trans' (Keep.setCell (S := one' cB) w8 (p := ⟨cB, 1, none⟩) _ (fun _ => rfl)) (fun _ _ h => h) (fun i hi (h : i = cB) => ⟨hi, .inl h⟩)
        have own9 : (w8.setCell ⟨cB, 1, none⟩ (.slice ao8 (j + 1) cap8)).ownsRow w.heap.size 149 1 (.slice ao8 (j + 1) cap8) (j + 1) (us ++ [.iface T5 (.pointer (some ⟨b5, 0, none⟩))]) := own_keep own8 (Keep.setCell (S := one' cB) w8 (p := ⟨cB, 1, none⟩) _ (fun _ => rfl)) (fun g hg (e : g = cB) => by
          rcases at8 with h | h
          · exact hcO g (h ▸ hg) e
          · rw [h] at hg; injection hg with hg; simp at hg; omega)
        have HAT := Lib.hid at8; have HK9 := Lib.hid k9; have H9 := Lib.hid h9; have HO9 := Lib.hid own9; have HO8 := Lib.hid own8; have HCO := Lib.hid hcO
        clear own8 g8 at8 k8 h8 k9 h9 own9 own5 S0 S5 S6 hcO
        go_wp2_with fail
        have ho5 : ∀ b, b < w5.heap.size → (b < w5.heap.size ∧ (b = cB ∨ (Value.slice ao j capL).ownBlock = some b)) → Own x cb G5 A5 w5 b := fun b _ h => by
          rcases h.2 with rfl | h
          · exact HOJ.out.ext HX5.out
          · exact (HBJ.out b h).1.ext HX5.out
        obtain ⟨ei9, n9, tr9⟩ := own_step HE5.out HN5.out HK9.out ho5 (fun b h => h.1)
        have hsz9 : w5.heap.size ≤ (w8.setCell ⟨cB, 1, none⟩ (.slice ao8 (j + 1) cap8)).heap.size := HK9.out.size
        have own_up : ∀ b, Own x cb G5 A5 w5 b → Own x cb G5 A5 (w8.setCell ⟨cB, 1, none⟩ (.slice ao8 (j + 1) cap8)) b := fun b h => ⟨h.g, h.v, h.c, h.r, h.o, by have := h.lt; omega⟩
        have XX := HXJ.out.trans HX5.out
        have X9 : ExtR x.r cb G A w G5 A5 (w8.setCell ⟨cB, 1, none⟩ (.slice ao8 (j + 1) cap8)) := ⟨XX.keep.trans' HK9.out (fun _ _ h => h) (fun i hi h => by
          rcases h.2 with h | h
          · omega
          · have := (HRJ.out.lt i h).1; omega), XX.g, XX.a, fun v u r => tr9 v u (XX.tr v u r)⟩
        go_roundg (vs.length - (j + 1))
        case measure => have := HM2.out; omega
        case rel =>
          refine ⟨j + 1, .slice ao8 (j + 1) cap8, us ++ [.iface T5 (.pointer (some ⟨b5, 0, none⟩))], ts ++ [ty], lr, fy, G5, A5, by omega, Lib.hid rfl, by go_num, Lib.hid ei9, Lib.hid n9, Lib.hid X9, Lib.hid ((HX5.out.trs HTJ.out).of tr9), H9, Lib.hid (own_up _ (HOJ.out.ext HX5.out)), HO9, Lib.hid (fun g hg => ?_), Lib.hid (((HX5.out.trs HUJ.out).of tr9).snoc (tr9 _ _ HY5.out)), Lib.hid (by rw [HZ.out, HI2.out]), Lib.hid (by rw [HLJ.out, ← HI1.out]; simp)⟩
          rcases HAT.out with h | h
          · have h' := h ▸ hg
            exact ⟨own_up _ ((HBJ.out g h').1.ext HX5.out), HCO.out g h'⟩
          · have hlt8 := (HO9.out.lt g hg).2
            rw [h] at hg; injection hg with hg
            have hgs : g = w5.heap.size + 1 := by rw [← hg]; simp
            have h1 := HE5.out.lt; have h2 := lt_of_heap HN5.out.mp; have h3 := lt_of_heap HN5.out.cs; have h4 := lt_of_heap HN5.out.cl; have h5 := lt_of_heap HN5.out.cf
            exact ⟨⟨HE5.out.inv.holds.fresh (by omega), fun h => by have := HE5.out.inv.old h; omega, by omega, by omega, ⟨by omega, by omega, by omega⟩, hlt8⟩, by omega⟩
      · have hje : j = vs.length := by omega
        subst hje
        have hij := HIJ.out
        rw [HLen.out, List.drop_length] at hij
        simp only [instL] at hij
        injection hij with hij; injection hij with hi1 hi2
        subst hi1; subst hi2
        have hlj := HLJ.out
        rw [List.append_nil] at hlj
        have HLJ2 := Lib.hid hlj
        clear hlj
        go_wp2_with fail
        go_ret
        obtain ⟨G2, sub2, i2, sl2, eq2⟩ := seal_T HEJ.out.inv HRJ.out (fun g hg => ⟨(HBJ.out g hg).1.g, (HBJ.out g hg).1.v⟩)
        have hcn : (Value.slice ao vs.length capL).ownBlock ≠ some cB := fun h => (HBJ.out cB h).2 rfl
        have hG2c : G2 cB = none := (eq2 cB hcn).trans HOJ.out.g
        have i3 := i2.put HCJ.out HOJ.out.v
        have sub3 : G2.sub (G2.put cB (.cells #[.string (bs t.kind), .slice ao vs.length capL] 169)) := GH.sub_put hG2c
        have eq3 : ∀ i, i ≠ cB → (Value.slice ao vs.length capL).ownBlock ≠ some i → (G2.put cB (.cells #[.string (bs t.kind), .slice ao vs.length capL] 169)) i = Gj i := fun i h1 h2 => (GH.put_other _ _ h1).trans (eq2 i h2)
        have mono : ∀ v u, TR Gj Aj wr v u → TR (G2.put cB (.cells #[.string (bs t.kind), .slice ao vs.length capL] 169)) Aj wr v u := fun v u h => h.mono (sub2.trans sub3) (GV.sub.refl _) (fun _ _ _ _ => rfl)
        refine ⟨conV cB, G2.put cB (.cells #[.string (bs t.kind), .slice ao vs.length capL] 169), Aj, rfl, ⟨i3, HEJ.out.cnt, ?_, HEJ.out.cv⟩, ⟨HXJ.out.keep, ⟨HXJ.out.g.sub.trans (sub2.trans sub3), fun i hi => ?_⟩, HXJ.out.a, fun v u h => mono v u (HXJ.out.tr v u h)⟩, ⟨HNJ.out.cs, HNJ.out.cl, HNJ.out.cf, HNJ.out.mp, fun p hp => ?_, fun i hi => ?_⟩, ?_⟩
        · exact (eq3 cb (fun e => HOJ.out.c e.symm) (fun h => (HBJ.out cb h).1.c rfl)).trans HEJ.out.cg
        · exact (eq3 i (by omega) (fun h => by have := (HRJ.out.lt i h).1; omega)).trans (HXJ.out.g.eq i hi)
        · obtain ⟨y, e, ht⟩ := HNJ.out.dom p hp
          exact ⟨y, e, mono _ _ ht⟩
        · obtain ⟨h1, h2, h3⟩ := HNJ.out.priv i hi
          refine ⟨(eq3 i (fun e => ?_) (fun h => ?_)).trans h1, h2, h3⟩
          · subst e
            rcases hi with h | h | h | h
            · exact HOJ.out.o.1 h
            · exact HOJ.out.o.2.1 h
            · exact HOJ.out.o.2.2 h
            · exact HOJ.out.r h
          · have ho := (HBJ.out i h).1
            rcases hi with h | h | h | h
            · exact ho.o.1 h
            · exact ho.o.2.1 h
            · exact ho.o.2.2 h
            · exact ho.r h
        · refine .con HC'.out (by rw [HK'.out]; exact GH.put_same _ _ _) (sl2.sub sub3) ?_
          rw [HA'.out, HLJ2.out]
          exact HUJ.out.mono (sub2.trans sub3) (GV.sub.refl _) (fun _ _ _ _ => rfl)
theorem map_ok (all : List Nat) : ∀ m, MapOk all m
  | 0 => fun x cb G A tv mv v w t t' f f' _ _ _ _ _ hm _ => by have := t.size_pos; omega
  | m + 1 => map_step all m (map_ok all m)
end Go.Proofs.YtabikmkoajdhmaaGreatDoor

/- types.Scheme.New by a contract: a fresh instance. -/
namespace Go.Proofs.YtabikmkoajdhmaaGreatDoor
open Go.RowKit

theorem run_mkfresh (w : World) : (Instr.makeMap 337 none).run Tryz.prog w = .ok (.map (some w.heap.size)) (w.alloc (kmap kInt (freshEnts (fun _ => none) []))) := rfl
def NewPost (cb : Nat) (G : GH) (A : GV) (w : World) (t : Ty) (n : Nat) (e : Ending) (w' : World) : Prop :=
  ∃ v G' A', e = .returned v ∧ EI cb G' A' w' n ∧ Ext cb G A w [] G' A' w' ∧ TR G' A' w' v t
set_option maxRecDepth 100000 in
set_option maxHeartbeats 2000000 in
theorem inst_ok {cb n : Nat} {G : GH} {A : GV} {w : World} {tv mv : Value} {t t' : Ty} {all : List Nat} {f' : FS} (hi : EI cb G A w n) (ht : TR G A w tv t) (ha : AllG G mv all) (hin : inst all t ⟨[], n⟩ = some (t', f')) :
    Calls Tryz.prog 165 #[.agg #[tv, mv], .pointer (some ⟨cb, 0, none⟩)] w (NewPost cb G A w t' f'.n) := by
  have hcb := hi.lt
  obtain ⟨T, tb, rfl⟩ := ht.iface
  obtain ⟨mo, rfl⟩ := ha.map
  have hmk := run_mkfresh
  have hmf : ∀ (fn : Fn) (first cap : Array Value) (w : World), (Instr.makeFunc fn first cap).run Tryz.prog w = .ok (.func fn first cap) w := fun _ _ _ _ => rfl
  obtain ⟨W, hW⟩ : ∃ W : World, W = (((w.alloc (.cells #[.iface T (.pointer (some ⟨tb, 0, none⟩)), .map mo] 180)).alloc (.cells #[.pointer (some ⟨cb, 0, none⟩)] 153)).alloc (kmap kInt (freshEnts (fun _ => none) []))).alloc (.cells #[.map (some (w.heap.size + 1 + 1))] 337) := ⟨_, rfl⟩
  have z1 : (w.alloc (.cells #[.iface T (.pointer (some ⟨tb, 0, none⟩)), .map mo] 180)).heap.size = w.heap.size + 1 := by simp
  have z2 : ((w.alloc (.cells #[.iface T (.pointer (some ⟨tb, 0, none⟩)), .map mo] 180)).alloc (.cells #[.pointer (some ⟨cb, 0, none⟩)] 153)).heap.size = w.heap.size + 1 + 1 := by simp
  have z3 : (((w.alloc (.cells #[.iface T (.pointer (some ⟨tb, 0, none⟩)), .map mo] 180)).alloc (.cells #[.pointer (some ⟨cb, 0, none⟩)] 153)).alloc (kmap kInt (freshEnts (fun _ => none) []))).heap.size = w.heap.size + 1 + 1 + 1 := by simp
  have b0 : W.heap[w.heap.size]? = some (.cells #[.iface T (.pointer (some ⟨tb, 0, none⟩)), .map mo] 180) := by rw [hW]; exact heap_old (heap_old (heap_old (heap_new _ _)))
  have b1 : W.heap[w.heap.size + 1]? = some (.cells #[.pointer (some ⟨cb, 0, none⟩)] 153) := by rw [hW, ← z1]; exact heap_old (heap_old (heap_new _ _))
  have b2 : W.heap[w.heap.size + 1 + 1]? = some (kmap kInt (freshEnts A [])) := by rw [hW, ← z2]; exact heap_old (heap_new _ _)
  have b3 : W.heap[w.heap.size + 1 + 1 + 1]? = some (.cells #[.map (some (w.heap.size + 1 + 1))] 337) := by rw [hW, ← z3]; exact heap_new _ _
  have kW : Keep none' w W := by rw [hW]; exact (((Keep.alloc _ _ _).trans (Keep.alloc _ _ _)).trans (Keep.alloc _ _ _)).trans (Keep.alloc _ _ _)
  obtain ⟨eiW, xW⟩ := hi.keep0 kW
  have hnr : NewR ⟨w.heap.size, w.heap.size + 1, w.heap.size + 1 + 1 + 1, w.heap.size + 1 + 1⟩ cb G A (.iface T (.pointer (some ⟨tb, 0, none⟩))) (.map mo) [] W :=
    ⟨b0, b1, b3, b2, fun p hp => by simp at hp, fun i hi' => by
      have : w.heap.size ≤ i := by simp only at hi'; omega
      exact ⟨hi.inv.holds.fresh this, fun h => by have := hi.inv.old h; omega, by omega⟩⟩
  have tW := ht.keep0 hi.inv kW
  have hmap := map_ok all t.size _ cb G A _ _ _ W t t' ⟨[], n⟩ f' eiW hnr ha ⟨T, tb, rfl⟩ tW (Nat.le_refl _) hin
  have c0 : W.cell? ⟨w.heap.size, 0, none⟩ = some (.iface T (.pointer (some ⟨tb, 0, none⟩))) := cell_of_heap b0 rfl
  have HMAP := Lib.hid hmap; have HKW := Lib.hid kW; have HXW := Lib.hid xW; have HW := Lib.hid hW
  clear hmap kW xW b0 b1 b2 b3 z1 z2 z3 eiW hnr tW hi ht ha hin
  rw [hW] at c0
  go_enter Tryz.func165, Tryz.ntmps165
  go_wp2_with fail
  rw [← hW]
  refine HMAP.out.mono ?_
  rintro e w2 ⟨v, G2, A2, rfl, ei2, x2, _, y2⟩
  obtain ⟨T2, b2, rfl⟩ := y2.iface
  have HE2 := Lib.hid ei2; have HX2 := Lib.hid x2; have HY2 := Lib.hid y2
  clear ei2 x2 y2
  go_wp2_with fail
  go_ret
  refine ⟨_, G2, A2, rfl, HE2.out, ⟨HKW.out.trans' HX2.out.keep (fun _ _ h => h.elim) (fun i hi h => ?_), Grew.keep HKW.out HX2.out.g, GrewV.keep HKW.out HX2.out.a, fun v u r => HX2.out.tr _ _ (HXW.out.tr v u r)⟩, HY2.out⟩
  rcases h with h | h
  · exact h
  · have h' : i = w.heap.size + 1 + 1 := h
    omega
end Go.Proofs.YtabikmkoajdhmaaGreatDoor

/- The plain engine of inference: on types with all that has been found out put in. -/
namespace Go.Proofs.YtabikmkoajdhmaaGreatDoor
open Go.RowKit

/-- One round as it is told. -/
structure Told where
  names : List Str
  round : Nat
  schemes : List Str
deriving DecidableEq
/-- What a step of the engine gives: an error's number, or a type, what has been found out, the counter, the rounds told. -/
abbrev ERes := Option (Except (Nat × List Told) (Ty × Dl × Nat × List Told))
def uniK : Nat := 1000
/-- Two schemes alike, but for the names of what stands for any type: the two ways' maps. -/
def alikeT (a b : List Nat) : Ty → Ty → List (Nat × Nat) → Option (List (Nat × Nat))
  | .var v, .var u, m =>
    if a.contains v && b.contains u then
      (match m.find? (fun p => p.1 == v || p.2 == u) with
      | none => some (m ++ [(v, u)])
      | some _ => if m.contains (v, u) then some m else none)
    else if !a.contains v && !b.contains u && v == u then some m else none
  | .int, .int, m => some m
  | .bool, .bool, m => some m
  | .list x, .list y, m => alikeT a b x y m
  | .pair x x', .pair y y', m => (alikeT a b x y m).bind fun m => alikeT a b x' y' m
  | .fn x x', .fn y y', m => (alikeT a b x y m).bind fun m => alikeT a b x' y' m
  | _, _, _ => none
def alikeS (a b : Sch) : Bool := (alikeT a.all b.all a.t b.t []).isSome
/-- The texts of a round's schemes. -/
def toldNm (all : List Nat) (s : List Nat × List Nat) (v : Nat) : Str × (List Nat × List Nat) :=
  if all.contains v then ((namer s.1 v).1, ((namer s.1 v).2, s.2)) else ([95] ++ (namer s.2 v).1, (s.1, (namer s.2 v).2))
def toldAll : List Sch → List Nat → List Str
  | [], _ => []
  | s :: r, o => (showS (toldNm s.all) s.t ([], o)).1 :: toldAll r (showS (toldNm s.all) s.t ([], o)).2.2
def bindS : List Str → List Sch → Env → Env
  | n :: ns, s :: ss, e => bindS ns ss ((n, s) :: e)
  | _, _, e => e
def newSchs : Nat → Nat → List Sch
  | 0, _ => []
  | k + 1, n => ⟨.var (n + 1), [n + 1]⟩ :: newSchs k (n + 1)

mutual
def ofS (fuel stop : Nat) : Nat → Env → Ex → Nat → List Told → ERes
  | 0, _, _, _, _ => none
  | k + 1, env, x, n, l =>
    match partS fuel stop k env x n l with
    | some (.ok r) => if r.1.size > 120 then some (.error (4, r.2.2.2)) else some (.ok r)
    | r => r
def partS (fuel stop : Nat) : Nat → Env → Ex → Nat → List Told → ERes
  | 0, _, _, _, _ => none
  | k + 1, env, x, n, l =>
    match x with
    | .num _ => some (.ok (.int, [], n, l))
    | .name _ nm => (match env.lookup nm with
      | none => none
      | some s => (match inst s.all s.t ⟨[], n⟩ with
        | none => none
        | some (t, f) => some (.ok (t, [], f.n, l))))
    | .fn nm b => if n < 1000000000 then (match ofS fuel stop k ((nm, ⟨.var (n + 1), []⟩) :: env) b (n + 1) l with
      | some (.ok (t, d, n1, l1)) => some (.ok (.fn (app d (.var (n + 1))) t, d, n1, l1))
      | r => r) else none
    | .app f a => (match ofS fuel stop k env f n l with
      | some (.ok (tf, d1, n1, l1)) => (match ofS fuel stop k (envApp d1 env) a n1 l1 with
        | some (.ok (ta, d2, n2, l2)) => if n2 < 1000000000 then (match uni uniK (app d2 tf) (.fn ta (.var (n2 + 1))) with
          | none => none
          | some none => some (.error (3, l2))
          | some (some d3) => some (.ok (app d3 (.var (n2 + 1)), d1 ++ (d2 ++ d3), n2 + 1, l2))) else none
        | r => r)
      | r => r)
    | .pair a b => (match ofS fuel stop k env a n l with
      | some (.ok (ta, d1, n1, l1)) => (match ofS fuel stop k (envApp d1 env) b n1 l1 with
        | some (.ok (tb, d2, n2, l2)) => some (.ok (.pair (app d2 ta) tb, d1 ++ d2, n2, l2))
        | r => r)
      | r => r)
    | .ite c a b => (match ofS fuel stop k env c n l with
      | some (.ok (tc, d1, n1, l1)) => (match uni uniK tc .bool with
        | none => none
        | some none => some (.error (3, l1))
        | some (some d2) => (match ofS fuel stop k (envApp (d1 ++ d2) env) a n1 l1 with
          | some (.ok (ta, d3, n2, l2)) => (match ofS fuel stop k (envApp (d1 ++ d2 ++ d3) env) b n2 l2 with
            | some (.ok (tb, d4, n3, l3)) => (match uni uniK (app d4 ta) tb with
              | none => none
              | some none => some (.error (3, l3))
              | some (some d5) => some (.ok (app d5 (app d4 ta), d1 ++ d2 ++ d3 ++ d4 ++ d5, n3, l3)))
            | r => r)
          | r => r))
      | r => r)
    | .lt nm a b => (match ofS fuel stop k env a n l with
      | some (.ok (ta, d1, n1, l1)) => (match ofS fuel stop k ((nm, ⟨ta, closeAll (envApp d1 env) ta⟩) :: envApp d1 env) b n1 l1 with
        | some (.ok (tb, d2, n2, l2)) => some (.ok (tb, d1 ++ d2, n2, l2))
        | r => r)
      | r => r)
    | .rc bd e => if stop < 1000000 ∧ n + bd.exprs.length < 1000000000 then roundS fuel stop k env bd.names bd.exprs e (newSchs bd.exprs.length n) 1 (n + bd.exprs.length) l [] else none
/-- Round after round; d: what has been found out since the group began. -/
def roundS (fuel stop : Nat) : Nat → Env → List Str → List Ex → Ex → List Sch → Nat → Nat → List Told → Dl → ERes
  | 0, _, _, _, _, _, _, _, _, _ => none
  | k + 1, env, names, exprs, e, schs, round, n, l, d =>
    if round ≤ fuel then
      match bodiesS fuel stop k (bindS names schs env) exprs n l with
      | some (.ok (ts, d1, n1, l1)) =>
        let env1 := envApp d1 env
        let next := ts.map fun t => (⟨t, closeAll env1 t⟩ : Sch)
        let same := ((schs.map (Sch.app d1)).zip next).all fun p => alikeS p.1 p.2
        let l2 := l1 ++ [⟨names, round, toldAll next []⟩]
        if (next.flatMap fun s => s.t.vs).length > 2600 then none
        else if stop ≠ 0 ∧ l2.length = stop then some (.error (6, l2))
        else if same then (match ofS fuel stop k (bindS names next env1) e n1 l2 with
          | some (.ok (t, d2, n2, l3)) => some (.ok (t, d ++ (d1 ++ d2), n2, l3))
          | r => r)
        else roundS fuel stop k env1 names exprs e next (round + 1) n1 l2 (d ++ d1)
      | some (.error r) => some (.error r)
      | none => none
    else some (.error (5, l))
/-- The bodies' types, one after the other. -/
def bodiesS (fuel stop : Nat) : Nat → Env → List Ex → Nat → List Told → Option (Except (Nat × List Told) (List Ty × Dl × Nat × List Told))
  | 0, _, _, _, _ => none
  | _ + 1, _, [], n, l => some (.ok ([], [], n, l))
  | k + 1, env, x :: r, n, l => (match ofS fuel stop k env x n l with
    | some (.ok (t, d1, n1, l1)) => (match bodiesS fuel stop k (envApp d1 env) r n1 l1 with
      | some (.ok (ts, d2, n2, l2)) => some (.ok (app d2 t :: ts, d1 ++ d2, n2, l2))
      | r => r)
    | some (.error e) => some (.error e)
    | none => none)
end
end Go.Proofs.YtabikmkoajdhmaaGreatDoor

/- The engine's walks: what is asked and what is left; of, given part. -/
namespace Go.Proofs.YtabikmkoajdhmaaGreatDoor
open Go.RowKit

/-- A step of the engine within the frame P. -/
structure ExtP (P : Nat → Prop) (G : GH) (A : GV) (w : World) (d : Dl) (G' : GH) (A' : GV) (w' : World) : Prop where
  keep : Keep P w w'
  g : Grew G w G'
  a : GrewV A w A'
  tr : ∀ v t, TR G A w v t → TR G' A' w' v (app d t)
theorem ExtP.trans {P : Nat → Prop} {G G1 G2 : GH} {A A1 A2 : GV} {w w1 w2 : World} {d e : Dl} (h : ExtP P G A w d G1 A1 w1) (k : ExtP P G1 A1 w1 e G2 A2 w2) : ExtP P G A w (d ++ e) G2 A2 w2 :=
  ⟨h.keep.trans k.keep, h.g.trans h.keep k.g, h.a.trans h.keep k.a, fun v t r => by rw [app_append]; exact k.tr _ _ (h.tr _ _ r)⟩
theorem ExtP.then0 {P : Nat → Prop} {G G1 G2 : GH} {A A1 A2 : GV} {w w1 w2 : World} {d : Dl} (h : ExtP P G A w d G1 A1 w1) (k : ExtP P G1 A1 w1 [] G2 A2 w2) : ExtP P G A w d G2 A2 w2 := by
  have := h.trans k; rwa [List.append_nil] at this
/-- The frame takes in what the engine touches. -/
structure PO (P : Nat → Prop) (cb : Nat) (A : GV) (w : World) : Prop where
  t : ∀ b, touch cb A b → P b
  n : ∀ b, w.heap.size ≤ b → P b
theorem Ext.p {P : Nat → Prop} {cb : Nat} {G G' : GH} {A A' : GV} {w w' : World} {d : Dl} (h : Ext cb G A w d G' A' w') (hp : PO P cb A w) : ExtP P G A w d G' A' w' := ⟨h.keep.mono (fun b _ x => hp.t b x), h.g, h.a, h.tr⟩
theorem PO.up {P : Nat → Prop} {cb : Nat} {G G' : GH} {A A' : GV} {w w' : World} {d : Dl} (hp : PO P cb A w) (h : ExtP P G A w d G' A' w') : PO P cb A' w' :=
  ⟨fun b hb => by
    rcases hb with hb | ⟨N, nm, e⟩
    · exact hp.t b (.inl hb)
    · rcases h.a.new N b nm e with e | e
      · exact hp.t b (.inr ⟨N, nm, e⟩)
      · exact hp.n b e, fun b hb => hp.n b (Nat.le_trans h.keep.size hb)⟩
theorem EnvR.extP {P : Nat → Prop} {G G' : GH} {A A' : GV} {w w' : World} {d : Dl} {e : Option Addr} {env : Env} (r : EnvR G A w e env) (h : ExtP P G A w d G' A' w') : EnvR G' A' w' e (envApp d env) := r.map h.g.sub h.tr

/-- The engine's surroundings: the frame, the watcher's state, the sentinels. -/
structure Sur where
  P : Nat → Prop
  cb : Nat
  gB : Nat
  fuel : Nat
  stop : Nat
  each : Value
  RW : List Told → World → Prop
  p : Nat → Addr
structure SurOk (u : Sur) : Prop where
  stable : ∀ l G A n w w', u.RW l w → EI u.cb G A w n → Keep (touch u.cb A) w w' → u.RW l w'
  sents : ∀ {w w' : World}, Sents u.p w → Keep u.P w w' → Sents u.p w'
structure EngIn (u : Sur) (G : GH) (A : GV) (w : World) (n : Nat) (l : List Told) (env : Env) (e : Option Addr) : Prop where
  ei : EI u.cb G A w n
  po : PO u.P u.cb A w
  rw' : u.RW l w
  env : EnvR G A w e env
  eng : G u.gB = some (.cells #[.pointer (some ⟨u.cb, 0, none⟩), .int .i64 u.fuel, u.each] 191)
  sen : Sents u.p w
def EngPost (u : Sur) (G : GH) (A : GV) (w : World) (r : ERes) (e : Ending) (w' : World) : Prop :=
  match r with
  | some (.ok (t, d, n, l)) => ∃ v G' A', e = .returned v ∧ ExtP u.P G A w d G' A' w' ∧ EI u.cb G' A' w' n ∧ u.RW l w' ∧ TR G' A' w' v t
  | some (.error (k, l)) => e = .panicked (failE (sen u.p k)) ∧ Keep u.P w w' ∧ u.RW l w'
  | none => False
def OfOk (u : Sur) (k : Nat) : Prop := ∀ (G : GH) (A : GV) (w : World) (n : Nat) (l : List Told) (env : Env) (e : Option Addr) (xv : Value) (x : Ex) (r : ERes), EngIn u G A w n l env e → ExR G xv x → ofS u.fuel u.stop k env x n l = r → r ≠ none →
  Calls Tryz.prog 86 #[.pointer (some ⟨u.gB, 0, none⟩), xv, .pointer e] w (EngPost u G A w r)
def PartOk (u : Sur) (k : Nat) : Prop := ∀ (G : GH) (A : GV) (w : World) (n : Nat) (l : List Told) (env : Env) (e : Option Addr) (xv : Value) (x : Ex) (r : ERes), EngIn u G A w n l env e → ExR G xv x → partS u.fuel u.stop k env x n l = r → r ≠ none →
  Calls Tryz.prog 131 #[.pointer (some ⟨u.gB, 0, none⟩), xv, .pointer e] w (EngPost u G A w r)

set_option maxRecDepth 100000 in
set_option maxHeartbeats 2000000 in
theorem of_step (u : Sur) (hu : SurOk u) (k : Nat) (ih : PartOk u k) : OfOk u (k + 1) := by
  intro G A w n l env e xv x r hin hx hr hne
  simp only [ofS] at hr
  obtain ⟨Tx, bx, rfl⟩ := hx.shape
  cases hp : partS u.fuel u.stop k env x n l with
  | none => rw [hp] at hr; exact absurd hr.symm hne
  | some rr =>
    have hc := ih G A w n l env e _ x _ hin hx hp (by simp)
    have hsen := hin.sen
    rw [hp] at hr
    have HC := Lib.hid hc; have HR := Lib.hid hr; have HU := Lib.hid hu; have HS := Lib.hid hsen; have HPO := Lib.hid hin.po
    clear hc hr hne hp hin hx hsen hu
    go_enter Tryz.func86, Tryz.ntmps86
    go_wp2_with fail
    refine HC.out.mono ?_
    cases rr with
    | error q =>
      obtain ⟨kq, lq⟩ := q
      have hr := HR.out; simp only at hr; subst hr
      rintro e w1 ⟨rfl, k1, r1⟩
      have HK := Lib.hid k1; have HRW := Lib.hid r1; clear k1 r1
      go_wp2_with fail
      exact ⟨rfl, rfl, HK.out, HRW.out⟩
    | ok q =>
      obtain ⟨t, d, n1, l1⟩ := q
      rintro e w1 ⟨v, G1, A1, rfl, x1, ei1, r1, y1⟩
      obtain ⟨T1, b1, rfl⟩ := y1.iface
      have hsz := size_any ei1.inv y1
      have HSZ := Lib.hid hsz; have HX := Lib.hid x1; have HE := Lib.hid ei1; have HRW := Lib.hid r1; have HY := Lib.hid y1
      clear hsz x1 ei1 r1 y1
      go_wp2_with fail
      refine HSZ.out.mono ?_
      rintro e w2 ⟨kk, rfl, hkk, s2⟩
      obtain ⟨ei2, x2⟩ := HE.out.same s2
      have po1 := HPO.out.up HX.out
      have X2 := HX.out.then0 (x2.p po1)
      have r2 := HU.out.stable l1 G1 A1 n1 w1 w2 HRW.out HE.out x2.keep
      have y2 := s2.tr _ _ HY.out
      have g4 := (HU.out.sents HS.out X2.keep).glob 4 (by omega)
      simp only [gno, sen] at g4
      have HX2 := Lib.hid X2; have HE2 := Lib.hid ei2; have HR2 := Lib.hid r2; have HY2 := Lib.hid y2
      clear s2 ei2 x2 X2 r2 y2 po1
      by_cases hd : t.size > 120
      · have hr := HR.out; rw [if_pos hd] at hr; subst hr
        have hdi : (120 : Int) < (kk : Int) := by omega
        clear hkk
        go_wp2_with fail
        refine (fail_ok _ _ _).mono ?_
        rintro e w3 ⟨rfl, rfl⟩
        go_wp2_with fail
        exact ⟨rfl, rfl, HX2.out.keep, HR2.out⟩
      · have hr := HR.out; rw [if_neg hd] at hr; subst hr
        have hdi : ¬ (120 : Int) < (kk : Int) := by omega
        clear hkk
        go_wp2_with fail
        go_ret
        exact ⟨_, G1, A1, rfl, HX2.out, HE2.out, HR2.out, HY2.out⟩
end Go.Proofs.YtabikmkoajdhmaaGreatDoor
