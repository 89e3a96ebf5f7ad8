/- types.Find; alike's closure by a contract: words; its ways at variables. -/
import Derived.Test.YtabikmkoajdhmabGreatDoorQ34
import Derived.Test.YtabikmkoajdhmabGreatDoorQ24
import Derived.Test.YtabikmkoajdhmabGreatDoorQ22
set_option linter.unusedVariables false
set_option linter.unusedSimpArgs false
namespace Go.Proofs.YtabikmkoajdhmabGreatDoor
open Go.RowKit

theorem tfind_ok {G : GH} {A : GV} {w : World} {n : Nat} {v : Value} {t : Ty} (hi : TInv G A w n) (h : TR G A w v t) : Calls Tryz.prog 183 #[v] w (FindPost G A n w t) := by
  obtain ⟨T, b, f, rfl, hm, he, hc⟩ := find_any hi h
  have HC := Lib.hid hc; clear hc hi h
  go_enter Tryz.func183, Tryz.ntmps183
  go_wp2_with fail
  refine HC.out.mono ?_
  rintro e w1 ⟨r, rfl, hs, hr⟩
  obtain ⟨T1, b1, rfl⟩ := hr.tr.iface
  have HS := Lib.hid hs; have HR := Lib.hid hr; clear hs hr
  go_wp2_with fail
  go_ret
  exact ⟨_, rfl, HS.out, HR.out⟩

/-- The blocks of a comparison: the boxes of both schemes, of both maps, of the closure; the maps. -/
structure AlkB where
  ab : Nat
  bb : Nat
  tb : Nat
  fb : Nat
  mb : Nat
  tm : Nat
  fm : Nat
def AlkB.caps (x : AlkB) : Array Value := #[.pointer (some ⟨x.ab, 0, none⟩), .pointer (some ⟨x.bb, 0, none⟩), .pointer (some ⟨x.tb, 0, none⟩), .pointer (some ⟨x.fb, 0, none⟩), .pointer (some ⟨x.mb, 0, none⟩)]
structure AlkR (x : AlkB) (G : GH) (A : GV) (ta ma tb mb : Value) (m : List (Nat × Nat)) (w : World) : Prop where
  ca : w.heap[x.ab]? = some (.cells #[ta, ma] 119)
  cb : w.heap[x.bb]? = some (.cells #[tb, mb] 119)
  ct : w.heap[x.tb]? = some (.cells #[.map (some x.tm)] 225)
  cf : w.heap[x.fb]? = some (.cells #[.map (some x.fm)] 225)
  cm : w.heap[x.mb]? = some (.cells #[.func (.func 182) #[] x.caps] 181)
  mt : w.heap[x.tm]? = some (kmap kInt (toE m))
  mf : w.heap[x.fm]? = some (kmap kInt (fromE m))
  ne : x.tm ≠ x.fm
  priv : ∀ i, (i = x.ab ∨ i = x.bb ∨ i = x.tb ∨ i = x.fb ∨ i = x.mb ∨ i = x.tm ∨ i = x.fm) → G i = none ∧ ¬ isV A i
  two : TwoWay m
theorem AlkR.mb_ne {x : AlkB} {G : GH} {A : GV} {ta ma tb mb : Value} {m : List (Nat × Nat)} {w : World} (h : AlkR x G A ta ma tb mb m w) : x.mb ≠ x.tm ∧ x.mb ≠ x.fm :=
  ⟨fun e => by have := h.cm; rw [e, h.mt] at this; simp [kmap] at this, fun e => by have := h.cm; rw [e, h.mf] at this; simp [kmap] at this⟩
def two' (a b : Nat) : Nat → Prop := fun i => i = a ∨ i = b
theorem AlkR.stable {x : AlkB} {G : GH} {A : GV} {n : Nat} {ta ma tb mb : Value} {m : List (Nat × Nat)} {w w' : World} (h : AlkR x G A ta ma tb mb m w) (k : Same G A n w w') : AlkR x G A ta ma tb mb m w' := by
  have q : ∀ {i o}, w.heap[i]? = some o → (i = x.ab ∨ i = x.bb ∨ i = x.tb ∨ i = x.fb ∨ i = x.mb ∨ i = x.tm ∨ i = x.fm) → w'.heap[i]? = some o := fun e hi => k.keep.get e (h.priv _ hi).2
  exact ⟨q h.ca (by simp), q h.cb (by simp), q h.ct (by simp), q h.cf (by simp), q h.cm (by simp), q h.mt (by simp), q h.mf (by simp), h.ne, h.priv, h.two⟩
def AlkPost (x : AlkB) (G : GH) (A : GV) (n : Nat) (ta ma tb mb : Value) (w : World) (r : Option (List (Nat × Nat))) (e : Ending) (w' : World) : Prop :=
  e = .returned (.bool r.isSome) ∧ SameS (two' x.tm x.fm) G A n w w' ∧ ∀ m', r = some m' → AlkR x G A ta ma tb mb m' w'
/-- What a map of the two ways gives in the machine. -/
theorem lt_run {r : Nat} {m : List (Nat × Nat)} (h : TwoWay m) (v : Nat) {w : World} (hm : w.heap[r]? = some (kmap kInt (toE m))) :
    (Instr.lookup 225 (.map (some r)) (.int .i64 (v : Int)) false).run Tryz.prog w = .ok (.int .i64 ((lt0 m v : Nat) : Int)) w := by
  rcases toE_look v m h with ⟨a, b⟩ | ⟨u, a, b, c, d⟩
  · have := run_look_none (P := Tryz.prog) und_mii key_int zero_int (k := (v : Int)) hm a false
    rw [b]; simpa using this
  · have := run_look_some (P := Tryz.prog) und_mii key_int (k := (v : Int)) hm b false
    simpa using this
theorem rt_run {r : Nat} {m : List (Nat × Nat)} (h : TwoWay m) (u : Nat) {w : World} (hm : w.heap[r]? = some (kmap kInt (fromE m))) :
    (Instr.lookup 225 (.map (some r)) (.int .i64 (u : Int)) false).run Tryz.prog w = .ok (.int .i64 ((rt0 m u : Nat) : Int)) w := by
  rcases fromE_look u m h with ⟨a, b⟩ | ⟨v, a, b, c, d⟩
  · have := run_look_none (P := Tryz.prog) und_mii key_int zero_int (k := (u : Int)) hm a false
    rw [b]; simpa using this
  · have := run_look_some (P := Tryz.prog) und_mii key_int (k := (u : Int)) hm b false
    simpa using this
def AlkOk (a b : List Nat) (k : Nat) : Prop := ∀ (x : AlkB) (G : GH) (A : GV) (n : Nat) (ta ma tb mb vx vy : Value) (w : World) (tx ty : Ty) (m : List (Nat × Nat)), TInv G A w n → AlkR x G A ta ma tb mb m w → AllG G ma a → AllG G mb b → (∃ T p, ta = .iface T (.pointer (some ⟨p, 0, none⟩))) → (∃ T p, tb = .iface T (.pointer (some ⟨p, 0, none⟩))) → TR G A w vx tx → TR G A w vy ty → tx.size ≤ k →
  Calls Tryz.prog 182 (#[vx, vy] ++ x.caps) w (AlkPost x G A n ta ma tb mb w (alikeT a b tx ty m))

theorem lt0_snoc {m : List (Nat × Nat)} {v u : Nat} (h : (toE m).lookup (v : Int) = none) : lt0 (m ++ [(v, u)]) v = u := by
  have : ∀ p ∈ m, p.1 ≠ v := fun p hp e => toE_mem v hp e h
  clear h
  induction m with
  | nil => simp [lt0]
  | cons q r ih =>
    simp only [List.cons_append, lt0, if_neg (this q (by simp))]
    exact ih (fun p hp => this p (by simp [hp]))
theorem rt0_snoc {m : List (Nat × Nat)} {v u : Nat} (h : (fromE m).lookup (u : Int) = none) : rt0 (m ++ [(v, u)]) u = v := by
  have : ∀ p ∈ m, p.2 ≠ u := fun p hp e => fromE_mem u hp e h
  clear h
  induction m with
  | nil => simp [rt0]
  | cons q r ih =>
    simp only [List.cons_append, rt0, if_neg (this q (by simp))]
    exact ih (fun p hp => this p (by simp [hp]))
theorem alk_new {x : AlkB} {G : GH} {A : GV} {n : Nat} {ta ma tb mb : Value} {w w2 w5 W4 : World} {m : List (Nat × Nat)} {v u : Nat} (hS : Same G A n w w2) (hR : AlkR x G A ta ma tb mb m w2) (k6 : Keep none' w2 w5) (k14 : Keep (two' x.tm x.fm) w5 W4)
    (mt : W4.heap[x.tm]? = some (kmap kInt (toE (m ++ [(v, u)])))) (mf : W4.heap[x.fm]? = some (kmap kInt (fromE (m ++ [(v, u)])))) (two : TwoWay (m ++ [(v, u)])) : AlkPost x G A n ta ma tb mb w (some (m ++ [(v, u)])) (.returned (.bool true)) W4.drew := by
  have pt := hR.priv x.tm (by simp)
  have pf := hR.priv x.fm (by simp)
  have kk : Keep (two' x.tm x.fm) w2 W4.drew := (k6.of_none.trans k14).trans (Keep.drew _ _)
  have hvs : ∀ b, isV A b → ¬ two' x.tm x.fm b := fun b hb e => by
    rcases e with rfl | rfl
    · exact pt.2 hb
    · exact pf.2 hb
  have hgs : G.off (two' x.tm x.fm) := fun b o hb e => by
    rcases e with rfl | rfl
    · rw [pt.1] at hb; cases hb
    · rw [pf.1] at hb; cases hb
  have ss : SameS (two' x.tm x.fm) G A n w2 W4.drew := SameS.of_keep hS.inv kk hgs hvs
  have q : ∀ {i o}, w2.heap[i]? = some o → (∀ l c, o ≠ Obj.map l c) → W4.drew.heap[i]? = some o := fun {i o} ho hm => kk.get ho (fun e => by
    rcases e with e | e
    · rw [e, hR.mt] at ho; injection ho with ho; exact hm _ _ ho.symm
    · rw [e, hR.mf] at ho; injection ho with ho; exact hm _ _ ho.symm)
  refine ⟨rfl, hS.s.trans ss, fun m' e => ?_⟩
  injection e with e; subst e
  exact ⟨q hR.ca (fun _ _ h => by cases h), q hR.cb (fun _ _ h => by cases h), q hR.ct (fun _ _ h => by cases h), q hR.cf (fun _ _ h => by cases h), q hR.cm (fun _ _ h => by cases h), mt, mf, hR.ne, hR.priv, two⟩

set_option maxRecDepth 100000 in
set_option maxHeartbeats 4000000 in
theorem alk_step (a b : List Nat) (k : Nat) (ih : AlkOk a b k) : AlkOk a b (k + 1) := by
  intro x G A n ta ma tb mb vx vy w tx ty m hi hR haa hab hta htb hx hy hk
  obtain ⟨Tx, bx, rfl⟩ := hx.iface
  obtain ⟨Ty', by', rfl⟩ := hy.iface
  obtain ⟨Ta, pa, rfl⟩ := hta
  obtain ⟨Tb, pb, rfl⟩ := htb
  have hf1 := tfind_ok hi hx
  have HF1 := Lib.hid hf1; have IH := Lib.hid ih; have HI := Lib.hid hi; have HRR := Lib.hid hR; have HAA := Lib.hid haa; have HAB := Lib.hid hab; have HY := Lib.hid hy; have HM := Lib.hid hk
  clear hf1 ih hi hR haa hab hx hy hk
  simp only [AlkB.caps]
  go_enter Tryz.func182, Tryz.ntmps182
  go_wp2_with fail
  refine HF1.out.mono ?_
  rintro e w1 ⟨r1, rfl, s1, hr1⟩
  obtain ⟨T1, b1, e1⟩ := hr1.tr.iface
  have hf2 := tfind_ok s1.inv (s1.tr _ _ HY.out)
  have HF2 := Lib.hid hf2; have HS1 := Lib.hid s1; have HR1 := Lib.hid hr1; have E1 := Lib.hid e1
  rw [e1]
  clear s1 hr1 hf2 e1
  go_wp2_with fail
  refine HF2.out.mono ?_
  rintro e w2 ⟨r2, rfl, s2, hr2⟩
  have hr1 := s2.root HR1.out
  have HS := Lib.hid (HS1.out.trans s2)
  have e1 := E1.out
  have HR2 := Lib.hid (HRR.out.stable HS.out)
  clear s2 HS1 HR1 HF1 HF2
  cases hr1 with
  | @var v bv nmv hAv hbv =>
    rw [← e1]
    clear e1 E1
    cases hr2 with
    | @var u bu nmu hAu hbu =>
      simp only [varV]
      have ta := taVarVar
      have hcl : ∀ w', Keep none' w2 w' → w'.cell? ⟨x.ab, 0, none⟩ = some (.iface Ta (.pointer (some ⟨pa, 0, none⟩))) ∧ w'.cell? ⟨x.ab, 1, none⟩ = some ma ∧ w'.cell? ⟨x.bb, 0, none⟩ = some (.iface Tb (.pointer (some ⟨pb, 0, none⟩))) ∧ w'.cell? ⟨x.bb, 1, none⟩ = some mb ∧ w'.cell? ⟨bv, 0, none⟩ = some (.int .i64 v) ∧ w'.cell? ⟨bu, 0, none⟩ = some (.int .i64 u) := fun w' k =>
        ⟨cell_of_heap (k.get HR2.out.ca (fun x => x)) rfl, cell_of_heap (k.get HR2.out.ca (fun x => x)) rfl, cell_of_heap (k.get HR2.out.cb (fun x => x)) rfl, cell_of_heap (k.get HR2.out.cb (fun x => x)) rfl, cell_of_heap (k.get hbv (fun x => x)) rfl, cell_of_heap (k.get hbu (fun x => x)) rfl⟩
      have hanA : ∀ w', Keep none' w2 w' → Calls Tryz.prog 133 #[.agg #[.iface Ta (.pointer (some ⟨pa, 0, none⟩)), ma], .pointer (some ⟨bv, 0, none⟩)] w' fun e w'' => e = .returned (.bool (a.contains v)) ∧ Keep none' w' w'' := fun w' k => any_ok HAA.out (HS.out.inv.holds.keep0 k) (k.get hbv (fun x => x)) ⟨_, _, rfl⟩
      have hanB : ∀ w', Keep none' w2 w' → Calls Tryz.prog 133 #[.agg #[.iface Tb (.pointer (some ⟨pb, 0, none⟩)), mb], .pointer (some ⟨bu, 0, none⟩)] w' fun e w'' => e = .returned (.bool (b.contains u)) ∧ Keep none' w' w'' := fun w' k => any_ok HAB.out (HS.out.inv.holds.keep0 k) (k.get hbu (fun x => x)) ⟨_, _, rfl⟩
      obtain ⟨q1, q2, q3, q4, q5, q6⟩ := hcl w2 (Keep.refl _ _)
      obtain ⟨moa, rfl⟩ := HAA.out.map
      obtain ⟨mob, rfl⟩ := HAB.out.map
      have HCL := Lib.hid hcl; have HANA := Lib.hid hanA; have HANB := Lib.hid hanB
      have HBV := Lib.hid hbv; have HBU := Lib.hid hbu
      clear hcl hanA hanB hbv hbu
      cases hav : a.contains v with
      | false =>
        rw [hav] at HANA
        go_wp2_with fail
        refine (HANA.out _ (Keep.refl _ _)).mono ?_
        rintro e w3 ⟨rfl, k3⟩
        clear q1 q2 q3 q4 q5 q6
        obtain ⟨q1, q2, q3, q4, q5, q6⟩ := HCL.out w3 k3
        have K3 := Lib.hid k3; clear k3
        cases hbu : b.contains u with
        | true =>
          rw [hbu] at HANB
          have hal : alikeT a b (.var v) (.var u) m = none := by simp only [alikeT, hav, hbu]; simp
          have HAL := Lib.hid hal; clear hal hav hbu
          go_wp2_with fail
          refine wp_region_float (fun w' => w'.cell? ⟨x.ab, 0, none⟩ = some (.iface Ta (.pointer (some ⟨pa, 0, none⟩))) ∧ w'.cell? ⟨x.ab, 1, none⟩ = some (.map moa) ∧ w'.cell? ⟨x.bb, 0, none⟩ = some (.iface Tb (.pointer (some ⟨pb, 0, none⟩))) ∧ w'.cell? ⟨x.bb, 1, none⟩ = some (.map mob) ∧ w'.cell? ⟨bv, 0, none⟩ = some (.int .i64 v) ∧ w'.cell? ⟨bu, 0, none⟩ = some (.int .i64 u)) [1, 3, 4, 6, 8, 9, 10, 11, 12, 13, 14, 15, 16, 17, 18, 19, 20, 21] [0, 5] (by kernel_rfl) ?_
          have S0 := HCL.out w3.drew (K3.out.trans (Keep.drew _ _))
          (refine floatS (i := 0) (v := ?_) rfl (by kernel_rfl) (by kernel_rfl) (by kernel_rfl) (by kernel_rfl) (fun _ _ _ h => h) (by assumption) (by rfl) ?_ ?_); rotate_left
          (intro wF hF; (try dsimp only at hF); go_simp; try with_reducible rfl)
          (try simp only [Act.put, List.setIfInBounds_toArray, List.set_cons_zero, List.set_cons_succ])
          (refine float0 (i := 1) (v := ?_) rfl (by kernel_rfl) (by kernel_rfl) (by kernel_rfl) (by kernel_rfl) (fun _ _ _ h => h) (by rfl) ?_ ?_); rotate_left
          (intro wF; go_simp; try with_reducible rfl)
          (try simp only [Act.put, List.setIfInBounds_toArray, List.set_cons_zero, List.set_cons_succ])
          (refine floatM (i := 2) rfl (by kernel_rfl) (by kernel_rfl) (fun K hK => ?_)); go_simp
          refine (HANA.out _ (K3.out.trans (Keep.drew _ _))).mono ?_
          rintro e w4 ⟨rfl, k4⟩
          clear S0 q1 q2 q3 q4 q5 q6
          have K4 := Lib.hid ((K3.out.trans (Keep.drew _ _)).trans k4); clear k4
          have S4 := HCL.out w4 K4.out
          go_wp2_with fail
          refine hK.out _ _ (fun _ => S4) ?_
          clear hK K
          (try simp only [Act.put, List.setIfInBounds_toArray, List.set_cons_zero, List.set_cons_succ])
          (refine float0 (i := 3) (v := ?_) rfl (by kernel_rfl) (by kernel_rfl) (by kernel_rfl) (by kernel_rfl) (fun _ _ _ h => h) (by rfl) ?_ ?_); rotate_left
          (intro wF; go_simp; try with_reducible rfl)
          (try simp only [Act.put, List.setIfInBounds_toArray, List.set_cons_zero, List.set_cons_succ])
          (refine float0 (i := 4) (v := ?_) rfl (by kernel_rfl) (by kernel_rfl) (by kernel_rfl) (by kernel_rfl) (fun _ _ _ h => h) (by rfl) ?_ ?_); rotate_left
          (intro wF; go_simp; try with_reducible rfl)
          (try simp only [Act.put, List.setIfInBounds_toArray, List.set_cons_zero, List.set_cons_succ])
          (refine floatS (i := 5) (v := ?_) rfl (by kernel_rfl) (by kernel_rfl) (by kernel_rfl) (by kernel_rfl) (fun _ _ _ h => h) (by assumption) (by rfl) ?_ ?_); rotate_left
          (intro wF hF; (try dsimp only at hF); go_simp; try with_reducible rfl)
          (try simp only [Act.put, List.setIfInBounds_toArray, List.set_cons_zero, List.set_cons_succ])
          (refine float0 (i := 6) (v := ?_) rfl (by kernel_rfl) (by kernel_rfl) (by kernel_rfl) (by kernel_rfl) (fun _ _ _ h => h) (by rfl) ?_ ?_); rotate_left
          (intro wF; go_simp; try with_reducible rfl)
          (try simp only [Act.put, List.setIfInBounds_toArray, List.set_cons_zero, List.set_cons_succ])
          (refine floatM (i := 7) rfl (by kernel_rfl) (by kernel_rfl) (fun K hK => ?_)); go_simp
          refine (HANB.out _ K4.out).mono ?_
          rintro e w5 ⟨rfl, k5⟩
          have K5 := Lib.hid (K4.out.trans k5); clear k5
          have S5 := HCL.out w5 K5.out
          clear S4
          go_wp2_with fail
          refine hK.out _ _ (fun _ => S5) ?_
          clear hK K
          (try simp only [Act.put, List.setIfInBounds_toArray, List.set_cons_zero, List.set_cons_succ])
          (refine float0 (i := 8) (v := ?_) rfl (by kernel_rfl) (by kernel_rfl) (by kernel_rfl) (by kernel_rfl) (fun _ _ _ h => h) (by rfl) ?_ ?_); rotate_left
          (intro wF; go_simp; try with_reducible rfl)
          (try simp only [Act.put, List.setIfInBounds_toArray, List.set_cons_zero, List.set_cons_succ])
          (refine float0 (i := 9) (v := ?_) rfl (by kernel_rfl) (by kernel_rfl) (by kernel_rfl) (by kernel_rfl) (fun _ _ _ h => h) (by rfl) ?_ ?_); rotate_left
          (intro wF; go_simp; try with_reducible rfl)
          (try simp only [Act.put, List.setIfInBounds_toArray, List.set_cons_zero, List.set_cons_succ])
          (refine float0 (i := 10) (v := ?_) rfl (by kernel_rfl) (by kernel_rfl) (by kernel_rfl) (by kernel_rfl) (fun _ _ _ h => h) (by rfl) ?_ ?_); rotate_left
          (intro wF; go_simp; try with_reducible rfl)
          (try simp only [Act.put, List.setIfInBounds_toArray, List.set_cons_zero, List.set_cons_succ])
          (refine floatU (i := 11) rfl (by kernel_rfl) (by kernel_rfl) (by kernel_rfl) (by kernel_rfl) (fun _ _ _ h => h) (by rfl) ?_)
          (try simp only [Act.put, List.setIfInBounds_toArray, List.set_cons_zero, List.set_cons_succ])
          (refine floatU (i := 12) rfl (by kernel_rfl) (by kernel_rfl) (by kernel_rfl) (by kernel_rfl) (fun _ _ _ h => h) (by rfl) ?_)
          (try simp only [Act.put, List.setIfInBounds_toArray, List.set_cons_zero, List.set_cons_succ])
          (refine floatU (i := 13) rfl (by kernel_rfl) (by kernel_rfl) (by kernel_rfl) (by kernel_rfl) (fun _ _ _ h => h) (by rfl) ?_)
          (try simp only [Act.put, List.setIfInBounds_toArray, List.set_cons_zero, List.set_cons_succ])
          (refine floatU (i := 14) rfl (by kernel_rfl) (by kernel_rfl) (by kernel_rfl) (by kernel_rfl) (fun _ _ _ h => h) (by rfl) ?_)
          (try simp only [Act.put, List.setIfInBounds_toArray, List.set_cons_zero, List.set_cons_succ])
          (refine floatU (i := 15) rfl (by kernel_rfl) (by kernel_rfl) (by kernel_rfl) (by kernel_rfl) (fun _ _ _ h => h) (by rfl) ?_)
          (try simp only [Act.put, List.setIfInBounds_toArray, List.set_cons_zero, List.set_cons_succ])
          (refine floatU (i := 16) rfl (by kernel_rfl) (by kernel_rfl) (by kernel_rfl) (by kernel_rfl) (fun _ _ _ h => h) (by rfl) ?_)
          (try simp only [Act.put, List.setIfInBounds_toArray, List.set_cons_zero, List.set_cons_succ])
          (refine floatU (i := 17) rfl (by kernel_rfl) (by kernel_rfl) (by kernel_rfl) (by kernel_rfl) (fun _ _ _ h => h) (by rfl) ?_)
          (try simp only [Act.put, List.setIfInBounds_toArray, List.set_cons_zero, List.set_cons_succ])
          (refine floatU (i := 18) rfl (by kernel_rfl) (by kernel_rfl) (by kernel_rfl) (by kernel_rfl) (fun _ _ _ h => h) (by rfl) ?_)
          (try simp only [Act.put, List.setIfInBounds_toArray, List.set_cons_zero, List.set_cons_succ])
          (refine floatU (i := 19) rfl (by kernel_rfl) (by kernel_rfl) (by kernel_rfl) (by kernel_rfl) (fun _ _ _ h => h) (by rfl) ?_)
          (try simp only [Act.put, List.setIfInBounds_toArray, List.set_cons_zero, List.set_cons_succ])
          (refine float0 (i := 20) (v := ?_) rfl (by kernel_rfl) (by kernel_rfl) (by kernel_rfl) (by kernel_rfl) (fun _ _ _ h => h) (by rfl) ?_ ?_); rotate_left
          (intro wF; go_simp; try with_reducible rfl)
          (try simp only [Act.put, List.setIfInBounds_toArray, List.set_cons_zero, List.set_cons_succ])
          (refine float0 (i := 21) (v := ?_) rfl (by kernel_rfl) (by kernel_rfl) (by kernel_rfl) (by kernel_rfl) (fun _ _ _ h => h) (by rfl) ?_ ?_); rotate_left
          (intro wF; go_simp; try with_reducible rfl)
          (try simp only [Act.put, List.setIfInBounds_toArray, List.set_cons_zero, List.set_cons_succ])
          (refine floatE (by kernel_rfl) ?_)
          go_wp2_with fail
          go_ret
          rw [HAL.out]
          exact ⟨rfl, (HS.out.trans (Same.of0 HS.out.inv K5.out)).s, fun m' e => by cases e⟩
        | false =>
          rw [hbu] at HANB
          by_cases huv : v = u
          · have hal : alikeT a b (.var v) (.var u) m = some m := by simp only [alikeT, hav, hbu]; simp [huv]
            have q : ((v : Int) == (u : Int)) = true := by simp [huv]
            have HAL := Lib.hid hal; clear hal hav hbu huv
            go_wp2_with fail
            refine wp_region_float (fun w' => w'.cell? ⟨x.ab, 0, none⟩ = some (.iface Ta (.pointer (some ⟨pa, 0, none⟩))) ∧ w'.cell? ⟨x.ab, 1, none⟩ = some (.map moa) ∧ w'.cell? ⟨x.bb, 0, none⟩ = some (.iface Tb (.pointer (some ⟨pb, 0, none⟩))) ∧ w'.cell? ⟨x.bb, 1, none⟩ = some (.map mob) ∧ w'.cell? ⟨bv, 0, none⟩ = some (.int .i64 v) ∧ w'.cell? ⟨bu, 0, none⟩ = some (.int .i64 u)) [1, 3, 4, 6, 8, 9, 10, 11, 12, 13, 15, 16, 17, 19, 20, 21] [0, 5, 14, 18] (by kernel_rfl) ?_
            have S0 := HCL.out w3.drew (K3.out.trans (Keep.drew _ _))
            (refine floatS (i := 0) (v := ?_) rfl (by kernel_rfl) (by kernel_rfl) (by kernel_rfl) (by kernel_rfl) (fun _ _ _ h => h) (by assumption) (by rfl) ?_ ?_); rotate_left
            (intro wF hF; (try dsimp only at hF); go_simp; try with_reducible rfl)
            (try simp only [Act.put, List.setIfInBounds_toArray, List.set_cons_zero, List.set_cons_succ])
            (refine float0 (i := 1) (v := ?_) rfl (by kernel_rfl) (by kernel_rfl) (by kernel_rfl) (by kernel_rfl) (fun _ _ _ h => h) (by rfl) ?_ ?_); rotate_left
            (intro wF; go_simp; try with_reducible rfl)
            (try simp only [Act.put, List.setIfInBounds_toArray, List.set_cons_zero, List.set_cons_succ])
            (refine floatM (i := 2) rfl (by kernel_rfl) (by kernel_rfl) (fun K hK => ?_)); go_simp
            refine (HANA.out _ (K3.out.trans (Keep.drew _ _))).mono ?_
            rintro e w4 ⟨rfl, k4⟩
            clear S0 q1 q2 q3 q4 q5 q6
            have K4 := Lib.hid ((K3.out.trans (Keep.drew _ _)).trans k4); clear k4
            have S4 := HCL.out w4 K4.out
            go_wp2_with fail
            refine hK.out _ _ (fun _ => S4) ?_
            clear hK K
            (try simp only [Act.put, List.setIfInBounds_toArray, List.set_cons_zero, List.set_cons_succ])
            (refine float0 (i := 3) (v := ?_) rfl (by kernel_rfl) (by kernel_rfl) (by kernel_rfl) (by kernel_rfl) (fun _ _ _ h => h) (by rfl) ?_ ?_); rotate_left
            (intro wF; go_simp; try with_reducible rfl)
            (try simp only [Act.put, List.setIfInBounds_toArray, List.set_cons_zero, List.set_cons_succ])
            (refine float0 (i := 4) (v := ?_) rfl (by kernel_rfl) (by kernel_rfl) (by kernel_rfl) (by kernel_rfl) (fun _ _ _ h => h) (by rfl) ?_ ?_); rotate_left
            (intro wF; go_simp; try with_reducible rfl)
            (try simp only [Act.put, List.setIfInBounds_toArray, List.set_cons_zero, List.set_cons_succ])
            (refine floatS (i := 5) (v := ?_) rfl (by kernel_rfl) (by kernel_rfl) (by kernel_rfl) (by kernel_rfl) (fun _ _ _ h => h) (by assumption) (by rfl) ?_ ?_); rotate_left
            (intro wF hF; (try dsimp only at hF); go_simp; try with_reducible rfl)
            (try simp only [Act.put, List.setIfInBounds_toArray, List.set_cons_zero, List.set_cons_succ])
            (refine float0 (i := 6) (v := ?_) rfl (by kernel_rfl) (by kernel_rfl) (by kernel_rfl) (by kernel_rfl) (fun _ _ _ h => h) (by rfl) ?_ ?_); rotate_left
            (intro wF; go_simp; try with_reducible rfl)
            (try simp only [Act.put, List.setIfInBounds_toArray, List.set_cons_zero, List.set_cons_succ])
            (refine floatM (i := 7) rfl (by kernel_rfl) (by kernel_rfl) (fun K hK => ?_)); go_simp
            refine (HANB.out _ K4.out).mono ?_
            rintro e w5 ⟨rfl, k5⟩
            have K5 := Lib.hid (K4.out.trans k5); clear k5
            have S5 := HCL.out w5 K5.out
            clear S4
            go_wp2_with fail
            refine hK.out _ _ (fun _ => S5) ?_
            clear hK K
            (try simp only [Act.put, List.setIfInBounds_toArray, List.set_cons_zero, List.set_cons_succ])
            (refine float0 (i := 8) (v := ?_) rfl (by kernel_rfl) (by kernel_rfl) (by kernel_rfl) (by kernel_rfl) (fun _ _ _ h => h) (by rfl) ?_ ?_); rotate_left
            (intro wF; go_simp; try with_reducible rfl)
            (try simp only [Act.put, List.setIfInBounds_toArray, List.set_cons_zero, List.set_cons_succ])
            (refine float0 (i := 9) (v := ?_) rfl (by kernel_rfl) (by kernel_rfl) (by kernel_rfl) (by kernel_rfl) (fun _ _ _ h => h) (by rfl) ?_ ?_); rotate_left
            (intro wF; go_simp; try with_reducible rfl)
            (try simp only [Act.put, List.setIfInBounds_toArray, List.set_cons_zero, List.set_cons_succ])
            (refine float0 (i := 10) (v := ?_) rfl (by kernel_rfl) (by kernel_rfl) (by kernel_rfl) (by kernel_rfl) (fun _ _ _ h => h) (by rfl) ?_ ?_); rotate_left
            (intro wF; go_simp; try with_reducible rfl)
            (try simp only [Act.put, List.setIfInBounds_toArray, List.set_cons_zero, List.set_cons_succ])
            (refine float0 (i := 11) (v := ?_) rfl (by kernel_rfl) (by kernel_rfl) (by kernel_rfl) (by kernel_rfl) (fun _ _ _ h => h) (by rfl) ?_ ?_); rotate_left
            (intro wF; go_simp; try with_reducible rfl)
            (try simp only [Act.put, List.setIfInBounds_toArray, List.set_cons_zero, List.set_cons_succ])
            (refine float0 (i := 12) (v := ?_) rfl (by kernel_rfl) (by kernel_rfl) (by kernel_rfl) (by kernel_rfl) (fun _ _ _ h => h) (by rfl) ?_ ?_); rotate_left
            (intro wF; go_simp; try with_reducible rfl)
            (try simp only [Act.put, List.setIfInBounds_toArray, List.set_cons_zero, List.set_cons_succ])
            (refine float0 (i := 13) (v := ?_) rfl (by kernel_rfl) (by kernel_rfl) (by kernel_rfl) (by kernel_rfl) (fun _ _ _ h => h) (by rfl) ?_ ?_); rotate_left
            (intro wF; go_simp; try with_reducible rfl)
            (try simp only [Act.put, List.setIfInBounds_toArray, List.set_cons_zero, List.set_cons_succ])
            (refine floatS (i := 14) (v := ?_) rfl (by kernel_rfl) (by kernel_rfl) (by kernel_rfl) (by kernel_rfl) (fun _ _ _ h => h) (by assumption) (by rfl) ?_ ?_); rotate_left
            (intro wF hF; (try dsimp only at hF); go_simp; try with_reducible rfl)
            (try simp only [Act.put, List.setIfInBounds_toArray, List.set_cons_zero, List.set_cons_succ])
            (refine float0 (i := 15) (v := ?_) rfl (by kernel_rfl) (by kernel_rfl) (by kernel_rfl) (by kernel_rfl) (fun _ _ _ h => h) (by rfl) ?_ ?_); rotate_left
            (intro wF; go_simp; try with_reducible rfl)
            (try simp only [Act.put, List.setIfInBounds_toArray, List.set_cons_zero, List.set_cons_succ])
            (refine float0 (i := 16) (v := ?_) rfl (by kernel_rfl) (by kernel_rfl) (by kernel_rfl) (by kernel_rfl) (fun _ _ _ h => h) (by rfl) ?_ ?_); rotate_left
            (intro wF; go_simp; try with_reducible rfl)
            (try simp only [Act.put, List.setIfInBounds_toArray, List.set_cons_zero, List.set_cons_succ])
            (refine float0 (i := 17) (v := ?_) rfl (by kernel_rfl) (by kernel_rfl) (by kernel_rfl) (by kernel_rfl) (fun _ _ _ h => h) (by rfl) ?_ ?_); rotate_left
            (intro wF; go_simp; try with_reducible rfl)
            (try simp only [Act.put, List.setIfInBounds_toArray, List.set_cons_zero, List.set_cons_succ])
            (refine floatS (i := 18) (v := ?_) rfl (by kernel_rfl) (by kernel_rfl) (by kernel_rfl) (by kernel_rfl) (fun _ _ _ h => h) (by assumption) (by rfl) ?_ ?_); rotate_left
            (intro wF hF; (try dsimp only at hF); go_simp; try with_reducible rfl)
            (try simp only [Act.put, List.setIfInBounds_toArray, List.set_cons_zero, List.set_cons_succ])
            (refine float0 (i := 19) (v := ?_) rfl (by kernel_rfl) (by kernel_rfl) (by kernel_rfl) (by kernel_rfl) (fun _ _ _ h => h) (by rfl) ?_ ?_); rotate_left
            (intro wF; go_simp; try with_reducible rfl)
            (try simp only [Act.put, List.setIfInBounds_toArray, List.set_cons_zero, List.set_cons_succ])
            (refine float0 (i := 20) (v := ?_) rfl (by kernel_rfl) (by kernel_rfl) (by kernel_rfl) (by kernel_rfl) (fun _ _ _ h => h) (by rfl) ?_ ?_); rotate_left
            (intro wF; go_simp; try with_reducible rfl)
            (try simp only [Act.put, List.setIfInBounds_toArray, List.set_cons_zero, List.set_cons_succ])
            (refine float0 (i := 21) (v := ?_) rfl (by kernel_rfl) (by kernel_rfl) (by kernel_rfl) (by kernel_rfl) (fun _ _ _ h => h) (by rfl) ?_ ?_); rotate_left
            (intro wF; go_simp; try with_reducible rfl)
            (try simp only [Act.put, List.setIfInBounds_toArray, List.set_cons_zero, List.set_cons_succ])
            (refine floatE (by kernel_rfl) ?_)
            go_wp2_with fail
            go_ret
            rw [HAL.out]
            have S6 := HS.out.trans (Same.of0 HS.out.inv K5.out)
            exact ⟨rfl, S6.s, fun m' e => by injection e with e; subst e; exact HRR.out.stable S6⟩
          · have hal : alikeT a b (.var v) (.var u) m = none := by simp only [alikeT, hav, hbu]; simp [huv]
            have q : ((v : Int) == (u : Int)) = false := by rw [int_beq]; simp [huv]
            have HAL := Lib.hid hal; clear hal hav hbu huv
            go_wp2_with fail
            refine wp_region_float (fun w' => w'.cell? ⟨x.ab, 0, none⟩ = some (.iface Ta (.pointer (some ⟨pa, 0, none⟩))) ∧ w'.cell? ⟨x.ab, 1, none⟩ = some (.map moa) ∧ w'.cell? ⟨x.bb, 0, none⟩ = some (.iface Tb (.pointer (some ⟨pb, 0, none⟩))) ∧ w'.cell? ⟨x.bb, 1, none⟩ = some (.map mob) ∧ w'.cell? ⟨bv, 0, none⟩ = some (.int .i64 v) ∧ w'.cell? ⟨bu, 0, none⟩ = some (.int .i64 u)) [1, 3, 4, 6, 8, 9, 10, 11, 12, 13, 15, 16, 17, 19, 20, 21] [0, 5, 14, 18] (by kernel_rfl) ?_
            have S0 := HCL.out w3.drew (K3.out.trans (Keep.drew _ _))
            (refine floatS (i := 0) (v := ?_) rfl (by kernel_rfl) (by kernel_rfl) (by kernel_rfl) (by kernel_rfl) (fun _ _ _ h => h) (by assumption) (by rfl) ?_ ?_); rotate_left
            (intro wF hF; (try dsimp only at hF); go_simp; try with_reducible rfl)
            (try simp only [Act.put, List.setIfInBounds_toArray, List.set_cons_zero, List.set_cons_succ])
            (refine float0 (i := 1) (v := ?_) rfl (by kernel_rfl) (by kernel_rfl) (by kernel_rfl) (by kernel_rfl) (fun _ _ _ h => h) (by rfl) ?_ ?_); rotate_left
            (intro wF; go_simp; try with_reducible rfl)
            (try simp only [Act.put, List.setIfInBounds_toArray, List.set_cons_zero, List.set_cons_succ])
            (refine floatM (i := 2) rfl (by kernel_rfl) (by kernel_rfl) (fun K hK => ?_)); go_simp
            refine (HANA.out _ (K3.out.trans (Keep.drew _ _))).mono ?_
            rintro e w4 ⟨rfl, k4⟩
            clear S0 q1 q2 q3 q4 q5 q6
            have K4 := Lib.hid ((K3.out.trans (Keep.drew _ _)).trans k4); clear k4
            have S4 := HCL.out w4 K4.out
            go_wp2_with fail
            refine hK.out _ _ (fun _ => S4) ?_
            clear hK K
            (try simp only [Act.put, List.setIfInBounds_toArray, List.set_cons_zero, List.set_cons_succ])
            (refine float0 (i := 3) (v := ?_) rfl (by kernel_rfl) (by kernel_rfl) (by kernel_rfl) (by kernel_rfl) (fun _ _ _ h => h) (by rfl) ?_ ?_); rotate_left
            (intro wF; go_simp; try with_reducible rfl)
            (try simp only [Act.put, List.setIfInBounds_toArray, List.set_cons_zero, List.set_cons_succ])
            (refine float0 (i := 4) (v := ?_) rfl (by kernel_rfl) (by kernel_rfl) (by kernel_rfl) (by kernel_rfl) (fun _ _ _ h => h) (by rfl) ?_ ?_); rotate_left
            (intro wF; go_simp; try with_reducible rfl)
            (try simp only [Act.put, List.setIfInBounds_toArray, List.set_cons_zero, List.set_cons_succ])
            (refine floatS (i := 5) (v := ?_) rfl (by kernel_rfl) (by kernel_rfl) (by kernel_rfl) (by kernel_rfl) (fun _ _ _ h => h) (by assumption) (by rfl) ?_ ?_); rotate_left
            (intro wF hF; (try dsimp only at hF); go_simp; try with_reducible rfl)
            (try simp only [Act.put, List.setIfInBounds_toArray, List.set_cons_zero, List.set_cons_succ])
            (refine float0 (i := 6) (v := ?_) rfl (by kernel_rfl) (by kernel_rfl) (by kernel_rfl) (by kernel_rfl) (fun _ _ _ h => h) (by rfl) ?_ ?_); rotate_left
            (intro wF; go_simp; try with_reducible rfl)
            (try simp only [Act.put, List.setIfInBounds_toArray, List.set_cons_zero, List.set_cons_succ])
            (refine floatM (i := 7) rfl (by kernel_rfl) (by kernel_rfl) (fun K hK => ?_)); go_simp
            refine (HANB.out _ K4.out).mono ?_
            rintro e w5 ⟨rfl, k5⟩
            have K5 := Lib.hid (K4.out.trans k5); clear k5
            have S5 := HCL.out w5 K5.out
            clear S4
            go_wp2_with fail
            refine hK.out _ _ (fun _ => S5) ?_
            clear hK K
            (try simp only [Act.put, List.setIfInBounds_toArray, List.set_cons_zero, List.set_cons_succ])
            (refine float0 (i := 8) (v := ?_) rfl (by kernel_rfl) (by kernel_rfl) (by kernel_rfl) (by kernel_rfl) (fun _ _ _ h => h) (by rfl) ?_ ?_); rotate_left
            (intro wF; go_simp; try with_reducible rfl)
            (try simp only [Act.put, List.setIfInBounds_toArray, List.set_cons_zero, List.set_cons_succ])
            (refine float0 (i := 9) (v := ?_) rfl (by kernel_rfl) (by kernel_rfl) (by kernel_rfl) (by kernel_rfl) (fun _ _ _ h => h) (by rfl) ?_ ?_); rotate_left
            (intro wF; go_simp; try with_reducible rfl)
            (try simp only [Act.put, List.setIfInBounds_toArray, List.set_cons_zero, List.set_cons_succ])
            (refine float0 (i := 10) (v := ?_) rfl (by kernel_rfl) (by kernel_rfl) (by kernel_rfl) (by kernel_rfl) (fun _ _ _ h => h) (by rfl) ?_ ?_); rotate_left
            (intro wF; go_simp; try with_reducible rfl)
            (try simp only [Act.put, List.setIfInBounds_toArray, List.set_cons_zero, List.set_cons_succ])
            (refine float0 (i := 11) (v := ?_) rfl (by kernel_rfl) (by kernel_rfl) (by kernel_rfl) (by kernel_rfl) (fun _ _ _ h => h) (by rfl) ?_ ?_); rotate_left
            (intro wF; go_simp; try with_reducible rfl)
            (try simp only [Act.put, List.setIfInBounds_toArray, List.set_cons_zero, List.set_cons_succ])
            (refine float0 (i := 12) (v := ?_) rfl (by kernel_rfl) (by kernel_rfl) (by kernel_rfl) (by kernel_rfl) (fun _ _ _ h => h) (by rfl) ?_ ?_); rotate_left
            (intro wF; go_simp; try with_reducible rfl)
            (try simp only [Act.put, List.setIfInBounds_toArray, List.set_cons_zero, List.set_cons_succ])
            (refine float0 (i := 13) (v := ?_) rfl (by kernel_rfl) (by kernel_rfl) (by kernel_rfl) (by kernel_rfl) (fun _ _ _ h => h) (by rfl) ?_ ?_); rotate_left
            (intro wF; go_simp; try with_reducible rfl)
            (try simp only [Act.put, List.setIfInBounds_toArray, List.set_cons_zero, List.set_cons_succ])
            (refine floatS (i := 14) (v := ?_) rfl (by kernel_rfl) (by kernel_rfl) (by kernel_rfl) (by kernel_rfl) (fun _ _ _ h => h) (by assumption) (by rfl) ?_ ?_); rotate_left
            (intro wF hF; (try dsimp only at hF); go_simp; try with_reducible rfl)
            (try simp only [Act.put, List.setIfInBounds_toArray, List.set_cons_zero, List.set_cons_succ])
            (refine float0 (i := 15) (v := ?_) rfl (by kernel_rfl) (by kernel_rfl) (by kernel_rfl) (by kernel_rfl) (fun _ _ _ h => h) (by rfl) ?_ ?_); rotate_left
            (intro wF; go_simp; try with_reducible rfl)
            (try simp only [Act.put, List.setIfInBounds_toArray, List.set_cons_zero, List.set_cons_succ])
            (refine float0 (i := 16) (v := ?_) rfl (by kernel_rfl) (by kernel_rfl) (by kernel_rfl) (by kernel_rfl) (fun _ _ _ h => h) (by rfl) ?_ ?_); rotate_left
            (intro wF; go_simp; try with_reducible rfl)
            (try simp only [Act.put, List.setIfInBounds_toArray, List.set_cons_zero, List.set_cons_succ])
            (refine float0 (i := 17) (v := ?_) rfl (by kernel_rfl) (by kernel_rfl) (by kernel_rfl) (by kernel_rfl) (fun _ _ _ h => h) (by rfl) ?_ ?_); rotate_left
            (intro wF; go_simp; try with_reducible rfl)
            (try simp only [Act.put, List.setIfInBounds_toArray, List.set_cons_zero, List.set_cons_succ])
            (refine floatS (i := 18) (v := ?_) rfl (by kernel_rfl) (by kernel_rfl) (by kernel_rfl) (by kernel_rfl) (fun _ _ _ h => h) (by assumption) (by rfl) ?_ ?_); rotate_left
            (intro wF hF; (try dsimp only at hF); go_simp; try with_reducible rfl)
            (try simp only [Act.put, List.setIfInBounds_toArray, List.set_cons_zero, List.set_cons_succ])
            (refine float0 (i := 19) (v := ?_) rfl (by kernel_rfl) (by kernel_rfl) (by kernel_rfl) (by kernel_rfl) (fun _ _ _ h => h) (by rfl) ?_ ?_); rotate_left
            (intro wF; go_simp; try with_reducible rfl)
            (try simp only [Act.put, List.setIfInBounds_toArray, List.set_cons_zero, List.set_cons_succ])
            (refine float0 (i := 20) (v := ?_) rfl (by kernel_rfl) (by kernel_rfl) (by kernel_rfl) (by kernel_rfl) (fun _ _ _ h => h) (by rfl) ?_ ?_); rotate_left
            (intro wF; go_simp; try with_reducible rfl)
            (try simp only [Act.put, List.setIfInBounds_toArray, List.set_cons_zero, List.set_cons_succ])
            (refine float0 (i := 21) (v := ?_) rfl (by kernel_rfl) (by kernel_rfl) (by kernel_rfl) (by kernel_rfl) (fun _ _ _ h => h) (by rfl) ?_ ?_); rotate_left
            (intro wF; go_simp; try with_reducible rfl)
            (try simp only [Act.put, List.setIfInBounds_toArray, List.set_cons_zero, List.set_cons_succ])
            (refine floatE (by kernel_rfl) ?_)
            go_wp2_with fail
            go_ret
            rw [HAL.out]
            exact ⟨rfl, (HS.out.trans (Same.of0 HS.out.inv K5.out)).s, fun m' e => by cases e⟩
      | true =>
        rw [hav] at HANA
        go_wp2_with fail
        refine (HANA.out _ (Keep.refl _ _)).mono ?_
        rintro e w3 ⟨rfl, k3⟩
        clear q1 q2 q3 q4 q5 q6
        obtain ⟨q1, q2, q3, q4, q5, q6⟩ := HCL.out w3 k3
        have K3 := Lib.hid k3; clear k3
        cases hbu : b.contains u with
        | false =>
          rw [hbu] at HANB
          have hal : alikeT a b (.var v) (.var u) m = none := by simp only [alikeT, hav, hbu]; simp
          have HAL := Lib.hid hal; clear hal hav hbu
          go_wp2_with fail
          refine (HANB.out _ K3.out).mono ?_
          rintro e w4 ⟨rfl, k4⟩
          clear q1 q2 q3 q4 q5 q6
          have K4 := Lib.hid (K3.out.trans k4); clear k4
          obtain ⟨q1, q2, q3, q4, q5, q6⟩ := HCL.out w4 K4.out
          go_wp2_with fail
          refine wp_region_float (fun w' => w'.cell? ⟨x.ab, 0, none⟩ = some (.iface Ta (.pointer (some ⟨pa, 0, none⟩))) ∧ w'.cell? ⟨x.ab, 1, none⟩ = some (.map moa) ∧ w'.cell? ⟨x.bb, 0, none⟩ = some (.iface Tb (.pointer (some ⟨pb, 0, none⟩))) ∧ w'.cell? ⟨x.bb, 1, none⟩ = some (.map mob) ∧ w'.cell? ⟨bv, 0, none⟩ = some (.int .i64 v) ∧ w'.cell? ⟨bu, 0, none⟩ = some (.int .i64 u)) [1, 3, 4, 5, 6, 7, 8, 9, 10, 11, 12, 13, 14, 15, 16, 17, 18, 19, 20, 21] [0] (by kernel_rfl) ?_
          have S0 := HCL.out w4.drew (K4.out.trans (Keep.drew _ _))
          (refine floatS (i := 0) (v := ?_) rfl (by kernel_rfl) (by kernel_rfl) (by kernel_rfl) (by kernel_rfl) (fun _ _ _ h => h) (by assumption) (by rfl) ?_ ?_); rotate_left
          (intro wF hF; (try dsimp only at hF); go_simp; try with_reducible rfl)
          (try simp only [Act.put, List.setIfInBounds_toArray, List.set_cons_zero, List.set_cons_succ])
          (refine float0 (i := 1) (v := ?_) rfl (by kernel_rfl) (by kernel_rfl) (by kernel_rfl) (by kernel_rfl) (fun _ _ _ h => h) (by rfl) ?_ ?_); rotate_left
          (intro wF; go_simp; try with_reducible rfl)
          (try simp only [Act.put, List.setIfInBounds_toArray, List.set_cons_zero, List.set_cons_succ])
          (refine floatM (i := 2) rfl (by kernel_rfl) (by kernel_rfl) (fun K hK => ?_)); go_simp
          refine (HANA.out _ (K4.out.trans (Keep.drew _ _))).mono ?_
          rintro e w5 ⟨rfl, k5⟩
          have K5 := Lib.hid ((K4.out.trans (Keep.drew _ _)).trans k5); clear k5
          have S5 := HCL.out w5 K5.out
          go_wp2_with fail
          refine hK.out _ _ (fun _ => S5) ?_
          clear hK K
          (try simp only [Act.put, List.setIfInBounds_toArray, List.set_cons_zero, List.set_cons_succ])
          (refine float0 (i := 3) (v := ?_) rfl (by kernel_rfl) (by kernel_rfl) (by kernel_rfl) (by kernel_rfl) (fun _ _ _ h => h) (by rfl) ?_ ?_); rotate_left
          (intro wF; go_simp; try with_reducible rfl)
          (try simp only [Act.put, List.setIfInBounds_toArray, List.set_cons_zero, List.set_cons_succ])
          (refine float0 (i := 4) (v := ?_) rfl (by kernel_rfl) (by kernel_rfl) (by kernel_rfl) (by kernel_rfl) (fun _ _ _ h => h) (by rfl) ?_ ?_); rotate_left
          (intro wF; go_simp; try with_reducible rfl)
          (try simp only [Act.put, List.setIfInBounds_toArray, List.set_cons_zero, List.set_cons_succ])
          (refine floatU (i := 5) rfl (by kernel_rfl) (by kernel_rfl) (by kernel_rfl) (by kernel_rfl) (fun _ _ _ h => h) (by rfl) ?_)
          (try simp only [Act.put, List.setIfInBounds_toArray, List.set_cons_zero, List.set_cons_succ])
          (refine floatU (i := 6) rfl (by kernel_rfl) (by kernel_rfl) (by kernel_rfl) (by kernel_rfl) (fun _ _ _ h => h) (by rfl) ?_)
          (try simp only [Act.put, List.setIfInBounds_toArray, List.set_cons_zero, List.set_cons_succ])
          (refine floatU (i := 7) rfl (by kernel_rfl) (by kernel_rfl) (by kernel_rfl) (by kernel_rfl) (fun _ _ _ h => h) (by rfl) ?_)
          (try simp only [Act.put, List.setIfInBounds_toArray, List.set_cons_zero, List.set_cons_succ])
          (refine floatU (i := 8) rfl (by kernel_rfl) (by kernel_rfl) (by kernel_rfl) (by kernel_rfl) (fun _ _ _ h => h) (by rfl) ?_)
          (try simp only [Act.put, List.setIfInBounds_toArray, List.set_cons_zero, List.set_cons_succ])
          (refine float0 (i := 9) (v := ?_) rfl (by kernel_rfl) (by kernel_rfl) (by kernel_rfl) (by kernel_rfl) (fun _ _ _ h => h) (by rfl) ?_ ?_); rotate_left
          (intro wF; go_simp; try with_reducible rfl)
          (try simp only [Act.put, List.setIfInBounds_toArray, List.set_cons_zero, List.set_cons_succ])
          (refine float0 (i := 10) (v := ?_) rfl (by kernel_rfl) (by kernel_rfl) (by kernel_rfl) (by kernel_rfl) (fun _ _ _ h => h) (by rfl) ?_ ?_); rotate_left
          (intro wF; go_simp; try with_reducible rfl)
          (try simp only [Act.put, List.setIfInBounds_toArray, List.set_cons_zero, List.set_cons_succ])
          (refine floatU (i := 11) rfl (by kernel_rfl) (by kernel_rfl) (by kernel_rfl) (by kernel_rfl) (fun _ _ _ h => h) (by rfl) ?_)
          (try simp only [Act.put, List.setIfInBounds_toArray, List.set_cons_zero, List.set_cons_succ])
          (refine floatU (i := 12) rfl (by kernel_rfl) (by kernel_rfl) (by kernel_rfl) (by kernel_rfl) (fun _ _ _ h => h) (by rfl) ?_)
          (try simp only [Act.put, List.setIfInBounds_toArray, List.set_cons_zero, List.set_cons_succ])
          (refine floatU (i := 13) rfl (by kernel_rfl) (by kernel_rfl) (by kernel_rfl) (by kernel_rfl) (fun _ _ _ h => h) (by rfl) ?_)
          (try simp only [Act.put, List.setIfInBounds_toArray, List.set_cons_zero, List.set_cons_succ])
          (refine floatU (i := 14) rfl (by kernel_rfl) (by kernel_rfl) (by kernel_rfl) (by kernel_rfl) (fun _ _ _ h => h) (by rfl) ?_)
          (try simp only [Act.put, List.setIfInBounds_toArray, List.set_cons_zero, List.set_cons_succ])
          (refine floatU (i := 15) rfl (by kernel_rfl) (by kernel_rfl) (by kernel_rfl) (by kernel_rfl) (fun _ _ _ h => h) (by rfl) ?_)
          (try simp only [Act.put, List.setIfInBounds_toArray, List.set_cons_zero, List.set_cons_succ])
          (refine floatU (i := 16) rfl (by kernel_rfl) (by kernel_rfl) (by kernel_rfl) (by kernel_rfl) (fun _ _ _ h => h) (by rfl) ?_)
          (try simp only [Act.put, List.setIfInBounds_toArray, List.set_cons_zero, List.set_cons_succ])
          (refine floatU (i := 17) rfl (by kernel_rfl) (by kernel_rfl) (by kernel_rfl) (by kernel_rfl) (fun _ _ _ h => h) (by rfl) ?_)
          (try simp only [Act.put, List.setIfInBounds_toArray, List.set_cons_zero, List.set_cons_succ])
          (refine floatU (i := 18) rfl (by kernel_rfl) (by kernel_rfl) (by kernel_rfl) (by kernel_rfl) (fun _ _ _ h => h) (by rfl) ?_)
          (try simp only [Act.put, List.setIfInBounds_toArray, List.set_cons_zero, List.set_cons_succ])
          (refine floatU (i := 19) rfl (by kernel_rfl) (by kernel_rfl) (by kernel_rfl) (by kernel_rfl) (fun _ _ _ h => h) (by rfl) ?_)
          (try simp only [Act.put, List.setIfInBounds_toArray, List.set_cons_zero, List.set_cons_succ])
          (refine float0 (i := 20) (v := ?_) rfl (by kernel_rfl) (by kernel_rfl) (by kernel_rfl) (by kernel_rfl) (fun _ _ _ h => h) (by rfl) ?_ ?_); rotate_left
          (intro wF; go_simp; try with_reducible rfl)
          (try simp only [Act.put, List.setIfInBounds_toArray, List.set_cons_zero, List.set_cons_succ])
          (refine float0 (i := 21) (v := ?_) rfl (by kernel_rfl) (by kernel_rfl) (by kernel_rfl) (by kernel_rfl) (fun _ _ _ h => h) (by rfl) ?_ ?_); rotate_left
          (intro wF; go_simp; try with_reducible rfl)
          (try simp only [Act.put, List.setIfInBounds_toArray, List.set_cons_zero, List.set_cons_succ])
          (refine floatE (by kernel_rfl) ?_)
          go_wp2_with fail
          go_ret
          rw [HAL.out]
          exact ⟨rfl, (HS.out.trans (Same.of0 HS.out.inv K5.out)).s, fun m' e => by cases e⟩
        | true =>
          rw [hbu] at HANB
          go_wp2_with fail
          refine (HANB.out _ K3.out).mono ?_
          rintro e w4 ⟨rfl, k4⟩
          clear q1 q2 q3 q4 q5 q6
          have K4 := Lib.hid (K3.out.trans k4); clear k4
          obtain ⟨q1, q2, q3, q4, q5, q6⟩ := HCL.out w4 K4.out
          obtain ⟨hv1, _, _, _⟩ := HS.out.inv.vars _ _ _ hAv
          obtain ⟨hu1, _, _, _⟩ := HS.out.inv.vars _ _ _ hAu
          have hway := var_way HR2.out.two hv1 hu1
          rw [← alike_var hav hbu m] at hway
          have hst : ∀ w', Keep none' w2 w' → w'.cell? ⟨x.tb, 0, none⟩ = some (.map (some x.tm)) ∧ w'.cell? ⟨x.fb, 0, none⟩ = some (.map (some x.fm)) ∧ w'.cell? ⟨bv, 0, none⟩ = some (.int .i64 v) ∧ w'.cell? ⟨bu, 0, none⟩ = some (.int .i64 u) ∧ (Instr.lookup 225 (.map (some x.tm)) (.int .i64 v) false).run Tryz.prog w' = .ok (.int .i64 ((lt0 m v : Nat) : Int)) w' ∧ (Instr.lookup 225 (.map (some x.fm)) (.int .i64 u) false).run Tryz.prog w' = .ok (.int .i64 ((rt0 m u : Nat) : Int)) w' := fun w' k =>
            ⟨cell_of_heap (k.get HR2.out.ct (fun x => x)) rfl, cell_of_heap (k.get HR2.out.cf (fun x => x)) rfl, (HCL.out w' k).2.2.2.2.1, (HCL.out w' k).2.2.2.2.2, lt_run HR2.out.two v (k.get HR2.out.mt (fun x => x)), rt_run HR2.out.two u (k.get HR2.out.mf (fun x => x))⟩
          have HST := Lib.hid hst
          obtain ⟨rr, hrr⟩ : ∃ rr, rr = alikeT a b (.var v) (.var u) m := ⟨_, rfl⟩
          rw [← hrr] at hway
          have HRQ := Lib.hid hrr
          clear hst hv1 hu1 hav hbu q1 q2 q3 q4 q5 q6 hrr
          cases hway with
          | new a1 a2 a3 a4 a5 =>
            have e1 : (((lt0 m v : Nat) : Int) == 0) = true := by rw [a1]; rfl
            have e2 : (((rt0 m u : Nat) : Int) == 0) = true := by rw [a2]; rfl
            have A3 := Lib.hid a3; have A4 := Lib.hid a4; have A5 := Lib.hid a5
            clear a1 a2 a3 a4 a5
            have S9 := HST.out w4.drew (K4.out.trans (Keep.drew _ _))
            go_wp2_with fail
            refine wp_region_float (fun w' => w'.cell? ⟨x.tb, 0, none⟩ = some (.map (some x.tm)) ∧ w'.cell? ⟨x.fb, 0, none⟩ = some (.map (some x.fm)) ∧ w'.cell? ⟨bv, 0, none⟩ = some (.int .i64 v) ∧ w'.cell? ⟨bu, 0, none⟩ = some (.int .i64 u) ∧ (Instr.lookup 225 (.map (some x.tm)) (.int .i64 v) false).run Tryz.prog w' = .ok (.int .i64 ((lt0 m v : Nat) : Int)) w' ∧ (Instr.lookup 225 (.map (some x.fm)) (.int .i64 u) false).run Tryz.prog w' = .ok (.int .i64 ((rt0 m u : Nat) : Int)) w') [1, 2, 3, 6, 7, 9, 10, 11, 14, 15] [0, 4, 5, 8, 12, 13] (by kernel_rfl) ?_
            (refine floatS (i := 0) (v := ?_) rfl (by kernel_rfl) (by kernel_rfl) (by kernel_rfl) (by kernel_rfl) (fun _ _ _ h => h) (by assumption) (by rfl) ?_ ?_); rotate_left
            (intro wF hF; (try dsimp only at hF); go_simp; try with_reducible rfl)
            (try simp only [Act.put, List.setIfInBounds_toArray, List.set_cons_zero, List.set_cons_succ])
            (refine float0 (i := 1) (v := ?_) rfl (by kernel_rfl) (by kernel_rfl) (by kernel_rfl) (by kernel_rfl) (fun _ _ _ h => h) (by rfl) ?_ ?_); rotate_left
            (intro wF; go_simp; try with_reducible rfl)
            (try simp only [Act.put, List.setIfInBounds_toArray, List.set_cons_zero, List.set_cons_succ])
            (refine float0 (i := 2) (v := ?_) rfl (by kernel_rfl) (by kernel_rfl) (by kernel_rfl) (by kernel_rfl) (fun _ _ _ h => h) (by rfl) ?_ ?_); rotate_left
            (intro wF; go_simp; try with_reducible rfl)
            (try simp only [Act.put, List.setIfInBounds_toArray, List.set_cons_zero, List.set_cons_succ])
            (refine float0 (i := 3) (v := ?_) rfl (by kernel_rfl) (by kernel_rfl) (by kernel_rfl) (by kernel_rfl) (fun _ _ _ h => h) (by rfl) ?_ ?_); rotate_left
            (intro wF; go_simp; try with_reducible rfl)
            (try simp only [Act.put, List.setIfInBounds_toArray, List.set_cons_zero, List.set_cons_succ])
            (refine floatS (i := 4) (v := ?_) rfl (by kernel_rfl) (by kernel_rfl) (by kernel_rfl) (by kernel_rfl) (fun _ _ _ h => h) (by assumption) (by rfl) ?_ ?_); rotate_left
            (intro wF hF; (try dsimp only at hF); go_simp; try with_reducible rfl)
            (try simp only [Act.put, List.setIfInBounds_toArray, List.set_cons_zero, List.set_cons_succ])
            (refine floatS (i := 5) (v := ?_) rfl (by kernel_rfl) (by kernel_rfl) (by kernel_rfl) (by kernel_rfl) (fun _ _ _ h => h) (by assumption) (by rfl) ?_ ?_); rotate_left
            (intro wF hF; (try dsimp only at hF); go_simp; try with_reducible rfl)
            (try simp only [Act.put, List.setIfInBounds_toArray, List.set_cons_zero, List.set_cons_succ])
            (refine float0 (i := 6) (v := ?_) rfl (by kernel_rfl) (by kernel_rfl) (by kernel_rfl) (by kernel_rfl) (fun _ _ _ h => h) (by rfl) ?_ ?_); rotate_left
            (intro wF; go_simp; try with_reducible rfl)
            (try simp only [Act.put, List.setIfInBounds_toArray, List.set_cons_zero, List.set_cons_succ])
            (refine float0 (i := 7) (v := ?_) rfl (by kernel_rfl) (by kernel_rfl) (by kernel_rfl) (by kernel_rfl) (fun _ _ _ h => h) (by rfl) ?_ ?_); rotate_left
            (intro wF; go_simp; try with_reducible rfl)
            (try simp only [Act.put, List.setIfInBounds_toArray, List.set_cons_zero, List.set_cons_succ])
            (refine floatS (i := 8) (v := ?_) rfl (by kernel_rfl) (by kernel_rfl) (by kernel_rfl) (by kernel_rfl) (fun _ _ _ h => h) (by assumption) (by rfl) ?_ ?_); rotate_left
            (intro wF hF; (try dsimp only at hF); go_simp; try with_reducible rfl)
            (try simp only [Act.put, List.setIfInBounds_toArray, List.set_cons_zero, List.set_cons_succ])
            (refine float0 (i := 9) (v := ?_) rfl (by kernel_rfl) (by kernel_rfl) (by kernel_rfl) (by kernel_rfl) (fun _ _ _ h => h) (by rfl) ?_ ?_); rotate_left
            (intro wF; go_simp; try with_reducible rfl)
            (try simp only [Act.put, List.setIfInBounds_toArray, List.set_cons_zero, List.set_cons_succ])
            (refine float0 (i := 10) (v := ?_) rfl (by kernel_rfl) (by kernel_rfl) (by kernel_rfl) (by kernel_rfl) (fun _ _ _ h => h) (by rfl) ?_ ?_); rotate_left
            (intro wF; go_simp; try with_reducible rfl)
            (try simp only [Act.put, List.setIfInBounds_toArray, List.set_cons_zero, List.set_cons_succ])
            (refine float0 (i := 11) (v := ?_) rfl (by kernel_rfl) (by kernel_rfl) (by kernel_rfl) (by kernel_rfl) (fun _ _ _ h => h) (by rfl) ?_ ?_); rotate_left
            (intro wF; go_simp; try with_reducible rfl)
            (try simp only [Act.put, List.setIfInBounds_toArray, List.set_cons_zero, List.set_cons_succ])
            (refine floatS (i := 12) (v := ?_) rfl (by kernel_rfl) (by kernel_rfl) (by kernel_rfl) (by kernel_rfl) (fun _ _ _ h => h) (by assumption) (by rfl) ?_ ?_); rotate_left
            (intro wF hF; (try dsimp only at hF); go_simp; try with_reducible rfl)
            (try simp only [Act.put, List.setIfInBounds_toArray, List.set_cons_zero, List.set_cons_succ])
            (refine floatS (i := 13) (v := ?_) rfl (by kernel_rfl) (by kernel_rfl) (by kernel_rfl) (by kernel_rfl) (fun _ _ _ h => h) (by assumption) (by rfl) ?_ ?_); rotate_left
            (intro wF hF; (try dsimp only at hF); go_simp; try with_reducible rfl)
            (try simp only [Act.put, List.setIfInBounds_toArray, List.set_cons_zero, List.set_cons_succ])
            (refine float0 (i := 14) (v := ?_) rfl (by kernel_rfl) (by kernel_rfl) (by kernel_rfl) (by kernel_rfl) (fun _ _ _ h => h) (by rfl) ?_ ?_); rotate_left
            (intro wF; go_simp; try with_reducible rfl)
            (try simp only [Act.put, List.setIfInBounds_toArray, List.set_cons_zero, List.set_cons_succ])
            (refine float0 (i := 15) (v := ?_) rfl (by kernel_rfl) (by kernel_rfl) (by kernel_rfl) (by kernel_rfl) (fun _ _ _ h => h) (by rfl) ?_ ?_); rotate_left
            (intro wF; go_simp; try with_reducible rfl)
            (try simp only [Act.put, List.setIfInBounds_toArray, List.set_cons_zero, List.set_cons_succ])
            (refine floatE (by kernel_rfl) ?_)
            obtain ⟨w5, hw5⟩ : ∃ w5, w5 = w4.drew := ⟨_, rfl⟩
            have k5 : Keep none' w2 w5 := by rw [hw5]; exact K4.out.trans (Keep.drew _ _)
            have k6 : Keep none' w2 w5.drew := k5.trans (Keep.drew _ _)
            have mt6 := k6.get HR2.out.mt (fun x => x)
            have mf6 := k6.get HR2.out.mf (fun x => x)
            have n1 := run_entry_new (P := Tryz.prog) und_mii key_int zero_int (k := (v : Int)) mt6 A3.out
            obtain ⟨W1, hW1⟩ : ∃ W1, W1 = World.lay w5.drew x.tm (kmap kInt (toE m ++ [((v : Int), .int .i64 0)])) := ⟨_, rfl⟩
            rw [← hW1] at n1
            have K1 : Keep (two' x.tm x.fm) w5.drew W1 := by rw [hW1]; exact (lay_keep _ _ _).mono (fun i _ h => .inl h)
            have mt7 : W1.heap[x.tm]? = some (kmap kInt (toE m ++ [((v : Int), .int .i64 0)])) := by rw [hW1]; exact lay_same (lt_of_heap mt6)
            have mf7 : W1.heap[x.fm]? = some (kmap kInt (fromE m)) := by rw [hW1]; exact (lay_keep w5.drew x.tm _).get mf6 (fun e => HR2.out.ne e.symm)
            have n2 := run_estore (P := Tryz.prog) (mt := 225) (v := .int .i64 (u : Int)) mt7
            obtain ⟨W2, hW2⟩ : ∃ W2, W2 = World.lay W1 x.tm (kmap kInt (toE m ++ [((v : Int), .int .i64 (u : Int))])) := ⟨_, rfl⟩
            rw [← hW2] at n2
            have K2 : Keep (two' x.tm x.fm) W1 W2 := by rw [hW2]; exact (lay_keep _ _ _).mono (fun i _ h => .inl h)
            have mt8 : W2.heap[x.tm]? = some (kmap kInt (toE m ++ [((v : Int), .int .i64 (u : Int))])) := by rw [hW2]; exact lay_same (lt_of_heap mt7)
            have mf8 : W2.heap[x.fm]? = some (kmap kInt (fromE m)) := by rw [hW2]; exact (lay_keep W1 x.tm _).get mf7 (fun e => HR2.out.ne e.symm)
            have n3 := run_entry_new (P := Tryz.prog) und_mii key_int zero_int (k := (u : Int)) mf8 A4.out
            obtain ⟨W3, hW3⟩ : ∃ W3, W3 = World.lay W2 x.fm (kmap kInt (fromE m ++ [((u : Int), .int .i64 0)])) := ⟨_, rfl⟩
            rw [← hW3] at n3
            have K3' : Keep (two' x.tm x.fm) W2 W3 := by rw [hW3]; exact (lay_keep _ _ _).mono (fun i _ h => .inr h)
            have mf9 : W3.heap[x.fm]? = some (kmap kInt (fromE m ++ [((u : Int), .int .i64 0)])) := by rw [hW3]; exact lay_same (lt_of_heap mf8)
            have mt9 : W3.heap[x.tm]? = some (kmap kInt (toE m ++ [((v : Int), .int .i64 (u : Int))])) := by rw [hW3]; exact (lay_keep W2 x.fm _).get mt8 HR2.out.ne
            have n4 := run_estore (P := Tryz.prog) (mt := 225) (v := .int .i64 (v : Int)) mf9
            obtain ⟨W4, hW4⟩ : ∃ W4, W4 = World.lay W3 x.fm (kmap kInt (fromE m ++ [((u : Int), .int .i64 (v : Int))])) := ⟨_, rfl⟩
            rw [← hW4] at n4
            have K4' : Keep (two' x.tm x.fm) W3 W4 := by rw [hW4]; exact (lay_keep _ _ _).mono (fun i _ h => .inr h)
            have mf10 : W4.heap[x.fm]? = some (kmap kInt (fromE (m ++ [(v, u)]))) := by rw [hW4, fromE_snoc]; exact lay_same (lt_of_heap mf9)
            have mt10 : W4.heap[x.tm]? = some (kmap kInt (toE (m ++ [(v, u)]))) := by rw [hW4, toE_snoc]; exact (lay_keep W3 x.fm _).get mt9 HR2.out.ne
            have hcs : ∀ w', Keep (two' x.tm x.fm) w5.drew w' → w'.cell? ⟨x.tb, 0, none⟩ = some (.map (some x.tm)) ∧ w'.cell? ⟨x.fb, 0, none⟩ = some (.map (some x.fm)) ∧ w'.cell? ⟨bv, 0, none⟩ = some (.int .i64 v) ∧ w'.cell? ⟨bu, 0, none⟩ = some (.int .i64 u) := fun w' k => by
              have pt := HR2.out.priv x.tm (by simp)
              have pf := HR2.out.priv x.fm (by simp)
              have q : ∀ i o, w5.drew.heap[i]? = some o → (∀ l c, o ≠ Obj.map l c) → w'.heap[i]? = some o := fun i o ho hm => k.get ho (fun e => by
                rcases e with e | e
                · rw [e, mt6] at ho; injection ho with ho; exact hm _ _ ho.symm
                · rw [e, mf6] at ho; injection ho with ho; exact hm _ _ ho.symm)
              exact ⟨cell_of_heap (q _ _ (k6.get HR2.out.ct (fun x => x)) (fun _ _ h => by cases h)) rfl, cell_of_heap (q _ _ (k6.get HR2.out.cf (fun x => x)) (fun _ _ h => by cases h)) rfl, cell_of_heap (q _ _ (k6.get HBV.out (fun x => x)) (fun _ _ h => by cases h)) rfl, cell_of_heap (q _ _ (k6.get HBU.out (fun x => x)) (fun _ _ h => by cases h)) rfl⟩
            have K14 : Keep (two' x.tm x.fm) w5.drew W4 := ((K1.trans K2).trans K3').trans K4'
            have S10 := hcs _ (Keep.refl _ _)
            have T1 := hcs _ K1
            have T2 := hcs _ (K1.trans K2)
            have T3 := hcs _ ((K1.trans K2).trans K3')
            have T4 := hcs _ K14
            have MT := Lib.hid mt10; have MF := Lib.hid mf10; have K6 := Lib.hid k6; have HK14 := Lib.hid K14
            rw [← hw5]
            unfold kInt at n1 n3
            clear hcs mt6 mf6 mt7 mf7 mt8 mf8 mt9 mf9 mt10 mf10 hW1 hW2 hW3 hW4 K1 K2 K3' K4' K14 k5 k6 hw5 S9
            go_wp2_with fail
            refine wp_region_float (fun w' => w'.cell? ⟨x.tb, 0, none⟩ = some (.map (some x.tm)) ∧ w'.cell? ⟨x.fb, 0, none⟩ = some (.map (some x.fm)) ∧ w'.cell? ⟨bv, 0, none⟩ = some (.int .i64 v) ∧ w'.cell? ⟨bu, 0, none⟩ = some (.int .i64 u)) [1, 2, 3, 6, 7, 8, 10, 11, 12, 14, 15, 16, 19, 22] [0, 4, 5, 9, 13, 17] (by kernel_rfl) ?_
            (refine floatS (i := 0) (v := ?_) rfl (by kernel_rfl) (by kernel_rfl) (by kernel_rfl) (by kernel_rfl) (fun _ _ _ h => h) (by assumption) (by rfl) ?_ ?_); rotate_left
            (intro wF hF; (try dsimp only at hF); go_simp; try with_reducible rfl)
            (try simp only [Act.put, List.setIfInBounds_toArray, List.set_cons_zero, List.set_cons_succ])
            (refine float0 (i := 1) (v := ?_) rfl (by kernel_rfl) (by kernel_rfl) (by kernel_rfl) (by kernel_rfl) (fun _ _ _ h => h) (by rfl) ?_ ?_); rotate_left
            (intro wF; go_simp; try with_reducible rfl)
            (try simp only [Act.put, List.setIfInBounds_toArray, List.set_cons_zero, List.set_cons_succ])
            (refine float0 (i := 2) (v := ?_) rfl (by kernel_rfl) (by kernel_rfl) (by kernel_rfl) (by kernel_rfl) (fun _ _ _ h => h) (by rfl) ?_ ?_); rotate_left
            (intro wF; go_simp; try with_reducible rfl)
            (try simp only [Act.put, List.setIfInBounds_toArray, List.set_cons_zero, List.set_cons_succ])
            (refine float0 (i := 3) (v := ?_) rfl (by kernel_rfl) (by kernel_rfl) (by kernel_rfl) (by kernel_rfl) (fun _ _ _ h => h) (by rfl) ?_ ?_); rotate_left
            (intro wF; go_simp; try with_reducible rfl)
            (try simp only [Act.put, List.setIfInBounds_toArray, List.set_cons_zero, List.set_cons_succ])
            (refine floatS (i := 4) (v := ?_) rfl (by kernel_rfl) (by kernel_rfl) (by kernel_rfl) (by kernel_rfl) (fun _ _ _ h => h) (by assumption) (by rfl) ?_ ?_); rotate_left
            (intro wF hF; (try dsimp only at hF); go_simp; try with_reducible rfl)
            (try simp only [Act.put, List.setIfInBounds_toArray, List.set_cons_zero, List.set_cons_succ])
            (refine floatS (i := 5) (v := ?_) rfl (by kernel_rfl) (by kernel_rfl) (by kernel_rfl) (by kernel_rfl) (fun _ _ _ h => h) (by assumption) (by rfl) ?_ ?_); rotate_left
            (intro wF hF; (try dsimp only at hF); go_simp; try with_reducible rfl)
            (try simp only [Act.put, List.setIfInBounds_toArray, List.set_cons_zero, List.set_cons_succ])
            (refine float0 (i := 6) (v := ?_) rfl (by kernel_rfl) (by kernel_rfl) (by kernel_rfl) (by kernel_rfl) (fun _ _ _ h => h) (by rfl) ?_ ?_); rotate_left
            (intro wF; go_simp; try with_reducible rfl)
            (try simp only [Act.put, List.setIfInBounds_toArray, List.set_cons_zero, List.set_cons_succ])
            (refine float0 (i := 7) (v := ?_) rfl (by kernel_rfl) (by kernel_rfl) (by kernel_rfl) (by kernel_rfl) (fun _ _ _ h => h) (by rfl) ?_ ?_); rotate_left
            (intro wF; go_simp; try with_reducible rfl)
            (try simp only [Act.put, List.setIfInBounds_toArray, List.set_cons_zero, List.set_cons_succ])
            (refine float0 (i := 8) (v := ?_) rfl (by kernel_rfl) (by kernel_rfl) (by kernel_rfl) (by kernel_rfl) (fun _ _ _ h => h) (by rfl) ?_ ?_); rotate_left
            (intro wF; go_simp; try with_reducible rfl)
            (try simp only [Act.put, List.setIfInBounds_toArray, List.set_cons_zero, List.set_cons_succ])
            (refine floatS (i := 9) (v := ?_) rfl (by kernel_rfl) (by kernel_rfl) (by kernel_rfl) (by kernel_rfl) (fun _ _ _ h => h) (by assumption) (by rfl) ?_ ?_); rotate_left
            (intro wF hF; (try dsimp only at hF); go_simp; try with_reducible rfl)
            (try simp only [Act.put, List.setIfInBounds_toArray, List.set_cons_zero, List.set_cons_succ])
            (refine float0 (i := 10) (v := ?_) rfl (by kernel_rfl) (by kernel_rfl) (by kernel_rfl) (by kernel_rfl) (fun _ _ _ h => h) (by rfl) ?_ ?_); rotate_left
            (intro wF; go_simp; try with_reducible rfl)
            (try simp only [Act.put, List.setIfInBounds_toArray, List.set_cons_zero, List.set_cons_succ])
            (refine float0 (i := 11) (v := ?_) rfl (by kernel_rfl) (by kernel_rfl) (by kernel_rfl) (by kernel_rfl) (fun _ _ _ h => h) (by rfl) ?_ ?_); rotate_left
            (intro wF; go_simp; try with_reducible rfl)
            (try simp only [Act.put, List.setIfInBounds_toArray, List.set_cons_zero, List.set_cons_succ])
            (refine float0 (i := 12) (v := ?_) rfl (by kernel_rfl) (by kernel_rfl) (by kernel_rfl) (by kernel_rfl) (fun _ _ _ h => h) (by rfl) ?_ ?_); rotate_left
            (intro wF; go_simp; try with_reducible rfl)
            (try simp only [Act.put, List.setIfInBounds_toArray, List.set_cons_zero, List.set_cons_succ])
            (refine floatS (i := 13) (v := ?_) rfl (by kernel_rfl) (by kernel_rfl) (by kernel_rfl) (by kernel_rfl) (fun _ _ _ h => h) (by assumption) (by rfl) ?_ ?_); rotate_left
            (intro wF hF; (try dsimp only at hF); go_simp; try with_reducible rfl)
            (try simp only [Act.put, List.setIfInBounds_toArray, List.set_cons_zero, List.set_cons_succ])
            (refine float0 (i := 14) (v := ?_) rfl (by kernel_rfl) (by kernel_rfl) (by kernel_rfl) (by kernel_rfl) (fun _ _ _ h => h) (by rfl) ?_ ?_); rotate_left
            (intro wF; go_simp; try with_reducible rfl)
            (try simp only [Act.put, List.setIfInBounds_toArray, List.set_cons_zero, List.set_cons_succ])
            (refine float0 (i := 15) (v := ?_) rfl (by kernel_rfl) (by kernel_rfl) (by kernel_rfl) (by kernel_rfl) (fun _ _ _ h => h) (by rfl) ?_ ?_); rotate_left
            (intro wF; go_simp; try with_reducible rfl)
            (try simp only [Act.put, List.setIfInBounds_toArray, List.set_cons_zero, List.set_cons_succ])
            (refine float0 (i := 16) (v := ?_) rfl (by kernel_rfl) (by kernel_rfl) (by kernel_rfl) (by kernel_rfl) (fun _ _ _ h => h) (by rfl) ?_ ?_); rotate_left
            (intro wF; go_simp; try with_reducible rfl)
            (try simp only [Act.put, List.setIfInBounds_toArray, List.set_cons_zero, List.set_cons_succ])
            (refine floatS (i := 17) (v := ?_) rfl (by kernel_rfl) (by kernel_rfl) (by kernel_rfl) (by kernel_rfl) (fun _ _ _ h => h) (by assumption) (by rfl) ?_ ?_); rotate_left
            (intro wF hF; (try dsimp only at hF); go_simp; try with_reducible rfl)
            (try simp only [Act.put, List.setIfInBounds_toArray, List.set_cons_zero, List.set_cons_succ])
            (refine floatM (i := 18) rfl (by kernel_rfl) (by kernel_rfl) (fun K hK => ?_)); go_simp
            refine hK.out _ _ (fun _ => T1) ?_
            clear hK K
            (try simp only [Act.put, List.setIfInBounds_toArray, List.set_cons_zero, List.set_cons_succ])
            (refine float0 (i := 19) (v := ?_) rfl (by kernel_rfl) (by kernel_rfl) (by kernel_rfl) (by kernel_rfl) (fun _ _ _ h => h) (by rfl) ?_ ?_); rotate_left
            (intro wF; go_simp; try with_reducible rfl)
            (try simp only [Act.put, List.setIfInBounds_toArray, List.set_cons_zero, List.set_cons_succ])
            (refine floatM (i := 20) rfl (by kernel_rfl) (by kernel_rfl) (fun K hK => ?_)); go_simp
            refine hK.out _ _ (fun _ => T2) ?_
            clear hK K
            (try simp only [Act.put, List.setIfInBounds_toArray, List.set_cons_zero, List.set_cons_succ])
            (refine floatM (i := 21) rfl (by kernel_rfl) (by kernel_rfl) (fun K hK => ?_)); go_simp
            refine hK.out _ _ (fun _ => T3) ?_
            clear hK K
            (try simp only [Act.put, List.setIfInBounds_toArray, List.set_cons_zero, List.set_cons_succ])
            (refine float0 (i := 22) (v := ?_) rfl (by kernel_rfl) (by kernel_rfl) (by kernel_rfl) (by kernel_rfl) (fun _ _ _ h => h) (by rfl) ?_ ?_); rotate_left
            (intro wF; go_simp; try with_reducible rfl)
            (try simp only [Act.put, List.setIfInBounds_toArray, List.set_cons_zero, List.set_cons_succ])
            (refine floatM (i := 23) rfl (by kernel_rfl) (by kernel_rfl) (fun K hK => ?_)); go_simp
            refine hK.out _ _ (fun _ => T4) ?_
            clear hK K
            (try simp only [Act.put, List.setIfInBounds_toArray, List.set_cons_zero, List.set_cons_succ])
            (refine floatE (by kernel_rfl) ?_)
            have S11 : W4.drew.cell? ⟨x.tb, 0, none⟩ = some (.map (some x.tm)) ∧ W4.drew.cell? ⟨x.fb, 0, none⟩ = some (.map (some x.fm)) ∧ W4.drew.cell? ⟨bv, 0, none⟩ = some (.int .i64 v) ∧ W4.drew.cell? ⟨bu, 0, none⟩ = some (.int .i64 u) ∧ (Instr.lookup 225 (.map (some x.tm)) (.int .i64 v) false).run Tryz.prog W4.drew = .ok (.int .i64 ((lt0 (m ++ [(v, u)]) v : Nat) : Int)) W4.drew ∧ (Instr.lookup 225 (.map (some x.fm)) (.int .i64 u) false).run Tryz.prog W4.drew = .ok (.int .i64 ((rt0 (m ++ [(v, u)]) u : Nat) : Int)) W4.drew :=
              ⟨T4.1, T4.2.1, T4.2.2.1, T4.2.2.2, lt_run A5.out v (w := W4.drew) MT.out, rt_run A5.out u (w := W4.drew) MF.out⟩
            have e4 : (((lt0 (m ++ [(v, u)]) v : Nat) : Int) == (u : Int)) = true := by rw [lt0_snoc A3.out]; simp
            have e5 : (((rt0 (m ++ [(v, u)]) u : Nat) : Int) == (v : Int)) = true := by rw [rt0_snoc A4.out]; simp
            clear S10 T1 T2 T3 T4 n1 n2 n3 n4 e1 e2
            go_wp2_with fail
            refine wp_region_float (fun w' => w'.cell? ⟨x.tb, 0, none⟩ = some (.map (some x.tm)) ∧ w'.cell? ⟨x.fb, 0, none⟩ = some (.map (some x.fm)) ∧ w'.cell? ⟨bv, 0, none⟩ = some (.int .i64 v) ∧ w'.cell? ⟨bu, 0, none⟩ = some (.int .i64 u) ∧ (Instr.lookup 225 (.map (some x.tm)) (.int .i64 v) false).run Tryz.prog w' = .ok (.int .i64 ((lt0 (m ++ [(v, u)]) v : Nat) : Int)) w' ∧ (Instr.lookup 225 (.map (some x.fm)) (.int .i64 u) false).run Tryz.prog w' = .ok (.int .i64 ((rt0 (m ++ [(v, u)]) u : Nat) : Int)) w') [1, 2, 3, 6, 7, 8, 10, 11, 13, 14, 15, 18, 19, 20, 22, 23, 24] [0, 4, 5, 9, 12, 16, 17, 21] (by kernel_rfl) ?_
            (refine floatS (i := 0) (v := ?_) rfl (by kernel_rfl) (by kernel_rfl) (by kernel_rfl) (by kernel_rfl) (fun _ _ _ h => h) (by assumption) (by rfl) ?_ ?_); rotate_left
            (intro wF hF; (try dsimp only at hF); go_simp; try with_reducible rfl)
            (try simp only [Act.put, List.setIfInBounds_toArray, List.set_cons_zero, List.set_cons_succ])
            (refine float0 (i := 1) (v := ?_) rfl (by kernel_rfl) (by kernel_rfl) (by kernel_rfl) (by kernel_rfl) (fun _ _ _ h => h) (by rfl) ?_ ?_); rotate_left
            (intro wF; go_simp; try with_reducible rfl)
            (try simp only [Act.put, List.setIfInBounds_toArray, List.set_cons_zero, List.set_cons_succ])
            (refine float0 (i := 2) (v := ?_) rfl (by kernel_rfl) (by kernel_rfl) (by kernel_rfl) (by kernel_rfl) (fun _ _ _ h => h) (by rfl) ?_ ?_); rotate_left
            (intro wF; go_simp; try with_reducible rfl)
            (try simp only [Act.put, List.setIfInBounds_toArray, List.set_cons_zero, List.set_cons_succ])
            (refine float0 (i := 3) (v := ?_) rfl (by kernel_rfl) (by kernel_rfl) (by kernel_rfl) (by kernel_rfl) (fun _ _ _ h => h) (by rfl) ?_ ?_); rotate_left
            (intro wF; go_simp; try with_reducible rfl)
            (try simp only [Act.put, List.setIfInBounds_toArray, List.set_cons_zero, List.set_cons_succ])
            (refine floatS (i := 4) (v := ?_) rfl (by kernel_rfl) (by kernel_rfl) (by kernel_rfl) (by kernel_rfl) (fun _ _ _ h => h) (by assumption) (by rfl) ?_ ?_); rotate_left
            (intro wF hF; (try dsimp only at hF); go_simp; try with_reducible rfl)
            (try simp only [Act.put, List.setIfInBounds_toArray, List.set_cons_zero, List.set_cons_succ])
            (refine floatS (i := 5) (v := ?_) rfl (by kernel_rfl) (by kernel_rfl) (by kernel_rfl) (by kernel_rfl) (fun _ _ _ h => h) (by assumption) (by rfl) ?_ ?_); rotate_left
            (intro wF hF; (try dsimp only at hF); go_simp; try with_reducible rfl)
            (try simp only [Act.put, List.setIfInBounds_toArray, List.set_cons_zero, List.set_cons_succ])
            (refine float0 (i := 6) (v := ?_) rfl (by kernel_rfl) (by kernel_rfl) (by kernel_rfl) (by kernel_rfl) (fun _ _ _ h => h) (by rfl) ?_ ?_); rotate_left
            (intro wF; go_simp; try with_reducible rfl)
            (try simp only [Act.put, List.setIfInBounds_toArray, List.set_cons_zero, List.set_cons_succ])
            (refine float0 (i := 7) (v := ?_) rfl (by kernel_rfl) (by kernel_rfl) (by kernel_rfl) (by kernel_rfl) (fun _ _ _ h => h) (by rfl) ?_ ?_); rotate_left
            (intro wF; go_simp; try with_reducible rfl)
            (try simp only [Act.put, List.setIfInBounds_toArray, List.set_cons_zero, List.set_cons_succ])
            (refine float0 (i := 8) (v := ?_) rfl (by kernel_rfl) (by kernel_rfl) (by kernel_rfl) (by kernel_rfl) (fun _ _ _ h => h) (by rfl) ?_ ?_); rotate_left
            (intro wF; go_simp; try with_reducible rfl)
            (try simp only [Act.put, List.setIfInBounds_toArray, List.set_cons_zero, List.set_cons_succ])
            (refine floatS (i := 9) (v := ?_) rfl (by kernel_rfl) (by kernel_rfl) (by kernel_rfl) (by kernel_rfl) (fun _ _ _ h => h) (by assumption) (by rfl) ?_ ?_); rotate_left
            (intro wF hF; (try dsimp only at hF); go_simp; try with_reducible rfl)
            (try simp only [Act.put, List.setIfInBounds_toArray, List.set_cons_zero, List.set_cons_succ])
            (refine float0 (i := 10) (v := ?_) rfl (by kernel_rfl) (by kernel_rfl) (by kernel_rfl) (by kernel_rfl) (fun _ _ _ h => h) (by rfl) ?_ ?_); rotate_left
            (intro wF; go_simp; try with_reducible rfl)
            (try simp only [Act.put, List.setIfInBounds_toArray, List.set_cons_zero, List.set_cons_succ])
            (refine float0 (i := 11) (v := ?_) rfl (by kernel_rfl) (by kernel_rfl) (by kernel_rfl) (by kernel_rfl) (fun _ _ _ h => h) (by rfl) ?_ ?_); rotate_left
            (intro wF; go_simp; try with_reducible rfl)
            (try simp only [Act.put, List.setIfInBounds_toArray, List.set_cons_zero, List.set_cons_succ])
            (refine floatS (i := 12) (v := ?_) rfl (by kernel_rfl) (by kernel_rfl) (by kernel_rfl) (by kernel_rfl) (fun _ _ _ h => h) (by assumption) (by rfl) ?_ ?_); rotate_left
            (intro wF hF; (try dsimp only at hF); go_simp; try with_reducible rfl)
            (try simp only [Act.put, List.setIfInBounds_toArray, List.set_cons_zero, List.set_cons_succ])
            (refine float0 (i := 13) (v := ?_) rfl (by kernel_rfl) (by kernel_rfl) (by kernel_rfl) (by kernel_rfl) (fun _ _ _ h => h) (by rfl) ?_ ?_); rotate_left
            (intro wF; go_simp; try with_reducible rfl)
            (try simp only [Act.put, List.setIfInBounds_toArray, List.set_cons_zero, List.set_cons_succ])
            (refine float0 (i := 14) (v := ?_) rfl (by kernel_rfl) (by kernel_rfl) (by kernel_rfl) (by kernel_rfl) (fun _ _ _ h => h) (by rfl) ?_ ?_); rotate_left
            (intro wF; go_simp; try with_reducible rfl)
            (try simp only [Act.put, List.setIfInBounds_toArray, List.set_cons_zero, List.set_cons_succ])
            (refine float0 (i := 15) (v := ?_) rfl (by kernel_rfl) (by kernel_rfl) (by kernel_rfl) (by kernel_rfl) (fun _ _ _ h => h) (by rfl) ?_ ?_); rotate_left
            (intro wF; go_simp; try with_reducible rfl)
            (try simp only [Act.put, List.setIfInBounds_toArray, List.set_cons_zero, List.set_cons_succ])
            (refine floatS (i := 16) (v := ?_) rfl (by kernel_rfl) (by kernel_rfl) (by kernel_rfl) (by kernel_rfl) (fun _ _ _ h => h) (by assumption) (by rfl) ?_ ?_); rotate_left
            (intro wF hF; (try dsimp only at hF); go_simp; try with_reducible rfl)
            (try simp only [Act.put, List.setIfInBounds_toArray, List.set_cons_zero, List.set_cons_succ])
            (refine floatS (i := 17) (v := ?_) rfl (by kernel_rfl) (by kernel_rfl) (by kernel_rfl) (by kernel_rfl) (fun _ _ _ h => h) (by assumption) (by rfl) ?_ ?_); rotate_left
            (intro wF hF; (try dsimp only at hF); go_simp; try with_reducible rfl)
            (try simp only [Act.put, List.setIfInBounds_toArray, List.set_cons_zero, List.set_cons_succ])
            (refine float0 (i := 18) (v := ?_) rfl (by kernel_rfl) (by kernel_rfl) (by kernel_rfl) (by kernel_rfl) (fun _ _ _ h => h) (by rfl) ?_ ?_); rotate_left
            (intro wF; go_simp; try with_reducible rfl)
            (try simp only [Act.put, List.setIfInBounds_toArray, List.set_cons_zero, List.set_cons_succ])
            (refine float0 (i := 19) (v := ?_) rfl (by kernel_rfl) (by kernel_rfl) (by kernel_rfl) (by kernel_rfl) (fun _ _ _ h => h) (by rfl) ?_ ?_); rotate_left
            (intro wF; go_simp; try with_reducible rfl)
            (try simp only [Act.put, List.setIfInBounds_toArray, List.set_cons_zero, List.set_cons_succ])
            (refine float0 (i := 20) (v := ?_) rfl (by kernel_rfl) (by kernel_rfl) (by kernel_rfl) (by kernel_rfl) (fun _ _ _ h => h) (by rfl) ?_ ?_); rotate_left
            (intro wF; go_simp; try with_reducible rfl)
            (try simp only [Act.put, List.setIfInBounds_toArray, List.set_cons_zero, List.set_cons_succ])
            (refine floatS (i := 21) (v := ?_) rfl (by kernel_rfl) (by kernel_rfl) (by kernel_rfl) (by kernel_rfl) (fun _ _ _ h => h) (by assumption) (by rfl) ?_ ?_); rotate_left
            (intro wF hF; (try dsimp only at hF); go_simp; try with_reducible rfl)
            (try simp only [Act.put, List.setIfInBounds_toArray, List.set_cons_zero, List.set_cons_succ])
            (refine float0 (i := 22) (v := ?_) rfl (by kernel_rfl) (by kernel_rfl) (by kernel_rfl) (by kernel_rfl) (fun _ _ _ h => h) (by rfl) ?_ ?_); rotate_left
            (intro wF; go_simp; try with_reducible rfl)
            (try simp only [Act.put, List.setIfInBounds_toArray, List.set_cons_zero, List.set_cons_succ])
            (refine float0 (i := 23) (v := ?_) rfl (by kernel_rfl) (by kernel_rfl) (by kernel_rfl) (by kernel_rfl) (fun _ _ _ h => h) (by rfl) ?_ ?_); rotate_left
            (intro wF; go_simp; try with_reducible rfl)
            (try simp only [Act.put, List.setIfInBounds_toArray, List.set_cons_zero, List.set_cons_succ])
            (refine float0 (i := 24) (v := ?_) rfl (by kernel_rfl) (by kernel_rfl) (by kernel_rfl) (by kernel_rfl) (fun _ _ _ h => h) (by rfl) ?_ ?_); rotate_left
            (intro wF; go_simp; try with_reducible rfl)
            (try simp only [Act.put, List.setIfInBounds_toArray, List.set_cons_zero, List.set_cons_succ])
            (refine floatE (by kernel_rfl) ?_)
            go_wp2_with fail
            go_ret
            rw [← HRQ.out]
            exact alk_new HS.out HR2.out K6.out HK14.out MT.out MF.out A5.out
          | old a1 a2 a3 a4 =>
            have e1 : (((lt0 m v : Nat) : Int) == 0) = false := beq_eq_false_iff_ne.2 (by omega)
            have e2 : (((lt0 m v : Nat) : Int) == (u : Int)) = true := by rw [a1]; simp
            have e3 : (((rt0 m u : Nat) : Int) == (v : Int)) = true := by rw [a2]; simp
            clear a1 a2 a3 a4
            have S9 := HST.out w4.drew (K4.out.trans (Keep.drew _ _))
            go_wp2_with fail
            refine wp_region_float (fun w' => w'.cell? ⟨x.tb, 0, none⟩ = some (.map (some x.tm)) ∧ w'.cell? ⟨x.fb, 0, none⟩ = some (.map (some x.fm)) ∧ w'.cell? ⟨bv, 0, none⟩ = some (.int .i64 v) ∧ w'.cell? ⟨bu, 0, none⟩ = some (.int .i64 u) ∧ (Instr.lookup 225 (.map (some x.tm)) (.int .i64 v) false).run Tryz.prog w' = .ok (.int .i64 ((lt0 m v : Nat) : Int)) w' ∧ (Instr.lookup 225 (.map (some x.fm)) (.int .i64 u) false).run Tryz.prog w' = .ok (.int .i64 ((rt0 m u : Nat) : Int)) w') [1, 2, 3, 6, 7, 8, 9, 10, 11, 12, 13, 14, 15] [0, 4, 5] (by kernel_rfl) ?_
            (refine floatS (i := 0) (v := ?_) rfl (by kernel_rfl) (by kernel_rfl) (by kernel_rfl) (by kernel_rfl) (fun _ _ _ h => h) (by assumption) (by rfl) ?_ ?_); rotate_left
            (intro wF hF; (try dsimp only at hF); go_simp; try with_reducible rfl)
            (try simp only [Act.put, List.setIfInBounds_toArray, List.set_cons_zero, List.set_cons_succ])
            (refine float0 (i := 1) (v := ?_) rfl (by kernel_rfl) (by kernel_rfl) (by kernel_rfl) (by kernel_rfl) (fun _ _ _ h => h) (by rfl) ?_ ?_); rotate_left
            (intro wF; go_simp; try with_reducible rfl)
            (try simp only [Act.put, List.setIfInBounds_toArray, List.set_cons_zero, List.set_cons_succ])
            (refine float0 (i := 2) (v := ?_) rfl (by kernel_rfl) (by kernel_rfl) (by kernel_rfl) (by kernel_rfl) (fun _ _ _ h => h) (by rfl) ?_ ?_); rotate_left
            (intro wF; go_simp; try with_reducible rfl)
            (try simp only [Act.put, List.setIfInBounds_toArray, List.set_cons_zero, List.set_cons_succ])
            (refine float0 (i := 3) (v := ?_) rfl (by kernel_rfl) (by kernel_rfl) (by kernel_rfl) (by kernel_rfl) (fun _ _ _ h => h) (by rfl) ?_ ?_); rotate_left
            (intro wF; go_simp; try with_reducible rfl)
            (try simp only [Act.put, List.setIfInBounds_toArray, List.set_cons_zero, List.set_cons_succ])
            (refine floatS (i := 4) (v := ?_) rfl (by kernel_rfl) (by kernel_rfl) (by kernel_rfl) (by kernel_rfl) (fun _ _ _ h => h) (by assumption) (by rfl) ?_ ?_); rotate_left
            (intro wF hF; (try dsimp only at hF); go_simp; try with_reducible rfl)
            (try simp only [Act.put, List.setIfInBounds_toArray, List.set_cons_zero, List.set_cons_succ])
            (refine floatS (i := 5) (v := ?_) rfl (by kernel_rfl) (by kernel_rfl) (by kernel_rfl) (by kernel_rfl) (fun _ _ _ h => h) (by assumption) (by rfl) ?_ ?_); rotate_left
            (intro wF hF; (try dsimp only at hF); go_simp; try with_reducible rfl)
            (try simp only [Act.put, List.setIfInBounds_toArray, List.set_cons_zero, List.set_cons_succ])
            (refine float0 (i := 6) (v := ?_) rfl (by kernel_rfl) (by kernel_rfl) (by kernel_rfl) (by kernel_rfl) (fun _ _ _ h => h) (by rfl) ?_ ?_); rotate_left
            (intro wF; go_simp; try with_reducible rfl)
            (try simp only [Act.put, List.setIfInBounds_toArray, List.set_cons_zero, List.set_cons_succ])
            (refine float0 (i := 7) (v := ?_) rfl (by kernel_rfl) (by kernel_rfl) (by kernel_rfl) (by kernel_rfl) (fun _ _ _ h => h) (by rfl) ?_ ?_); rotate_left
            (intro wF; go_simp; try with_reducible rfl)
            (try simp only [Act.put, List.setIfInBounds_toArray, List.set_cons_zero, List.set_cons_succ])
            (refine floatU (i := 8) rfl (by kernel_rfl) (by kernel_rfl) (by kernel_rfl) (by kernel_rfl) (fun _ _ _ h => h) (by rfl) ?_)
            (try simp only [Act.put, List.setIfInBounds_toArray, List.set_cons_zero, List.set_cons_succ])
            (refine floatU (i := 9) rfl (by kernel_rfl) (by kernel_rfl) (by kernel_rfl) (by kernel_rfl) (fun _ _ _ h => h) (by rfl) ?_)
            (try simp only [Act.put, List.setIfInBounds_toArray, List.set_cons_zero, List.set_cons_succ])
            (refine floatU (i := 10) rfl (by kernel_rfl) (by kernel_rfl) (by kernel_rfl) (by kernel_rfl) (fun _ _ _ h => h) (by rfl) ?_)
            (try simp only [Act.put, List.setIfInBounds_toArray, List.set_cons_zero, List.set_cons_succ])
            (refine floatU (i := 11) rfl (by kernel_rfl) (by kernel_rfl) (by kernel_rfl) (by kernel_rfl) (fun _ _ _ h => h) (by rfl) ?_)
            (try simp only [Act.put, List.setIfInBounds_toArray, List.set_cons_zero, List.set_cons_succ])
            (refine floatU (i := 12) rfl (by kernel_rfl) (by kernel_rfl) (by kernel_rfl) (by kernel_rfl) (fun _ _ _ h => h) (by rfl) ?_)
            (try simp only [Act.put, List.setIfInBounds_toArray, List.set_cons_zero, List.set_cons_succ])
            (refine floatU (i := 13) rfl (by kernel_rfl) (by kernel_rfl) (by kernel_rfl) (by kernel_rfl) (fun _ _ _ h => h) (by rfl) ?_)
            (try simp only [Act.put, List.setIfInBounds_toArray, List.set_cons_zero, List.set_cons_succ])
            (refine floatU (i := 14) rfl (by kernel_rfl) (by kernel_rfl) (by kernel_rfl) (by kernel_rfl) (fun _ _ _ h => h) (by rfl) ?_)
            (try simp only [Act.put, List.setIfInBounds_toArray, List.set_cons_zero, List.set_cons_succ])
            (refine float0 (i := 15) (v := ?_) rfl (by kernel_rfl) (by kernel_rfl) (by kernel_rfl) (by kernel_rfl) (fun _ _ _ h => h) (by rfl) ?_ ?_); rotate_left
            (intro wF; go_simp; try with_reducible rfl)
            (try simp only [Act.put, List.setIfInBounds_toArray, List.set_cons_zero, List.set_cons_succ])
            (refine floatE (by kernel_rfl) ?_)
            clear S9
            have S11 := HST.out w4.drew.drew ((K4.out.trans (Keep.drew _ _)).trans (Keep.drew _ _))
            go_wp2_with fail
            refine wp_region_float (fun w' => w'.cell? ⟨x.tb, 0, none⟩ = some (.map (some x.tm)) ∧ w'.cell? ⟨x.fb, 0, none⟩ = some (.map (some x.fm)) ∧ w'.cell? ⟨bv, 0, none⟩ = some (.int .i64 v) ∧ w'.cell? ⟨bu, 0, none⟩ = some (.int .i64 u) ∧ (Instr.lookup 225 (.map (some x.tm)) (.int .i64 v) false).run Tryz.prog w' = .ok (.int .i64 ((lt0 m v : Nat) : Int)) w' ∧ (Instr.lookup 225 (.map (some x.fm)) (.int .i64 u) false).run Tryz.prog w' = .ok (.int .i64 ((rt0 m u : Nat) : Int)) w') [1, 2, 3, 6, 7, 8, 10, 11, 13, 14, 15, 18, 19, 20, 22, 23, 24] [0, 4, 5, 9, 12, 16, 17, 21] (by kernel_rfl) ?_
            (refine floatS (i := 0) (v := ?_) rfl (by kernel_rfl) (by kernel_rfl) (by kernel_rfl) (by kernel_rfl) (fun _ _ _ h => h) (by assumption) (by rfl) ?_ ?_); rotate_left
            (intro wF hF; (try dsimp only at hF); go_simp; try with_reducible rfl)
            (try simp only [Act.put, List.setIfInBounds_toArray, List.set_cons_zero, List.set_cons_succ])
            (refine float0 (i := 1) (v := ?_) rfl (by kernel_rfl) (by kernel_rfl) (by kernel_rfl) (by kernel_rfl) (fun _ _ _ h => h) (by rfl) ?_ ?_); rotate_left
            (intro wF; go_simp; try with_reducible rfl)
            (try simp only [Act.put, List.setIfInBounds_toArray, List.set_cons_zero, List.set_cons_succ])
            (refine float0 (i := 2) (v := ?_) rfl (by kernel_rfl) (by kernel_rfl) (by kernel_rfl) (by kernel_rfl) (fun _ _ _ h => h) (by rfl) ?_ ?_); rotate_left
            (intro wF; go_simp; try with_reducible rfl)
            (try simp only [Act.put, List.setIfInBounds_toArray, List.set_cons_zero, List.set_cons_succ])
            (refine float0 (i := 3) (v := ?_) rfl (by kernel_rfl) (by kernel_rfl) (by kernel_rfl) (by kernel_rfl) (fun _ _ _ h => h) (by rfl) ?_ ?_); rotate_left
            (intro wF; go_simp; try with_reducible rfl)
            (try simp only [Act.put, List.setIfInBounds_toArray, List.set_cons_zero, List.set_cons_succ])
            (refine floatS (i := 4) (v := ?_) rfl (by kernel_rfl) (by kernel_rfl) (by kernel_rfl) (by kernel_rfl) (fun _ _ _ h => h) (by assumption) (by rfl) ?_ ?_); rotate_left
            (intro wF hF; (try dsimp only at hF); go_simp; try with_reducible rfl)
            (try simp only [Act.put, List.setIfInBounds_toArray, List.set_cons_zero, List.set_cons_succ])
            (refine floatS (i := 5) (v := ?_) rfl (by kernel_rfl) (by kernel_rfl) (by kernel_rfl) (by kernel_rfl) (fun _ _ _ h => h) (by assumption) (by rfl) ?_ ?_); rotate_left
            (intro wF hF; (try dsimp only at hF); go_simp; try with_reducible rfl)
            (try simp only [Act.put, List.setIfInBounds_toArray, List.set_cons_zero, List.set_cons_succ])
            (refine float0 (i := 6) (v := ?_) rfl (by kernel_rfl) (by kernel_rfl) (by kernel_rfl) (by kernel_rfl) (fun _ _ _ h => h) (by rfl) ?_ ?_); rotate_left
            (intro wF; go_simp; try with_reducible rfl)
            (try simp only [Act.put, List.setIfInBounds_toArray, List.set_cons_zero, List.set_cons_succ])
            (refine float0 (i := 7) (v := ?_) rfl (by kernel_rfl) (by kernel_rfl) (by kernel_rfl) (by kernel_rfl) (fun _ _ _ h => h) (by rfl) ?_ ?_); rotate_left
            (intro wF; go_simp; try with_reducible rfl)
            (try simp only [Act.put, List.setIfInBounds_toArray, List.set_cons_zero, List.set_cons_succ])
            (refine float0 (i := 8) (v := ?_) rfl (by kernel_rfl) (by kernel_rfl) (by kernel_rfl) (by kernel_rfl) (fun _ _ _ h => h) (by rfl) ?_ ?_); rotate_left
            (intro wF; go_simp; try with_reducible rfl)
            (try simp only [Act.put, List.setIfInBounds_toArray, List.set_cons_zero, List.set_cons_succ])
            (refine floatS (i := 9) (v := ?_) rfl (by kernel_rfl) (by kernel_rfl) (by kernel_rfl) (by kernel_rfl) (fun _ _ _ h => h) (by assumption) (by rfl) ?_ ?_); rotate_left
            (intro wF hF; (try dsimp only at hF); go_simp; try with_reducible rfl)
            (try simp only [Act.put, List.setIfInBounds_toArray, List.set_cons_zero, List.set_cons_succ])
            (refine float0 (i := 10) (v := ?_) rfl (by kernel_rfl) (by kernel_rfl) (by kernel_rfl) (by kernel_rfl) (fun _ _ _ h => h) (by rfl) ?_ ?_); rotate_left
            (intro wF; go_simp; try with_reducible rfl)
            (try simp only [Act.put, List.setIfInBounds_toArray, List.set_cons_zero, List.set_cons_succ])
            (refine float0 (i := 11) (v := ?_) rfl (by kernel_rfl) (by kernel_rfl) (by kernel_rfl) (by kernel_rfl) (fun _ _ _ h => h) (by rfl) ?_ ?_); rotate_left
            (intro wF; go_simp; try with_reducible rfl)
            (try simp only [Act.put, List.setIfInBounds_toArray, List.set_cons_zero, List.set_cons_succ])
            (refine floatS (i := 12) (v := ?_) rfl (by kernel_rfl) (by kernel_rfl) (by kernel_rfl) (by kernel_rfl) (fun _ _ _ h => h) (by assumption) (by rfl) ?_ ?_); rotate_left
            (intro wF hF; (try dsimp only at hF); go_simp; try with_reducible rfl)
            (try simp only [Act.put, List.setIfInBounds_toArray, List.set_cons_zero, List.set_cons_succ])
            (refine float0 (i := 13) (v := ?_) rfl (by kernel_rfl) (by kernel_rfl) (by kernel_rfl) (by kernel_rfl) (fun _ _ _ h => h) (by rfl) ?_ ?_); rotate_left
            (intro wF; go_simp; try with_reducible rfl)
            (try simp only [Act.put, List.setIfInBounds_toArray, List.set_cons_zero, List.set_cons_succ])
            (refine float0 (i := 14) (v := ?_) rfl (by kernel_rfl) (by kernel_rfl) (by kernel_rfl) (by kernel_rfl) (fun _ _ _ h => h) (by rfl) ?_ ?_); rotate_left
            (intro wF; go_simp; try with_reducible rfl)
            (try simp only [Act.put, List.setIfInBounds_toArray, List.set_cons_zero, List.set_cons_succ])
            (refine float0 (i := 15) (v := ?_) rfl (by kernel_rfl) (by kernel_rfl) (by kernel_rfl) (by kernel_rfl) (fun _ _ _ h => h) (by rfl) ?_ ?_); rotate_left
            (intro wF; go_simp; try with_reducible rfl)
            (try simp only [Act.put, List.setIfInBounds_toArray, List.set_cons_zero, List.set_cons_succ])
            (refine floatS (i := 16) (v := ?_) rfl (by kernel_rfl) (by kernel_rfl) (by kernel_rfl) (by kernel_rfl) (fun _ _ _ h => h) (by assumption) (by rfl) ?_ ?_); rotate_left
            (intro wF hF; (try dsimp only at hF); go_simp; try with_reducible rfl)
            (try simp only [Act.put, List.setIfInBounds_toArray, List.set_cons_zero, List.set_cons_succ])
            (refine floatS (i := 17) (v := ?_) rfl (by kernel_rfl) (by kernel_rfl) (by kernel_rfl) (by kernel_rfl) (fun _ _ _ h => h) (by assumption) (by rfl) ?_ ?_); rotate_left
            (intro wF hF; (try dsimp only at hF); go_simp; try with_reducible rfl)
            (try simp only [Act.put, List.setIfInBounds_toArray, List.set_cons_zero, List.set_cons_succ])
            (refine float0 (i := 18) (v := ?_) rfl (by kernel_rfl) (by kernel_rfl) (by kernel_rfl) (by kernel_rfl) (fun _ _ _ h => h) (by rfl) ?_ ?_); rotate_left
            (intro wF; go_simp; try with_reducible rfl)
            (try simp only [Act.put, List.setIfInBounds_toArray, List.set_cons_zero, List.set_cons_succ])
            (refine float0 (i := 19) (v := ?_) rfl (by kernel_rfl) (by kernel_rfl) (by kernel_rfl) (by kernel_rfl) (fun _ _ _ h => h) (by rfl) ?_ ?_); rotate_left
            (intro wF; go_simp; try with_reducible rfl)
            (try simp only [Act.put, List.setIfInBounds_toArray, List.set_cons_zero, List.set_cons_succ])
            (refine float0 (i := 20) (v := ?_) rfl (by kernel_rfl) (by kernel_rfl) (by kernel_rfl) (by kernel_rfl) (fun _ _ _ h => h) (by rfl) ?_ ?_); rotate_left
            (intro wF; go_simp; try with_reducible rfl)
            (try simp only [Act.put, List.setIfInBounds_toArray, List.set_cons_zero, List.set_cons_succ])
            (refine floatS (i := 21) (v := ?_) rfl (by kernel_rfl) (by kernel_rfl) (by kernel_rfl) (by kernel_rfl) (fun _ _ _ h => h) (by assumption) (by rfl) ?_ ?_); rotate_left
            (intro wF hF; (try dsimp only at hF); go_simp; try with_reducible rfl)
            (try simp only [Act.put, List.setIfInBounds_toArray, List.set_cons_zero, List.set_cons_succ])
            (refine float0 (i := 22) (v := ?_) rfl (by kernel_rfl) (by kernel_rfl) (by kernel_rfl) (by kernel_rfl) (fun _ _ _ h => h) (by rfl) ?_ ?_); rotate_left
            (intro wF; go_simp; try with_reducible rfl)
            (try simp only [Act.put, List.setIfInBounds_toArray, List.set_cons_zero, List.set_cons_succ])
            (refine float0 (i := 23) (v := ?_) rfl (by kernel_rfl) (by kernel_rfl) (by kernel_rfl) (by kernel_rfl) (fun _ _ _ h => h) (by rfl) ?_ ?_); rotate_left
            (intro wF; go_simp; try with_reducible rfl)
            (try simp only [Act.put, List.setIfInBounds_toArray, List.set_cons_zero, List.set_cons_succ])
            (refine float0 (i := 24) (v := ?_) rfl (by kernel_rfl) (by kernel_rfl) (by kernel_rfl) (by kernel_rfl) (fun _ _ _ h => h) (by rfl) ?_ ?_); rotate_left
            (intro wF; go_simp; try with_reducible rfl)
            (try simp only [Act.put, List.setIfInBounds_toArray, List.set_cons_zero, List.set_cons_succ])
            (refine floatE (by kernel_rfl) ?_)
            go_wp2_with fail
            go_ret
            rw [← HRQ.out]
            have S6 := HS.out.trans (Same.of0 HS.out.inv ((K4.out.trans (Keep.drew _ _)).trans (Keep.drew _ _)))
            exact ⟨rfl, S6.s, fun m' e => by injection e with e; subst e; exact HRR.out.stable S6⟩
          | bad1 a1 a2 =>
            have e1 : (((lt0 m v : Nat) : Int) == 0) = false := beq_eq_false_iff_ne.2 (by omega)
            have e2 : (((lt0 m v : Nat) : Int) == (u : Int)) = false := beq_eq_false_iff_ne.2 (by omega)
            clear a1 a2
            have S9 := HST.out w4.drew (K4.out.trans (Keep.drew _ _))
            go_wp2_with fail
            refine wp_region_float (fun w' => w'.cell? ⟨x.tb, 0, none⟩ = some (.map (some x.tm)) ∧ w'.cell? ⟨x.fb, 0, none⟩ = some (.map (some x.fm)) ∧ w'.cell? ⟨bv, 0, none⟩ = some (.int .i64 v) ∧ w'.cell? ⟨bu, 0, none⟩ = some (.int .i64 u) ∧ (Instr.lookup 225 (.map (some x.tm)) (.int .i64 v) false).run Tryz.prog w' = .ok (.int .i64 ((lt0 m v : Nat) : Int)) w' ∧ (Instr.lookup 225 (.map (some x.fm)) (.int .i64 u) false).run Tryz.prog w' = .ok (.int .i64 ((rt0 m u : Nat) : Int)) w') [1, 2, 3, 6, 7, 8, 9, 10, 11, 12, 13, 14, 15] [0, 4, 5] (by kernel_rfl) ?_
            (refine floatS (i := 0) (v := ?_) rfl (by kernel_rfl) (by kernel_rfl) (by kernel_rfl) (by kernel_rfl) (fun _ _ _ h => h) (by assumption) (by rfl) ?_ ?_); rotate_left
            (intro wF hF; (try dsimp only at hF); go_simp; try with_reducible rfl)
            (try simp only [Act.put, List.setIfInBounds_toArray, List.set_cons_zero, List.set_cons_succ])
            (refine float0 (i := 1) (v := ?_) rfl (by kernel_rfl) (by kernel_rfl) (by kernel_rfl) (by kernel_rfl) (fun _ _ _ h => h) (by rfl) ?_ ?_); rotate_left
            (intro wF; go_simp; try with_reducible rfl)
            (try simp only [Act.put, List.setIfInBounds_toArray, List.set_cons_zero, List.set_cons_succ])
            (refine float0 (i := 2) (v := ?_) rfl (by kernel_rfl) (by kernel_rfl) (by kernel_rfl) (by kernel_rfl) (fun _ _ _ h => h) (by rfl) ?_ ?_); rotate_left
            (intro wF; go_simp; try with_reducible rfl)
            (try simp only [Act.put, List.setIfInBounds_toArray, List.set_cons_zero, List.set_cons_succ])
            (refine float0 (i := 3) (v := ?_) rfl (by kernel_rfl) (by kernel_rfl) (by kernel_rfl) (by kernel_rfl) (fun _ _ _ h => h) (by rfl) ?_ ?_); rotate_left
            (intro wF; go_simp; try with_reducible rfl)
            (try simp only [Act.put, List.setIfInBounds_toArray, List.set_cons_zero, List.set_cons_succ])
            (refine floatS (i := 4) (v := ?_) rfl (by kernel_rfl) (by kernel_rfl) (by kernel_rfl) (by kernel_rfl) (fun _ _ _ h => h) (by assumption) (by rfl) ?_ ?_); rotate_left
            (intro wF hF; (try dsimp only at hF); go_simp; try with_reducible rfl)
            (try simp only [Act.put, List.setIfInBounds_toArray, List.set_cons_zero, List.set_cons_succ])
            (refine floatS (i := 5) (v := ?_) rfl (by kernel_rfl) (by kernel_rfl) (by kernel_rfl) (by kernel_rfl) (fun _ _ _ h => h) (by assumption) (by rfl) ?_ ?_); rotate_left
            (intro wF hF; (try dsimp only at hF); go_simp; try with_reducible rfl)
            (try simp only [Act.put, List.setIfInBounds_toArray, List.set_cons_zero, List.set_cons_succ])
            (refine float0 (i := 6) (v := ?_) rfl (by kernel_rfl) (by kernel_rfl) (by kernel_rfl) (by kernel_rfl) (fun _ _ _ h => h) (by rfl) ?_ ?_); rotate_left
            (intro wF; go_simp; try with_reducible rfl)
            (try simp only [Act.put, List.setIfInBounds_toArray, List.set_cons_zero, List.set_cons_succ])
            (refine float0 (i := 7) (v := ?_) rfl (by kernel_rfl) (by kernel_rfl) (by kernel_rfl) (by kernel_rfl) (fun _ _ _ h => h) (by rfl) ?_ ?_); rotate_left
            (intro wF; go_simp; try with_reducible rfl)
            (try simp only [Act.put, List.setIfInBounds_toArray, List.set_cons_zero, List.set_cons_succ])
            (refine floatU (i := 8) rfl (by kernel_rfl) (by kernel_rfl) (by kernel_rfl) (by kernel_rfl) (fun _ _ _ h => h) (by rfl) ?_)
            (try simp only [Act.put, List.setIfInBounds_toArray, List.set_cons_zero, List.set_cons_succ])
            (refine floatU (i := 9) rfl (by kernel_rfl) (by kernel_rfl) (by kernel_rfl) (by kernel_rfl) (fun _ _ _ h => h) (by rfl) ?_)
            (try simp only [Act.put, List.setIfInBounds_toArray, List.set_cons_zero, List.set_cons_succ])
            (refine floatU (i := 10) rfl (by kernel_rfl) (by kernel_rfl) (by kernel_rfl) (by kernel_rfl) (fun _ _ _ h => h) (by rfl) ?_)
            (try simp only [Act.put, List.setIfInBounds_toArray, List.set_cons_zero, List.set_cons_succ])
            (refine floatU (i := 11) rfl (by kernel_rfl) (by kernel_rfl) (by kernel_rfl) (by kernel_rfl) (fun _ _ _ h => h) (by rfl) ?_)
            (try simp only [Act.put, List.setIfInBounds_toArray, List.set_cons_zero, List.set_cons_succ])
            (refine floatU (i := 12) rfl (by kernel_rfl) (by kernel_rfl) (by kernel_rfl) (by kernel_rfl) (fun _ _ _ h => h) (by rfl) ?_)
            (try simp only [Act.put, List.setIfInBounds_toArray, List.set_cons_zero, List.set_cons_succ])
            (refine floatU (i := 13) rfl (by kernel_rfl) (by kernel_rfl) (by kernel_rfl) (by kernel_rfl) (fun _ _ _ h => h) (by rfl) ?_)
            (try simp only [Act.put, List.setIfInBounds_toArray, List.set_cons_zero, List.set_cons_succ])
            (refine floatU (i := 14) rfl (by kernel_rfl) (by kernel_rfl) (by kernel_rfl) (by kernel_rfl) (fun _ _ _ h => h) (by rfl) ?_)
            (try simp only [Act.put, List.setIfInBounds_toArray, List.set_cons_zero, List.set_cons_succ])
            (refine float0 (i := 15) (v := ?_) rfl (by kernel_rfl) (by kernel_rfl) (by kernel_rfl) (by kernel_rfl) (fun _ _ _ h => h) (by rfl) ?_ ?_); rotate_left
            (intro wF; go_simp; try with_reducible rfl)
            (try simp only [Act.put, List.setIfInBounds_toArray, List.set_cons_zero, List.set_cons_succ])
            (refine floatE (by kernel_rfl) ?_)
            clear S9
            have S11 := HST.out w4.drew.drew ((K4.out.trans (Keep.drew _ _)).trans (Keep.drew _ _))
            go_wp2_with fail
            refine wp_region_float (fun w' => w'.cell? ⟨x.tb, 0, none⟩ = some (.map (some x.tm)) ∧ w'.cell? ⟨x.fb, 0, none⟩ = some (.map (some x.fm)) ∧ w'.cell? ⟨bv, 0, none⟩ = some (.int .i64 v) ∧ w'.cell? ⟨bu, 0, none⟩ = some (.int .i64 u) ∧ (Instr.lookup 225 (.map (some x.tm)) (.int .i64 v) false).run Tryz.prog w' = .ok (.int .i64 ((lt0 m v : Nat) : Int)) w' ∧ (Instr.lookup 225 (.map (some x.fm)) (.int .i64 u) false).run Tryz.prog w' = .ok (.int .i64 ((rt0 m u : Nat) : Int)) w') [1, 2, 3, 6, 7, 8, 10, 11, 12, 13, 14, 15, 16, 17, 18, 19, 20, 21, 22, 23, 24] [0, 4, 5, 9] (by kernel_rfl) ?_
            (refine floatS (i := 0) (v := ?_) rfl (by kernel_rfl) (by kernel_rfl) (by kernel_rfl) (by kernel_rfl) (fun _ _ _ h => h) (by assumption) (by rfl) ?_ ?_); rotate_left
            (intro wF hF; (try dsimp only at hF); go_simp; try with_reducible rfl)
            (try simp only [Act.put, List.setIfInBounds_toArray, List.set_cons_zero, List.set_cons_succ])
            (refine float0 (i := 1) (v := ?_) rfl (by kernel_rfl) (by kernel_rfl) (by kernel_rfl) (by kernel_rfl) (fun _ _ _ h => h) (by rfl) ?_ ?_); rotate_left
            (intro wF; go_simp; try with_reducible rfl)
            (try simp only [Act.put, List.setIfInBounds_toArray, List.set_cons_zero, List.set_cons_succ])
            (refine float0 (i := 2) (v := ?_) rfl (by kernel_rfl) (by kernel_rfl) (by kernel_rfl) (by kernel_rfl) (fun _ _ _ h => h) (by rfl) ?_ ?_); rotate_left
            (intro wF; go_simp; try with_reducible rfl)
            (try simp only [Act.put, List.setIfInBounds_toArray, List.set_cons_zero, List.set_cons_succ])
            (refine float0 (i := 3) (v := ?_) rfl (by kernel_rfl) (by kernel_rfl) (by kernel_rfl) (by kernel_rfl) (fun _ _ _ h => h) (by rfl) ?_ ?_); rotate_left
            (intro wF; go_simp; try with_reducible rfl)
            (try simp only [Act.put, List.setIfInBounds_toArray, List.set_cons_zero, List.set_cons_succ])
            (refine floatS (i := 4) (v := ?_) rfl (by kernel_rfl) (by kernel_rfl) (by kernel_rfl) (by kernel_rfl) (fun _ _ _ h => h) (by assumption) (by rfl) ?_ ?_); rotate_left
            (intro wF hF; (try dsimp only at hF); go_simp; try with_reducible rfl)
            (try simp only [Act.put, List.setIfInBounds_toArray, List.set_cons_zero, List.set_cons_succ])
            (refine floatS (i := 5) (v := ?_) rfl (by kernel_rfl) (by kernel_rfl) (by kernel_rfl) (by kernel_rfl) (fun _ _ _ h => h) (by assumption) (by rfl) ?_ ?_); rotate_left
            (intro wF hF; (try dsimp only at hF); go_simp; try with_reducible rfl)
            (try simp only [Act.put, List.setIfInBounds_toArray, List.set_cons_zero, List.set_cons_succ])
            (refine float0 (i := 6) (v := ?_) rfl (by kernel_rfl) (by kernel_rfl) (by kernel_rfl) (by kernel_rfl) (fun _ _ _ h => h) (by rfl) ?_ ?_); rotate_left
            (intro wF; go_simp; try with_reducible rfl)
            (try simp only [Act.put, List.setIfInBounds_toArray, List.set_cons_zero, List.set_cons_succ])
            (refine float0 (i := 7) (v := ?_) rfl (by kernel_rfl) (by kernel_rfl) (by kernel_rfl) (by kernel_rfl) (fun _ _ _ h => h) (by rfl) ?_ ?_); rotate_left
            (intro wF; go_simp; try with_reducible rfl)
            (try simp only [Act.put, List.setIfInBounds_toArray, List.set_cons_zero, List.set_cons_succ])
            (refine float0 (i := 8) (v := ?_) rfl (by kernel_rfl) (by kernel_rfl) (by kernel_rfl) (by kernel_rfl) (fun _ _ _ h => h) (by rfl) ?_ ?_); rotate_left
            (intro wF; go_simp; try with_reducible rfl)
            (try simp only [Act.put, List.setIfInBounds_toArray, List.set_cons_zero, List.set_cons_succ])
            (refine floatS (i := 9) (v := ?_) rfl (by kernel_rfl) (by kernel_rfl) (by kernel_rfl) (by kernel_rfl) (fun _ _ _ h => h) (by assumption) (by rfl) ?_ ?_); rotate_left
            (intro wF hF; (try dsimp only at hF); go_simp; try with_reducible rfl)
            (try simp only [Act.put, List.setIfInBounds_toArray, List.set_cons_zero, List.set_cons_succ])
            (refine float0 (i := 10) (v := ?_) rfl (by kernel_rfl) (by kernel_rfl) (by kernel_rfl) (by kernel_rfl) (fun _ _ _ h => h) (by rfl) ?_ ?_); rotate_left
            (intro wF; go_simp; try with_reducible rfl)
            (try simp only [Act.put, List.setIfInBounds_toArray, List.set_cons_zero, List.set_cons_succ])
            (refine float0 (i := 11) (v := ?_) rfl (by kernel_rfl) (by kernel_rfl) (by kernel_rfl) (by kernel_rfl) (fun _ _ _ h => h) (by rfl) ?_ ?_); rotate_left
            (intro wF; go_simp; try with_reducible rfl)
            (try simp only [Act.put, List.setIfInBounds_toArray, List.set_cons_zero, List.set_cons_succ])
            (refine floatU (i := 12) rfl (by kernel_rfl) (by kernel_rfl) (by kernel_rfl) (by kernel_rfl) (fun _ _ _ h => h) (by rfl) ?_)
            (try simp only [Act.put, List.setIfInBounds_toArray, List.set_cons_zero, List.set_cons_succ])
            (refine floatU (i := 13) rfl (by kernel_rfl) (by kernel_rfl) (by kernel_rfl) (by kernel_rfl) (fun _ _ _ h => h) (by rfl) ?_)
            (try simp only [Act.put, List.setIfInBounds_toArray, List.set_cons_zero, List.set_cons_succ])
            (refine floatU (i := 14) rfl (by kernel_rfl) (by kernel_rfl) (by kernel_rfl) (by kernel_rfl) (fun _ _ _ h => h) (by rfl) ?_)
            (try simp only [Act.put, List.setIfInBounds_toArray, List.set_cons_zero, List.set_cons_succ])
            (refine floatU (i := 15) rfl (by kernel_rfl) (by kernel_rfl) (by kernel_rfl) (by kernel_rfl) (fun _ _ _ h => h) (by rfl) ?_)
            (try simp only [Act.put, List.setIfInBounds_toArray, List.set_cons_zero, List.set_cons_succ])
            (refine floatU (i := 16) rfl (by kernel_rfl) (by kernel_rfl) (by kernel_rfl) (by kernel_rfl) (fun _ _ _ h => h) (by rfl) ?_)
            (try simp only [Act.put, List.setIfInBounds_toArray, List.set_cons_zero, List.set_cons_succ])
            (refine floatU (i := 17) rfl (by kernel_rfl) (by kernel_rfl) (by kernel_rfl) (by kernel_rfl) (fun _ _ _ h => h) (by rfl) ?_)
            (try simp only [Act.put, List.setIfInBounds_toArray, List.set_cons_zero, List.set_cons_succ])
            (refine floatU (i := 18) rfl (by kernel_rfl) (by kernel_rfl) (by kernel_rfl) (by kernel_rfl) (fun _ _ _ h => h) (by rfl) ?_)
            (try simp only [Act.put, List.setIfInBounds_toArray, List.set_cons_zero, List.set_cons_succ])
            (refine floatU (i := 19) rfl (by kernel_rfl) (by kernel_rfl) (by kernel_rfl) (by kernel_rfl) (fun _ _ _ h => h) (by rfl) ?_)
            (try simp only [Act.put, List.setIfInBounds_toArray, List.set_cons_zero, List.set_cons_succ])
            (refine floatU (i := 20) rfl (by kernel_rfl) (by kernel_rfl) (by kernel_rfl) (by kernel_rfl) (fun _ _ _ h => h) (by rfl) ?_)
            (try simp only [Act.put, List.setIfInBounds_toArray, List.set_cons_zero, List.set_cons_succ])
            (refine floatU (i := 21) rfl (by kernel_rfl) (by kernel_rfl) (by kernel_rfl) (by kernel_rfl) (fun _ _ _ h => h) (by rfl) ?_)
            (try simp only [Act.put, List.setIfInBounds_toArray, List.set_cons_zero, List.set_cons_succ])
            (refine floatU (i := 22) rfl (by kernel_rfl) (by kernel_rfl) (by kernel_rfl) (by kernel_rfl) (fun _ _ _ h => h) (by rfl) ?_)
            (try simp only [Act.put, List.setIfInBounds_toArray, List.set_cons_zero, List.set_cons_succ])
            (refine float0 (i := 23) (v := ?_) rfl (by kernel_rfl) (by kernel_rfl) (by kernel_rfl) (by kernel_rfl) (fun _ _ _ h => h) (by rfl) ?_ ?_); rotate_left
            (intro wF; go_simp; try with_reducible rfl)
            (try simp only [Act.put, List.setIfInBounds_toArray, List.set_cons_zero, List.set_cons_succ])
            (refine float0 (i := 24) (v := ?_) rfl (by kernel_rfl) (by kernel_rfl) (by kernel_rfl) (by kernel_rfl) (fun _ _ _ h => h) (by rfl) ?_ ?_); rotate_left
            (intro wF; go_simp; try with_reducible rfl)
            (try simp only [Act.put, List.setIfInBounds_toArray, List.set_cons_zero, List.set_cons_succ])
            (refine floatE (by kernel_rfl) ?_)
            go_wp2_with fail
            go_ret
            rw [← HRQ.out]
            exact ⟨rfl, (HS.out.trans (Same.of0 HS.out.inv ((K4.out.trans (Keep.drew _ _)).trans (Keep.drew _ _)))).s, fun m' e => by cases e⟩
          | bad2 a1 a2 a3 =>
            have e1 : (((lt0 m v : Nat) : Int) == 0) = true := by rw [a1]; rfl
            have e2 : (((rt0 m u : Nat) : Int) == 0) = false := beq_eq_false_iff_ne.2 (by omega)
            have e3 : (((lt0 m v : Nat) : Int) == (u : Int)) = false := beq_eq_false_iff_ne.2 (by omega)
            clear a1 a2 a3
            have S9 := HST.out w4.drew (K4.out.trans (Keep.drew _ _))
            go_wp2_with fail
            refine wp_region_float (fun w' => w'.cell? ⟨x.tb, 0, none⟩ = some (.map (some x.tm)) ∧ w'.cell? ⟨x.fb, 0, none⟩ = some (.map (some x.fm)) ∧ w'.cell? ⟨bv, 0, none⟩ = some (.int .i64 v) ∧ w'.cell? ⟨bu, 0, none⟩ = some (.int .i64 u) ∧ (Instr.lookup 225 (.map (some x.tm)) (.int .i64 v) false).run Tryz.prog w' = .ok (.int .i64 ((lt0 m v : Nat) : Int)) w' ∧ (Instr.lookup 225 (.map (some x.fm)) (.int .i64 u) false).run Tryz.prog w' = .ok (.int .i64 ((rt0 m u : Nat) : Int)) w') [1, 2, 3, 6, 7, 9, 10, 11, 14, 15] [0, 4, 5, 8, 12, 13] (by kernel_rfl) ?_
            (refine floatS (i := 0) (v := ?_) rfl (by kernel_rfl) (by kernel_rfl) (by kernel_rfl) (by kernel_rfl) (fun _ _ _ h => h) (by assumption) (by rfl) ?_ ?_); rotate_left
            (intro wF hF; (try dsimp only at hF); go_simp; try with_reducible rfl)
            (try simp only [Act.put, List.setIfInBounds_toArray, List.set_cons_zero, List.set_cons_succ])
            (refine float0 (i := 1) (v := ?_) rfl (by kernel_rfl) (by kernel_rfl) (by kernel_rfl) (by kernel_rfl) (fun _ _ _ h => h) (by rfl) ?_ ?_); rotate_left
            (intro wF; go_simp; try with_reducible rfl)
            (try simp only [Act.put, List.setIfInBounds_toArray, List.set_cons_zero, List.set_cons_succ])
            (refine float0 (i := 2) (v := ?_) rfl (by kernel_rfl) (by kernel_rfl) (by kernel_rfl) (by kernel_rfl) (fun _ _ _ h => h) (by rfl) ?_ ?_); rotate_left
            (intro wF; go_simp; try with_reducible rfl)
            (try simp only [Act.put, List.setIfInBounds_toArray, List.set_cons_zero, List.set_cons_succ])
            (refine float0 (i := 3) (v := ?_) rfl (by kernel_rfl) (by kernel_rfl) (by kernel_rfl) (by kernel_rfl) (fun _ _ _ h => h) (by rfl) ?_ ?_); rotate_left
            (intro wF; go_simp; try with_reducible rfl)
            (try simp only [Act.put, List.setIfInBounds_toArray, List.set_cons_zero, List.set_cons_succ])
            (refine floatS (i := 4) (v := ?_) rfl (by kernel_rfl) (by kernel_rfl) (by kernel_rfl) (by kernel_rfl) (fun _ _ _ h => h) (by assumption) (by rfl) ?_ ?_); rotate_left
            (intro wF hF; (try dsimp only at hF); go_simp; try with_reducible rfl)
            (try simp only [Act.put, List.setIfInBounds_toArray, List.set_cons_zero, List.set_cons_succ])
            (refine floatS (i := 5) (v := ?_) rfl (by kernel_rfl) (by kernel_rfl) (by kernel_rfl) (by kernel_rfl) (fun _ _ _ h => h) (by assumption) (by rfl) ?_ ?_); rotate_left
            (intro wF hF; (try dsimp only at hF); go_simp; try with_reducible rfl)
            (try simp only [Act.put, List.setIfInBounds_toArray, List.set_cons_zero, List.set_cons_succ])
            (refine float0 (i := 6) (v := ?_) rfl (by kernel_rfl) (by kernel_rfl) (by kernel_rfl) (by kernel_rfl) (fun _ _ _ h => h) (by rfl) ?_ ?_); rotate_left
            (intro wF; go_simp; try with_reducible rfl)
            (try simp only [Act.put, List.setIfInBounds_toArray, List.set_cons_zero, List.set_cons_succ])
            (refine float0 (i := 7) (v := ?_) rfl (by kernel_rfl) (by kernel_rfl) (by kernel_rfl) (by kernel_rfl) (fun _ _ _ h => h) (by rfl) ?_ ?_); rotate_left
            (intro wF; go_simp; try with_reducible rfl)
            (try simp only [Act.put, List.setIfInBounds_toArray, List.set_cons_zero, List.set_cons_succ])
            (refine floatS (i := 8) (v := ?_) rfl (by kernel_rfl) (by kernel_rfl) (by kernel_rfl) (by kernel_rfl) (fun _ _ _ h => h) (by assumption) (by rfl) ?_ ?_); rotate_left
            (intro wF hF; (try dsimp only at hF); go_simp; try with_reducible rfl)
            (try simp only [Act.put, List.setIfInBounds_toArray, List.set_cons_zero, List.set_cons_succ])
            (refine float0 (i := 9) (v := ?_) rfl (by kernel_rfl) (by kernel_rfl) (by kernel_rfl) (by kernel_rfl) (fun _ _ _ h => h) (by rfl) ?_ ?_); rotate_left
            (intro wF; go_simp; try with_reducible rfl)
            (try simp only [Act.put, List.setIfInBounds_toArray, List.set_cons_zero, List.set_cons_succ])
            (refine float0 (i := 10) (v := ?_) rfl (by kernel_rfl) (by kernel_rfl) (by kernel_rfl) (by kernel_rfl) (fun _ _ _ h => h) (by rfl) ?_ ?_); rotate_left
            (intro wF; go_simp; try with_reducible rfl)
            (try simp only [Act.put, List.setIfInBounds_toArray, List.set_cons_zero, List.set_cons_succ])
            (refine float0 (i := 11) (v := ?_) rfl (by kernel_rfl) (by kernel_rfl) (by kernel_rfl) (by kernel_rfl) (fun _ _ _ h => h) (by rfl) ?_ ?_); rotate_left
            (intro wF; go_simp; try with_reducible rfl)
            (try simp only [Act.put, List.setIfInBounds_toArray, List.set_cons_zero, List.set_cons_succ])
            (refine floatS (i := 12) (v := ?_) rfl (by kernel_rfl) (by kernel_rfl) (by kernel_rfl) (by kernel_rfl) (fun _ _ _ h => h) (by assumption) (by rfl) ?_ ?_); rotate_left
            (intro wF hF; (try dsimp only at hF); go_simp; try with_reducible rfl)
            (try simp only [Act.put, List.setIfInBounds_toArray, List.set_cons_zero, List.set_cons_succ])
            (refine floatS (i := 13) (v := ?_) rfl (by kernel_rfl) (by kernel_rfl) (by kernel_rfl) (by kernel_rfl) (fun _ _ _ h => h) (by assumption) (by rfl) ?_ ?_); rotate_left
            (intro wF hF; (try dsimp only at hF); go_simp; try with_reducible rfl)
            (try simp only [Act.put, List.setIfInBounds_toArray, List.set_cons_zero, List.set_cons_succ])
            (refine float0 (i := 14) (v := ?_) rfl (by kernel_rfl) (by kernel_rfl) (by kernel_rfl) (by kernel_rfl) (fun _ _ _ h => h) (by rfl) ?_ ?_); rotate_left
            (intro wF; go_simp; try with_reducible rfl)
            (try simp only [Act.put, List.setIfInBounds_toArray, List.set_cons_zero, List.set_cons_succ])
            (refine float0 (i := 15) (v := ?_) rfl (by kernel_rfl) (by kernel_rfl) (by kernel_rfl) (by kernel_rfl) (fun _ _ _ h => h) (by rfl) ?_ ?_); rotate_left
            (intro wF; go_simp; try with_reducible rfl)
            (try simp only [Act.put, List.setIfInBounds_toArray, List.set_cons_zero, List.set_cons_succ])
            (refine floatE (by kernel_rfl) ?_)
            clear S9
            have S11 := HST.out w4.drew.drew ((K4.out.trans (Keep.drew _ _)).trans (Keep.drew _ _))
            go_wp2_with fail
            refine wp_region_float (fun w' => w'.cell? ⟨x.tb, 0, none⟩ = some (.map (some x.tm)) ∧ w'.cell? ⟨x.fb, 0, none⟩ = some (.map (some x.fm)) ∧ w'.cell? ⟨bv, 0, none⟩ = some (.int .i64 v) ∧ w'.cell? ⟨bu, 0, none⟩ = some (.int .i64 u) ∧ (Instr.lookup 225 (.map (some x.tm)) (.int .i64 v) false).run Tryz.prog w' = .ok (.int .i64 ((lt0 m v : Nat) : Int)) w' ∧ (Instr.lookup 225 (.map (some x.fm)) (.int .i64 u) false).run Tryz.prog w' = .ok (.int .i64 ((rt0 m u : Nat) : Int)) w') [1, 2, 3, 6, 7, 8, 10, 11, 12, 13, 14, 15, 16, 17, 18, 19, 20, 21, 22, 23, 24] [0, 4, 5, 9] (by kernel_rfl) ?_
            (refine floatS (i := 0) (v := ?_) rfl (by kernel_rfl) (by kernel_rfl) (by kernel_rfl) (by kernel_rfl) (fun _ _ _ h => h) (by assumption) (by rfl) ?_ ?_); rotate_left
            (intro wF hF; (try dsimp only at hF); go_simp; try with_reducible rfl)
            (try simp only [Act.put, List.setIfInBounds_toArray, List.set_cons_zero, List.set_cons_succ])
            (refine float0 (i := 1) (v := ?_) rfl (by kernel_rfl) (by kernel_rfl) (by kernel_rfl) (by kernel_rfl) (fun _ _ _ h => h) (by rfl) ?_ ?_); rotate_left
            (intro wF; go_simp; try with_reducible rfl)
            (try simp only [Act.put, List.setIfInBounds_toArray, List.set_cons_zero, List.set_cons_succ])
            (refine float0 (i := 2) (v := ?_) rfl (by kernel_rfl) (by kernel_rfl) (by kernel_rfl) (by kernel_rfl) (fun _ _ _ h => h) (by rfl) ?_ ?_); rotate_left
            (intro wF; go_simp; try with_reducible rfl)
            (try simp only [Act.put, List.setIfInBounds_toArray, List.set_cons_zero, List.set_cons_succ])
            (refine float0 (i := 3) (v := ?_) rfl (by kernel_rfl) (by kernel_rfl) (by kernel_rfl) (by kernel_rfl) (fun _ _ _ h => h) (by rfl) ?_ ?_); rotate_left
            (intro wF; go_simp; try with_reducible rfl)
            (try simp only [Act.put, List.setIfInBounds_toArray, List.set_cons_zero, List.set_cons_succ])
            (refine floatS (i := 4) (v := ?_) rfl (by kernel_rfl) (by kernel_rfl) (by kernel_rfl) (by kernel_rfl) (fun _ _ _ h => h) (by assumption) (by rfl) ?_ ?_); rotate_left
            (intro wF hF; (try dsimp only at hF); go_simp; try with_reducible rfl)
            (try simp only [Act.put, List.setIfInBounds_toArray, List.set_cons_zero, List.set_cons_succ])
            (refine floatS (i := 5) (v := ?_) rfl (by kernel_rfl) (by kernel_rfl) (by kernel_rfl) (by kernel_rfl) (fun _ _ _ h => h) (by assumption) (by rfl) ?_ ?_); rotate_left
            (intro wF hF; (try dsimp only at hF); go_simp; try with_reducible rfl)
            (try simp only [Act.put, List.setIfInBounds_toArray, List.set_cons_zero, List.set_cons_succ])
            (refine float0 (i := 6) (v := ?_) rfl (by kernel_rfl) (by kernel_rfl) (by kernel_rfl) (by kernel_rfl) (fun _ _ _ h => h) (by rfl) ?_ ?_); rotate_left
            (intro wF; go_simp; try with_reducible rfl)
            (try simp only [Act.put, List.setIfInBounds_toArray, List.set_cons_zero, List.set_cons_succ])
            (refine float0 (i := 7) (v := ?_) rfl (by kernel_rfl) (by kernel_rfl) (by kernel_rfl) (by kernel_rfl) (fun _ _ _ h => h) (by rfl) ?_ ?_); rotate_left
            (intro wF; go_simp; try with_reducible rfl)
            (try simp only [Act.put, List.setIfInBounds_toArray, List.set_cons_zero, List.set_cons_succ])
            (refine float0 (i := 8) (v := ?_) rfl (by kernel_rfl) (by kernel_rfl) (by kernel_rfl) (by kernel_rfl) (fun _ _ _ h => h) (by rfl) ?_ ?_); rotate_left
            (intro wF; go_simp; try with_reducible rfl)
            (try simp only [Act.put, List.setIfInBounds_toArray, List.set_cons_zero, List.set_cons_succ])
            (refine floatS (i := 9) (v := ?_) rfl (by kernel_rfl) (by kernel_rfl) (by kernel_rfl) (by kernel_rfl) (fun _ _ _ h => h) (by assumption) (by rfl) ?_ ?_); rotate_left
            (intro wF hF; (try dsimp only at hF); go_simp; try with_reducible rfl)
            (try simp only [Act.put, List.setIfInBounds_toArray, List.set_cons_zero, List.set_cons_succ])
            (refine float0 (i := 10) (v := ?_) rfl (by kernel_rfl) (by kernel_rfl) (by kernel_rfl) (by kernel_rfl) (fun _ _ _ h => h) (by rfl) ?_ ?_); rotate_left
            (intro wF; go_simp; try with_reducible rfl)
            (try simp only [Act.put, List.setIfInBounds_toArray, List.set_cons_zero, List.set_cons_succ])
            (refine float0 (i := 11) (v := ?_) rfl (by kernel_rfl) (by kernel_rfl) (by kernel_rfl) (by kernel_rfl) (fun _ _ _ h => h) (by rfl) ?_ ?_); rotate_left
            (intro wF; go_simp; try with_reducible rfl)
            (try simp only [Act.put, List.setIfInBounds_toArray, List.set_cons_zero, List.set_cons_succ])
            (refine floatU (i := 12) rfl (by kernel_rfl) (by kernel_rfl) (by kernel_rfl) (by kernel_rfl) (fun _ _ _ h => h) (by rfl) ?_)
            (try simp only [Act.put, List.setIfInBounds_toArray, List.set_cons_zero, List.set_cons_succ])
            (refine floatU (i := 13) rfl (by kernel_rfl) (by kernel_rfl) (by kernel_rfl) (by kernel_rfl) (fun _ _ _ h => h) (by rfl) ?_)
            (try simp only [Act.put, List.setIfInBounds_toArray, List.set_cons_zero, List.set_cons_succ])
            (refine floatU (i := 14) rfl (by kernel_rfl) (by kernel_rfl) (by kernel_rfl) (by kernel_rfl) (fun _ _ _ h => h) (by rfl) ?_)
            (try simp only [Act.put, List.setIfInBounds_toArray, List.set_cons_zero, List.set_cons_succ])
            (refine floatU (i := 15) rfl (by kernel_rfl) (by kernel_rfl) (by kernel_rfl) (by kernel_rfl) (fun _ _ _ h => h) (by rfl) ?_)
            (try simp only [Act.put, List.setIfInBounds_toArray, List.set_cons_zero, List.set_cons_succ])
            (refine floatU (i := 16) rfl (by kernel_rfl) (by kernel_rfl) (by kernel_rfl) (by kernel_rfl) (fun _ _ _ h => h) (by rfl) ?_)
            (try simp only [Act.put, List.setIfInBounds_toArray, List.set_cons_zero, List.set_cons_succ])
            (refine floatU (i := 17) rfl (by kernel_rfl) (by kernel_rfl) (by kernel_rfl) (by kernel_rfl) (fun _ _ _ h => h) (by rfl) ?_)
            (try simp only [Act.put, List.setIfInBounds_toArray, List.set_cons_zero, List.set_cons_succ])
            (refine floatU (i := 18) rfl (by kernel_rfl) (by kernel_rfl) (by kernel_rfl) (by kernel_rfl) (fun _ _ _ h => h) (by rfl) ?_)
            (try simp only [Act.put, List.setIfInBounds_toArray, List.set_cons_zero, List.set_cons_succ])
            (refine floatU (i := 19) rfl (by kernel_rfl) (by kernel_rfl) (by kernel_rfl) (by kernel_rfl) (fun _ _ _ h => h) (by rfl) ?_)
            (try simp only [Act.put, List.setIfInBounds_toArray, List.set_cons_zero, List.set_cons_succ])
            (refine floatU (i := 20) rfl (by kernel_rfl) (by kernel_rfl) (by kernel_rfl) (by kernel_rfl) (fun _ _ _ h => h) (by rfl) ?_)
            (try simp only [Act.put, List.setIfInBounds_toArray, List.set_cons_zero, List.set_cons_succ])
            (refine floatU (i := 21) rfl (by kernel_rfl) (by kernel_rfl) (by kernel_rfl) (by kernel_rfl) (fun _ _ _ h => h) (by rfl) ?_)
            (try simp only [Act.put, List.setIfInBounds_toArray, List.set_cons_zero, List.set_cons_succ])
            (refine floatU (i := 22) rfl (by kernel_rfl) (by kernel_rfl) (by kernel_rfl) (by kernel_rfl) (fun _ _ _ h => h) (by rfl) ?_)
            (try simp only [Act.put, List.setIfInBounds_toArray, List.set_cons_zero, List.set_cons_succ])
            (refine float0 (i := 23) (v := ?_) rfl (by kernel_rfl) (by kernel_rfl) (by kernel_rfl) (by kernel_rfl) (fun _ _ _ h => h) (by rfl) ?_ ?_); rotate_left
            (intro wF; go_simp; try with_reducible rfl)
            (try simp only [Act.put, List.setIfInBounds_toArray, List.set_cons_zero, List.set_cons_succ])
            (refine float0 (i := 24) (v := ?_) rfl (by kernel_rfl) (by kernel_rfl) (by kernel_rfl) (by kernel_rfl) (fun _ _ _ h => h) (by rfl) ?_ ?_); rotate_left
            (intro wF; go_simp; try with_reducible rfl)
            (try simp only [Act.put, List.setIfInBounds_toArray, List.set_cons_zero, List.set_cons_succ])
            (refine floatE (by kernel_rfl) ?_)
            go_wp2_with fail
            go_ret
            rw [← HRQ.out]
            exact ⟨rfl, (HS.out.trans (Same.of0 HS.out.inv ((K4.out.trans (Keep.drew _ _)).trans (Keep.drew _ _)))).s, fun m' e => by cases e⟩
    | @con bc lv vs _ hcn hg hl hts =>
      have ta := taVarVar
      have tb := taConVar
      have hal : alikeT a b (.var v) ty m = none := alike_mix1 hcn m
      have HAL := Lib.hid hal; clear hal
      simp only [varV, conV]
      go_wp2_with fail
      go_ret
      rw [HAL.out]
      exact ⟨rfl, HS.out.s, fun m' e => by cases e⟩
  | @con b1 lv vs _ hcn hg hl hts =>
    rw [← e1]
    clear e1 E1
    cases hr2 with
    | @var u bu nmu hAu hbu =>
      have ta := taVarVar
      have tb := taConVar
      have hal : alikeT a b tx (.var u) m = none := alike_mix2 hcn m
      have HAL := Lib.hid hal; clear hal
      simp only [varV, conV]
      go_wp2_with fail
      go_ret
      rw [HAL.out]
      exact ⟨rfl, HS.out.s, fun m' e => by cases e⟩
    | @con b2 lv2 vs2 _ hcn2 hg2 hl2 hts2 =>
      have ta := taConVar
      have tb := tbConCon
      have c1 : w2.cell? ⟨b1, 0, none⟩ = some (.string (bs tx.kind)) := cell_of_heap (HS.out.inv.holds _ _ hg) rfl
      have c2 : w2.cell? ⟨b2, 0, none⟩ = some (.string (bs ty.kind)) := cell_of_heap (HS.out.inv.holds _ _ hg2) rfl
      simp only [conV]
      by_cases hkk : tx.kind = ty.kind
      · have q : ((bs tx.kind).toList == (bs ty.kind).toList) = true := by rw [str_eq2]; simp [hkk]
        have hal := alike_con (a := a) (b := b) hcn hcn2 hkk m
        have hle := kind_len hcn hcn2 hkk
        have c3 : w2.cell? ⟨b1, 1, none⟩ = some lv := cell_of_heap (HS.out.inv.holds _ _ hg) rfl
        have hL2 : ∀ w', Holds G w' → w'.cell? ⟨b1, 1, none⟩ = some lv ∧ w'.cell? ⟨b2, 1, none⟩ = some lv2 := fun w' h => ⟨cell_of_heap (h _ _ hg) rfl, cell_of_heap (h _ _ hg2) rfl⟩
        obtain ⟨a1, cap1, rfl, hcells1⟩ := hl.shp
        obtain ⟨a2, cap2, rfl, hcells2⟩ := hl2.shp
        have HAL := Lib.hid hal; have HLE := Lib.hid hle; have HC1 := Lib.hid hcells1; have HC2 := Lib.hid hcells2; have HT1 := Lib.hid hts; have HT2 := Lib.hid hts2; have HKK := Lib.hid hkk; have HL2 := Lib.hid hL2
        have HLen1 : Hid (vs.length = tx.args.length) := Lib.hid hts.len
        have HLen2 : Hid (vs2.length = ty.args.length) := Lib.hid hts2.len
        have hvl : vs.length ≤ 2 := by have := HLen1.out; have := Ty.args_len (t := tx); omega
        have hv12 : vs2.length = vs.length := by rw [HLen1.out, HLen2.out, hle]
        clear hal hle hcells1 hcells2 hts hts2 hg hg2 hl hl2 hkk hL2
        go_wp2_with fail
        go_quiet (fail)
        obtain ⟨q1, hq1⟩ : ∃ q, q = nq := ⟨_, rfl⟩
        rw [← hq1]
        clear hq1
        go_wp2_with fail
        go_quiet (fail)
        go_wp2_with fail
        obtain ⟨w3, hw3⟩ : ∃ w3, w3 = w2.drewN (q1 + nq) := ⟨_, rfl⟩
        rw [← hw3]
        have HS3 : Hid (Same G A n w w3) := Lib.hid (HS.out.trans (Same.of0 HS.out.inv (by rw [hw3]; exact Keep.drewN _ _ _)))
        have HR3 := Lib.hid (HRR.out.stable HS3.out)
        have HT3 : Hid (TRs G A w3 vs tx.args) := Lib.hid ((Same.of0 HS.out.inv (by rw [hw3]; exact Keep.drewN _ _ _)).trs HT1.out)
        have HT4 : Hid (TRs G A w3 vs2 ty.args) := Lib.hid ((Same.of0 HS.out.inv (by rw [hw3]; exact Keep.drewN _ _ _)).trs HT2.out)
        clear hw3 c1 c2 c3
        go_loopg [146] vs.length (fun gn s wr => ∃ (j : Nat) (mj : List (Nat × Nat)), j ≤ vs.length ∧ Hid (gn = vs.length - j) ∧ s = .int .i64 j ∧ Hid (SameS (two' x.tm x.fm) G A n w wr) ∧ Hid (AlkR x G A (.iface Ta (.pointer (some ⟨pa, 0, none⟩))) ma (.iface Tb (.pointer (some ⟨pb, 0, none⟩))) mb mj wr) ∧ Hid (TRs G A wr vs tx.args) ∧ Hid (TRs G A wr vs2 ty.args) ∧ Hid (alikeL a b (tx.args.drop j) (ty.args.drop j) mj = alikeT a b tx ty m))
        case atStart => exact ⟨0, m, by omega, Lib.hid rfl, rfl, Lib.hid HS3.out.s, HR3, HT3, HT4, Lib.hid HAL.out.symm⟩
        case round =>
          obtain ⟨j, mj, hj, HM2, rfl, HSJ, HRJ, HTJ, HTK, HALJ⟩ := hrel
          have hjj : (0 : Int) ≤ (j : Int) := by omega
          by_cases hlt : j < vs.length
          · have hltx : j < tx.args.length := by have := HLen1.out; omega
            have hlt2 : j < vs2.length := by omega
            have hlty : j < ty.args.length := by have := HLen2.out; omega
            obtain ⟨p1, rfl, _⟩ := HC1.out wr HSJ.out.inv.holds j vs[j] (by simp [hlt])
            obtain ⟨p2, rfl, _⟩ := HC2.out wr HSJ.out.inv.holds j vs2[j] (by simp [hlt2])
            have hxj := HTJ.out.get j hlt hltx
            have hyj := HTK.out.get j hlt2 hlty
            obtain ⟨T1', r1, e1⟩ := hxj.iface
            obtain ⟨T2', r2, e2⟩ := hyj.iface
            have hst : ∀ w', Holds G w' → w'.heap[x.mb]? = some (.cells #[.func (.func 182) #[] x.caps] 181) → w'.cell? ⟨x.mb, 0, none⟩ = some (.func (.func 182) #[] #[.pointer (some ⟨x.ab, 0, none⟩), .pointer (some ⟨x.bb, 0, none⟩), .pointer (some ⟨x.tb, 0, none⟩), .pointer (some ⟨x.fb, 0, none⟩), .pointer (some ⟨x.mb, 0, none⟩)]) ∧ w'.cell? ⟨b1, 1, none⟩ = some (.slice (some ⟨p1, 0, none⟩) vs.length cap1) ∧ w'.cell? ⟨b2, 1, none⟩ = some (.slice (some ⟨p2, 0, none⟩) vs2.length cap2) ∧ w'.cell? ⟨p1, j, none⟩ = some (.iface T1' (.pointer (some ⟨r1, 0, none⟩))) ∧ w'.cell? ⟨p2, j, none⟩ = some (.iface T2' (.pointer (some ⟨r2, 0, none⟩))) := fun w' h hm =>
              ⟨cell_of_heap hm rfl, (HL2.out w' h).1, (HL2.out w' h).2, by
                obtain ⟨q, eq, c⟩ := HC1.out w' h j vs[j] (by simp [hlt])
                injection eq with eq; injection eq with eq; subst eq; rw [← e1]; exact c, by
                obtain ⟨q, eq, c⟩ := HC2.out w' h j vs2[j] (by simp [hlt2])
                injection eq with eq; injection eq with eq; subst eq; rw [← e2]; exact c⟩
            rw [e1] at hxj
            rw [e2] at hyj
            have hcall := IH.out x G A n _ _ _ _ _ _ wr.drew (tx.args[j]) (ty.args[j]) mj (HSJ.out.inv.keep0 (Keep.drew _ _)) (HRJ.out.stable (Same.of0 HSJ.out.inv (Keep.drew _ _))) HAA.out HAB.out ⟨_, _, rfl⟩ ⟨_, _, rfl⟩ (hxj.keep0 HSJ.out.inv (Keep.drew _ _)) (hyj.keep0 HSJ.out.inv (Keep.drew _ _)) (by have := Ty.arg_sz (List.getElem_mem hltx); have := HM.out; omega)
            have hdj : alikeT a b tx ty m = (alikeT a b (tx.args[j]) (ty.args[j]) mj).bind fun m => alikeL a b (tx.args.drop (j + 1)) (ty.args.drop (j + 1)) m := by
              rw [← HALJ.out, drop_cons hltx, drop_cons hlty]; rfl
            have S0 := hst wr.drew (HSJ.out.inv.holds.keep0 (Keep.drew _ _)) HRJ.out.cm
            have HCALL := Lib.hid hcall; have HST := Lib.hid hst; have HDJ := Lib.hid hdj
            clear hcall hst hdj e1 e2 hxj hyj
            have hji : ((j : Int) < (vs.length : Int)) := by omega
            have hji2 : ((j : Int) < (vs2.length : Int)) := by omega
            go_wp2_with fail
            refine wp_region_float (fun w' => w'.cell? ⟨x.mb, 0, none⟩ = some (.func (.func 182) #[] #[.pointer (some ⟨x.ab, 0, none⟩), .pointer (some ⟨x.bb, 0, none⟩), .pointer (some ⟨x.tb, 0, none⟩), .pointer (some ⟨x.fb, 0, none⟩), .pointer (some ⟨x.mb, 0, none⟩)]) ∧ w'.cell? ⟨b1, 1, none⟩ = some (.slice (some ⟨p1, 0, none⟩) vs.length cap1) ∧ w'.cell? ⟨b2, 1, none⟩ = some (.slice (some ⟨p2, 0, none⟩) vs2.length cap2) ∧ w'.cell? ⟨p1, j, none⟩ = some (.iface T1' (.pointer (some ⟨r1, 0, none⟩))) ∧ w'.cell? ⟨p2, j, none⟩ = some (.iface T2' (.pointer (some ⟨r2, 0, none⟩)))) [1, 2, 3, 5, 6, 8, 9, 10, 12, 13, 16] [0, 4, 7, 11, 14] (by kernel_rfl) ?_
            (refine floatS (i := 0) (v := ?_) rfl (by kernel_rfl) (by kernel_rfl) (by kernel_rfl) (by kernel_rfl) (fun _ _ _ h => h) (by assumption) (by rfl) ?_ ?_); rotate_left
            (intro wF hF; (try dsimp only at hF); go_simp; try with_reducible rfl)
            (try simp only [Act.put, List.setIfInBounds_toArray, List.set_cons_zero, List.set_cons_succ])
            (refine float0 (i := 1) (v := ?_) rfl (by kernel_rfl) (by kernel_rfl) (by kernel_rfl) (by kernel_rfl) (fun _ _ _ h => h) (by rfl) ?_ ?_); rotate_left
            (intro wF; go_simp; try with_reducible rfl)
            (try simp only [Act.put, List.setIfInBounds_toArray, List.set_cons_zero, List.set_cons_succ])
            (refine float0 (i := 2) (v := ?_) rfl (by kernel_rfl) (by kernel_rfl) (by kernel_rfl) (by kernel_rfl) (fun _ _ _ h => h) (by rfl) ?_ ?_); rotate_left
            (intro wF; go_simp; try with_reducible rfl)
            (try simp only [Act.put, List.setIfInBounds_toArray, List.set_cons_zero, List.set_cons_succ])
            (refine float0 (i := 3) (v := ?_) rfl (by kernel_rfl) (by kernel_rfl) (by kernel_rfl) (by kernel_rfl) (fun _ _ _ h => h) (by rfl) ?_ ?_); rotate_left
            (intro wF; go_simp; try with_reducible rfl)
            (try simp only [Act.put, List.setIfInBounds_toArray, List.set_cons_zero, List.set_cons_succ])
            (refine floatS (i := 4) (v := ?_) rfl (by kernel_rfl) (by kernel_rfl) (by kernel_rfl) (by kernel_rfl) (fun _ _ _ h => h) (by assumption) (by rfl) ?_ ?_); rotate_left
            (intro wF hF; (try dsimp only at hF); go_simp; try with_reducible rfl)
            (try simp only [Act.put, List.setIfInBounds_toArray, List.set_cons_zero, List.set_cons_succ])
            (refine float0 (i := 5) (v := ?_) rfl (by kernel_rfl) (by kernel_rfl) (by kernel_rfl) (by kernel_rfl) (fun _ _ _ h => h) (by rfl) ?_ ?_); rotate_left
            (intro wF; go_simp; try with_reducible rfl)
            (try simp only [Act.put, List.setIfInBounds_toArray, List.set_cons_zero, List.set_cons_succ])
            (refine float0 (i := 6) (v := ?_) rfl (by kernel_rfl) (by kernel_rfl) (by kernel_rfl) (by kernel_rfl) (fun _ _ _ h => h) (by rfl) ?_ ?_); rotate_left
            (intro wF; go_simp; try with_reducible rfl)
            (try simp only [Act.put, List.setIfInBounds_toArray, List.set_cons_zero, List.set_cons_succ])
            (refine floatS (i := 7) (v := ?_) rfl (by kernel_rfl) (by kernel_rfl) (by kernel_rfl) (by kernel_rfl) (fun _ _ _ h => h) (by assumption) (by rfl) ?_ ?_); rotate_left
            (intro wF hF; (try dsimp only at hF); go_simp; try with_reducible rfl)
            (try simp only [Act.put, List.setIfInBounds_toArray, List.set_cons_zero, List.set_cons_succ])
            (refine float0 (i := 8) (v := ?_) rfl (by kernel_rfl) (by kernel_rfl) (by kernel_rfl) (by kernel_rfl) (fun _ _ _ h => h) (by rfl) ?_ ?_); rotate_left
            (intro wF; go_simp; try with_reducible rfl)
            (try simp only [Act.put, List.setIfInBounds_toArray, List.set_cons_zero, List.set_cons_succ])
            (refine float0 (i := 9) (v := ?_) rfl (by kernel_rfl) (by kernel_rfl) (by kernel_rfl) (by kernel_rfl) (fun _ _ _ h => h) (by rfl) ?_ ?_); rotate_left
            (intro wF; go_simp; try with_reducible rfl)
            (try simp only [Act.put, List.setIfInBounds_toArray, List.set_cons_zero, List.set_cons_succ])
            (refine float0 (i := 10) (v := ?_) rfl (by kernel_rfl) (by kernel_rfl) (by kernel_rfl) (by kernel_rfl) (fun _ _ _ h => h) (by rfl) ?_ ?_); rotate_left
            (intro wF; go_simp; try with_reducible rfl)
            (try simp only [Act.put, List.setIfInBounds_toArray, List.set_cons_zero, List.set_cons_succ])
            (refine floatS (i := 11) (v := ?_) rfl (by kernel_rfl) (by kernel_rfl) (by kernel_rfl) (by kernel_rfl) (fun _ _ _ h => h) (by assumption) (by rfl) ?_ ?_); rotate_left
            (intro wF hF; (try dsimp only at hF); go_simp; try with_reducible rfl)
            (try simp only [Act.put, List.setIfInBounds_toArray, List.set_cons_zero, List.set_cons_succ])
            (refine float0 (i := 12) (v := ?_) rfl (by kernel_rfl) (by kernel_rfl) (by kernel_rfl) (by kernel_rfl) (fun _ _ _ h => h) (by rfl) ?_ ?_); rotate_left
            (intro wF; go_simp; try with_reducible rfl)
            (try simp only [Act.put, List.setIfInBounds_toArray, List.set_cons_zero, List.set_cons_succ])
            (refine float0 (i := 13) (v := ?_) rfl (by kernel_rfl) (by kernel_rfl) (by kernel_rfl) (by kernel_rfl) (fun _ _ _ h => h) (by rfl) ?_ ?_); rotate_left
            (intro wF; go_simp; try with_reducible rfl)
            (try simp only [Act.put, List.setIfInBounds_toArray, List.set_cons_zero, List.set_cons_succ])
            (refine floatS (i := 14) (v := ?_) rfl (by kernel_rfl) (by kernel_rfl) (by kernel_rfl) (by kernel_rfl) (fun _ _ _ h => h) (by assumption) (by rfl) ?_ ?_); rotate_left
            (intro wF hF; (try dsimp only at hF); go_simp; try with_reducible rfl)
            (try simp only [Act.put, List.setIfInBounds_toArray, List.set_cons_zero, List.set_cons_succ])
            cases hcr : alikeT a b (tx.args[j]) (ty.args[j]) mj with
            | none =>
              rw [hcr] at HCALL HDJ
              (refine floatM (i := 15) rfl (by kernel_rfl) (by kernel_rfl) (fun K hK => ?_)); go_simp
              refine HCALL.out.mono ?_
              rintro e w5 ⟨rfl, s5, _⟩
              have HS5 := Lib.hid (HSJ.out.trans ((Same.of0 HSJ.out.inv (Keep.drew _ _)).s.trans s5))
              have S5 := HST.out w5 s5.inv.holds (by
                refine s5.keep.get HRJ.out.cm (fun e => ?_)
                rcases e with e | e | e
                · exact (HRJ.out.priv _ (by simp)).2 e
                · exact HRJ.out.mb_ne.1 e
                · exact HRJ.out.mb_ne.2 e)
              clear s5 S0
              go_wp2_with fail
              refine hK.out _ _ (fun _ => S5) ?_
              clear hK K
              (try simp only [Act.put, List.setIfInBounds_toArray, List.set_cons_zero, List.set_cons_succ])
              (refine float0 (i := 16) (v := ?_) rfl (by kernel_rfl) (by kernel_rfl) (by kernel_rfl) (by kernel_rfl) (fun _ _ _ h => h) (by rfl) ?_ ?_); rotate_left
              (intro wF; go_simp; try with_reducible rfl)
              (try simp only [Act.put, List.setIfInBounds_toArray, List.set_cons_zero, List.set_cons_succ])
              (refine floatE (by kernel_rfl) ?_)
              go_wp2_with fail
              go_ret
              rw [HDJ.out]
              exact ⟨rfl, HS5.out, fun m' e => by cases e⟩
            | some m2 =>
              rw [hcr] at HCALL HDJ
              (refine floatM (i := 15) rfl (by kernel_rfl) (by kernel_rfl) (fun K hK => ?_)); go_simp
              refine HCALL.out.mono ?_
              rintro e w5 ⟨rfl, s5, r5⟩
              have HR5 := Lib.hid (r5 m2 rfl)
              have SS := (Same.of0 HSJ.out.inv (Keep.drew none' wr)).s.trans s5
              have HS5 := Lib.hid (HSJ.out.trans SS)
              have HT5 := Lib.hid (SS.trs HTJ.out)
              have HT6 := Lib.hid (SS.trs HTK.out)
              have S5 := HST.out w5 s5.inv.holds HR5.out.cm
              clear s5 S0 r5 SS
              go_wp2_with fail
              refine hK.out _ _ (fun _ => S5) ?_
              clear hK K
              (try simp only [Act.put, List.setIfInBounds_toArray, List.set_cons_zero, List.set_cons_succ])
              (refine float0 (i := 16) (v := ?_) rfl (by kernel_rfl) (by kernel_rfl) (by kernel_rfl) (by kernel_rfl) (fun _ _ _ h => h) (by rfl) ?_ ?_); rotate_left
              (intro wF; go_simp; try with_reducible rfl)
              (try simp only [Act.put, List.setIfInBounds_toArray, List.set_cons_zero, List.set_cons_succ])
              (refine floatE (by kernel_rfl) ?_)
              go_wp2_with fail
              go_roundg (vs.length - (j + 1))
              case measure => have := HM2.out; omega
              case rel => exact ⟨j + 1, m2, by omega, Lib.hid rfl, by go_num, HS5, HR5, HT5, HT6, Lib.hid (by rw [HDJ.out]; rfl)⟩
          · have hje : j = vs.length := by omega
            subst hje
            have hal := HALJ.out
            rw [List.drop_of_length_le (by have := HLen1.out; omega), List.drop_of_length_le (by have := HLen2.out; omega)] at hal
            have HAL2 := Lib.hid hal; clear hal
            go_wp2_with fail
            go_ret
            rw [← HAL2.out]
            exact ⟨rfl, HSJ.out, fun m' e => by injection e with e; subst e; exact HRJ.out⟩
      · have q : ((bs tx.kind).toList == (bs ty.kind).toList) = false := by rw [str_eq2]; simp [hkk]
        have hal := alike_kind (a := a) (b := b) hcn hcn2 hkk m
        have HAL := Lib.hid hal
        clear hal hkk hts hts2 hg hg2 hl hl2
        go_wp2_with fail
        go_quiet (fail)
        go_wp2_with fail
        go_quiet (fail)
        go_wp2_with fail
        go_ret
        rw [HAL.out]
        exact ⟨rfl, (HS.out.trans (Same.of0 HS.out.inv ((Keep.drewN _ _ _).trans (Keep.drewN _ _ _)))).s, fun m' e => by cases e⟩
end Go.Proofs.YtabikmkoajdhmabGreatDoor
