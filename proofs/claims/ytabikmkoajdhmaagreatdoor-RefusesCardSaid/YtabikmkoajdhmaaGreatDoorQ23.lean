/- types.Unify by a contract, for every fuel of its plain function. -/
import Derived.Test.YtabikmkoajdhmaaGreatDoorQ21
import Derived.Test.YtabikmkoajdhmaaGreatDoorQ04
import Derived.Test.YtabikmkoajdhmaaGreatDoorQ22
import Derived.Carry
import Derived.Deep.LoopGhost
set_option linter.unusedVariables false
set_option linter.unusedSimpArgs false
namespace Go.Proofs.YtabikmkoajdhmaaGreatDoor
open Go.RowKit

theorem Root.con' {G : GH} {A : GV} {w : World} {b : Nat} {t : Ty} (h : Root G A w (conV b) t) : ∃ lv vs, ConR G A w b t lv vs := by
  cases h with
  | con a b c d => exact ⟨_, _, a, b, c, d⟩

set_option maxRecDepth 100000 in
set_option maxHeartbeats 4000000 in
theorem uni_step (k : Nat) (ih : UniOk k) : UniOk (k + 1) := by
  intro G A w n va vb a b r hi ha hb hr
  obtain ⟨Ta, ba, fa, rfl, hma, hea, hFa⟩ := find_fn ha
  obtain ⟨Tb, bb, fb, rfl, hmb, heb, hFb⟩ := find_fn hb
  have IH := Lib.hid ih; have HR := Lib.hid hr
  have HA := Lib.hid (hFa _ _ _ _ _ hi ha); have HB := Lib.hid hb; have HFB := Lib.hid hFb
  clear ih hr hFa hFb ha hb hi
  go_enter Tryz.func185, Tryz.ntmps185
  go_wp2_with fail
  refine HA.out.mono ?_
  rintro e w1 ⟨r1, rfl, s1, hr1⟩
  have hb1 := s1.tr _ _ HB.out
  have HFB1 := Lib.hid (HFB.out _ _ _ _ _ s1.inv hb1)
  have HS1 := Lib.hid s1; have HR1 := Lib.hid hr1
  clear s1 hr1 hb1
  go_wp2_with fail
  refine HFB1.out.mono ?_
  rintro e w2 ⟨r2, rfl, s2, hr2⟩
  have hr1 := s2.root HR1.out
  have HS := Lib.hid (HS1.out.trans s2)
  clear s2 HS1 HR1 HFB1
  cases hr1 with
  | @var x bx nmx hAx hbx =>
    have hrr := HR.out
    rw [uni_var] at hrr
    have HRR := Lib.hid hrr; clear hrr
    have c0 : w2.cell? ⟨bx, 0, none⟩ = some (.int .i64 x) := cell_of_heap hbx rfl
    have HBX := Lib.hid hbx; have HAX := Lib.hid hAx; clear hbx hAx
    have hocc := fun (w3 : World) (v : Value) (t : Ty) (hi : TInv G A w3 n) (hv : TR G A w3 v t) => occ_ok t.size G A w3 n v t x bx nmx hi hv (Nat.le_refl _) HAX.out
    have HOCC := Lib.hid hocc; clear hocc
    cases hr2 with
    | @var y by2 nmy hAy hby =>
      have c1 : w2.cell? ⟨by2, 0, none⟩ = some (.int .i64 y) := cell_of_heap hby rfl
      have HBY := Lib.hid hby; have HAY := Lib.hid hAy; clear hby hAy
      simp only [varV]
      have ta := taVarVar
      by_cases hxy : x = y
      · subst hxy
        have hrr := HRR.out
        rw [if_pos rfl] at hrr
        injection hrr with hrr
        subst hrr
        have q : ((x : Int) == (x : Int)) = true := by simp
        go_wp2_with fail
        go_quiet (fail)
        go_wp2_with fail
        go_ret
        exact ⟨rfl, (HS.out.trans (Same.of0 HS.out.inv (Keep.drewN _ _ _))).d⟩
      · have hrr := HRR.out
        rw [if_neg (by simpa using fun e => hxy e.symm)] at hrr
        have hnh : (Ty.var y).has x = false := by simp [Ty.has]; exact fun e => hxy e.symm
        rw [hnh] at hrr
        simp only [Bool.false_eq_true, if_false] at hrr
        injection hrr with hrr
        subst hrr
        have q : ((x : Int) == (y : Int)) = false := by rw [int_beq]; simp [hxy]
        have HNH := Lib.hid hnh; clear hxy hnh
        go_wp2_with fail
        go_quiet (fail)
        go_wp2_with fail
        have SD : Same G A n w2 (w2.drewN nq) := Same.of0 HS.out.inv (Keep.drewN _ _ _)
        refine (HOCC.out _ _ _ SD.inv (SD.tr _ _ (TR.free HAY.out HBY.out))).mono ?_
        rintro e w3 ⟨rfl, s3⟩
        have hf3 := s3.free HAX.out (SD.free HAX.out HBX.out)
        have y3 := s3.tr _ _ (SD.tr _ _ (TR.free HAY.out HBY.out))
        have HS3 := Lib.hid ((HS.out.trans SD).trans s3)
        have HY3 := Lib.hid y3
        have c3 : w3.cell? ⟨bx, 1, none⟩ = some .nilIface := cell_of_heap hf3 rfl
        have f3 : ∀ i, w3.frozen? ⟨bx, i, none⟩ = false := fun i => free_of_heap hf3
        have HF3 := Lib.hid hf3
        have hnh := HNH.out
        rw [hnh]
        clear s3 y3 hf3 SD hnh
        go_wp2_with fail
        go_ret
        exact ⟨rfl, HS3.out.then (DSame.bind HS3.out.inv HAX.out HF3.out HY3.out HNH.out)⟩
    | @con bc lv vs _ hcn hg hl hts =>
      have HCN := Lib.hid hcn
      have HY := Lib.hid (TR.con (w := w2) hcn hg hl hts)
      clear hg hl hts
      simp only [varV, conV]
      have ta := taVarVar
      have tb := taConVar
      have hbx : ¬ b = .var x := by rintro rfl; cases hcn
      have hrr := HRR.out
      rw [if_neg hbx] at hrr
      cases hnh : b.has x with
      | true =>
        rw [hnh] at hrr
        simp only [if_true] at hrr
        injection hrr with hrr
        subst hrr
        have HNH := Lib.hid hnh; clear hnh hbx
        go_wp2_with fail
        go_quiet (fail)
        go_wp2_with fail
        have SD : Same G A n w2 (w2.drewN nq) := Same.of0 HS.out.inv (Keep.drewN _ _ _)
        refine (HOCC.out _ _ _ SD.inv (SD.tr _ _ HY.out)).mono ?_
        rintro e w3 ⟨rfl, s3⟩
        have HS3 := Lib.hid ((HS.out.trans SD).trans s3)
        rw [HNH.out]
        clear s3 SD
        go_wp2_with fail
        go_ret
        exact ⟨rfl, HS3.out.keep, HS3.out.inv⟩
      | false =>
        rw [hnh] at hrr
        simp only [Bool.false_eq_true, if_false] at hrr
        injection hrr with hrr
        subst hrr
        have HNH := Lib.hid hnh; clear hnh hbx
        go_wp2_with fail
        go_quiet (fail)
        go_wp2_with fail
        have SD : Same G A n w2 (w2.drewN nq) := Same.of0 HS.out.inv (Keep.drewN _ _ _)
        refine (HOCC.out _ _ _ SD.inv (SD.tr _ _ HY.out)).mono ?_
        rintro e w3 ⟨rfl, s3⟩
        have hf3 := s3.free HAX.out (SD.free HAX.out HBX.out)
        have y3 := s3.tr _ _ (SD.tr _ _ HY.out)
        have HS3 := Lib.hid ((HS.out.trans SD).trans s3)
        have HY3 := Lib.hid y3
        have c3 : w3.cell? ⟨bx, 1, none⟩ = some .nilIface := cell_of_heap hf3 rfl
        have f3 : ∀ i, w3.frozen? ⟨bx, i, none⟩ = false := fun i => free_of_heap hf3
        have HF3 := Lib.hid hf3
        have hnh := HNH.out
        rw [hnh]
        clear s3 y3 hf3 SD hnh
        go_wp2_with fail
        go_ret
        exact ⟨rfl, HS3.out.then (DSame.bind HS3.out.inv HAX.out HF3.out HY3.out HNH.out)⟩
  | @con bc lv vs _ hcn hg hl hts =>
    have CA : ConR G A w2 bc a lv vs := ⟨hcn, hg, hl, hts⟩
    have HCA := Lib.hid CA
    have HYA := Lib.hid (TR.con (w := w2) hcn hg hl hts)
    clear hg hl hts CA
    cases hr2 with
    | @var y by2 nmy hAy hby =>
      have hrr := HR.out
      rw [uni_swap hcn] at hrr
      have hcall := IH.out G A w2 n _ _ _ _ r HS.out.inv (.free hAy hby) HYA.out hrr
      have HCALL := Lib.hid hcall
      clear hcall hrr hby hAy
      simp only [varV, conV]
      simp only [varV, conV] at HCALL
      have ta := taVarVar
      have tb := taConVar
      go_wp2_with fail
      refine HCALL.out.mono ?_
      intro e w3 h3
      have h4 := UniPost.after HS.out h3
      have he := h3.shape
      subst he
      have H4 := Lib.hid h4; clear h3 h4
      go_wp2_with fail
      go_ret
      exact H4.out
    | @con bd mv us _ hcn2 hg2 hl2 hts2 =>
      have hrr := HR.out
      rw [uni_con hcn hcn2] at hrr
      have SD : Same G A n w2 w2.drew := Same.of0 HS.out.inv (Keep.drew _ _)
      have CB : ConR G A w2.drew bd b mv us := ⟨hcn2, hg2, hl2, SD.trs hts2⟩
      have CA : ConR G A w2.drew bc a lv vs := ⟨HCA.out.con, HCA.out.blk, HCA.out.sl, SD.trs HCA.out.trs⟩
      have hcall := same_step k IH.out G A w2.drew n bc bd a b lv mv vs us r SD.inv CA CB hrr
      have HCALL := Lib.hid hcall; have HSD := Lib.hid (HS.out.trans SD)
      clear hcall hrr CA CB hg2 hl2 hts2 SD
      simp only [conV]
      have tb := tbConCon
      have tc := taConVar
      go_wp2_with fail
      refine wp_region_float (fun _ => True) [0, 1, 2, 3] [] (by kernel_rfl) ?_
      (refine float0 (i := 0) (v := ?_) rfl (by kernel_rfl) (by kernel_rfl) (by kernel_rfl) (by kernel_rfl) (fun _ _ _ h => h) (by rfl) ?_ ?_); rotate_left
      (intro wF; go_simp; try with_reducible rfl)
      (try simp only [Act.put, List.setIfInBounds_toArray, List.set_cons_zero, List.set_cons_succ])
      (refine float0 (i := 1) (v := ?_) rfl (by kernel_rfl) (by kernel_rfl) (by kernel_rfl) (by kernel_rfl) (fun _ _ _ h => h) (by rfl) ?_ ?_); rotate_left
      (intro wF; go_simp; try with_reducible rfl)
      (try simp only [Act.put, List.setIfInBounds_toArray, List.set_cons_zero, List.set_cons_succ])
      (refine float0 (i := 2) (v := ?_) rfl (by kernel_rfl) (by kernel_rfl) (by kernel_rfl) (by kernel_rfl) (fun _ _ _ h => h) (by rfl) ?_ ?_); rotate_left
      (intro wF; go_simp; try with_reducible rfl)
      (try simp only [Act.put, List.setIfInBounds_toArray, List.set_cons_zero, List.set_cons_succ])
      (refine float0 (i := 3) (v := ?_) rfl (by kernel_rfl) (by kernel_rfl) (by kernel_rfl) (by kernel_rfl) (fun _ _ _ h => h) (by rfl) ?_ ?_); rotate_left
      (intro wF; go_simp; try with_reducible rfl)
      (try simp only [Act.put, List.setIfInBounds_toArray, List.set_cons_zero, List.set_cons_succ])
      (refine floatM (i := 4) rfl (by kernel_rfl) (by kernel_rfl) (fun K hK => ?_)); go_simp
      refine HCALL.out.mono ?_
      intro e w3 h3
      have h4 := UniPost.after HSD.out h3
      have he := h3.shape
      subst he
      have H4 := Lib.hid h4; clear h3 h4
      go_wp2_with fail
      refine hK.out _ _ (fun _ => trivial) ?_
      clear hK K
      (try simp only [Act.put, List.setIfInBounds_toArray, List.set_cons_zero, List.set_cons_succ])
      (refine floatM (i := 5) rfl (by kernel_rfl) (by kernel_rfl) (fun K hK => ?_)); go_simp
      refine hK.out _ _ (fun _ => trivial) ?_
      clear hK K
      (try simp only [Act.put, List.setIfInBounds_toArray, List.set_cons_zero, List.set_cons_succ])
      (refine floatE (by kernel_rfl) ?_)
      go_wp2_with fail
      go_ret
      exact H4.out
theorem uni_ok : ∀ k, UniOk k
  | 0 => fun G A w n va vb a b r _ _ _ hr => by cases hr
  | k + 1 => uni_step k (uni_ok k)
end Go.Proofs.YtabikmkoajdhmaaGreatDoor

/- types.Show by a contract, for every closure that names variables and keeps a state. -/
namespace Go.Proofs.YtabikmkoajdhmaaGreatDoor
open Go.RowKit

/-- The same meaning; touched are variables' blocks and those in S. -/
structure SameS (S : Nat → Prop) (G : GH) (A : GV) (n : Nat) (w w' : World) : Prop where
  keep : Keep (fun b => isV A b ∨ S b) w w'
  inv : TInv G A w' n
  tr : ∀ v t, TR G A w v t → TR G A w' v t
theorem Same.s {S : Nat → Prop} {G : GH} {A : GV} {n : Nat} {w w' : World} (h : Same G A n w w') : SameS S G A n w w' := ⟨h.keep.mono (fun _ _ x => .inl x), h.inv, h.tr⟩
theorem SameS.trans {S : Nat → Prop} {G : GH} {A : GV} {n : Nat} {a b c : World} (h : SameS S G A n a b) (k : SameS S G A n b c) : SameS S G A n a c := ⟨h.keep.trans k.keep, k.inv, fun v t r => k.tr v t (h.tr v t r)⟩
theorem SameS.trs {S : Nat → Prop} {G : GH} {A : GV} {n : Nat} {w w' : World} (h : SameS S G A n w w') : ∀ {vs : List Value} {ts : List Ty}, TRs G A w vs ts → TRs G A w' vs ts
  | _, _, .nil => .nil
  | _, _, .cons a b => .cons (h.tr _ _ a) (h.trs b)

/-- A closure that names variables: its state s, told by R of the world; it touches S alone. -/
structure NmOk (G : GH) (A : GV) (n : Nat) (S V : Nat → Prop) {St : Type} (nm : St → Nat → Str × St) (R : St → World → Prop) (f : FuncId) (caps : Array Value) : Prop where
  enter : ∀ args w, (callFunc f args).run Tryz.prog w = .ok (.enter f args) w
  len : ∀ s N, (nm s N).1.length ≤ 1000
  stable : ∀ s w w', R s w → Same G A n w w' → R s w'
  call : ∀ s w N b name, V N → R s w → TInv G A w n → A N = some (b, name) → TR G A w (varV b) (.var N) → Calls Tryz.prog f (#[.pointer (some ⟨b, 0, none⟩)] ++ caps) w (fun e w' => e = .returned (.string (bs (nm s N).1)) ∧ R (nm s N).2 w' ∧ SameS S G A n w w')

theorem TRs.one1 {G : GH} {A : GV} {w : World} {vs : List Value} {a : Ty} (h : TRs G A w vs [a]) : ∃ v, vs = [v] ∧ TR G A w v a := by
  cases h with
  | cons x y => cases y with | nil => exact ⟨_, rfl, x⟩
theorem TRs.two2 {G : GH} {A : GV} {w : World} {vs : List Value} {a b : Ty} (h : TRs G A w vs [a, b]) : ∃ v u, vs = [v, u] ∧ TR G A w v a ∧ TR G A w u b := by
  cases h with
  | cons x y =>
    obtain ⟨u, rfl, hu⟩ := y.one1
    exact ⟨_, u, rfl, x, hu⟩

theorem showS_len {St : Type} {nm : St → Nat → Str × St} (h : ∀ s N, (nm s N).1.length ≤ 1000) : ∀ (t : Ty) (s : St), (showS nm t s).1.length ≤ 1010 * t.size
  | .var N, s => by have := h s N; simp only [showS, Ty.size]; omega
  | .int, s => by simp [showS, Ty.size, INT]
  | .bool, s => by simp [showS, Ty.size, BOOL]
  | .list a, s => by have := showS_len h a s; simp [showS, Ty.size, LB, RB]; omega
  | .pair a b, s => by have := showS_len h a s; have := showS_len h b (showS nm a s).2; simp [showS, Ty.size, LP, RP]; omega
  | .fn a b, s => by
    have := showS_len h a s; have := showS_len h b (showS nm a s).2
    simp only [showS, Ty.size]
    split <;> simp [LP, RP] <;> omega

def ShowOk (G : GH) (A : GV) (n : Nat) (S V : Nat → Prop) {St : Type} (nm : St → Nat → Str × St) (R : St → World → Prop) (f : FuncId) (caps : Array Value) (m : Nat) : Prop :=
  ∀ (w : World) (v : Value) (t : Ty) (s : St), TInv G A w n → TR G A w v t → t.size ≤ m → (∀ N, t.has N = true → V N) → R s w → Calls Tryz.prog 68 #[v, .func (.func f) #[] caps] w (fun e w' => e = .returned (.string (bs (showS nm t s).1)) ∧ R (showS nm t s).2 w' ∧ SameS S G A n w w')

set_option maxRecDepth 100000 in
set_option maxHeartbeats 4000000 in
theorem show_step {G : GH} {A : GV} {n : Nat} {S V : Nat → Prop} {St : Type} {nm : St → Nat → Str × St} {R : St → World → Prop} {f : FuncId} {caps : Array Value} (hN : NmOk G A n S V nm R f caps) (m : Nat) (hmB : m + 1 ≤ 1000000000) (ih : ShowOk G A n S V nm R f caps m) : ShowOk G A n S V nm R f caps (m + 1) := by
  intro w v t s hi hv hm hVV hR
  obtain ⟨T, b, fd, rfl, hmt, hent, hF⟩ := find_fn hv
  have hc := hF _ _ _ _ _ hi hv
  have HF := Lib.hid hF; clear hF
  have HC := Lib.hid hc; have IH := Lib.hid ih; have HI := Lib.hid hi; have HM := Lib.hid hm; have HRR := Lib.hid hR; have HNM := Lib.hid hN; have HV := Lib.hid hv; have HVV := Lib.hid hVV
  have henf := hN.enter
  have HB := Lib.hid (fun (x : Ty) (s : St) (h : x.size ≤ m) => (show (bs (showS nm x s).1).size ≤ 1010000000000 from by rw [bs_size]; have := showS_len hN.len x s; omega))
  clear hc ih hi hm hv hVV hR hN
  go_enter Tryz.func68, Tryz.ntmps68
  go_wp2_with fail
  refine HC.out.mono ?_
  rintro e w1 ⟨r, rfl, hs, hr⟩
  cases hr with
  | @var N b1 name hA hb =>
    have hv1 := hs.tr _ _ HV.out
    have HS := Lib.hid hs; have HC2 := Lib.hid (HF.out _ _ _ _ _ hs.inv hv1); clear hs hb hv1
    simp only [varV]
    have ta := taVarCon
    have tb := tbVarVar
    go_wp2_with fail
    refine HC2.out.mono ?_
    rintro e w2 ⟨r2, rfl, hs2, hr2⟩
    cases hr2 with
    | con c _ _ _ => cases c
    | @var _ b2 name2 hA2 hb2 =>
      have hs3 := HS.out.trans hs2
      have hcl := HNM.out.call s w2 N b2 name2 (HVV.out N (by simp [Ty.has])) (HNM.out.stable _ _ _ HRR.out hs3) hs2.inv hA2 (.free hA2 hb2)
      have HCL := Lib.hid hcl; have HS3 := Lib.hid hs3; clear hcl hs3 hs2 hb2
      simp only [varV]
      go_wp2_with fail
      refine HCL.out.mono ?_
      rintro e w3 ⟨rfl, hR3, hs4⟩
      have HR3 := Lib.hid hR3; have HS4 := Lib.hid hs4; clear hR3 hs4
      go_wp2_with fail
      go_ret
      exact ⟨rfl, HR3.out, HS3.out.s.trans HS4.out⟩
  | con hcn hg hl hts =>
    rename_i b1 lv vs
    have c0 : w1.cell? ⟨b1, 0, none⟩ = some (.string (bs t.kind)) := cell_of_heap (hs.inv.holds _ _ hg) rfl
    have c1 : w1.cell? ⟨b1, 1, none⟩ = some lv := cell_of_heap (hs.inv.holds _ _ hg) rfl
    obtain ⟨a, cap, rfl, hcells⟩ := hl.shp
    have HS := Lib.hid hs; have HL := Lib.hid hcells
    have HK : Hid (∀ w', Holds G w' → w'.cell? ⟨b1, 1, none⟩ = some (.slice a vs.length cap)) := Lib.hid (fun w' h => cell_of_heap (h _ _ hg) rfl)
    clear hs hg hl hcells
    simp only [conV]
    have ta := taConCon
    cases t with
    | var x => cases hcn
    | int =>
      simp only [Ty.kind, bs, INT] at c0
      go_wp2_with fail
      go_ret
      exact ⟨rfl, HNM.out.stable _ _ _ HRR.out HS.out, HS.out.s⟩
    | bool =>
      simp only [Ty.kind, bs, BOOL] at c0
      go_wp2_with fail
      go_ret
      exact ⟨rfl, HNM.out.stable _ _ _ HRR.out HS.out, HS.out.s⟩
    | list x =>
      simp only [Ty.kind, bs, sList] at c0
      simp only [Ty.args] at hts
      obtain ⟨v1, rfl, hv1⟩ := hts.one1
      obtain ⟨b2, rfl, cj⟩ := HL.out w1 HS.out.inv.holds 0 v1 rfl
      obtain ⟨T2, b3, rfl⟩ := hv1.iface
      have HV1 := Lib.hid hv1; clear hv1
      go_wp2_with fail
      refine (IH.out w1 _ x s HS.out.inv HV1.out (by have := HM.out; simp only [Ty.size] at this; omega) (fun N h => HVV.out N (by simp [Ty.has, h])) (HNM.out.stable _ _ _ HRR.out HS.out)).mono ?_
      rintro e w2 ⟨rfl, hR2, hs2⟩
      have HR2 := Lib.hid hR2; have HS2 := Lib.hid hs2; clear hR2 hs2
      have b1 := HB.out x s (by have := HM.out; simp only [Ty.size] at this; omega)
      have q1 : ¬ 9223372036854775807 < 1 + (bs (showS nm x s).1).size := by omega
      have q2 : ¬ 9223372036854775807 < 1 + (bs (showS nm x s).1).size + 1 := by omega
      go_wp2_with fail
      go_ret
      refine ⟨?_, HR2.out, HS.out.s.trans HS2.out⟩
      show Ending.returned (.string (bs LB ++ bs _ ++ bs RB)) = _
      rw [bs_append, bs_append]; rfl
    | pair x y =>
      simp only [Ty.kind, bs, sPair] at c0
      simp only [Ty.args] at hts
      obtain ⟨v1, v2, rfl, hv1, hv2⟩ := hts.two2
      obtain ⟨b2, rfl, cj⟩ := HL.out w1 HS.out.inv.holds 0 v1 rfl
      have HCj : Hid (∀ w', Holds G w' → w'.cell? ⟨b2, 0, none⟩ = some v1 ∧ w'.cell? ⟨b2, 1, none⟩ = some v2) := Lib.hid (fun w' hG => by
        obtain ⟨b4, e4, g4⟩ := HL.out w' hG 0 v1 rfl
        obtain ⟨b5, e5, g5⟩ := HL.out w' hG 1 v2 rfl
        injection e4 with e4; injection e4 with e4; injection e5 with e5; injection e5 with e5
        subst e4; subst e5
        exact ⟨g4, g5⟩)
      obtain ⟨T2, b3, rfl⟩ := hv1.iface
      obtain ⟨T3, b4, rfl⟩ := hv2.iface
      have HV1 := Lib.hid hv1; have HV2 := Lib.hid hv2; clear hv1 hv2 hts cj
      have HSD1 : Hid (Same G A n w1 w1.drew) := Lib.hid (Same.of0 HS.out.inv (Keep.drew _ _))
      have HSD : Hid (Same G A n w w1.drew) := Lib.hid (HS.out.trans (Same.of0 HS.out.inv (Keep.drew _ _)))
      have HKK : Hid (∀ w', Holds G w' → w'.cell? ⟨b1, 1, none⟩ = some (.slice (some ⟨b2, 0, none⟩) 2 cap) ∧ w'.cell? ⟨b2, 0, none⟩ = some (.iface T2 (.pointer (some ⟨b3, 0, none⟩))) ∧ w'.cell? ⟨b2, 1, none⟩ = some (.iface T3 (.pointer (some ⟨b4, 0, none⟩)))) := Lib.hid (fun w' h => ⟨HK.out w' h, HCj.out w' h⟩)
      clear HK HCj c1
      (try simp only [List.length_cons, List.length_nil])
      go_wp2_with fail
      have S0 := HKK.out _ HSD.out.inv.holds
      refine wp_region_float (fun w' => w'.cell? ⟨b1, 1, none⟩ = some (.slice (some ⟨b2, 0, none⟩) 2 cap) ∧ w'.cell? ⟨b2, 0, none⟩ = some (.iface T2 (.pointer (some ⟨b3, 0, none⟩))) ∧ w'.cell? ⟨b2, 1, none⟩ = some (.iface T3 (.pointer (some ⟨b4, 0, none⟩)))) [0, 1, 2, 4, 6, 8, 9, 10, 11, 12, 14, 16, 18, 19] [3, 5, 13, 15] (by kernel_rfl) ?_
      (refine float0 (i := 0) (v := ?_) rfl (by kernel_rfl) (by kernel_rfl) (by kernel_rfl) (by kernel_rfl) (fun _ _ _ h => h) (by rfl) ?_ ?_); rotate_left
      (intro wF; go_simp; try with_reducible rfl)
      (try simp only [Act.put, List.setIfInBounds_toArray, List.set_cons_zero, List.set_cons_succ])
      (refine float0 (i := 1) (v := ?_) rfl (by kernel_rfl) (by kernel_rfl) (by kernel_rfl) (by kernel_rfl) (fun _ _ _ h => h) (by rfl) ?_ ?_); rotate_left
      (intro wF; go_simp; try with_reducible rfl)
      (try simp only [Act.put, List.setIfInBounds_toArray, List.set_cons_zero, List.set_cons_succ])
      (refine float0 (i := 2) (v := ?_) rfl (by kernel_rfl) (by kernel_rfl) (by kernel_rfl) (by kernel_rfl) (fun _ _ _ h => h) (by rfl) ?_ ?_); rotate_left
      (intro wF; go_simp; try with_reducible rfl)
      (try simp only [Act.put, List.setIfInBounds_toArray, List.set_cons_zero, List.set_cons_succ])
      (refine floatS (i := 3) (v := ?_) rfl (by kernel_rfl) (by kernel_rfl) (by kernel_rfl) (by kernel_rfl) (fun _ _ _ h => h) (by assumption) (by rfl) ?_ ?_); rotate_left
      (intro wF hF; (try dsimp only at hF); go_simp; try with_reducible rfl)
      (try simp only [Act.put, List.setIfInBounds_toArray, List.set_cons_zero, List.set_cons_succ])
      (refine float0 (i := 4) (v := ?_) rfl (by kernel_rfl) (by kernel_rfl) (by kernel_rfl) (by kernel_rfl) (fun _ _ _ h => h) (by rfl) ?_ ?_); rotate_left
      (intro wF; go_simp; try with_reducible rfl)
      (try simp only [Act.put, List.setIfInBounds_toArray, List.set_cons_zero, List.set_cons_succ])
      (refine floatS (i := 5) (v := ?_) rfl (by kernel_rfl) (by kernel_rfl) (by kernel_rfl) (by kernel_rfl) (fun _ _ _ h => h) (by assumption) (by rfl) ?_ ?_); rotate_left
      (intro wF hF; (try dsimp only at hF); go_simp; try with_reducible rfl)
      (try simp only [Act.put, List.setIfInBounds_toArray, List.set_cons_zero, List.set_cons_succ])
      (refine float0 (i := 6) (v := ?_) rfl (by kernel_rfl) (by kernel_rfl) (by kernel_rfl) (by kernel_rfl) (fun _ _ _ h => h) (by rfl) ?_ ?_); rotate_left
      (intro wF; go_simp; try with_reducible rfl)
      (try simp only [Act.put, List.setIfInBounds_toArray, List.set_cons_zero, List.set_cons_succ])
      (refine float0 (i := 10) (v := ?_) rfl (by kernel_rfl) (by kernel_rfl) (by kernel_rfl) (by kernel_rfl) (fun _ _ _ h => h) (by rfl) ?_ ?_); rotate_left
      (intro wF; go_simp; try with_reducible rfl)
      (try simp only [Act.put, List.setIfInBounds_toArray, List.set_cons_zero, List.set_cons_succ])
      (refine float0 (i := 11) (v := ?_) rfl (by kernel_rfl) (by kernel_rfl) (by kernel_rfl) (by kernel_rfl) (fun _ _ _ h => h) (by rfl) ?_ ?_); rotate_left
      (intro wF; go_simp; try with_reducible rfl)
      (try simp only [Act.put, List.setIfInBounds_toArray, List.set_cons_zero, List.set_cons_succ])
      (refine float0 (i := 12) (v := ?_) rfl (by kernel_rfl) (by kernel_rfl) (by kernel_rfl) (by kernel_rfl) (fun _ _ _ h => h) (by rfl) ?_ ?_); rotate_left
      (intro wF; go_simp; try with_reducible rfl)
      (try simp only [Act.put, List.setIfInBounds_toArray, List.set_cons_zero, List.set_cons_succ])
      (refine floatS (i := 13) (v := ?_) rfl (by kernel_rfl) (by kernel_rfl) (by kernel_rfl) (by kernel_rfl) (fun _ _ _ h => h) (by assumption) (by rfl) ?_ ?_); rotate_left
      (intro wF hF; (try dsimp only at hF); go_simp; try with_reducible rfl)
      (try simp only [Act.put, List.setIfInBounds_toArray, List.set_cons_zero, List.set_cons_succ])
      (refine float0 (i := 14) (v := ?_) rfl (by kernel_rfl) (by kernel_rfl) (by kernel_rfl) (by kernel_rfl) (fun _ _ _ h => h) (by rfl) ?_ ?_); rotate_left
      (intro wF; go_simp; try with_reducible rfl)
      (try simp only [Act.put, List.setIfInBounds_toArray, List.set_cons_zero, List.set_cons_succ])
      (refine floatS (i := 15) (v := ?_) rfl (by kernel_rfl) (by kernel_rfl) (by kernel_rfl) (by kernel_rfl) (fun _ _ _ h => h) (by assumption) (by rfl) ?_ ?_); rotate_left
      (intro wF hF; (try dsimp only at hF); go_simp; try with_reducible rfl)
      (try simp only [Act.put, List.setIfInBounds_toArray, List.set_cons_zero, List.set_cons_succ])
      (refine float0 (i := 16) (v := ?_) rfl (by kernel_rfl) (by kernel_rfl) (by kernel_rfl) (by kernel_rfl) (fun _ _ _ h => h) (by rfl) ?_ ?_); rotate_left
      (intro wF; go_simp; try with_reducible rfl)
      (try simp only [Act.put, List.setIfInBounds_toArray, List.set_cons_zero, List.set_cons_succ])
      (refine floatM (i := 7) rfl (by kernel_rfl) (by kernel_rfl) (fun K hK => ?_)); go_simp
      refine (IH.out _ _ x s HSD.out.inv (HSD1.out.tr _ _ HV1.out) (by have := HM.out; simp only [Ty.size] at this; omega) (fun N h => HVV.out N (by simp [Ty.has, h])) (HNM.out.stable _ _ _ HRR.out HSD.out)).mono ?_
      rintro e w2 ⟨rfl, hR2, hs2⟩
      have hs2' := (Same.s (S := S) HSD1.out).trans hs2
      have q1 : ¬ 9223372036854775807 < 1 + (bs (showS nm x s).1).size := by have := HB.out x s (by have := HM.out; simp only [Ty.size] at this; omega); omega
      have q2 : ¬ 9223372036854775807 < 1 + (bs (showS nm x s).1).size + 2 := by have := HB.out x s (by have := HM.out; simp only [Ty.size] at this; omega); omega
      have HR2 := Lib.hid hR2; have HS2 := Lib.hid hs2; have HS2' := Lib.hid hs2'; clear hR2 hs2 hs2'
      go_wp2_with fail
      refine hK.out _ _ (fun _ => HKK.out _ HS2.out.inv.holds) ?_
      clear hK K
      (try simp only [Act.put, List.setIfInBounds_toArray, List.set_cons_zero, List.set_cons_succ])
      (refine float0 (i := 8) (v := ?_) rfl (by kernel_rfl) (by kernel_rfl) (by kernel_rfl) (by kernel_rfl) (fun _ _ _ h => h) (by rfl) ?_ ?_); rotate_left
      (intro wF; go_simp; try with_reducible rfl)
      (try simp only [Act.put, List.setIfInBounds_toArray, List.set_cons_zero, List.set_cons_succ])
      (refine float0 (i := 9) (v := ?_) rfl (by kernel_rfl) (by kernel_rfl) (by kernel_rfl) (by kernel_rfl) (fun _ _ _ h => h) (by rfl) ?_ ?_); rotate_left
      (intro wF; go_simp; try with_reducible rfl)
      (try simp only [Act.put, List.setIfInBounds_toArray, List.set_cons_zero, List.set_cons_succ])
      (refine floatM (i := 17) rfl (by kernel_rfl) (by kernel_rfl) (fun K hK => ?_)); go_simp
      refine (IH.out _ _ y _ HS2.out.inv (HS2.out.tr _ _ (HSD1.out.tr _ _ HV2.out)) (by have := HM.out; simp only [Ty.size] at this; omega) (fun N h => HVV.out N (by simp [Ty.has, h])) HR2.out).mono ?_
      rintro e w3 ⟨rfl, hR3, hs3⟩
      have hs3' := HS2'.out.trans hs3
      have q3 : ¬ 9223372036854775807 < 1 + (bs (showS nm x s).1).size + 2 + (bs (showS nm y (showS nm x s).2).1).size := by
        have := HB.out x s (by have := HM.out; simp only [Ty.size] at this; omega)
        have := HB.out y (showS nm x s).2 (by have := HM.out; simp only [Ty.size] at this; omega)
        omega
      have q4 : ¬ 9223372036854775807 < 1 + (bs (showS nm x s).1).size + 2 + (bs (showS nm y (showS nm x s).2).1).size + 1 := by
        have := HB.out x s (by have := HM.out; simp only [Ty.size] at this; omega)
        have := HB.out y (showS nm x s).2 (by have := HM.out; simp only [Ty.size] at this; omega)
        omega
      have HR3 := Lib.hid hR3; have HS3 := Lib.hid hs3'; clear hR3 hs3 hs3'
      go_wp2_with fail
      refine hK.out _ _ (fun _ => HKK.out _ HS3.out.inv.holds) ?_
      clear hK K
      (try simp only [Act.put, List.setIfInBounds_toArray, List.set_cons_zero, List.set_cons_succ])
      (refine float0 (i := 18) (v := ?_) rfl (by kernel_rfl) (by kernel_rfl) (by kernel_rfl) (by kernel_rfl) (fun _ _ _ h => h) (by rfl) ?_ ?_); rotate_left
      (intro wF; go_simp; try with_reducible rfl)
      (try simp only [Act.put, List.setIfInBounds_toArray, List.set_cons_zero, List.set_cons_succ])
      (refine float0 (i := 19) (v := ?_) rfl (by kernel_rfl) (by kernel_rfl) (by kernel_rfl) (by kernel_rfl) (fun _ _ _ h => h) (by rfl) ?_ ?_); rotate_left
      (intro wF; go_simp; try with_reducible rfl)
      (try simp only [Act.put, List.setIfInBounds_toArray, List.set_cons_zero, List.set_cons_succ])
      (refine floatM (i := 20) rfl (by kernel_rfl) (by kernel_rfl) (fun K hK => ?_)); go_simp
      refine hK.out _ _ (fun _ => HKK.out _ HS3.out.inv.holds) ?_
      clear hK K
      (try simp only [Act.put, List.setIfInBounds_toArray, List.set_cons_zero, List.set_cons_succ])
      (refine floatE (by kernel_rfl) ?_)
      go_wp2_with fail
      go_ret
      refine ⟨?_, HR3.out, HS.out.s.trans HS3.out⟩
      show Ending.returned (.string (bs LP ++ bs _ ++ bs [44, 32] ++ bs _ ++ bs RP)) = _
      rw [bs_append, bs_append, bs_append, bs_append]; rfl
    | fn x y =>
      simp only [Ty.kind, bs, sFun] at c0
      simp only [Ty.args] at hts
      obtain ⟨v1, v2, rfl, hv1, hv2⟩ := hts.two2
      obtain ⟨b2, rfl, cj⟩ := HL.out w1 HS.out.inv.holds 0 v1 rfl
      have HCj : Hid (∀ w', Holds G w' → w'.cell? ⟨b2, 0, none⟩ = some v1 ∧ w'.cell? ⟨b2, 1, none⟩ = some v2) := Lib.hid (fun w' hG => by
        obtain ⟨b4, e4, g4⟩ := HL.out w' hG 0 v1 rfl
        obtain ⟨b5, e5, g5⟩ := HL.out w' hG 1 v2 rfl
        injection e4 with e4; injection e4 with e4; injection e5 with e5; injection e5 with e5
        subst e4; subst e5
        exact ⟨g4, g5⟩)
      obtain ⟨T2, b3, fd2, rfl, hmt2, hent2, hF2⟩ := find_fn hv1
      obtain ⟨T3, b4, rfl⟩ := hv2.iface
      have HF2 := Lib.hid hF2; clear hF2
      have HV1 := Lib.hid hv1; have HV2 := Lib.hid hv2; clear hv1 hv2 hts
      go_wp2_with fail
      refine (IH.out w1 _ x s HS.out.inv HV1.out (by have := HM.out; simp only [Ty.size] at this; omega) (fun N h => HVV.out N (by simp [Ty.has, h])) (HNM.out.stable _ _ _ HRR.out HS.out)).mono ?_
      rintro e w2 ⟨rfl, hR2, hs2⟩
      have d1 : w2.cell? ⟨b1, 1, none⟩ = some (.slice (some ⟨b2, 0, none⟩) 2 cap) := HK.out _ hs2.inv.holds
      obtain ⟨d2, d3⟩ := HCj.out _ hs2.inv.holds
      have hv12 := hs2.tr _ _ HV1.out
      have HFC := Lib.hid (HF2.out _ _ _ _ _ hs2.inv hv12)
      have q1 : (bs (showS nm x s).1).size ≤ 1010000000000 := HB.out x s (by have := HM.out; simp only [Ty.size] at this; omega)
      have HR2 := Lib.hid hR2; have HS2 := Lib.hid hs2; clear hR2 hs2 hv12 c0 c1 cj
      go_wp2_with fail
      refine HFC.out.mono ?_
      rintro e w3 ⟨r3, rfl, hs3, hr3⟩
      have c1 : w3.cell? ⟨b1, 1, none⟩ = some (.slice (some ⟨b2, 0, none⟩) 2 cap) := HK.out _ hs3.inv.holds
      obtain ⟨c2, c3⟩ := HCj.out _ hs3.inv.holds
      have HS3 := Lib.hid hs3
      clear d1 d2 d3
      clear HFC
      cases hr3 with
      | @var N5 b5 nm5 hA5 hb5 =>
        clear hb5
        simp only [varV]
        have taV := taVarCon
        have q2 : ¬ 9223372036854775807 < (bs (showS nm (.var N5) s).1).size + 4 := by omega
        clear hs3
        go_wp2_with fail
        refine (IH.out _ _ y _ HS3.out.inv (HS3.out.tr _ _ (HS2.out.tr _ _ HV2.out)) (by have := HM.out; simp only [Ty.size] at this; omega) (fun N h => HVV.out N (by simp [Ty.has, h])) (HNM.out.stable _ _ _ HR2.out HS3.out)).mono ?_
        rintro e w4 ⟨rfl, hR4, hs4⟩
        have q3 : ¬ 9223372036854775807 < (bs (showS nm (.var N5) s).1).size + 4 + (bs (showS nm y (showS nm (.var N5) s).2).1).size := by
          have := HB.out y (showS nm (.var N5) s).2 (by have := HM.out; simp only [Ty.size] at this; omega)
          omega
        have HR4 := Lib.hid hR4; have HS4 := Lib.hid hs4; clear hR4 hs4
        go_wp2_with fail
        go_ret
        refine ⟨?_, HR4.out, HS.out.s.trans (HS2.out.trans (HS3.out.s.trans HS4.out))⟩
        show Ending.returned (.string (bs _ ++ bs [32, 45, 62, 32] ++ bs _)) = _
        rw [bs_append, bs_append]; rfl
      | @con b5 lv5 vs5 _ hcn5 hg5 hl5 hts5 =>
        have d0 : w3.cell? ⟨b5, 0, none⟩ = some (.string (bs x.kind)) := cell_of_heap (hs3.inv.holds _ _ hg5) rfl
        clear hg5 hl5 hts5
        simp only [conV]
        cases x with
        | var N5 => cases hcn5
        | int  =>
          simp only [Ty.kind, bs, INT] at d0
          have q2 : ¬ 9223372036854775807 < (bs (showS nm .int s).1).size + 4 := by omega
          clear hs3
          go_wp2_with fail
          refine (IH.out _ _ y _ HS3.out.inv (HS3.out.tr _ _ (HS2.out.tr _ _ HV2.out)) (by have := HM.out; simp only [Ty.size] at this; omega) (fun N h => HVV.out N (by simp [Ty.has, h])) (HNM.out.stable _ _ _ HR2.out HS3.out)).mono ?_
          rintro e w4 ⟨rfl, hR4, hs4⟩
          have q3 : ¬ 9223372036854775807 < (bs (showS nm .int s).1).size + 4 + (bs (showS nm y (showS nm .int s).2).1).size := by
            have := HB.out y (showS nm .int s).2 (by have := HM.out; simp only [Ty.size] at this; omega)
            omega
          have HR4 := Lib.hid hR4; have HS4 := Lib.hid hs4; clear hR4 hs4
          go_wp2_with fail
          go_ret
          refine ⟨?_, HR4.out, HS.out.s.trans (HS2.out.trans (HS3.out.s.trans HS4.out))⟩
          show Ending.returned (.string (bs _ ++ bs [32, 45, 62, 32] ++ bs _)) = _
          rw [bs_append, bs_append]; rfl
        | bool  =>
          simp only [Ty.kind, bs, BOOL] at d0
          have q2 : ¬ 9223372036854775807 < (bs (showS nm .bool s).1).size + 4 := by omega
          clear hs3
          go_wp2_with fail
          refine (IH.out _ _ y _ HS3.out.inv (HS3.out.tr _ _ (HS2.out.tr _ _ HV2.out)) (by have := HM.out; simp only [Ty.size] at this; omega) (fun N h => HVV.out N (by simp [Ty.has, h])) (HNM.out.stable _ _ _ HR2.out HS3.out)).mono ?_
          rintro e w4 ⟨rfl, hR4, hs4⟩
          have q3 : ¬ 9223372036854775807 < (bs (showS nm .bool s).1).size + 4 + (bs (showS nm y (showS nm .bool s).2).1).size := by
            have := HB.out y (showS nm .bool s).2 (by have := HM.out; simp only [Ty.size] at this; omega)
            omega
          have HR4 := Lib.hid hR4; have HS4 := Lib.hid hs4; clear hR4 hs4
          go_wp2_with fail
          go_ret
          refine ⟨?_, HR4.out, HS.out.s.trans (HS2.out.trans (HS3.out.s.trans HS4.out))⟩
          show Ending.returned (.string (bs _ ++ bs [32, 45, 62, 32] ++ bs _)) = _
          rw [bs_append, bs_append]; rfl
        | list x1 =>
          simp only [Ty.kind, bs, sList] at d0
          have q2 : ¬ 9223372036854775807 < (bs (showS nm (.list x1) s).1).size + 4 := by omega
          clear hs3
          go_wp2_with fail
          refine (IH.out _ _ y _ HS3.out.inv (HS3.out.tr _ _ (HS2.out.tr _ _ HV2.out)) (by have := HM.out; simp only [Ty.size] at this; omega) (fun N h => HVV.out N (by simp [Ty.has, h])) (HNM.out.stable _ _ _ HR2.out HS3.out)).mono ?_
          rintro e w4 ⟨rfl, hR4, hs4⟩
          have q3 : ¬ 9223372036854775807 < (bs (showS nm (.list x1) s).1).size + 4 + (bs (showS nm y (showS nm (.list x1) s).2).1).size := by
            have := HB.out y (showS nm (.list x1) s).2 (by have := HM.out; simp only [Ty.size] at this; omega)
            omega
          have HR4 := Lib.hid hR4; have HS4 := Lib.hid hs4; clear hR4 hs4
          go_wp2_with fail
          go_ret
          refine ⟨?_, HR4.out, HS.out.s.trans (HS2.out.trans (HS3.out.s.trans HS4.out))⟩
          show Ending.returned (.string (bs _ ++ bs [32, 45, 62, 32] ++ bs _)) = _
          rw [bs_append, bs_append]; rfl
        | pair x1 x2 =>
          simp only [Ty.kind, bs, sPair] at d0
          have q2 : ¬ 9223372036854775807 < (bs (showS nm (.pair x1 x2) s).1).size + 4 := by omega
          clear hs3
          go_wp2_with fail
          refine (IH.out _ _ y _ HS3.out.inv (HS3.out.tr _ _ (HS2.out.tr _ _ HV2.out)) (by have := HM.out; simp only [Ty.size] at this; omega) (fun N h => HVV.out N (by simp [Ty.has, h])) (HNM.out.stable _ _ _ HR2.out HS3.out)).mono ?_
          rintro e w4 ⟨rfl, hR4, hs4⟩
          have q3 : ¬ 9223372036854775807 < (bs (showS nm (.pair x1 x2) s).1).size + 4 + (bs (showS nm y (showS nm (.pair x1 x2) s).2).1).size := by
            have := HB.out y (showS nm (.pair x1 x2) s).2 (by have := HM.out; simp only [Ty.size] at this; omega)
            omega
          have HR4 := Lib.hid hR4; have HS4 := Lib.hid hs4; clear hR4 hs4
          go_wp2_with fail
          go_ret
          refine ⟨?_, HR4.out, HS.out.s.trans (HS2.out.trans (HS3.out.s.trans HS4.out))⟩
          show Ending.returned (.string (bs _ ++ bs [32, 45, 62, 32] ++ bs _)) = _
          rw [bs_append, bs_append]; rfl
        | fn x1 x2 =>
          simp only [Ty.kind, bs, sFun] at d0
          have p1 : ¬ 9223372036854775807 < 1 + (bs (showS nm (.fn x1 x2) s).1).size := by omega
          have p2 : ¬ 9223372036854775807 < 1 + (bs (showS nm (.fn x1 x2) s).1).size + 1 := by omega
          have q2 : ¬ 9223372036854775807 < 1 + (bs (showS nm (.fn x1 x2) s).1).size + 1 + 4 := by omega
          clear hs3
          go_wp2_with fail
          refine (IH.out _ _ y _ HS3.out.inv (HS3.out.tr _ _ (HS2.out.tr _ _ HV2.out)) (by have := HM.out; simp only [Ty.size] at this; omega) (fun N h => HVV.out N (by simp [Ty.has, h])) (HNM.out.stable _ _ _ HR2.out HS3.out)).mono ?_
          rintro e w4 ⟨rfl, hR4, hs4⟩
          have q3 : ¬ 9223372036854775807 < 1 + (bs (showS nm (.fn x1 x2) s).1).size + 1 + 4 + (bs (showS nm y (showS nm (.fn x1 x2) s).2).1).size := by
            have := HB.out y (showS nm (.fn x1 x2) s).2 (by have := HM.out; simp only [Ty.size] at this; omega)
            omega
          have HR4 := Lib.hid hR4; have HS4 := Lib.hid hs4; clear hR4 hs4
          go_wp2_with fail
          go_ret
          refine ⟨?_, HR4.out, HS.out.s.trans (HS2.out.trans (HS3.out.s.trans HS4.out))⟩
          show Ending.returned (.string (bs LP ++ bs _ ++ bs RP ++ bs [32, 45, 62, 32] ++ bs _)) = _
          rw [bs_append, bs_append, bs_append, bs_append]; rfl
theorem show_ok {G : GH} {A : GV} {n : Nat} {S V : Nat → Prop} {St : Type} {nm : St → Nat → Str × St} {R : St → World → Prop} {f : FuncId} {caps : Array Value} (hN : NmOk G A n S V nm R f caps) : ∀ m, m ≤ 1000000000 → ShowOk G A n S V nm R f caps m
  | 0, _ => fun w v t s hi hv hm _ hR => by have : 1 ≤ t.size := (by cases t <;> simp [Ty.size]); omega
  | m + 1, h => show_step hN m h (show_ok hN m (by omega))
end Go.Proofs.YtabikmkoajdhmaaGreatDoor

/- types.Each by a contract, for every closure that keeps a state; Scheme.Any. -/
namespace Go.Proofs.YtabikmkoajdhmaaGreatDoor
open Go.RowKit

/-- The variables of a type, as they stand. -/
def Ty.vs : Ty → List Nat
  | .var n => [n]
  | .int | .bool => []
  | .list a => a.vs
  | .pair a b | .fn a b => a.vs ++ b.vs
theorem Ty.vs_args {t : Ty} (h : t.con = true) : t.vs = t.args.flatMap Ty.vs := by
  cases t <;> simp_all [Ty.con, Ty.vs, Ty.args]
/-- A closure that is handed variables: its state s, told by R of the world; it touches S alone. -/
structure DoOk (G : GH) (A : GV) (n : Nat) (S : Nat → Prop) {St : Type} (step : St → Nat → St) (R : St → World → Prop) (f : FuncId) (caps : Array Value) : Prop where
  enter : ∀ args w, (callFunc f args).run Tryz.prog w = .ok (.enter f args) w
  stable : ∀ s w w', R s w → Same G A n w w' → R s w'
  call : ∀ s w N b name, R s w → TInv G A w n → A N = some (b, name) → TR G A w (varV b) (.var N) → Calls Tryz.prog f (#[.pointer (some ⟨b, 0, none⟩)] ++ caps) w (fun e w' => e = .returned (.tuple #[]) ∧ R (step s N) w' ∧ SameS S G A n w w')
def EachOk (G : GH) (A : GV) (n : Nat) (S : Nat → Prop) {St : Type} (step : St → Nat → St) (R : St → World → Prop) (f : FuncId) (caps : Array Value) (m : Nat) : Prop :=
  ∀ (w : World) (v : Value) (t : Ty) (s : St), TInv G A w n → TR G A w v t → t.size ≤ m → R s w → Calls Tryz.prog 161 #[v, .func (.func f) #[] caps] w (fun e w' => e = .returned (.tuple #[]) ∧ R (t.vs.foldl step s) w' ∧ SameS S G A n w w')

set_option maxRecDepth 100000 in
set_option maxHeartbeats 4000000 in
theorem each_step {G : GH} {A : GV} {n : Nat} {S : Nat → Prop} {St : Type} {step : St → Nat → St} {R : St → World → Prop} {f : FuncId} {caps : Array Value} (hN : DoOk G A n S step R f caps) (m : Nat) (ih : EachOk G A n S step R f caps m) : EachOk G A n S step R f caps (m + 1) := by
  intro w v t s hi hv hm hR
  obtain ⟨T, b, fd, rfl, hmt, hent, hc⟩ := find_any hi hv
  have HC := Lib.hid hc; have IH := Lib.hid ih; have HI := Lib.hid hi; have HM := Lib.hid hm; have HRR := Lib.hid hR; have HNM := Lib.hid hN
  have henf := hN.enter
  clear hc ih hi hm hv hR hN
  go_enter Tryz.func161, Tryz.ntmps161
  go_wp2_with fail
  refine HC.out.mono ?_
  rintro e w1 ⟨r, rfl, hs, hr⟩
  cases hr with
  | @var N b1 name hA hb =>
    have hcl := HNM.out.call s w1 N b1 name (HNM.out.stable _ _ _ HRR.out hs) hs.inv hA (.free hA hb)
    have HCL := Lib.hid hcl; have HS := Lib.hid hs; clear hcl hs hb
    simp only [varV]
    have ta := taVarVar
    go_wp2_with fail
    refine HCL.out.mono ?_
    rintro e w3 ⟨rfl, hR3, hs4⟩
    have HR3 := Lib.hid hR3; have HS4 := Lib.hid hs4; clear hR3 hs4
    go_wp2_with fail
    go_end0
    exact ⟨rfl, HR3.out, HS.out.s.trans HS4.out⟩
  | @con b1 lv vs _ hcn hg hl hts =>
    have c1 : w1.cell? ⟨b1, 1, none⟩ = some lv := cell_of_heap (hs.inv.holds _ _ hg) rfl
    obtain ⟨a, cap, rfl, hcells⟩ := hl.shp
    have HS := Lib.hid hs; have HL := Lib.hid hcells; have HT := Lib.hid hts; have HLen : Hid (vs.length = t.args.length) := Lib.hid hts.len
    have HH := Lib.hid (Ty.vs_args hcn)
    clear hs hg hl hcells hts
    have hvl : vs.length ≤ 2 := by have := HLen.out; have := Ty.args_len (t := t); omega
    simp only [conV]
    have ta := taConCon
    have tb := taConVar
    go_wp2_with fail
    go_loopg [24] vs.length (fun gn s24 wr => ∃ j : Nat, j ≤ vs.length ∧ Hid (gn = vs.length - j) ∧ s24 = .int .i64 j ∧ Hid (R (((t.args.take j).flatMap Ty.vs).foldl step s) wr) ∧ Hid (SameS S G A n w wr) ∧ Hid (TRs G A wr vs t.args))
    case atStart => exact ⟨0, by omega, Lib.hid rfl, rfl, Lib.hid (HNM.out.stable _ _ _ HRR.out HS.out), Lib.hid HS.out.s, HT⟩
    case round =>
      obtain ⟨j, hj, HM2, rfl, HRJ, HS2, HT2⟩ := hrel
      have hjj : (0 : Int) ≤ (j : Int) := by omega
      by_cases hlt : j < vs.length
      · have hltx : j < t.args.length := by have := HLen.out; omega
        obtain ⟨b2, rfl, cj⟩ := HL.out wr HS2.out.inv.holds j vs[j] (by simp [hlt])
        have hxj := HT2.out.get j hlt hltx
        obtain ⟨T2, b', e⟩ := hxj.iface
        rw [e] at cj hxj
        have HXJ := Lib.hid hxj; clear hxj e
        have hji : ((j : Int) < (vs.length : Int)) := by omega
        go_wp2_with fail
        refine (IH.out wr _ _ _ HS2.out.inv HXJ.out (by have := Ty.arg_sz (List.getElem_mem hltx); have := HM.out; omega) HRJ.out).mono ?_
        rintro e w2 ⟨rfl, hR2, hs2⟩
        have HS3 := Lib.hid (HS2.out.trans hs2); have HT3 := Lib.hid (hs2.trs HT2.out)
        have HR2 : Hid (R (((t.args.take (j + 1)).flatMap Ty.vs).foldl step s) w2) := Lib.hid (by
          rw [List.take_succ_eq_append_getElem hltx, List.flatMap_append, List.foldl_append]; simpa using hR2)
        clear hs2 hR2
        go_wp2_with fail
        go_roundg (vs.length - (j + 1))
        case measure => have := HM2.out; omega
        case rel => exact ⟨j + 1, by omega, Lib.hid rfl, by go_num, HR2, HS3, HT3⟩
      · have hje : j = vs.length := by omega
        subst hje
        go_wp2_with fail
        have hR2 := HRJ.out
        rw [HLen.out, List.take_length, ← HH.out] at hR2
        have HR2 := Lib.hid hR2; clear hR2
        go_end0
        exact ⟨rfl, HR2.out, HS2.out⟩
theorem each_ok {G : GH} {A : GV} {n : Nat} {S : Nat → Prop} {St : Type} {step : St → Nat → St} {R : St → World → Prop} {f : FuncId} {caps : Array Value} (hN : DoOk G A n S step R f caps) : ∀ m, EachOk G A n S step R f caps m
  | 0 => fun w v t s hi hv hm hR => by have := t.size_pos; omega
  | m + 1 => each_step hN m (each_ok hN m)
end Go.Proofs.YtabikmkoajdhmaaGreatDoor

/- types.Scheme.Any by a contract; schemes in memory. -/
namespace Go.Proofs.YtabikmkoajdhmaaGreatDoor
open Go.RowKit

def unitV : Value := .agg #[]
theorem und_set : Tryz.prog.underlying 178 = some (.map 3 321) := by kernel_rfl
theorem zero_unit : ∀ w, (zeroValue 321).run Tryz.prog w = .ok unitV w := fun w => by kernel_rfl
def setEnts (l : List Nat) : List (Int × Value) := l.map fun (N : Nat) => ((N : Int), unitV)
theorem set_look (N : Nat) : ∀ l : List Nat, (setEnts l).lookup (N : Int) = if l.contains N then some unitV else none
  | [] => rfl
  | M :: r => by
    simp only [setEnts, List.map_cons, List.lookup_cons, List.contains_cons]
    by_cases h : N = M
    · subst h; simp
    · have h1 : ((N : Int) == (M : Int)) = false := by
        have : ¬ (N : Int) = (M : Int) := by omega
        simpa using this
      have h2 : (N == M) = false := by simpa using h
      rw [h1, h2, Bool.false_or]
      exact set_look N r
theorem run_look_set {w : World} {r N : Nat} {l : List Nat} (h : w.heap[r]? = some (kmap kInt (setEnts l))) :
    (Instr.lookup 178 (.map (some r)) (.int .i64 N) true).run Tryz.prog w = .ok (.tuple #[unitV, .bool (l.contains N)]) w := by
  cases hc : l.contains N with
  | true => exact run_look_some (P := Tryz.prog) und_set key_int (k := (N : Int)) (v := unitV) h (by rw [set_look, hc]; rfl) true
  | false => exact run_look_none (P := Tryz.prog) und_set key_int zero_unit (k := (N : Int)) h (by rw [set_look, hc]; rfl) true
theorem run_look_nilset (w : World) (N : Nat) : (Instr.lookup 178 (.map none) (.int .i64 N) true).run Tryz.prog w = .ok (.tuple #[unitV, .bool false]) w := by
  have hz := zero_unit w
  have hc := key_int.check (N : Int)
  unfold kInt at hc
  simp only [Instr.lookup, Sem.run_bind, run_underlying und_set, Result.andThen_ok, Sem.run_pure, hc, Result.andThen, Instr.findKey, run_underlying Tryz.underlying3, Instr.findNow, hz, if_true]

/-- The variables of a scheme that stand for any type. -/
def AllG (G : GH) (mv : Value) (all : List Nat) : Prop := (mv = .map none ∧ all = []) ∨ ∃ m, mv = .map (some m) ∧ G m = some (kmap kInt (setEnts all))
theorem AllG.sub {G G' : GH} (hs : G.sub G') {mv : Value} {all : List Nat} (h : AllG G mv all) : AllG G' mv all := by
  rcases h with h | ⟨m, e, h⟩
  · exact .inl h
  · exact .inr ⟨m, e, hs _ _ h⟩
theorem AllG.look {G : GH} {mv : Value} {all : List Nat} (h : AllG G mv all) {w : World} (hG : Holds G w) (N : Nat) : (Instr.lookup 178 mv (.int .i64 N) true).run Tryz.prog w = .ok (.tuple #[unitV, .bool (all.contains N)]) w := by
  rcases h with ⟨rfl, rfl⟩ | ⟨m, rfl, h⟩
  · exact run_look_nilset w N
  · exact run_look_set (hG _ _ h)

set_option maxRecDepth 100000 in
set_option maxHeartbeats 1000000 in
theorem any_ok {G : GH} {mv tv : Value} {all : List Nat} (h : AllG G mv all) {w : World} (hG : Holds G w) {b N : Nat} {nm : Str} {is : Value} (hb : w.heap[b]? = some (varObj N is nm)) (ht : ∃ T a, tv = .iface T (.pointer (some a))) :
    Calls Tryz.prog 163 #[.agg #[tv, mv], .pointer (some ⟨b, 0, none⟩)] w (fun e w' => e = .returned (.bool (all.contains N)) ∧ Keep none' w w') := by
  obtain ⟨T, a, rfl⟩ := ht
  obtain ⟨mo, rfl⟩ : ∃ mo, mv = .map mo := by rcases h with ⟨rfl, _⟩ | ⟨m, rfl, _⟩ <;> exact ⟨_, rfl⟩
  have hL : ∀ w', Holds G w' → (Instr.lookup 178 (.map mo) (.int .i64 N) true).run Tryz.prog w' = .ok (.tuple #[unitV, .bool (all.contains N)]) w' := fun w' hw => h.look hw N
  have HL := Lib.hid hL; have HB := Lib.hid hb; have HG := Lib.hid hG
  clear hL hb hG h
  go_enter Tryz.func163, Tryz.ntmps163
  go_wp2_with fail
  have h2 : (w.drew.alloc (.cells #[.iface T (.pointer (some a)), .map mo] 180)).heap[w.heap.size]? = some (.cells #[.iface T (.pointer (some a)), .map mo] 180) := heap_new _ _
  have hK : ∀ w', Keep none' (w.alloc (.cells #[.iface T (.pointer (some a)), .map mo] 180)) w' → w'.cell? ⟨w.heap.size, 1, none⟩ = some (.map mo) ∧ w'.cell? ⟨b, 0, none⟩ = some (.int .i64 N) ∧ (Instr.lookup 178 (.map mo) (.int .i64 N) true).run Tryz.prog w' = .ok (.tuple #[unitV, .bool (all.contains N)]) w' := fun w' k =>
    ⟨cell_of_heap (k.get (heap_new _ _) (fun x => x)) rfl, cell_of_heap (k.get (heap_old HB.out) (fun x => x)) rfl, HL.out w' ((HG.out.keep0 (Keep.alloc _ _ _)).keep0 k)⟩
  have S0 := hK (w.alloc (.cells #[.iface T (.pointer (some a)), .map mo] 180)).drew (Keep.drew _ _)
  have HK := Lib.hid hK; clear hK h2
  unfold unitV at S0 HK
  refine wp_region_float (fun w' => w'.cell? ⟨w.heap.size, 1, none⟩ = some (.map mo) ∧ w'.cell? ⟨b, 0, none⟩ = some (.int .i64 N) ∧ (Instr.lookup 178 (.map mo) (.int .i64 N) true).run Tryz.prog w' = .ok (.tuple #[.agg #[], .bool (all.contains N)]) w') [0, 2, 3, 4, 7, 8, 9] [1, 5, 6] (by kernel_rfl) ?_
  (refine float0 (i := 0) (v := ?_) rfl (by kernel_rfl) (by kernel_rfl) (by kernel_rfl) (by kernel_rfl) (fun _ _ _ h => h) (by rfl) ?_ ?_); rotate_left
  (intro wF; go_simp; try with_reducible rfl)
  (try simp only [Act.put, List.setIfInBounds_toArray, List.set_cons_zero, List.set_cons_succ])
  (refine floatS (i := 1) (v := ?_) rfl (by kernel_rfl) (by kernel_rfl) (by kernel_rfl) (by kernel_rfl) (fun _ _ _ h => h) (by assumption) (by rfl) ?_ ?_); rotate_left
  (intro wF hF; (try dsimp only at hF); go_simp; try with_reducible rfl)
  (try simp only [Act.put, List.setIfInBounds_toArray, List.set_cons_zero, List.set_cons_succ])
  (refine float0 (i := 2) (v := ?_) rfl (by kernel_rfl) (by kernel_rfl) (by kernel_rfl) (by kernel_rfl) (fun _ _ _ h => h) (by rfl) ?_ ?_); rotate_left
  (intro wF; go_simp; try with_reducible rfl)
  (try simp only [Act.put, List.setIfInBounds_toArray, List.set_cons_zero, List.set_cons_succ])
  (refine float0 (i := 3) (v := ?_) rfl (by kernel_rfl) (by kernel_rfl) (by kernel_rfl) (by kernel_rfl) (fun _ _ _ h => h) (by rfl) ?_ ?_); rotate_left
  (intro wF; go_simp; try with_reducible rfl)
  (try simp only [Act.put, List.setIfInBounds_toArray, List.set_cons_zero, List.set_cons_succ])
  (refine float0 (i := 4) (v := ?_) rfl (by kernel_rfl) (by kernel_rfl) (by kernel_rfl) (by kernel_rfl) (fun _ _ _ h => h) (by rfl) ?_ ?_); rotate_left
  (intro wF; go_simp; try with_reducible rfl)
  (try simp only [Act.put, List.setIfInBounds_toArray, List.set_cons_zero, List.set_cons_succ])
  (refine floatS (i := 5) (v := ?_) rfl (by kernel_rfl) (by kernel_rfl) (by kernel_rfl) (by kernel_rfl) (fun _ _ _ h => h) (by assumption) (by rfl) ?_ ?_); rotate_left
  (intro wF hF; (try dsimp only at hF); go_simp; try with_reducible rfl)
  (try simp only [Act.put, List.setIfInBounds_toArray, List.set_cons_zero, List.set_cons_succ])
  (refine floatS (i := 6) (v := ?_) rfl (by kernel_rfl) (by kernel_rfl) (by kernel_rfl) (by kernel_rfl) (fun _ _ _ h => h) (by assumption) (by rfl) ?_ ?_); rotate_left
  (intro wF hF; (try dsimp only at hF); go_simp; try with_reducible rfl)
  (try simp only [Act.put, List.setIfInBounds_toArray, List.set_cons_zero, List.set_cons_succ])
  (refine float0 (i := 7) (v := ?_) rfl (by kernel_rfl) (by kernel_rfl) (by kernel_rfl) (by kernel_rfl) (fun _ _ _ h => h) (by rfl) ?_ ?_); rotate_left
  (intro wF; go_simp; try with_reducible rfl)
  (try simp only [Act.put, List.setIfInBounds_toArray, List.set_cons_zero, List.set_cons_succ])
  (refine float0 (i := 8) (v := ?_) rfl (by kernel_rfl) (by kernel_rfl) (by kernel_rfl) (by kernel_rfl) (fun _ _ _ h => h) (by rfl) ?_ ?_); rotate_left
  (intro wF; go_simp; try with_reducible rfl)
  (try simp only [Act.put, List.setIfInBounds_toArray, List.set_cons_zero, List.set_cons_succ])
  (refine float0 (i := 9) (v := ?_) rfl (by kernel_rfl) (by kernel_rfl) (by kernel_rfl) (by kernel_rfl) (fun _ _ _ h => h) (by rfl) ?_ ?_); rotate_left
  (intro wF; go_simp; try with_reducible rfl)
  (try simp only [Act.put, List.setIfInBounds_toArray, List.set_cons_zero, List.set_cons_succ])
  (refine floatM (i := 10) rfl (by kernel_rfl) (by kernel_rfl) (fun K hK => ?_)); go_simp
  refine hK.out _ _ (fun _ => HK.out _ ((Keep.alloc _ _ _).trans (Keep.drew _ _))) ?_
  clear hK K
  (try simp only [Act.put, List.setIfInBounds_toArray, List.set_cons_zero, List.set_cons_succ])
  (refine floatM (i := 11) rfl (by kernel_rfl) (by kernel_rfl) (fun K hK => ?_)); go_simp
  refine hK.out _ _ (fun _ => HK.out _ ((Keep.alloc _ _ _).trans (Keep.drew _ _))) ?_
  clear hK K
  (try simp only [Act.put, List.setIfInBounds_toArray, List.set_cons_zero, List.set_cons_succ])
  (refine floatM (i := 12) rfl (by kernel_rfl) (by kernel_rfl) (fun K hK => ?_)); go_simp
  refine hK.out _ _ (fun _ => HK.out _ ((Keep.alloc _ _ _).trans (Keep.drew _ _))) ?_
  clear hK K
  (try simp only [Act.put, List.setIfInBounds_toArray, List.set_cons_zero, List.set_cons_succ])
  (refine floatE (by kernel_rfl) ?_)
  go_wp2_with fail
  go_ret
  exact ⟨by simp, ((Keep.alloc _ _ _).trans (Keep.alloc _ _ _)).trans (Keep.drew _ _)⟩
end Go.Proofs.YtabikmkoajdhmaaGreatDoor

/- New types in memory: types.Of, (*types.Vars).New: by contracts; what a new block does to the meaning of all values. -/
namespace Go.Proofs.YtabikmkoajdhmaaGreatDoor
open Go.RowKit

/-- A' is A and variables whose blocks are new since w. -/
structure GrewV (A : GV) (w : World) (A' : GV) : Prop where
  sub : A.sub A'
  new : ∀ N b nm, A' N = some (b, nm) → A N = some (b, nm) ∨ w.heap.size ≤ b
theorem GrewV.refl (A : GV) (w : World) : GrewV A w A := ⟨GV.sub.refl A, fun _ _ _ h => .inl h⟩
theorem GrewV.trans {S : Nat → Prop} {A B C : GV} {w w1 : World} (h : GrewV A w B) (k : Keep S w w1) (h' : GrewV B w1 C) : GrewV A w C :=
  ⟨h.sub.trans h'.sub, fun N b nm e => by
    rcases h'.new N b nm e with e | e
    · exact h.new N b nm e
    · exact .inr (Nat.le_trans k.size e)⟩
theorem GrewV.keep {S : Nat → Prop} {A B : GV} {w w1 : World} (k : Keep S w w1) (h' : GrewV A w1 B) : GrewV A w B := (GrewV.refl A w).trans k h'
theorem GrewV.isV {A B : GV} {w : World} (h : GrewV A w B) {b : Nat} (hb : b < w.heap.size) (hn : ¬ isV A b) : ¬ isV B b := fun ⟨N, nm, e⟩ => by
  rcases h.new N b nm e with e | e
  · exact hn ⟨N, nm, e⟩
  · omega

/-- A block laid behind all. -/
theorem TInv.alloc {G : GH} {A : GV} {w : World} {n : Nat} (h : TInv G A w n) (o : Obj) : Grew G w (G.put w.heap.size o) ∧ TInv (G.put w.heap.size o) A (w.alloc o) n := by
  have hf : G w.heap.size = none := h.holds.fresh (Nat.le_refl _)
  refine ⟨⟨GH.sub_put hf, fun b hb => GH.put_other _ _ (by omega)⟩, (h.holds.keep0 (Keep.alloc none' w o)).put (heap_new w o), fun N b nm e => ?_⟩
  obtain ⟨x1, x2, x3, i, hi⟩ := h.vars N b nm e
  have := lt_of_heap hi
  exact ⟨x1, x2, by rw [GH.put_other _ _ (by omega)]; exact x3, i, heap_old hi⟩
theorem Grew.sz {G G' : GH} {w : World} (h : Grew G w G') {b : Nat} (hb : b < w.heap.size) (hn : G b = none) : G' b = none := (h.eq b hb).trans hn

theorem TR.up {G G' : GH} {A A' : GV} {w w' : World} {n : Nat} {v : Value} {t : Ty} (r : TR G A w v t) (h : TInv G A w n) {S : Nat → Prop} (k : Keep S w w') (hS : ∀ b, isV A b → ¬ S b) (hG : G.sub G') (hA : A.sub A') : TR G' A' w' v t :=
  r.mono hG hA (h.blk k hS)

/-- A constructor of one type, laid as types.Of lays it. -/
theorem mk_con1 {G : GH} {A : GV} {w : World} {n : Nat} (h : TInv G A w n) {t a : Ty} {v : Value} (hc : t.con = true) (ha : t.args = [a]) (hv : TR G A w v a) :
    ∃ G', Grew G w G' ∧ TInv G' A ((w.alloc (.cells #[v] 149)).alloc (.cells #[.string (bs t.kind), .slice (some ⟨w.heap.size, 0, none⟩) 1 1] 169)) n ∧
      TR G' A ((w.alloc (.cells #[v] 149)).alloc (.cells #[.string (bs t.kind), .slice (some ⟨w.heap.size, 0, none⟩) 1 1] 169)) (conV (w.heap.size + 1)) t := by
  have e : (w.alloc (.cells #[v] 149)).heap.size = w.heap.size + 1 := by simp
  rw [← e]
  obtain ⟨g1, i1⟩ := h.alloc (.cells #[v] 149)
  obtain ⟨g2, i2⟩ := i1.alloc (.cells #[.string (bs t.kind), .slice (some ⟨w.heap.size, 0, none⟩) 1 1] 169)
  refine ⟨_, g1.trans (Keep.alloc none' w _) g2, i2, ?_⟩
  refine .con (vs := [v]) hc (GH.put_same _ _ _) (.inr ⟨_, _, _, _, rfl, g2.sub _ _ (GH.put_same _ _ _), fun i hi => ?_⟩) ?_
  · have : i = 0 := by simpa using hi
    subst this; rfl
  · rw [ha]
    exact .cons (hv.up h ((Keep.alloc none' w _).trans (Keep.alloc none' _ _)) (fun _ _ x => x) (g1.sub.trans g2.sub) (GV.sub.refl A)) .nil
theorem mk_con2 {G : GH} {A : GV} {w : World} {n : Nat} (h : TInv G A w n) {t a b : Ty} {v u : Value} (hc : t.con = true) (ha : t.args = [a, b]) (hv : TR G A w v a) (hu : TR G A w u b) :
    ∃ G', Grew G w G' ∧ TInv G' A ((w.alloc (.cells #[v, u] 149)).alloc (.cells #[.string (bs t.kind), .slice (some ⟨w.heap.size, 0, none⟩) 2 2] 169)) n ∧
      TR G' A ((w.alloc (.cells #[v, u] 149)).alloc (.cells #[.string (bs t.kind), .slice (some ⟨w.heap.size, 0, none⟩) 2 2] 169)) (conV (w.heap.size + 1)) t := by
  have e : (w.alloc (.cells #[v, u] 149)).heap.size = w.heap.size + 1 := by simp
  rw [← e]
  obtain ⟨g1, i1⟩ := h.alloc (.cells #[v, u] 149)
  obtain ⟨g2, i2⟩ := i1.alloc (.cells #[.string (bs t.kind), .slice (some ⟨w.heap.size, 0, none⟩) 2 2] 169)
  refine ⟨_, g1.trans (Keep.alloc none' w _) g2, i2, ?_⟩
  refine .con (vs := [v, u]) hc (GH.put_same _ _ _) (.inr ⟨_, _, _, _, rfl, g2.sub _ _ (GH.put_same _ _ _), fun i hi => ?_⟩) ?_
  · have : i = 0 ∨ i = 1 := by simp at hi; omega
    rcases this with rfl | rfl <;> rfl
  · rw [ha]
    have k := (Keep.alloc none' w (.cells #[v, u] 149)).trans (Keep.alloc none' _ (.cells #[.string (bs t.kind), .slice (some ⟨w.heap.size, 0, none⟩) 2 2] 169))
    exact .cons (hv.up h k (fun _ _ x => x) (g1.sub.trans g2.sub) (GV.sub.refl A)) (.cons (hu.up h k (fun _ _ x => x) (g1.sub.trans g2.sub) (GV.sub.refl A)) .nil)
theorem mk_con0 {G : GH} {A : GV} {w : World} {n : Nat} (h : TInv G A w n) {t : Ty} (hc : t.con = true) (ha : t.args = []) :
    ∃ G', Grew G w G' ∧ TInv G' A (w.alloc (.cells #[.string (bs t.kind), .slice none 0 0] 169)) n ∧ TR G' A (w.alloc (.cells #[.string (bs t.kind), .slice none 0 0] 169)) (conV w.heap.size) t := by
  obtain ⟨g1, i1⟩ := h.alloc (.cells #[.string (bs t.kind), .slice none 0 0] 169)
  refine ⟨_, g1, i1, .con (vs := []) hc (GH.put_same _ _ _) (.inl ⟨rfl, rfl⟩) ?_⟩
  rw [ha]; exact .nil

theorem of_ok (k : ByteArray) (a : Option Addr) (l c : Nat) (w : World) : Calls Tryz.prog 148 #[.string k, .slice a l c] w (fun e w' => e = .returned (conV w.heap.size) ∧ w' = w.alloc (.cells #[.string k, .slice a l c] 169)) := by
  go_enter Tryz.func148, Tryz.ntmps148
  go_wp2_with fail
  go_ret
  exact ⟨rfl, rfl⟩

def cntObj (n : Nat) : Obj := .cells #[.int .i64 n] 155
theorem new_ok {w : World} {cb n : Nat} (h : w.heap[cb]? = some (cntObj n)) (hn : n < 1000000000) :
    Calls Tryz.prog 166 #[.pointer (some ⟨cb, 0, none⟩)] w (fun e w' => e = .returned (.pointer (some ⟨w.heap.size, 0, none⟩)) ∧ w' = (w.setCell ⟨cb, 0, none⟩ (.int .i64 ((n + 1 : Nat) : Int))).alloc (varObj (n + 1) .nilIface [])) := by
  have c0 : w.cell? ⟨cb, 0, none⟩ = some (.int .i64 n) := cell_of_heap h rfl
  have f0 : ∀ i, w.frozen? ⟨cb, i, none⟩ = false := fun i => free_of_heap h
  have h1 : (w.setCell ⟨cb, 0, none⟩ (.int .i64 ((n : Int) + 1))).heap[cb]? = some (.cells #[.int .i64 ((n : Int) + 1)] 155) := heap_set_same (c := #[.int .i64 n]) h
  have c1 : (w.setCell ⟨cb, 0, none⟩ (.int .i64 ((n : Int) + 1))).cell? ⟨cb, 0, none⟩ = some (.int .i64 ((n : Int) + 1)) := cell_of_heap h1 rfl
  clear h h1
  go_enter Tryz.func166, Tryz.ntmps166
  go_wp2_with fail
  go_ret
  refine ⟨?_, ?_⟩
  · simp
  · simp [varObj, bs]
/-- A new variable. -/
theorem TInv.var {G : GH} {A : GV} {w w2 : World} {n cb : Nat} {nm : Str} (h : TInv G A w n) (k : Keep (one' cb) w w2) (hcb : G cb = none) (hv : ¬ isV A cb) (hb : w2.heap[w.heap.size]? = some (varObj (n + 1) .nilIface nm)) :
    A (n + 1) = none ∧ GrewV A w (A.put (n + 1) (w.heap.size, nm)) ∧ TInv G (A.put (n + 1) (w.heap.size, nm)) w2 (n + 1) ∧ TR G (A.put (n + 1) (w.heap.size, nm)) w2 (varV w.heap.size) (.var (n + 1)) := by
  have h0 : A (n + 1) = none := by
    cases e : A (n + 1) with
    | none => rfl
    | some x => obtain ⟨b, m⟩ := x; have := (h.vars _ _ _ e).2.1; omega
  have hoff : G.off (one' cb) := fun b o hb (e : b = cb) => by subst e; rw [hcb] at hb; cases hb
  have hvs : ∀ b, isV A b → ¬ one' cb b := fun x hx (e : x = cb) => hv (e ▸ hx)
  refine ⟨h0, ⟨GV.sub_put h0, fun N b m e => ?_⟩, ⟨h.holds.keep k hoff, fun N b m e => ?_⟩, .free (GV.put_same _ _ _) hb⟩
  · by_cases hN : N = n + 1
    · subst hN; rw [GV.put_same] at e; injection e with e; injection e with e1 e2; subst e1; exact .inr (Nat.le_refl _)
    · rw [GV.put_other _ _ hN] at e; exact .inl e
  · by_cases hN : N = n + 1
    · subst hN; rw [GV.put_same] at e; injection e with e; injection e with e1 e2; subst e1; subst e2
      exact ⟨by omega, Nat.le_refl _, h.holds.fresh (Nat.le_refl _), _, hb⟩
    · rw [GV.put_other _ _ hN] at e
      obtain ⟨x1, x2, x3, i, hi⟩ := h.vars N b m e
      exact ⟨x1, by omega, x3, i, k.get hi (hvs b ⟨N, m, e⟩)⟩
end Go.Proofs.YtabikmkoajdhmaaGreatDoor

/- The engine's memory: the counter, the variables; and what a step leaves of the meaning of all values. -/
namespace Go.Proofs.YtabikmkoajdhmaaGreatDoor
open Go.RowKit

structure EI (cb : Nat) (G : GH) (A : GV) (w : World) (n : Nat) : Prop where
  inv : TInv G A w n
  cnt : w.heap[cb]? = some (cntObj n)
  cg : G cb = none
  cv : ¬ isV A cb
def touch (cb : Nat) (A : GV) : Nat → Prop := fun b => b = cb ∨ isV A b
structure Ext (cb : Nat) (G : GH) (A : GV) (w : World) (d : Dl) (G' : GH) (A' : GV) (w' : World) : Prop where
  keep : Keep (touch cb A) w w'
  g : Grew G w G'
  a : GrewV A w A'
  tr : ∀ v t, TR G A w v t → TR G' A' w' v (app d t)
theorem touch_old {cb : Nat} {A A' : GV} {w : World} (a : GrewV A w A') {b : Nat} (hb : b < w.heap.size) (h : touch cb A' b) : touch cb A b := by
  rcases h with h | ⟨N, nm, e⟩
  · exact .inl h
  · rcases a.new N b nm e with e | e
    · exact .inr ⟨N, nm, e⟩
    · omega
theorem Ext.trans {cb : Nat} {G G1 G2 : GH} {A A1 A2 : GV} {w w1 w2 : World} {d e : Dl} (h : Ext cb G A w d G1 A1 w1) (k : Ext cb G1 A1 w1 e G2 A2 w2) : Ext cb G A w (d ++ e) G2 A2 w2 :=
  ⟨h.keep.trans' k.keep (fun _ _ x => x) (fun _ hi x => touch_old h.a hi x), h.g.trans h.keep k.g, h.a.trans h.keep k.a, fun v t r => by rw [app_append]; exact k.tr _ _ (h.tr _ _ r)⟩
theorem Ext.refl (cb : Nat) (G : GH) (A : GV) (w : World) : Ext cb G A w [] G A w := ⟨Keep.refl _ _, Grew.refl _ _, GrewV.refl _ _, fun _ _ r => r⟩
/-- A step that finds out nothing. -/
theorem Ext.then0 {cb : Nat} {G G1 G2 : GH} {A A1 A2 : GV} {w w1 w2 : World} {d : Dl} (h : Ext cb G A w d G1 A1 w1) (k : Ext cb G1 A1 w1 [] G2 A2 w2) : Ext cb G A w d G2 A2 w2 := by
  have := h.trans k; rwa [List.append_nil] at this
theorem EI.lt {cb : Nat} {G : GH} {A : GV} {w : World} {n : Nat} (h : EI cb G A w n) : cb < w.heap.size := lt_of_heap h.cnt
/-- New blocks alone. -/
theorem EI.up {cb : Nat} {G G' : GH} {A : GV} {w w' : World} {n : Nat} (h : EI cb G A w n) (k : Keep none' w w') (g : Grew G w G') (i : TInv G' A w' n) : EI cb G' A w' n ∧ Ext cb G A w [] G' A w' :=
  ⟨⟨i, k.get h.cnt (fun x => x), g.sz h.lt h.cg, h.cv⟩, ⟨k.of_none, g, GrewV.refl _ _, fun _ _ r => r.up h.inv k (fun _ _ x => x) g.sub (GV.sub.refl A)⟩⟩
theorem EI.keep0 {cb : Nat} {G : GH} {A : GV} {w w' : World} {n : Nat} (h : EI cb G A w n) (k : Keep none' w w') : EI cb G A w' n ∧ Ext cb G A w [] G A w' := h.up k (Grew.refl _ _) (h.inv.keep0 k)
/-- Ways made shorter. -/
theorem EI.same {cb : Nat} {G : GH} {A : GV} {w w' : World} {n : Nat} (h : EI cb G A w n) (s : Same G A n w w') : EI cb G A w' n ∧ Ext cb G A w [] G A w' :=
  ⟨⟨s.inv, s.keep.get h.cnt h.cv, h.cg, h.cv⟩, ⟨s.keep.mono (fun _ _ x => .inr x), Grew.refl _ _, GrewV.refl _ _, fun v t r => s.tr v t r⟩⟩
/-- A new variable, as (*types.Vars).New lays it. -/
theorem EI.new {cb : Nat} {G : GH} {A : GV} {w w2 : World} {n : Nat} {nm : Str} (h : EI cb G A w n) (k : Keep (one' cb) w w2) (hb : w2.heap[w.heap.size]? = some (varObj (n + 1) .nilIface nm)) (hc : w2.heap[cb]? = some (cntObj (n + 1))) :
    EI cb G (A.put (n + 1) (w.heap.size, nm)) w2 (n + 1) ∧ Ext cb G A w [] G (A.put (n + 1) (w.heap.size, nm)) w2 ∧ TR G (A.put (n + 1) (w.heap.size, nm)) w2 (varV w.heap.size) (.var (n + 1)) := by
  obtain ⟨h0, a, i, y⟩ := h.inv.var k h.cg h.cv hb
  have hv : ∀ b, isV A b → ¬ one' cb b := fun x hx (e : x = cb) => h.cv (e ▸ hx)
  exact ⟨⟨i, hc, h.cg, a.isV h.lt h.cv⟩, ⟨k.mono (fun _ _ e => .inl e), Grew.refl _ _, a, fun v t r => r.up h.inv k hv (GH.sub.refl _) a.sub⟩, y⟩
theorem new_world {w : World} {cb n : Nat} (h : w.heap[cb]? = some (cntObj n)) :
    let w2 := (w.setCell ⟨cb, 0, none⟩ (.int .i64 ((n + 1 : Nat) : Int))).alloc (varObj (n + 1) .nilIface [])
    Keep (one' cb) w w2 ∧ w2.heap[w.heap.size]? = some (varObj (n + 1) .nilIface []) ∧ w2.heap[cb]? = some (cntObj (n + 1)) := by
  refine ⟨(Keep.setCell (S := one' cb) w (p := ⟨cb, 0, none⟩) _ (fun _ => rfl)).trans (Keep.alloc _ _ _), ?_, heap_old (heap_set_same (c := #[.int .i64 n]) h)⟩
  have : (w.setCell ⟨cb, 0, none⟩ (.int .i64 ((n + 1 : Nat) : Int))).heap.size = w.heap.size := World.size_setCell _ _ _
  rw [← this]; exact heap_new _ _
end Go.Proofs.YtabikmkoajdhmaaGreatDoor
