/- Instance's closures by contracts: a variable's own name; the match of two types. -/
import Derived.Test.YtabikmkoajdhmaaGreatDoorInst0
import Derived.Test.YtabikmkoajdhmaaGreatDoorQ24
import Derived.Test.YtabikmkoajdhmaaGreatDoorQ22
import Derived.Test.YtabikmkoajdhmaaGreatDoorQ21
import Derived.Laws.StructEq
set_option linter.unusedVariables false
set_option linter.unusedSimpArgs false
namespace Go.Proofs.YtabikmkoajdhmaaGreatDoor
open Go.RowKit

theorem FreeA.root {G : GH} {A : GV} {w : World} {v : Value} {t : Ty} (hf : FreeA A w) (h : TR G A w v t) : Root G A w v t := by
  cases h with
  | free a b => exact .var a b
  | link a b c => have := hf _ _ _ a; rw [b] at this; simp [varObj] at this
  | con a b c d => exact .con a b c d
theorem FreeA.keep {A : GV} {w w' : World} {S : Nat → Prop} (hf : FreeA A w) (k : Keep S w w') (hS : ∀ b, isV A b → ¬ S b) : FreeA A w' := fun N b nm e => k.get (hf N b nm e) (hS b ⟨_, _, e⟩)
theorem FreeA.same {S : Nat → Prop} {G : GH} {A : GV} {n : Nat} {w w' : World} (hf : FreeA A w) (s : SameS S G A n w w') : FreeA A w' := fun N b nm e => (s.tr _ _ (.free e (hf N b nm e))).var_free e rfl
def matchL (nm : Nat → Str) : List Ty → List Ty → List (Str × Str) → Option (List (Str × Str))
  | x :: r, y :: s, m => (matchS nm x y m).bind fun m => matchL nm r s m
  | [], [], m => some m
  | _, _, _ => none
theorem match_con {nm : Nat → Str} {x y : Ty} (hx : x.con = true) (hy : y.con = true) (hk : x.kind = y.kind) (m : List (Str × Str)) : matchS nm x y m = matchL nm x.args y.args m := by
  cases x <;> cases y <;> simp_all [Ty.con, Ty.kind, Ty.args, matchS, matchL, INT, BOOL, sList, sPair, sFun] <;> (try (cases matchS nm _ _ m <;> simp_all)) <;> (try (rename_i q; cases matchS nm _ _ q <;> simp_all))
theorem match_kind {nm : Nat → Str} {x y : Ty} (hx : x.con = true) (hy : y.con = true) (hk : x.kind ≠ y.kind) (m : List (Str × Str)) : matchS nm x y m = none := by
  cases x <;> cases y <;> simp_all [Ty.con, Ty.kind, matchS, INT, BOOL, sList, sPair, sFun]
theorem match_mix {nm : Nat → Str} {N : Nat} {x : Ty} (hx : x.con = true) (m : List (Str × Str)) : matchS nm x (.var N) m = none := by
  cases x <;> simp_all [Ty.con, matchS]

theorem own_ok {G : GH} {A : GV} {n : Nat} {nm : Nat → Str} (hlen : ∀ N, (nm N).length ≤ 1000) : NmOk G A n none' (fun N => ∃ b, A N = some (b, nm N)) (fun (s : Unit) v => (nm v, s)) (fun _ _ => True) 70 #[] where
  enter := fun args w => by kernel_rfl
  len := fun _ N => hlen N
  stable := fun _ _ _ _ _ => trivial
  call := fun s w N b name hV _ hi hA hr => by
    obtain ⟨b', hb'⟩ := hV
    rw [hA] at hb'
    injection hb' with hb'; injection hb' with e1 e2; subst e1; subst e2
    have c2 : w.cell? ⟨b, 2, none⟩ = some (.string (bs (nm N))) := cell_of_heap (hr.var_free hA rfl) rfl
    have HI := Lib.hid hi; clear hi hr hA
    go_enter Tryz.func70, Tryz.ntmps70
    go_wp2_with fail
    go_ret
    exact ⟨rfl, trivial, (Same.refl HI.out).s⟩

/-- The blocks of a match: the boxes of own, of the map, of the closure; the map. -/
structure InsB where
  ob : Nat
  gb : Nat
  mb : Nat
  gm : Nat
def InsB.caps (x : InsB) : Array Value := #[.pointer (some ⟨x.ob, 0, none⟩), .pointer (some ⟨x.gb, 0, none⟩), .pointer (some ⟨x.mb, 0, none⟩)]
structure InsR (x : InsB) (G : GH) (A : GV) (m : List (Str × Str)) (w : World) : Prop where
  co : w.heap[x.ob]? = some (.cells #[.func (.func 70) #[] #[]] 157)
  cg : w.heap[x.gb]? = some (.cells #[.map (some x.gm)] 71)
  cm : w.heap[x.mb]? = some (.cells #[.func (.func 71) #[] x.caps] 163)
  mt : w.heap[x.gm]? = some (kmap kStr (envV m))
  priv : ∀ i, (i = x.ob ∨ i = x.gb ∨ i = x.mb ∨ i = x.gm) → G i = none ∧ ¬ isV A i
theorem Ty.has_arg {t a : Ty} {N : Nat} (h : a ∈ t.args) (hn : a.has N = true) : t.has N = true := by
  cases t <;> simp [Ty.args] at h <;> simp [Ty.has]
  · subst h; exact hn
  · rcases h with rfl | rfl
    · exact .inl hn
    · exact .inr hn
  · rcases h with rfl | rfl
    · exact .inl hn
    · exact .inr hn
theorem kind_len2 {x y : Ty} (hx : x.con = true) (hy : y.con = true) (hk : x.kind = y.kind) : x.args.length = y.args.length := by
  cases x <;> cases y <;> simp_all [Ty.con, Ty.kind, Ty.args, INT, BOOL, sList, sPair, sFun]
theorem not_mapI {w : World} {i r : Nat} {c : Array Value} {T : TypeId} {K : Type} {f : K → Value} {l : List (K × Value)} (h : w.heap[i]? = some (.cells c T)) (hr : w.heap[r]? = some (kmap f l)) : i ≠ r := fun e => by rw [e, hr] at h; cases h
theorem SameS.wk {S T : Nat → Prop} {G : GH} {A : GV} {n : Nat} {w w' : World} (h : SameS S G A n w w') (hs : ∀ b, S b → T b) : SameS T G A n w w' := ⟨h.keep.mono (fun i _ x => x.imp id (hs i)), h.inv, h.tr⟩
theorem InsR.mb_ne {x : InsB} {G : GH} {A : GV} {m : List (Str × Str)} {w : World} (h : InsR x G A m w) : x.mb ≠ x.gm :=
  fun e => by have := h.cm; rw [e, h.mt] at this; simp [kmap] at this
theorem InsR.stable {S : Nat → Prop} {x : InsB} {G : GH} {A : GV} {n : Nat} {m : List (Str × Str)} {w w' : World} (h : InsR x G A m w) (k : SameS S G A n w w') (hS : ∀ i, ¬ S i) : InsR x G A m w' := by
  have q : ∀ {i o}, w.heap[i]? = some o → (i = x.ob ∨ i = x.gb ∨ i = x.mb ∨ i = x.gm) → w'.heap[i]? = some o := fun e hi => k.keep.get e (fun hh => by
    rcases hh with hh | hh
    · exact (h.priv _ hi).2 hh
    · exact hS _ hh)
  exact ⟨q h.co (by simp), q h.cg (by simp), q h.cm (by simp), q h.mt (by simp), h.priv⟩
def InsPost (x : InsB) (G : GH) (A : GV) (n : Nat) (w : World) (r : Option (List (Str × Str))) (e : Ending) (w' : World) : Prop :=
  e = .returned (.bool r.isSome) ∧ SameS (one' x.gm) G A n w w' ∧ ∀ m', r = some m' → InsR x G A m' w'
def InsOk (nm : Nat → Str) (k : Nat) : Prop := ∀ (x : InsB) (G : GH) (A : GV) (n : Nat) (vx vy : Value) (w : World) (tx ty : Ty) (m : List (Str × Str)), TInv G A w n → FreeA A w → InsR x G A m w → TR G A w vx tx → TR G A w vy ty → (∀ N, tx.has N = true ∨ ty.has N = true → ∃ b, A N = some (b, nm N)) → tx.size ≤ k → ty.size ≤ 1000000 →
  Calls Tryz.prog 71 (#[vx, vy] ++ x.caps) w (InsPost x G A n w (matchS nm tx ty m))
theorem env_look (k : Str) : ∀ m : List (Str × Str), @List.lookup Str Value instBEqOfDecidableEq k (envV m) = (m.lookup k).map typedV
  | [] => rfl
  | (a, N) :: r => by
    simp only [envV, List.map_cons, List.lookup_cons]
    by_cases h : k = a
    · subst h; simp
    · have h1 : (@BEq.beq Str instBEqOfDecidableEq k a) = false := by simpa using h
      have h2 : (k == a) = false := by simpa using h
      rw [h1, h2]
      exact env_look k r
set_option maxRecDepth 100000 in
set_option maxHeartbeats 4000000 in
theorem ins_step {nm : Nat → Str} (hlen : ∀ N, (nm N).length ≤ 1000) (k : Nat) (ih : InsOk nm k) : InsOk nm (k + 1) := by
  intro x G A n vx vy w tx ty m hi hfa hR hx hy hV hk hk2
  have hr1 := hfa.root hx
  have hr2 := hfa.root hy
  have IH := Lib.hid ih; have HI := Lib.hid hi; have HRR := Lib.hid hR; have HY := Lib.hid hy; have HM := Lib.hid hk; have HM2 := Lib.hid hk2; have HV := Lib.hid hV; have HFA := Lib.hid hfa
  clear ih hi hR hx hk hk2 hV hfa
  simp only [InsB.caps]
  cases hr1 with
  | @var v bv nmv hAv hbv =>
    obtain ⟨Ty', by', rfl⟩ := hy.iface
    have hsh := fun (W : World) (s : Same G A n w W) => show_ok (own_ok (G := G) (A := A) (n := n) hlen) 1000000 (by omega) W _ ty () s.inv (s.tr _ _ HY.out) HM2.out (fun N h => HV.out N (.inr h)) trivial
    obtain ⟨b', hb'⟩ := HV.out v (.inl (by simp [Ty.has]))
    rw [hAv] at hb'
    injection hb' with hb'; injection hb' with e1 e2; subst e1; subst e2
    have HSH := Lib.hid hsh; clear hsh hr2 hy
    simp only [varV]
    have ta := taVarVar
    have q1 : w.cell? ⟨x.ob, 0, none⟩ = some (.func (.func 70) #[] #[]) := cell_of_heap HRR.out.co rfl
    have HBV := Lib.hid hbv; have HAV := Lib.hid hAv
    clear hbv hAv
    go_enter Tryz.func71, Tryz.ntmps71
    go_wp2_with fail
    refine (HSH.out w (Same.refl HI.out)).mono ?_
    rintro e w1 ⟨rfl, _, s1⟩
    have hR1 := HRR.out.stable s1 (fun _ h => h)
    have hfa1 := HFA.out.same s1
    have hb1 := hfa1 v bv (nm v) HAV.out
    clear q1
    have hlk := env_look (nm v) m
    rw [show (showS (fun (s : Unit) v => (nm v, s)) ty ()).1 = shownT nm ty from rfl]
    obtain ⟨sh, hsh⟩ : ∃ sh, sh = shownT nm ty := ⟨_, rfl⟩
    rw [← hsh]
    have HS1 := Lib.hid s1; have HR1 := Lib.hid hR1; have HSHN := Lib.hid hsh; have HB1 := Lib.hid hb1
    clear s1 hfa1 hb1 hsh hR1
    cases hl : m.lookup (nm v) with
    | some o =>
      rw [hl] at hlk
      have hf : ∀ w', Keep none' w1 w' → w'.cell? ⟨x.gb, 0, none⟩ = some (.map (some x.gm)) ∧ w'.cell? ⟨bv, 2, none⟩ = some (.string (bs (nm v))) ∧ (Instr.lookup 71 (.map (some x.gm)) (.string (bs (nm v))) true).run Tryz.prog w' = .ok (.tuple #[.agg #[.string (bs o)], .bool true]) w' := fun w' k =>
        ⟨cell_of_heap (k.get HR1.out.cg (fun x => x)) rfl, cell_of_heap (k.get HB1.out (fun x => x)) rfl, run_look_some (P := Tryz.prog) und_env key_str (k := nm v) (v := typedV o) (k.get HR1.out.mt (fun x => x)) hlk true⟩
      have q5 := str_eq2 o sh
      have hms : matchS nm (.var v) ty m = if o = shownT nm ty then some m else none := by simp only [matchS, hl]
      rw [← HSHN.out] at hms
      have HL := Lib.hid hl; have HMS := Lib.hid hms; have HLK := Lib.hid hlk; have HF := Lib.hid hf
      clear hl hlk hms hf
      go_wp2_with fail
      obtain ⟨w2, hw2⟩ : ∃ w2, w2 = w1.alloc (.cells #[.string (bs sh)] 76) := ⟨_, rfl⟩
      have k2 : Keep none' w1 w2 := by rw [hw2]; exact Keep.alloc _ _ _
      have t2 : w2.heap[w1.heap.size]? = some (.cells #[.string (bs sh)] 76) := by rw [hw2]; exact heap_new _ _
      obtain ⟨tb, htb⟩ : ∃ tb, tb = w1.heap.size := ⟨_, rfl⟩
      rw [← hw2, ← htb]
      rw [← htb] at t2
      have kd : Keep none' w1 w2.drew := k2.trans (Keep.drew _ _)
      have ka : Keep none' w1 (w2.drew.alloc (.cells #[.string ⟨#[]⟩] 76)) := kd.trans (Keep.alloc _ _ _)
      have kz : Keep none' w1 (w2.alloc (.cells #[.string (bs o)] 76)).drew := (k2.trans (Keep.alloc _ _ _)).trans (Keep.drew _ _)
      have hz : (w2.drew.alloc (.cells #[.string ⟨#[]⟩] 76)).heap[w2.heap.size]? = some (.cells #[.string ⟨#[]⟩] 76) := heap_new w2.drew _
      have z0 := cell_of_heap (i := 0) hz rfl
      have zf : ∀ i, (w2.drew.alloc (.cells #[.string ⟨#[]⟩] 76)).frozen? ⟨w2.heap.size, i, none⟩ = false := fun i => free_of_heap hz
      have S0 := HF.out _ kd; have S1 := HF.out _ ka; have S2 := HF.out _ kz
      have HZ := Lib.hid hz; have HKZ := Lib.hid kz; have HT2 := Lib.hid t2; have HTB := Lib.hid htb; have HK2 := Lib.hid k2
      clear hz kz ka kd t2 hw2 htb k2
      refine wp_region_float (fun w' => w'.cell? ⟨x.gb, 0, none⟩ = some (.map (some x.gm)) ∧ w'.cell? ⟨bv, 2, none⟩ = some (.string (bs (nm v))) ∧ (Instr.lookup 71 (.map (some x.gm)) (.string (bs (nm v))) true).run Tryz.prog w' = .ok (.tuple #[.agg #[.string (bs o)], .bool true]) w') [1, 2, 3, 6, 7, 8, 11] [0, 4, 5] (by kernel_rfl) ?_
      (refine floatS (i := 0) (v := ?_) rfl (by kernel_rfl) (by kernel_rfl) (by kernel_rfl) (by kernel_rfl) (fun _ _ _ h => h) (by assumption) (by rfl) ?_ ?_); rotate_left
      (intro wF hF; (try dsimp only at hF); go_simp; try with_reducible rfl)
      (try simp only [Act.put, List.setIfInBounds_toArray, List.set_cons_zero, List.set_cons_succ])
      (refine float0 (i := 1) (v := ?_) rfl (by kernel_rfl) (by kernel_rfl) (by kernel_rfl) (by kernel_rfl) (fun _ _ _ h => h) (by rfl) ?_ ?_); rotate_left
      (intro wF; go_simp; try with_reducible rfl)
      (try simp only [Act.put, List.setIfInBounds_toArray, List.set_cons_zero, List.set_cons_succ])
      (refine float0 (i := 2) (v := ?_) rfl (by kernel_rfl) (by kernel_rfl) (by kernel_rfl) (by kernel_rfl) (fun _ _ _ h => h) (by rfl) ?_ ?_); rotate_left
      (intro wF; go_simp; try with_reducible rfl)
      (try simp only [Act.put, List.setIfInBounds_toArray, List.set_cons_zero, List.set_cons_succ])
      (refine float0 (i := 3) (v := ?_) rfl (by kernel_rfl) (by kernel_rfl) (by kernel_rfl) (by kernel_rfl) (fun _ _ _ h => h) (by rfl) ?_ ?_); rotate_left
      (intro wF; go_simp; try with_reducible rfl)
      (try simp only [Act.put, List.setIfInBounds_toArray, List.set_cons_zero, List.set_cons_succ])
      (refine floatS (i := 4) (v := ?_) rfl (by kernel_rfl) (by kernel_rfl) (by kernel_rfl) (by kernel_rfl) (fun _ _ _ h => h) (by assumption) (by rfl) ?_ ?_); rotate_left
      (intro wF hF; (try dsimp only at hF); go_simp; try with_reducible rfl)
      (try simp only [Act.put, List.setIfInBounds_toArray, List.set_cons_zero, List.set_cons_succ])
      (refine floatS (i := 5) (v := ?_) rfl (by kernel_rfl) (by kernel_rfl) (by kernel_rfl) (by kernel_rfl) (fun _ _ _ h => h) (by assumption) (by rfl) ?_ ?_); rotate_left
      (intro wF hF; (try dsimp only at hF); go_simp; try with_reducible rfl)
      (try simp only [Act.put, List.setIfInBounds_toArray, List.set_cons_zero, List.set_cons_succ])
      (refine float0 (i := 6) (v := ?_) rfl (by kernel_rfl) (by kernel_rfl) (by kernel_rfl) (by kernel_rfl) (fun _ _ _ h => h) (by rfl) ?_ ?_); rotate_left
      (intro wF; go_simp; try with_reducible rfl)
      (try simp only [Act.put, List.setIfInBounds_toArray, List.set_cons_zero, List.set_cons_succ])
      (refine float0 (i := 7) (v := ?_) rfl (by kernel_rfl) (by kernel_rfl) (by kernel_rfl) (by kernel_rfl) (fun _ _ _ h => h) (by rfl) ?_ ?_); rotate_left
      (intro wF; go_simp; try with_reducible rfl)
      (try simp only [Act.put, List.setIfInBounds_toArray, List.set_cons_zero, List.set_cons_succ])
      (refine float0 (i := 8) (v := ?_) rfl (by kernel_rfl) (by kernel_rfl) (by kernel_rfl) (by kernel_rfl) (fun _ _ _ h => h) (by rfl) ?_ ?_); rotate_left
      (intro wF; go_simp; try with_reducible rfl)
      (try simp only [Act.put, List.setIfInBounds_toArray, List.set_cons_zero, List.set_cons_succ])
      (refine floatM (i := 9) rfl (by kernel_rfl) (by kernel_rfl) (fun K hK => ?_)); go_simp
      refine hK.out _ _ (fun _ => S1) ?_
      clear hK K
      (try simp only [Act.put, List.setIfInBounds_toArray, List.set_cons_zero, List.set_cons_succ])
      (refine floatM (i := 10) rfl (by kernel_rfl) (by kernel_rfl) (fun K hK => ?_)); go_simp
      refine hK.out _ _ (fun _ => S2) ?_
      clear hK K
      (try simp only [Act.put, List.setIfInBounds_toArray, List.set_cons_zero, List.set_cons_succ])
      (refine float0 (i := 11) (v := ?_) rfl (by kernel_rfl) (by kernel_rfl) (by kernel_rfl) (by kernel_rfl) (fun _ _ _ h => h) (by rfl) ?_ ?_); rotate_left
      (intro wF; go_simp; try with_reducible rfl)
      (try simp only [Act.put, List.setIfInBounds_toArray, List.set_cons_zero, List.set_cons_succ])
      (refine floatE (by kernel_rfl) ?_)
      clear S0 S1 S2 z0 zf
      obtain ⟨W3, hW3⟩ : ∃ W3, W3 = (w2.alloc (.cells #[.string (bs o)] 76)).drew := ⟨_, rfl⟩
      have o3 : W3.heap[w2.heap.size]? = some (.cells #[.string (bs o)] 76) := by rw [hW3]; exact heap_new w2 _
      have t3 : W3.heap[tb]? = some (.cells #[.string (bs sh)] 76) := by rw [hW3]; exact heap_old (w := w2) HT2.out
      have o4 := cell_of_heap (i := 0) o3 rfl
      have t4 := cell_of_heap (i := 0) t3 rfl
      have HKW : Hid (Keep none' w1 W3) := Lib.hid (by rw [hW3]; exact HKZ.out)
      rw [← hW3]
      clear o3 t3 hW3
      have SS := (HS1.out.wk (T := one' x.gm) (fun _ h => h.elim)).trans (Same.of0 HS1.out.inv HKW.out).s
      have RR := HR1.out.stable (S := none') (Same.of0 HS1.out.inv HKW.out).s (fun _ h => h)
      have HSS := Lib.hid SS; have HRW := Lib.hid RR
      clear SS RR
      by_cases ho : o = sh
      · rw [decide_eq_true ho] at q5
        have HO := Lib.hid ho; clear ho
        go_wp2_with fail
        go_ret
        rw [HMS.out, if_pos HO.out]
        exact ⟨rfl, HSS.out, fun m' e => by injection e with e; subst e; exact HRW.out⟩
      · rw [decide_eq_false ho] at q5
        have HO := Lib.hid ho; clear ho
        go_wp2_with fail
        go_ret
        rw [HMS.out, if_neg HO.out]
        exact ⟨rfl, HSS.out, fun m' e => by cases e⟩
    | none =>
      rw [hl] at hlk
      have hf : ∀ w', Keep none' w1 w' → w'.cell? ⟨x.gb, 0, none⟩ = some (.map (some x.gm)) ∧ w'.cell? ⟨bv, 2, none⟩ = some (.string (bs (nm v))) ∧ (Instr.lookup 71 (.map (some x.gm)) (.string (bs (nm v))) true).run Tryz.prog w' = .ok (.tuple #[.agg #[.string (bs [])], .bool false]) w' := fun w' k =>
        ⟨cell_of_heap (k.get HR1.out.cg (fun x => x)) rfl, cell_of_heap (k.get HB1.out (fun x => x)) rfl, run_look_none (P := Tryz.prog) und_env key_str zero_typed (k := nm v) (k.get HR1.out.mt (fun x => x)) hlk true⟩
      have hms : matchS nm (.var v) ty m = some (m ++ [(nm v, shownT nm ty)]) := by simp only [matchS, hl]
      rw [← HSHN.out] at hms
      have HL := Lib.hid hl; have HMS := Lib.hid hms; have HLK := Lib.hid hlk; have HF := Lib.hid hf
      clear hl hlk hms hf
      go_wp2_with fail
      obtain ⟨w2, hw2⟩ : ∃ w2, w2 = w1.alloc (.cells #[.string (bs sh)] 76) := ⟨_, rfl⟩
      have k2 : Keep none' w1 w2 := by rw [hw2]; exact Keep.alloc _ _ _
      have t2 : w2.heap[w1.heap.size]? = some (.cells #[.string (bs sh)] 76) := by rw [hw2]; exact heap_new _ _
      obtain ⟨tb, htb⟩ : ∃ tb, tb = w1.heap.size := ⟨_, rfl⟩
      rw [← hw2, ← htb]
      rw [← htb] at t2
      have kd : Keep none' w1 w2.drew := k2.trans (Keep.drew _ _)
      have ka : Keep none' w1 (w2.drew.alloc (.cells #[.string ⟨#[]⟩] 76)) := kd.trans (Keep.alloc _ _ _)
      have kz : Keep none' w1 (w2.alloc (.cells #[.string (bs [])] 76)).drew := (k2.trans (Keep.alloc _ _ _)).trans (Keep.drew _ _)
      have hz : (w2.drew.alloc (.cells #[.string ⟨#[]⟩] 76)).heap[w2.heap.size]? = some (.cells #[.string ⟨#[]⟩] 76) := heap_new w2.drew _
      have z0 := cell_of_heap (i := 0) hz rfl
      have zf : ∀ i, (w2.drew.alloc (.cells #[.string ⟨#[]⟩] 76)).frozen? ⟨w2.heap.size, i, none⟩ = false := fun i => free_of_heap hz
      have S0 := HF.out _ kd; have S1 := HF.out _ ka; have S2 := HF.out _ kz
      have HZ := Lib.hid hz; have HKZ := Lib.hid kz; have HT2 := Lib.hid t2; have HTB := Lib.hid htb; have HK2 := Lib.hid k2
      clear hz kz ka kd t2 hw2 htb k2
      refine wp_region_float (fun w' => w'.cell? ⟨x.gb, 0, none⟩ = some (.map (some x.gm)) ∧ w'.cell? ⟨bv, 2, none⟩ = some (.string (bs (nm v))) ∧ (Instr.lookup 71 (.map (some x.gm)) (.string (bs (nm v))) true).run Tryz.prog w' = .ok (.tuple #[.agg #[.string (bs [])], .bool false]) w') [1, 2, 3, 6, 7, 8, 11] [0, 4, 5] (by kernel_rfl) ?_
      (refine floatS (i := 0) (v := ?_) rfl (by kernel_rfl) (by kernel_rfl) (by kernel_rfl) (by kernel_rfl) (fun _ _ _ h => h) (by assumption) (by rfl) ?_ ?_); rotate_left
      (intro wF hF; (try dsimp only at hF); go_simp; try with_reducible rfl)
      (try simp only [Act.put, List.setIfInBounds_toArray, List.set_cons_zero, List.set_cons_succ])
      (refine float0 (i := 1) (v := ?_) rfl (by kernel_rfl) (by kernel_rfl) (by kernel_rfl) (by kernel_rfl) (fun _ _ _ h => h) (by rfl) ?_ ?_); rotate_left
      (intro wF; go_simp; try with_reducible rfl)
      (try simp only [Act.put, List.setIfInBounds_toArray, List.set_cons_zero, List.set_cons_succ])
      (refine float0 (i := 2) (v := ?_) rfl (by kernel_rfl) (by kernel_rfl) (by kernel_rfl) (by kernel_rfl) (fun _ _ _ h => h) (by rfl) ?_ ?_); rotate_left
      (intro wF; go_simp; try with_reducible rfl)
      (try simp only [Act.put, List.setIfInBounds_toArray, List.set_cons_zero, List.set_cons_succ])
      (refine float0 (i := 3) (v := ?_) rfl (by kernel_rfl) (by kernel_rfl) (by kernel_rfl) (by kernel_rfl) (fun _ _ _ h => h) (by rfl) ?_ ?_); rotate_left
      (intro wF; go_simp; try with_reducible rfl)
      (try simp only [Act.put, List.setIfInBounds_toArray, List.set_cons_zero, List.set_cons_succ])
      (refine floatS (i := 4) (v := ?_) rfl (by kernel_rfl) (by kernel_rfl) (by kernel_rfl) (by kernel_rfl) (fun _ _ _ h => h) (by assumption) (by rfl) ?_ ?_); rotate_left
      (intro wF hF; (try dsimp only at hF); go_simp; try with_reducible rfl)
      (try simp only [Act.put, List.setIfInBounds_toArray, List.set_cons_zero, List.set_cons_succ])
      (refine floatS (i := 5) (v := ?_) rfl (by kernel_rfl) (by kernel_rfl) (by kernel_rfl) (by kernel_rfl) (fun _ _ _ h => h) (by assumption) (by rfl) ?_ ?_); rotate_left
      (intro wF hF; (try dsimp only at hF); go_simp; try with_reducible rfl)
      (try simp only [Act.put, List.setIfInBounds_toArray, List.set_cons_zero, List.set_cons_succ])
      (refine float0 (i := 6) (v := ?_) rfl (by kernel_rfl) (by kernel_rfl) (by kernel_rfl) (by kernel_rfl) (fun _ _ _ h => h) (by rfl) ?_ ?_); rotate_left
      (intro wF; go_simp; try with_reducible rfl)
      (try simp only [Act.put, List.setIfInBounds_toArray, List.set_cons_zero, List.set_cons_succ])
      (refine float0 (i := 7) (v := ?_) rfl (by kernel_rfl) (by kernel_rfl) (by kernel_rfl) (by kernel_rfl) (fun _ _ _ h => h) (by rfl) ?_ ?_); rotate_left
      (intro wF; go_simp; try with_reducible rfl)
      (try simp only [Act.put, List.setIfInBounds_toArray, List.set_cons_zero, List.set_cons_succ])
      (refine float0 (i := 8) (v := ?_) rfl (by kernel_rfl) (by kernel_rfl) (by kernel_rfl) (by kernel_rfl) (fun _ _ _ h => h) (by rfl) ?_ ?_); rotate_left
      (intro wF; go_simp; try with_reducible rfl)
      (try simp only [Act.put, List.setIfInBounds_toArray, List.set_cons_zero, List.set_cons_succ])
      (refine floatM (i := 9) rfl (by kernel_rfl) (by kernel_rfl) (fun K hK => ?_)); go_simp
      refine hK.out _ _ (fun _ => S1) ?_
      clear hK K
      (try simp only [Act.put, List.setIfInBounds_toArray, List.set_cons_zero, List.set_cons_succ])
      (refine floatM (i := 10) rfl (by kernel_rfl) (by kernel_rfl) (fun K hK => ?_)); go_simp
      refine hK.out _ _ (fun _ => S2) ?_
      clear hK K
      (try simp only [Act.put, List.setIfInBounds_toArray, List.set_cons_zero, List.set_cons_succ])
      (refine float0 (i := 11) (v := ?_) rfl (by kernel_rfl) (by kernel_rfl) (by kernel_rfl) (by kernel_rfl) (fun _ _ _ h => h) (by rfl) ?_ ?_); rotate_left
      (intro wF; go_simp; try with_reducible rfl)
      (try simp only [Act.put, List.setIfInBounds_toArray, List.set_cons_zero, List.set_cons_succ])
      (refine floatE (by kernel_rfl) ?_)
      clear S0 S1 S2 z0 zf
      obtain ⟨W3, hW3⟩ : ∃ W3, W3 = (w2.alloc (.cells #[.string (bs [])] 76)).drew := ⟨_, rfl⟩
      have t3 : W3.heap[tb]? = some (.cells #[.string (bs sh)] 76) := by rw [hW3]; exact heap_old (w := w2) HT2.out
      have kw : Keep none' w1 W3 := by rw [hW3]; exact HKZ.out
      have HKW := Lib.hid kw
      have S3 := HF.out _ (kw.trans (Keep.drew _ _))
      have S0 : W3.drew.cell? ⟨x.gb, 0, none⟩ = some (.map (some x.gm)) ∧ W3.drew.cell? ⟨bv, 2, none⟩ = some (.string (bs (nm v))) ∧ W3.drew.cell? ⟨tb, 0, none⟩ = some (.string (bs sh)) := ⟨S3.1, S3.2.1, cell_of_heap (w := W3) t3 rfl⟩
      have m3 := kw.get HR1.out.mt (fun x => x)
      have up := run_upd_new (P := Tryz.prog) und_env key_str (k := nm v) (v := typedV sh) (w := W3.drew) (show W3.drew.heap[x.gm]? = _ from m3) HLK.out
      obtain ⟨W5, hW5⟩ : ∃ W5, W5 = World.lay W3.drew x.gm (kmap kStr (envV m ++ [(nm v, typedV sh)])) := ⟨_, rfl⟩
      rw [← hW5] at up
      unfold kStr typedV at up
      have k5 : Keep (one' x.gm) W3 W5 := by rw [hW5]; exact (Keep.drew (one' x.gm) W3).trans (lay_keep _ _ _)
      have m5 : W5.heap[x.gm]? = some (kmap kStr (envV (m ++ [(nm v, sh)]))) := by
        rw [hW5, show envV (m ++ [(nm v, sh)]) = envV m ++ [(nm v, typedV sh)] by simp [envV]]
        exact lay_same (lt_of_heap (w := W3.drew) m3)
      have R3 := HR1.out.stable (S := none') (Same.of0 HS1.out.inv kw).s (fun _ h => h)
      have pg := R3.priv x.gm (by simp)
      have SS := ((HS1.out.wk (T := one' x.gm) (fun _ h => h.elim)).trans (Same.of0 HS1.out.inv kw).s).trans (SameS.of_keep (Same.of0 HS1.out.inv kw).inv k5 (off_one pg.1) (fun b hb (e : b = x.gm) => pg.2 (e ▸ hb)))
      have q : ∀ {i : Nat} {c : Array Value} {T : TypeId}, W3.heap[i]? = some (Obj.cells c T) → W5.heap[i]? = some (Obj.cells c T) := fun hi => k5.get hi (fun e => not_mapI hi m3 e)
      have R5 : InsR x G A (m ++ [(nm v, sh)]) W5 := ⟨q R3.co, q R3.cg, q R3.cm, m5, R3.priv⟩
      have b3 : W3.heap[bv]? = some (varObj v .nilIface (nm v)) := kw.get HB1.out (fun x => x)
      have S5 : W5.cell? ⟨x.gb, 0, none⟩ = some (.map (some x.gm)) ∧ W5.cell? ⟨bv, 2, none⟩ = some (.string (bs (nm v))) ∧ W5.cell? ⟨tb, 0, none⟩ = some (.string (bs sh)) := ⟨cell_of_heap R5.cg rfl, cell_of_heap (q b3) rfl, cell_of_heap (q t3) rfl⟩
      have HSS := Lib.hid SS; have HR5 := Lib.hid R5
      rw [← hW3]
      clear b3
      clear t3 hW3 S3 kw m3 hW5 k5 m5 R3 pg SS q R5
      go_wp2_with fail
      refine wp_region_float (fun w' => w'.cell? ⟨x.gb, 0, none⟩ = some (.map (some x.gm)) ∧ w'.cell? ⟨bv, 2, none⟩ = some (.string (bs (nm v))) ∧ w'.cell? ⟨tb, 0, none⟩ = some (.string (bs sh))) [1, 2, 3] [0, 4, 5] (by kernel_rfl) ?_
      (refine floatS (i := 0) (v := ?_) rfl (by kernel_rfl) (by kernel_rfl) (by kernel_rfl) (by kernel_rfl) (fun _ _ _ h => h) (by assumption) (by rfl) ?_ ?_); rotate_left
      (intro wF hF; (try dsimp only at hF); go_simp; try with_reducible rfl)
      (try simp only [Act.put, List.setIfInBounds_toArray, List.set_cons_zero, List.set_cons_succ])
      (refine float0 (i := 1) (v := ?_) rfl (by kernel_rfl) (by kernel_rfl) (by kernel_rfl) (by kernel_rfl) (fun _ _ _ h => h) (by rfl) ?_ ?_); rotate_left
      (intro wF; go_simp; try with_reducible rfl)
      (try simp only [Act.put, List.setIfInBounds_toArray, List.set_cons_zero, List.set_cons_succ])
      (refine float0 (i := 2) (v := ?_) rfl (by kernel_rfl) (by kernel_rfl) (by kernel_rfl) (by kernel_rfl) (fun _ _ _ h => h) (by rfl) ?_ ?_); rotate_left
      (intro wF; go_simp; try with_reducible rfl)
      (try simp only [Act.put, List.setIfInBounds_toArray, List.set_cons_zero, List.set_cons_succ])
      (refine float0 (i := 3) (v := ?_) rfl (by kernel_rfl) (by kernel_rfl) (by kernel_rfl) (by kernel_rfl) (fun _ _ _ h => h) (by rfl) ?_ ?_); rotate_left
      (intro wF; go_simp; try with_reducible rfl)
      (try simp only [Act.put, List.setIfInBounds_toArray, List.set_cons_zero, List.set_cons_succ])
      (refine floatS (i := 4) (v := ?_) rfl (by kernel_rfl) (by kernel_rfl) (by kernel_rfl) (by kernel_rfl) (fun _ _ _ h => h) (by assumption) (by rfl) ?_ ?_); rotate_left
      (intro wF hF; (try dsimp only at hF); go_simp; try with_reducible rfl)
      (try simp only [Act.put, List.setIfInBounds_toArray, List.set_cons_zero, List.set_cons_succ])
      (refine floatS (i := 5) (v := ?_) rfl (by kernel_rfl) (by kernel_rfl) (by kernel_rfl) (by kernel_rfl) (fun _ _ _ h => h) (by assumption) (by rfl) ?_ ?_); rotate_left
      (intro wF hF; (try dsimp only at hF); go_simp; try with_reducible rfl)
      (try simp only [Act.put, List.setIfInBounds_toArray, List.set_cons_zero, List.set_cons_succ])
      (refine floatM (i := 6) rfl (by kernel_rfl) (by kernel_rfl) (fun K hK => ?_)); go_simp
      refine hK.out _ _ (fun _ => S5) ?_
      clear hK K
      (try simp only [Act.put, List.setIfInBounds_toArray, List.set_cons_zero, List.set_cons_succ])
      (refine floatE (by kernel_rfl) ?_)
      clear S0 S5
      go_wp2_with fail
      go_ret
      rw [HMS.out]
      exact ⟨rfl, HSS.out, fun m' e => by injection e with e; subst e; exact HR5.out⟩
  | @con b1 lv vs _ hcn hg hl hts =>
    cases hr2 with
    | @var u bu nmu hAu hbu =>
      have ta := taConVar
      have tb := tbConCon
      have tc := taVarCon
      have hms : matchS nm tx (.var u) m = none := match_mix hcn m
      have HMS := Lib.hid hms; clear hms
      simp only [varV, conV]
      go_enter Tryz.func71, Tryz.ntmps71
      go_wp2_with fail
      go_quiet (fail)
      go_wp2_with fail
      go_ret
      rw [HMS.out]
      exact ⟨rfl, (Same.of0 HI.out (Keep.drewN _ _ _)).s, fun m' e => by cases e⟩
    | @con b2 lv2 vs2 _ hcn2 hg2 hl2 hts2 =>
      have ta := taConVar
      have tb := tbConCon
      have tc := taConCon
      have c1 : w.cell? ⟨b1, 0, none⟩ = some (.string (bs tx.kind)) := cell_of_heap (HI.out.holds _ _ hg) rfl
      have c2 : w.cell? ⟨b2, 0, none⟩ = some (.string (bs ty.kind)) := cell_of_heap (HI.out.holds _ _ hg2) rfl
      simp only [conV]
      by_cases hkk : tx.kind = ty.kind
      · have q : ((bs tx.kind).toList == (bs ty.kind).toList) = true := by rw [str_eq2]; simp [hkk]
        have hms := match_con (nm := nm) hcn hcn2 hkk m
        have hle := kind_len2 hcn hcn2 hkk
        have c3 : w.cell? ⟨b1, 1, none⟩ = some lv := cell_of_heap (HI.out.holds _ _ hg) rfl
        have hL2 : ∀ w', Holds G w' → w'.cell? ⟨b1, 1, none⟩ = some lv ∧ w'.cell? ⟨b2, 1, none⟩ = some lv2 := fun w' h => ⟨cell_of_heap (h _ _ hg) rfl, cell_of_heap (h _ _ hg2) rfl⟩
        obtain ⟨a1, cap1, rfl, hcells1⟩ := hl.shp
        obtain ⟨a2, cap2, rfl, hcells2⟩ := hl2.shp
        have HMS := Lib.hid hms; have HLE := Lib.hid hle; have HC1 := Lib.hid hcells1; have HC2 := Lib.hid hcells2; have HT1 := Lib.hid hts; have HT2 := Lib.hid hts2; have HKK := Lib.hid hkk; have HL2 := Lib.hid hL2
        have HHX : Hid (∀ i (h : i < tx.args.length) N, tx.args[i].has N = true → tx.has N = true) := Lib.hid (fun i h N hn => Ty.has_arg (List.getElem_mem h) hn)
        have HHY : Hid (∀ i (h : i < ty.args.length) N, ty.args[i].has N = true → ty.has N = true) := Lib.hid (fun i h N hn => Ty.has_arg (List.getElem_mem h) hn)
        have HLen1 : Hid (vs.length = tx.args.length) := Lib.hid hts.len
        have HLen2 : Hid (vs2.length = ty.args.length) := Lib.hid hts2.len
        have hvl : vs.length ≤ 2 := by have := HLen1.out; have := Ty.args_len (t := tx); omega
        have hv12 : vs2.length = vs.length := by rw [HLen1.out, HLen2.out, hle]
        clear hms hle hcells1 hcells2 hts hts2 hg hg2 hl hl2 hkk hL2 hy hcn hcn2
        go_enter Tryz.func71, Tryz.ntmps71
        go_wp2_with fail
        go_quiet (fail)
        go_wp2_with fail
        obtain ⟨w3, hw3⟩ : ∃ w3, w3 = w.drewN nq := ⟨_, rfl⟩
        rw [← hw3]
        have kd3 : Keep none' w w3 := by rw [hw3]; exact Keep.drewN _ _ _
        have HS3 : Hid (Same G A n w w3) := Lib.hid (Same.of0 HI.out kd3)
        have HR3 := Lib.hid (HRR.out.stable (S := none') HS3.out.s (fun _ h => h))
        have HF3 := Lib.hid (HFA.out.same (S := none') HS3.out.s)
        have HT3 : Hid (TRs G A w3 vs tx.args) := Lib.hid (HS3.out.trs HT1.out)
        have HT4 : Hid (TRs G A w3 vs2 ty.args) := Lib.hid (HS3.out.trs HT2.out)
        clear hw3 kd3 c1 c2 c3
        go_loopg [70] vs.length (fun gn s wr => ∃ (j : Nat) (mj : List (Str × Str)), j ≤ vs.length ∧ Hid (gn = vs.length - j) ∧ s = .int .i64 j ∧ Hid (SameS (one' x.gm) G A n w wr) ∧ Hid (InsR x G A mj wr) ∧ Hid (TRs G A wr vs tx.args) ∧ Hid (TRs G A wr vs2 ty.args) ∧ Hid (matchL nm (tx.args.drop j) (ty.args.drop j) mj = matchS nm tx ty m))
        case atStart => exact ⟨0, m, by omega, Lib.hid rfl, rfl, Lib.hid HS3.out.s, HR3, HT3, HT4, Lib.hid HMS.out.symm⟩
        case round =>
          obtain ⟨j, mj, hj, HMM, rfl, HSJ, HRJ, HTJ, HTK, HALJ⟩ := hrel
          have hjj : (0 : Int) ≤ (j : Int) := by omega
          by_cases hlt : j < vs.length
          · have hltx : j < tx.args.length := by have := HLen1.out; omega
            have hlt2 : j < vs2.length := by omega
            have hlty : j < ty.args.length := by have := HLen2.out; omega
            obtain ⟨p1, rfl, _⟩ := HC1.out wr HSJ.out.inv.holds j vs[j] (by simp [hlt])
            obtain ⟨p2, rfl, _⟩ := HC2.out wr HSJ.out.inv.holds j vs2[j] (by simp [hlt2])
            have hxj := HTJ.out.get j hlt hltx
            have hyj := HTK.out.get j hlt2 hlty
            obtain ⟨T1', r1, e1⟩ := hxj.iface
            obtain ⟨T2', r2, e2⟩ := hyj.iface
            have hst : ∀ w', Holds G w' → w'.heap[x.mb]? = some (.cells #[.func (.func 71) #[] x.caps] 163) → w'.cell? ⟨x.mb, 0, none⟩ = some (.func (.func 71) #[] #[.pointer (some ⟨x.ob, 0, none⟩), .pointer (some ⟨x.gb, 0, none⟩), .pointer (some ⟨x.mb, 0, none⟩)]) ∧ w'.cell? ⟨b1, 1, none⟩ = some (.slice (some ⟨p1, 0, none⟩) vs.length cap1) ∧ w'.cell? ⟨b2, 1, none⟩ = some (.slice (some ⟨p2, 0, none⟩) vs2.length cap2) ∧ w'.cell? ⟨p1, j, none⟩ = some (.iface T1' (.pointer (some ⟨r1, 0, none⟩))) ∧ w'.cell? ⟨p2, j, none⟩ = some (.iface T2' (.pointer (some ⟨r2, 0, none⟩))) := fun w' h hm =>
              ⟨cell_of_heap hm rfl, (HL2.out w' h).1, (HL2.out w' h).2, by
                obtain ⟨q, eq, c⟩ := HC1.out w' h j vs[j] (by simp [hlt])
                injection eq with eq; injection eq with eq; subst eq; rw [← e1]; exact c, by
                obtain ⟨q, eq, c⟩ := HC2.out w' h j vs2[j] (by simp [hlt2])
                injection eq with eq; injection eq with eq; subst eq; rw [← e2]; exact c⟩
            rw [e1] at hxj
            rw [e2] at hyj
            have hsd : Same G A n wr wr.drew := Same.of0 HSJ.out.inv (Keep.drew _ _)
            have hcall := IH.out x G A n _ _ wr.drew (tx.args[j]) (ty.args[j]) mj hsd.inv ((HFA.out.same HSJ.out).same (S := none') hsd.s) (HRJ.out.stable (S := none') hsd.s (fun _ h => h)) (hsd.tr _ _ hxj) (hsd.tr _ _ hyj) (fun N h => HV.out N (h.imp (HHX.out j hltx N) (HHY.out j hlty N))) (by have := Ty.arg_sz (List.getElem_mem hltx); have := HM.out; omega) (by have := Ty.arg_sz (List.getElem_mem hlty); have := HM2.out; omega)
            have hdj : matchS nm tx ty m = (matchS nm (tx.args[j]) (ty.args[j]) mj).bind fun m => matchL nm (tx.args.drop (j + 1)) (ty.args.drop (j + 1)) m := by
              rw [← HALJ.out, drop_cons hltx, drop_cons hlty]; rfl
            have S0 := hst wr.drew hsd.inv.holds HRJ.out.cm
            have HCALL := Lib.hid hcall; have HST := Lib.hid hst; have HDJ := Lib.hid hdj; have HSD := Lib.hid hsd
            clear hcall hst hdj e1 e2 hxj hyj hsd
            have hji : ((j : Int) < (vs.length : Int)) := by omega
            have hji2 : ((j : Int) < (vs2.length : Int)) := by omega
            go_wp2_with fail
            refine wp_region_float (fun w' => w'.cell? ⟨x.mb, 0, none⟩ = some (.func (.func 71) #[] #[.pointer (some ⟨x.ob, 0, none⟩), .pointer (some ⟨x.gb, 0, none⟩), .pointer (some ⟨x.mb, 0, none⟩)]) ∧ w'.cell? ⟨b1, 1, none⟩ = some (.slice (some ⟨p1, 0, none⟩) vs.length cap1) ∧ w'.cell? ⟨b2, 1, none⟩ = some (.slice (some ⟨p2, 0, none⟩) vs2.length cap2) ∧ w'.cell? ⟨p1, j, none⟩ = some (.iface T1' (.pointer (some ⟨r1, 0, none⟩))) ∧ w'.cell? ⟨p2, j, none⟩ = some (.iface T2' (.pointer (some ⟨r2, 0, none⟩)))) [1, 2, 3, 5, 6, 8, 9, 10, 12, 13, 16] [0, 4, 7, 11, 14] (by kernel_rfl) ?_
            (refine floatS (i := 0) (v := ?_) rfl (by kernel_rfl) (by kernel_rfl) (by kernel_rfl) (by kernel_rfl) (fun _ _ _ h => h) (by assumption) (by rfl) ?_ ?_); rotate_left
            (intro wF hF; (try dsimp only at hF); go_simp; try with_reducible rfl)
            (try simp only [Act.put, List.setIfInBounds_toArray, List.set_cons_zero, List.set_cons_succ])
            (refine float0 (i := 1) (v := ?_) rfl (by kernel_rfl) (by kernel_rfl) (by kernel_rfl) (by kernel_rfl) (fun _ _ _ h => h) (by rfl) ?_ ?_); rotate_left
            (intro wF; go_simp; try with_reducible rfl)
            (try simp only [Act.put, List.setIfInBounds_toArray, List.set_cons_zero, List.set_cons_succ])
            (refine float0 (i := 2) (v := ?_) rfl (by kernel_rfl) (by kernel_rfl) (by kernel_rfl) (by kernel_rfl) (fun _ _ _ h => h) (by rfl) ?_ ?_); rotate_left
            (intro wF; go_simp; try with_reducible rfl)
            (try simp only [Act.put, List.setIfInBounds_toArray, List.set_cons_zero, List.set_cons_succ])
            (refine float0 (i := 3) (v := ?_) rfl (by kernel_rfl) (by kernel_rfl) (by kernel_rfl) (by kernel_rfl) (fun _ _ _ h => h) (by rfl) ?_ ?_); rotate_left
            (intro wF; go_simp; try with_reducible rfl)
            (try simp only [Act.put, List.setIfInBounds_toArray, List.set_cons_zero, List.set_cons_succ])
            (refine floatS (i := 4) (v := ?_) rfl (by kernel_rfl) (by kernel_rfl) (by kernel_rfl) (by kernel_rfl) (fun _ _ _ h => h) (by assumption) (by rfl) ?_ ?_); rotate_left
            (intro wF hF; (try dsimp only at hF); go_simp; try with_reducible rfl)
            (try simp only [Act.put, List.setIfInBounds_toArray, List.set_cons_zero, List.set_cons_succ])
            (refine float0 (i := 5) (v := ?_) rfl (by kernel_rfl) (by kernel_rfl) (by kernel_rfl) (by kernel_rfl) (fun _ _ _ h => h) (by rfl) ?_ ?_); rotate_left
            (intro wF; go_simp; try with_reducible rfl)
            (try simp only [Act.put, List.setIfInBounds_toArray, List.set_cons_zero, List.set_cons_succ])
            (refine float0 (i := 6) (v := ?_) rfl (by kernel_rfl) (by kernel_rfl) (by kernel_rfl) (by kernel_rfl) (fun _ _ _ h => h) (by rfl) ?_ ?_); rotate_left
            (intro wF; go_simp; try with_reducible rfl)
            (try simp only [Act.put, List.setIfInBounds_toArray, List.set_cons_zero, List.set_cons_succ])
            (refine floatS (i := 7) (v := ?_) rfl (by kernel_rfl) (by kernel_rfl) (by kernel_rfl) (by kernel_rfl) (fun _ _ _ h => h) (by assumption) (by rfl) ?_ ?_); rotate_left
            (intro wF hF; (try dsimp only at hF); go_simp; try with_reducible rfl)
            (try simp only [Act.put, List.setIfInBounds_toArray, List.set_cons_zero, List.set_cons_succ])
            (refine float0 (i := 8) (v := ?_) rfl (by kernel_rfl) (by kernel_rfl) (by kernel_rfl) (by kernel_rfl) (fun _ _ _ h => h) (by rfl) ?_ ?_); rotate_left
            (intro wF; go_simp; try with_reducible rfl)
            (try simp only [Act.put, List.setIfInBounds_toArray, List.set_cons_zero, List.set_cons_succ])
            (refine float0 (i := 9) (v := ?_) rfl (by kernel_rfl) (by kernel_rfl) (by kernel_rfl) (by kernel_rfl) (fun _ _ _ h => h) (by rfl) ?_ ?_); rotate_left
            (intro wF; go_simp; try with_reducible rfl)
            (try simp only [Act.put, List.setIfInBounds_toArray, List.set_cons_zero, List.set_cons_succ])
            (refine float0 (i := 10) (v := ?_) rfl (by kernel_rfl) (by kernel_rfl) (by kernel_rfl) (by kernel_rfl) (fun _ _ _ h => h) (by rfl) ?_ ?_); rotate_left
            (intro wF; go_simp; try with_reducible rfl)
            (try simp only [Act.put, List.setIfInBounds_toArray, List.set_cons_zero, List.set_cons_succ])
            (refine floatS (i := 11) (v := ?_) rfl (by kernel_rfl) (by kernel_rfl) (by kernel_rfl) (by kernel_rfl) (fun _ _ _ h => h) (by assumption) (by rfl) ?_ ?_); rotate_left
            (intro wF hF; (try dsimp only at hF); go_simp; try with_reducible rfl)
            (try simp only [Act.put, List.setIfInBounds_toArray, List.set_cons_zero, List.set_cons_succ])
            (refine float0 (i := 12) (v := ?_) rfl (by kernel_rfl) (by kernel_rfl) (by kernel_rfl) (by kernel_rfl) (fun _ _ _ h => h) (by rfl) ?_ ?_); rotate_left
            (intro wF; go_simp; try with_reducible rfl)
            (try simp only [Act.put, List.setIfInBounds_toArray, List.set_cons_zero, List.set_cons_succ])
            (refine float0 (i := 13) (v := ?_) rfl (by kernel_rfl) (by kernel_rfl) (by kernel_rfl) (by kernel_rfl) (fun _ _ _ h => h) (by rfl) ?_ ?_); rotate_left
            (intro wF; go_simp; try with_reducible rfl)
            (try simp only [Act.put, List.setIfInBounds_toArray, List.set_cons_zero, List.set_cons_succ])
            (refine floatS (i := 14) (v := ?_) rfl (by kernel_rfl) (by kernel_rfl) (by kernel_rfl) (by kernel_rfl) (fun _ _ _ h => h) (by assumption) (by rfl) ?_ ?_); rotate_left
            (intro wF hF; (try dsimp only at hF); go_simp; try with_reducible rfl)
            (try simp only [Act.put, List.setIfInBounds_toArray, List.set_cons_zero, List.set_cons_succ])
            cases hcr : matchS nm (tx.args[j]) (ty.args[j]) mj with
            | none =>
              rw [hcr] at HCALL HDJ
              (refine floatM (i := 15) rfl (by kernel_rfl) (by kernel_rfl) (fun K hK => ?_)); go_simp
              refine HCALL.out.mono ?_
              rintro e w5 ⟨rfl, s5, _⟩
              have HS5 := Lib.hid (HSJ.out.trans (HSD.out.s.trans s5))
              have S5 := HST.out w5 s5.inv.holds (by
                refine s5.keep.get (show wr.drew.heap[x.mb]? = _ from HRJ.out.cm) (fun e => ?_)
                rcases e with e | e
                · exact (HRJ.out.priv _ (by simp)).2 e
                · exact HRJ.out.mb_ne e)
              clear s5 S0
              go_wp2_with fail
              refine hK.out _ _ (fun _ => S5) ?_
              clear hK K
              (try simp only [Act.put, List.setIfInBounds_toArray, List.set_cons_zero, List.set_cons_succ])
              (refine float0 (i := 16) (v := ?_) rfl (by kernel_rfl) (by kernel_rfl) (by kernel_rfl) (by kernel_rfl) (fun _ _ _ h => h) (by rfl) ?_ ?_); rotate_left
              (intro wF; go_simp; try with_reducible rfl)
              (try simp only [Act.put, List.setIfInBounds_toArray, List.set_cons_zero, List.set_cons_succ])
              (refine floatE (by kernel_rfl) ?_)
              go_wp2_with fail
              go_ret
              rw [HDJ.out]
              exact ⟨rfl, HS5.out, fun m' e => by cases e⟩
            | some m2 =>
              rw [hcr] at HCALL HDJ
              (refine floatM (i := 15) rfl (by kernel_rfl) (by kernel_rfl) (fun K hK => ?_)); go_simp
              refine HCALL.out.mono ?_
              rintro e w5 ⟨rfl, s5, r5⟩
              have HR5 := Lib.hid (r5 m2 rfl)
              have SS := HSD.out.s.trans s5
              have HS5 := Lib.hid (HSJ.out.trans SS)
              have HT5 := Lib.hid (SS.trs HTJ.out)
              have HT6 := Lib.hid (SS.trs HTK.out)
              have S5 := HST.out w5 s5.inv.holds HR5.out.cm
              clear s5 S0 r5 SS
              go_wp2_with fail
              refine hK.out _ _ (fun _ => S5) ?_
              clear hK K
              (try simp only [Act.put, List.setIfInBounds_toArray, List.set_cons_zero, List.set_cons_succ])
              (refine float0 (i := 16) (v := ?_) rfl (by kernel_rfl) (by kernel_rfl) (by kernel_rfl) (by kernel_rfl) (fun _ _ _ h => h) (by rfl) ?_ ?_); rotate_left
              (intro wF; go_simp; try with_reducible rfl)
              (try simp only [Act.put, List.setIfInBounds_toArray, List.set_cons_zero, List.set_cons_succ])
              (refine floatE (by kernel_rfl) ?_)
              go_wp2_with fail
              go_roundg (vs.length - (j + 1))
              case measure => have := HMM.out; omega
              case rel => exact ⟨j + 1, m2, by omega, Lib.hid rfl, by go_num, HS5, HR5, HT5, HT6, Lib.hid (by rw [HDJ.out]; rfl)⟩
          · have hje : j = vs.length := by omega
            subst hje
            have ha := HALJ.out
            rw [List.drop_of_length_le (by have := HLen1.out; omega), List.drop_of_length_le (by have := HLen2.out; omega)] at ha
            have HA := Lib.hid ha; clear ha
            go_wp2_with fail
            go_ret
            rw [← HA.out]
            exact ⟨rfl, HSJ.out, fun m' e => by injection e with e; subst e; exact HRJ.out⟩
      · have q : ((bs tx.kind).toList == (bs ty.kind).toList) = false := by rw [str_eq2]; simp [hkk]
        have hms := match_kind (nm := nm) hcn hcn2 hkk m
        have HMS := Lib.hid hms; clear hms hkk
        go_enter Tryz.func71, Tryz.ntmps71
        go_wp2_with fail
        go_quiet (fail)
        go_wp2_with fail
        go_ret
        rw [HMS.out]
        exact ⟨rfl, (Same.of0 HI.out (Keep.drewN _ _ _)).s, fun m' e => by cases e⟩
end Go.Proofs.YtabikmkoajdhmaaGreatDoor
