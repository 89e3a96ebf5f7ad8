/- plain.Instance by a contract: the names, rising; by each the type that it stands for. -/
import Derived.Test.YtabikmkoajdhmaaGreatDoorInst2
import Derived.Test.YtabikmkoajdhmaaGreatDoorQ26
import Derived.Test.YtabikmkoajdhmaaGreatDoorQ31
set_option linter.unusedVariables false
set_option linter.unusedSimpArgs false
namespace Go.Proofs.YtabikmkoajdhmaaGreatDoor
open Go.RowKit

def strsV (l : List Str) : List Value := l.map fun n => .string (bs n)
def instN (m : List (Str × Str)) : List Str := sortS (m.map (·.1))
def instT (m : List (Str × Str)) : List Str := (instN m).map fun n => (m.lookup n).getD []
theorem inst_m {g s : Str} {m : List (Str × Str)} (h : instF g s = some (.ok m)) : (m.map (·.1)).Nodup ∧ (∀ p ∈ m, p.1.length ≤ 1000) ∧ m.length ≤ 120 := by
  unfold instF at h
  split at h
  · cases h
  · cases h
  · rename_i a st h1
    split at h
    · cases h
    · cases h
    · rename_i b st2 h2
      split at h
      · cases h
      · rename_i m' hm
        injection h with h; injection h with h; subst h
        have i1 := readTy_in h1
        have i2 := readTy_in h2
        have u := matchS_up (nmS_len (l := st.m ++ st2.m) (fun q hq => by
          rcases List.mem_append.1 hq with hq | hq
          · exact i1.txt q hq
          · exact i2.txt q hq)) hm
        have hs := readTy_size h1
        exact ⟨u.nd (by simp), u.len (fun p hp => by cases hp), by have := u.sz; simp at this; omega⟩

def mOf : Except Flt (List (Str × Str)) → List (Str × Str)
  | .ok m => m
  | .error _ => []
def fOf : Except Flt (List (Str × Str)) → Flt
  | .ok _ => { what := 0 }
  | .error f => f
def isE : Except Flt (List (Str × Str)) → Bool
  | .ok _ => false
  | .error _ => true
theorem sorted_any {mo : Option Nat} {L : List (Str × Str)} (W : World) (h : match mo with | none => L = [] | some mb => W.heap[mb]? = some (kmap kStr (envV L))) (hn : (L.map (·.1)).Nodup) (hs : ∀ q ∈ L, q.1.length ≤ 1000) (hl : L.length ≤ 120) :
    Calls Tryz.prog 38 #[.func (.func 74) #[] #[.pointer (some ⟨W.heap.size, 0, none⟩)]] (W.alloc (.cells #[.map mo] 71)) fun e w' => ∃ v, e = .returned v ∧
      w'.ownsRow W.heap.size 9 1 v (instN L).length (strsV (instN L)) ∧ Keep none' W w' := by
  have hm : (envV L).map (·.1) = L.map (·.1) := by simp [envV, Function.comp_def]
  cases mo with
  | none =>
    simp only at h
    subst h
    refine (sorted_nil W).mono ?_
    rintro e w' ⟨rfl, k⟩
    have e : instN [] = [] := by unfold instN sortS; simp
    rw [e]
    exact ⟨_, rfl, World.ownsRow_nil _ _ _ _, (Keep.alloc _ _ _).trans k⟩
  | some mb =>
    simp only at h
    refine (sorted_call W h (by rw [hm]; exact hn) (fun q hq => by
      obtain ⟨q', hq', rfl⟩ := List.mem_map.1 hq
      have := hs q' hq'; simp only; omega) (by unfold envV; rw [List.length_map]; omega)).mono ?_
    rintro e w' ⟨v, rfl, hr, k⟩
    refine ⟨v, rfl, ?_, (Keep.alloc _ _ _).trans k⟩
    rw [hm] at hr
    have e1 : (envV L).length = (instN L).length := by unfold instN sortS envV; simp
    rw [e1] at hr
    exact ⟨hr.1, by
      rcases hr.2 with hz | ⟨g, cap, cur, h1, hb, rest⟩
      · exact .inl hz
      · exact .inr ⟨g, cap, cur, h1, by omega, rest⟩⟩
def PInstPost (w : World) (r : Except Flt (List (Str × Str))) (e : Ending) (w' : World) : Prop :=
  ∃ nv tv, e = .returned (.tuple #[nv, tv, .bool (isE r), fltV (fOf r)]) ∧ Keep none' w w' ∧ w'.ownsRow w.heap.size 9 1 nv (instN (mOf r)).length (strsV (instN (mOf r))) ∧ w'.ownsRow w.heap.size 9 1 tv (instN (mOf r)).length (strsV (instT (mOf r)))

theorem look_m (nm : Str) : ∀ m : List (Str × Str), nm ∈ m.map (·.1) → @List.lookup Str Value instBEqOfDecidableEq nm (envV m) = some (typedV ((m.lookup nm).getD []))
  | [], h => by cases h
  | (a, t) :: r, h => by
    simp only [envV, List.map_cons, List.lookup_cons]
    by_cases e : nm = a
    · subst e; simp
    · rw [show (nm == a) = false by simpa using e]
      simp only [List.map_cons, List.mem_cons, e, false_or] at h
      have := look_m nm r h
      simp only [envV] at this
      rw [show @BEq.beq Str instBEqOfDecidableEq nm a = false by simpa using e]
      exact this
theorem fld_typed (s : ByteArray) (w : World) : (Instr.field 76 (.agg #[.string s]) 0).run Tryz.prog w = .ok (.string s) w := by kernel_rfl

theorem own_base {w : World} {a b : Nat} {e : TypeId} {size : Nat} {v : Value} {n : Nat} {xs : List Value} (h : w.ownsRow b e size v n xs) (hb : a ≤ b) : w.ownsRow a e size v n xs := by
  refine ⟨h.1, ?_⟩
  rcases h.2 with hz | ⟨g, cap, cur, rfl, hg, rest⟩
  · exact .inl hz
  · exact .inr ⟨g, cap, cur, rfl, by omega, rest⟩
theorem keep1o (a : World) (x i : Nat) (u : Value) : Keep (one' x) a (a.setCell ⟨x, i, none⟩ u) := Keep.setCell _ _ (fun _ => rfl)
theorem keep5o (a : World) (x : Nat) (u0 u1 u2 u3 u4 : Value) : Keep (one' x) a (((((a.setCell ⟨x, 0, none⟩ u0).setCell ⟨x, 1, none⟩ u1).setCell ⟨x, 2, none⟩ u2).setCell ⟨x, 3, none⟩ u3).setCell ⟨x, 4, none⟩ u4) :=
  ((((keep1o _ x 0 u0).trans (keep1o _ x 1 u1)).trans (keep1o _ x 2 u2)).trans (keep1o _ x 3 u3)).trans (keep1o _ x 4 u4)
theorem own_set5 {w : World} {x b : Nat} {e : TypeId} {v : Value} {n : Nat} {xs : List Value} (h : w.ownsRow b e 1 v n xs) (hb : x < b) (u0 u1 u2 u3 u4 : Value) : (((((w.setCell ⟨x, 0, none⟩ u0).setCell ⟨x, 1, none⟩ u1).setCell ⟨x, 2, none⟩ u2).setCell ⟨x, 3, none⟩ u3).setCell ⟨x, 4, none⟩ u4).ownsRow x e 1 v n xs :=
  own_base (own_keep h (keep5o w x u0 u1 u2 u3 u4) (fun g hg (e : g = x) => by have := (h.lt g hg).1; omega)) (by omega)
theorem eql_none (w : World) : (binOp .eql 71 (.map none) (.map none)).run Tryz.prog w = .ok (.bool true) w := by kernel_rfl
theorem eql_some (mb : Nat) (w : World) : (binOp .eql 71 (.map (some mb)) (.map none)).run Tryz.prog w = .ok (.bool false) w := by kernel_rfl

set_option maxRecDepth 100000 in
set_option maxHeartbeats 4000000 in
theorem plain_inst (p : Nat → Addr) (S T : ByteArray) (w : World) (hs : Sents p w) (hm : S.size ≤ 9223372036854775807) (hm2 : T.size ≤ 9223372036854775807) {r : Except Flt (List (Str × Str))} (hr : instF (bytes S) (bytes T) = some r) :
    Calls Tryz.prog 17 #[.string S, .string T] w (PInstPost w r) := by
  obtain ⟨is, his, zs0, zs1, zs2⟩ := info_parts info_str
  have k0 : Keep none' w (w.alloc (.cells fz 28)) := Keep.alloc _ _ _
  have hc := infer_inst p S T (w.alloc (.cells fz 28)) (hs.keep0 k0) hm hm2 hr (by simp)
  have hND : ((mOf r).map (·.1)).Nodup := by cases r with | ok m => exact (inst_m hr).1 | error f => simp [mOf]
  have hLN : ∀ q ∈ mOf r, q.1.length ≤ 1000 := by cases r with | ok m => exact (inst_m hr).2.1 | error f => simp [mOf]
  have hLL : (mOf r).length ≤ 120 := by cases r with | ok m => exact (inst_m hr).2.2 | error f => simp [mOf]
  have x0 : (w.alloc (.cells fz 28)).heap[w.heap.size]? = some (.cells fz 28) := heap_new _ _
  have hc2 : Calls Tryz.prog 37 #[.string S, .string T] (w.alloc (.cells fz 28)) (fun e w1 => ∃ mo ev, e = .returned (.tuple #[.map mo, ev]) ∧ Keep none' (w.alloc (.cells fz 28)) w1 ∧ (∀ W, Keep none' w1 W → Calls Tryz.prog 32 #[ev] W fun e w' => e = .returned (fltV (fOf r)) ∧ Keep none' W w') ∧ decide (mo = none) = isE r ∧ (∀ W, Keep none' w1 W → match mo with | none => mOf r = [] | some mb => W.heap[mb]? = some (kmap kStr (envV (mOf r))))) := by
    refine hc.mono ?_
    rintro e w1 ⟨k1, h1⟩
    cases r with
    | ok m =>
      obtain ⟨mb, rfl, hmb, hh⟩ := h1
      exact ⟨some mb, .nilIface, rfl, k1, fun W _ => fault_nil W, rfl, fun W k => k.get hh (fun x => x)⟩
    | error f =>
      obtain ⟨v, G', rfl, hG, hv⟩ := h1
      exact ⟨none, v, rfl, k1, fun W k => (fault_any hv W (hG.keep0 k) (hs.keep0 ((k0.trans k1).trans k))).mono fun e w' h => h, rfl, fun W k => rfl⟩
  have HC := Lib.hid hc2; have HX0 := Lib.hid x0; have HK0 := Lib.hid k0; have HND := Lib.hid hND; have HLN := Lib.hid hLN; have HLL := Lib.hid hLL
  clear hc hc2 x0 k0 hs hND hLN hLL hr
  go_enter Tryz.func17, Tryz.ntmps17
  go_wp2_with fail
  refine HC.out.mono ?_
  rintro e w1 ⟨mo, ev, rfl, k1, hft, hmo, hmap⟩
  have HX1 := Lib.hid (k1.get HX0.out (fun x => x)); have HK1 := Lib.hid (HK0.out.trans k1)
  have HFT := Lib.hid hft; have HMO := Lib.hid hmo; have HMAP := Lib.hid hmap
  have HKEY := Lib.hid (keys_call mo w1)
  have HSRT := Lib.hid (sorted_any (mo := mo) w1 (hmap w1 (Keep.refl _ _)) HND.out HLN.out HLL.out)
  clear hft hmo hmap k1
  go_wp2_with fail
  refine HKEY.out.mono ?_
  rintro e w2 ⟨rfl, rfl⟩
  go_wp2_with fail
  refine HSRT.out.mono ?_
  rintro e w3 ⟨sv, rfl, hrow, k3⟩
  obtain ⟨NS, hNS⟩ : ∃ NS, NS = instN (mOf r) := ⟨_, rfl⟩
  rw [← hNS] at hrow
  obtain ⟨sa, sc, rfl, hcells⟩ := own_shape hrow
  have hnl : NS.length ≤ 120 := by rw [hNS]; unfold instN sortS; simp; exact HLL.out
  have hmem : ∀ nm ∈ NS, nm ∈ (mOf r).map (·.1) := fun nm h => by rw [hNS] at h; exact List.mem_mergeSort.1 h
  have HROW := Lib.hid hrow; have HK3 := Lib.hid k3; have HNL := Lib.hid hnl; have HMEM := Lib.hid hmem; have HNS := Lib.hid hNS
  clear hrow hnl hmem hNS k3 hcells HSRT HKEY
  go_wp2_with fail
  go_loopg [4, 5, 22] NS.length (fun gn s4 s5 s22 wr => ∃ j : Nat, j ≤ NS.length ∧ Hid (gn = NS.length - j) ∧ s22 = .int .i64 j ∧ Hid (wr.ownsRow w3.heap.size 9 1 s4 j (strsV (NS.take j))) ∧ Hid (wr.ownsRow w3.heap.size 9 1 s5 j (strsV ((NS.take j).map fun n => ((mOf r).lookup n).getD []))) ∧ Hid (∀ g, s4.ownBlock = some g → ¬ s5.ownBlock = some g) ∧ Hid (Keep none' w3 wr))
  case atStart => exact ⟨0, by omega, Lib.hid rfl, rfl, Lib.hid (World.ownsRow_nil _ _ _ _), Lib.hid (World.ownsRow_nil _ _ _ _), Lib.hid (fun g h => by cases h), Lib.hid (Keep.refl _ _)⟩
  case round =>
    obtain ⟨j, hj, HM, rfl, HO, HO2, HD, HK2⟩ := hrel
    have hjj : (0 : Int) ≤ (j : Int) := by omega
    have hrw := own_keep HROW.out HK2.out (fun _ _ x => x)
    have hnl := HNL.out
    by_cases hlt : j < NS.length
    · have hji : ((j : Int) < (NS.length : Int)) := by omega
      obtain ⟨g, cp, hv, _, _, hcl⟩ := own_cells hrw (by omega)
      cases hv
      have cj := hcl j (.string (bs NS[j])) (by simp [strsV, hlt])
      obtain ⟨ao, cap, rfl, _⟩ := own_shape HO.out
      obtain ⟨ao2, cap2, rfl, _⟩ := own_shape HO2.out
      have hmem := HMEM.out _ (List.getElem_mem hlt)
      have ht1 : strsV (NS.take (j + 1)) = strsV (NS.take j) ++ [.string (bs NS[j])] := by rw [List.take_succ_eq_append_getElem hlt]; unfold strsV; simp only [List.map_append, List.map_cons, List.map_nil]
      have ht2 : strsV ((NS.take (j + 1)).map fun n => ((mOf r).lookup n).getD []) = strsV ((NS.take j).map fun n => ((mOf r).lookup n).getD []) ++ [.string (bs (((mOf r).lookup NS[j]).getD []))] := by rw [List.take_succ_eq_append_getElem hlt]; unfold strsV; simp only [List.map_append, List.map_cons, List.map_nil]
      obtain ⟨nm, hnm⟩ : ∃ nm, nm = NS[j] := ⟨_, rfl⟩
      rw [← hnm] at cj hmem ht1 ht2
      obtain ⟨ty, hty⟩ : ∃ ty, ty = ((mOf r).lookup nm).getD [] := ⟨_, rfl⟩
      have hlk := look_m nm (mOf r) hmem
      rw [← hty] at ht2 hlk
      obtain ⟨mb, rfl⟩ : ∃ mb, mo = some mb := by
        cases mo with
        | none => have := HMAP.out w1 (Keep.refl _ _); simp only at this; rw [this] at hmem; cases hmem
        | some mb => exact ⟨mb, rfl⟩
      have k1r : Keep none' w1 wr := HK3.out.trans HK2.out
      have lkk : ∀ W, Keep none' w1 W → (Instr.lookup 71 (.map (some mb)) (.string (bs nm)) false).run Tryz.prog W = .ok (.agg #[.string (bs ty)]) W := fun W k => by
        have lk := run_look_some (P := Tryz.prog) und_env key_str (k := nm) (HMAP.out W k) hlk false
        simp only [Bool.false_eq_true, if_false, kStr, typedV] at lk
        exact lk
      have ft := fld_typed
      have HLKK := Lib.hid lkk; have HT1 := Lib.hid ht1; have HT2 := Lib.hid ht2; have HK1R := Lib.hid k1r
      have hszr := HK2.out.size; have hsz3 := HK3.out.size
      clear hcl hrw hmem ht1 ht2 hlk lkk k1r hnm hty
      go_wp2_with (first | (at_builtin; refine wpList_append_own_at _ rfl _ _ 34 rfl w3.heap.size 9 is (.string ByteArray.empty) 1 16 und_strs his zs0 zs1 zs2 rfl (by decide) (.slice ao j cap) j _ rfl (HO.out.alloc _) ⟨wr.heap.size, 0, none⟩ 1 1 [.string (bs nm)] rfl rfl (cell_one_new _ _ _) (fun x hx => by simp at hx; subst hx; rfl) (by unfold maxLen; omega) (by omega) (by simp; omega) ?_; intro v4 w4 own4 g4 _ at4; have k4 : Keep none' w1 w4 := Keep.grown0 (HK1R.out.trans (Keep.alloc _ _ _)) g4 (fun b e => by have := (HO.out.lt b e).1; omega); have own24 := own_keep (HO2.out.alloc (.cells #[.string (bs nm)] 9)) (Keep.grown (S := fun b => (Value.slice ao j cap).ownBlock = some b) g4 (fun b e _ => e)) (fun g hg hh => HD.out g hh hg); have lk4 := HLKK.out w4 k4; have hs4 : w3.heap.size ≤ w4.heap.size := (Keep.grown0 (HK2.out.trans (Keep.alloc none' wr _)) g4 (fun b e => (HO.out.lt b e).1)).size; obtain ⟨ao4, cap4, rfl, _⟩ := own_shape own4; have HO4 := Lib.hid own4; have HO24 := Lib.hid own24; have HK4 := Lib.hid k4; have HG4 := Lib.hid g4; have HA4 := Lib.hid at4; clear own4 own24 k4 g4 at4) | (at_builtin; refine wpList_append_own_at _ rfl _ _ 34 rfl w3.heap.size 9 is (.string ByteArray.empty) 1 16 und_strs his zs0 zs1 zs2 rfl (by decide) (.slice ao2 j cap2) j _ rfl (HO24.out.alloc _) ⟨w4.heap.size, 0, none⟩ 1 1 [.string (bs ty)] rfl rfl (cell_one_new _ _ _) (fun x hx => by simp at hx; subst hx; rfl) (by unfold maxLen; omega) (by omega) (by simp; omega) ?_; intro v6 w6 own6 g6 _ at6; obtain ⟨ao6, cap6, rfl, _⟩ := own_shape own6))
      have hb4 : (Value.slice ao4 (j + 1) cap4).ownBlock = (Value.slice ao j cap).ownBlock ∨ (Value.slice ao4 (j + 1) cap4).ownBlock = some (wr.heap.size + 1) := by have := HA4.out; simpa using this
      have kg : Keep (fun b => (Value.slice ao2 j cap2).ownBlock = some b) w4 w6 := (Keep.alloc _ _ _).trans (Keep.grown (S := fun b => (Value.slice ao2 j cap2).ownBlock = some b) g6 (fun b e _ => e))
      have hd1 : ∀ g, (Value.slice ao4 (j + 1) cap4).ownBlock = some g → ¬ (Value.slice ao2 j cap2).ownBlock = some g := fun g hg hh => by
        rcases hb4 with h | h
        · exact HD.out g (by rw [← h]; exact hg) hh
        · rw [h] at hg; injection hg with hg
          have := (HO2.out.lt g hh).2; omega
      have ho46 := own_keep HO4.out kg hd1
      have hd2 : ∀ g, (Value.slice ao4 (j + 1) cap4).ownBlock = some g → ¬ (Value.slice ao6 (j + 1) cap6).ownBlock = some g := fun g hg hh => by
        rcases at6 with h | h
        · exact hd1 g hg (by rw [← h]; exact hh)
        · rw [h] at hh; injection hh with hh
          have := (HO4.out.lt g hg).2; simp at hh; omega
      have k36 : Keep none' w3 w6 := by
        have k34 : Keep none' w3 w4 := Keep.grown0 (HK2.out.trans (Keep.alloc none' wr _)) HG4.out (fun b e => by have := (HO.out.lt b e).1; omega)
        exact k34.trans' kg (fun _ _ x => x) (fun b hb e => by have := (HO2.out.lt b e).1; omega)
      have o1 : w6.ownsRow w3.heap.size 9 1 (.slice ao4 (j + 1) cap4) (j + 1) (strsV (NS.take (j + 1))) := by rw [HT1.out]; exact ho46
      have o2 : w6.ownsRow w3.heap.size 9 1 (.slice ao6 (j + 1) cap6) (j + 1) (strsV ((NS.take (j + 1)).map fun n => ((mOf r).lookup n).getD [])) := by rw [HT2.out]; exact own6
      have HO1 := Lib.hid o1; have HO2' := Lib.hid o2; have HD2 := Lib.hid hd2; have HK36 := Lib.hid k36
      clear o1 o2 hd2 k36 ho46 hd1 kg hb4 own6 g6 at6
      go_roundg (NS.length - (j + 1))
      case measure => have := HM.out; omega
      case rel => exact ⟨j + 1, by omega, Lib.hid rfl, by go_num, HO1, HO2', HD2, HK36⟩
    · have hje : j = NS.length := by omega
      subst hje
      have hft := HFT.out wr (HK3.out.trans HK2.out)
      have K3 := HK1.out.trans (HK3.out.trans HK2.out)
      have X3 := (HK3.out.trans HK2.out).get HX1.out (fun x => x)
      have hmo := HMO.out
      have ho := HO.out; have ho2 := HO2.out
      rw [List.take_length] at ho ho2
      have hbase : w.heap.size < w3.heap.size := by have := lt_of_heap HX1.out; have := HK3.out.size; omega
      have HFT2 := Lib.hid hft; have HKK := Lib.hid K3; have HXX := Lib.hid X3; have HMO2 := Lib.hid hmo; have HOO := Lib.hid ho; have HOO2 := Lib.hid ho2; have HB := Lib.hid hbase
      clear hft K3 X3 hmo ho ho2 hbase hrw hnl hjj hlt hj HO HO2 HFT HMO
      cases mo with
      | none =>
        have hq := eql_none
        go_wp2_with fail
        refine HFT2.out.mono ?_
        rintro e w4 ⟨rfl, k4⟩
        have x4 := k4.get HXX.out (fun x => x)
        have K4 := HKK.out.trans k4
        obtain ⟨hz, f0⟩ := fz_cells x4
        have d0 := hz 0 _ rfl; have d1 := hz 1 _ rfl; have d2 := hz 2 _ rfl; have d3 := hz 3 _ rfl; have d4 := hz 4 _ rfl
        have KP := Lib.hid (fun u0 u1 u2 u3 u4 => keep5 K4 (Nat.le_refl _) u0 u1 u2 u3 u4)
        have o1 := own_keep HOO.out k4 (fun _ _ x => x)
        have o2 := own_keep HOO2.out k4 (fun _ _ x => x)
        have HO1 := Lib.hid o1; have HO2 := Lib.hid o2
        clear hz x4 K4 k4 o1 o2
        unfold fltV faultV
        go_wp2_with fail
        have hie : isE r = true := by rw [← HMO2.out]; simp
        have ho1 := own_set5 HO1.out HB.out (.int .i64 (fOf r).what) (.int .i64 (fOf r).pos) (.string (bs (fOf r).s)) (.int .i64 (fOf r).inner) (.int .i64 (fOf r).innerAt)
        have ho2 := own_set5 HO2.out HB.out (.int .i64 (fOf r).what) (.int .i64 (fOf r).pos) (.string (bs (fOf r).s)) (.int .i64 (fOf r).inner) (.int .i64 (fOf r).innerAt)
        have hns := HNS.out
        subst hns
        refine bodyPost_ret (v := .tuple #[u4, u5, .bool true, faultV (fOf r).what (fOf r).pos (bs (fOf r).s) (fOf r).inner (fOf r).innerAt]) (by simp [results, Tryz.results17, go_sem, faultV, d0, d1, d2, d3, d4]) rfl ⟨u4, u5, by rw [hie]; rfl, KP.out _ _ _ _ _, ho1, ho2⟩
      | some mb =>
        have hq := eql_some mb
        go_wp2_with fail
        refine HFT2.out.mono ?_
        rintro e w4 ⟨rfl, k4⟩
        have x4 := k4.get HXX.out (fun x => x)
        have K4 := HKK.out.trans k4
        obtain ⟨hz, f0⟩ := fz_cells x4
        have d0 := hz 0 _ rfl; have d1 := hz 1 _ rfl; have d2 := hz 2 _ rfl; have d3 := hz 3 _ rfl; have d4 := hz 4 _ rfl
        have KP := Lib.hid (fun u0 u1 u2 u3 u4 => keep5 K4 (Nat.le_refl _) u0 u1 u2 u3 u4)
        have o1 := own_keep HOO.out k4 (fun _ _ x => x)
        have o2 := own_keep HOO2.out k4 (fun _ _ x => x)
        have HO1 := Lib.hid o1; have HO2 := Lib.hid o2
        clear hz x4 K4 k4 o1 o2
        unfold fltV faultV
        go_wp2_with fail
        have hie : isE r = false := by rw [← HMO2.out]; simp
        have ho1 := own_set5 HO1.out HB.out (.int .i64 (fOf r).what) (.int .i64 (fOf r).pos) (.string (bs (fOf r).s)) (.int .i64 (fOf r).inner) (.int .i64 (fOf r).innerAt)
        have ho2 := own_set5 HO2.out HB.out (.int .i64 (fOf r).what) (.int .i64 (fOf r).pos) (.string (bs (fOf r).s)) (.int .i64 (fOf r).inner) (.int .i64 (fOf r).innerAt)
        have hns := HNS.out
        subst hns
        refine bodyPost_ret (v := .tuple #[u4, u5, .bool false, faultV (fOf r).what (fOf r).pos (bs (fOf r).s) (fOf r).inner (fOf r).innerAt]) (by simp [results, Tryz.results17, go_sem, faultV, d0, d1, d2, d3, d4]) rfl ⟨u4, u5, by rw [hie]; rfl, KP.out _ _ _ _ _, ho1, ho2⟩
end Go.Proofs.YtabikmkoajdhmaaGreatDoor
