/- plain.env: names and types as a map; maps.Equal: it answers and touches nothing. -/
import Derived.Test.YtabikmkoajdhmaaGreatDoorQ31
import Derived.Test.YtabikmkoajdhmaaGreatDoorQ21
import Derived.Test.YtabikmkoajdhmaaGreatDoorQ22
import Derived.Deep.LoopGhost
import Derived.Laws.IdiomRangeMap
import Derived.Maps.RangeRun
import Derived.Test.YtabikmkoajdhmaaGreatDoorQ05
set_option linter.unusedVariables false
set_option linter.unusedSimpArgs false
namespace Go.Proofs.YtabikmkoajdhmaaGreatDoor
open Go.RowKit

def typedV (t : Str) : Value := .agg #[.string (bs t)]
def envV (l : List (Str × Str)) : List (Str × Value) := l.map fun p => (p.1, typedV p.2)
theorem und_env : Tryz.prog.underlying 71 = some (.map 9 76) := by kernel_rfl
theorem zero_typed : ∀ w, (zeroValue 76).run Tryz.prog w = .ok (typedV []) w := fun w => by kernel_rfl
theorem run_mkenv (w : World) : (Instr.makeMap 71 none).run Tryz.prog w = .ok (.map (some w.heap.size)) (w.alloc (kmap kStr [])) := rfl
theorem look_noneK {K : Type} [DecidableEq K] (k : K) : ∀ l : List (K × Value), (∀ p ∈ l, p.1 ≠ k) → l.lookup k = none
  | [], _ => rfl
  | (a, v) :: r, h => by
    have : (k == a) = false := by simpa using fun e => h (a, v) (by simp) e.symm
    rw [List.lookup_cons, this]
    exact look_noneK k r (fun p hp => h p (by simp [hp]))
theorem look_take {names types : List Str} (hn : names.Nodup) (j : Nat) (h : j < names.length) (h' : j < types.length) : @List.lookup Str Value instBEqOfDecidableEq names[j] (envV ((names.zip types).take j)) = none := by
  refine look_noneK _ _ (fun p hp => ?_)
  obtain ⟨q, hq, rfl⟩ := List.mem_map.1 hp
  rw [List.mem_take_iff_getElem] at hq
  obtain ⟨i, hi, rfl⟩ := hq
  simp only [List.getElem_zip]
  intro e
  have := (List.getElem_inj hn).1 e
  omega

set_option maxRecDepth 100000 in
set_option maxHeartbeats 4000000 in
theorem env_ok {G : GH} {w : World} {nv tv : Value} {names types : List Str} (hG : Holds G w) (hn : SlR G nv (names.map fun n => .string (bs n))) (ht : SlR G tv (types.map fun n => .string (bs n))) (hl : names.length = types.length) (hd : names.Nodup) (hb : names.length ≤ 1000000) :
    Calls Tryz.prog 34 #[nv, tv] w fun e w' => e = .returned (.map (some w.heap.size)) ∧ Keep none' w w' ∧ w'.heap[w.heap.size]? = some (kmap kStr (envV (names.zip types))) := by
  obtain ⟨an, cn, rfl, hcn⟩ := hn.shp
  obtain ⟨at', ct, rfl, hct⟩ := ht.shp
  have hmk := run_mkenv
  have k0 : Keep none' w (w.alloc (kmap kStr [])) := Keep.alloc _ _ _
  have b0 : (w.alloc (kmap kStr [])).heap[w.heap.size]? = some (kmap kStr (envV [])) := heap_new _ _
  obtain ⟨B, hB⟩ : ∃ B, B = w.heap.size := ⟨_, rfl⟩
  obtain ⟨w0, hw0⟩ : ∃ w0, w0 = w.alloc (kmap kStr []) := ⟨_, rfl⟩
  rw [← hB, ← hw0] at b0
  rw [← hw0] at k0
  have HG := Lib.hid hG; have HN := Lib.hid hcn; have HT := Lib.hid hct; have HL := Lib.hid hl; have HD := Lib.hid hd; have HB0 := Lib.hid b0; have HK0 := Lib.hid k0; have HW0 := Lib.hid hw0; have HBB := Lib.hid hB
  simp only [List.length_map]
  clear hG hn ht hcn hct hd b0 k0 hw0 hB hl
  go_enter Tryz.func34, Tryz.ntmps34
  go_wp2_with fail
  rw [← HW0.out, ← HBB.out]
  go_loopg [10] names.length (fun gn s10 wr => ∃ j : Nat, j ≤ names.length ∧ Hid (gn = names.length - j) ∧ s10 = .int .i64 j ∧ Hid (Keep none' w wr) ∧ Hid (wr.heap[B]? = some (kmap kStr (envV ((names.zip types).take j)))))
  case atStart => exact ⟨0, by omega, Lib.hid rfl, rfl, HK0, HB0⟩
  case round =>
    obtain ⟨j, hj, HM, rfl, HK, HBJ⟩ := hrel
    have hjj : (0 : Int) ≤ (j : Int) := by omega
    by_cases hlt : j < names.length
    · have hlt2 : j < types.length := by have := HL.out; omega
      have hHj := HG.out.keep0 HK.out
      obtain ⟨q1, rfl, c1⟩ := HN.out wr hHj j (.string (bs names[j])) (by simp [hlt])
      obtain ⟨q2, rfl, c2⟩ := HT.out wr hHj j (.string (bs types[j])) (by simp [hlt2])
      have hup := run_upd_new (P := Tryz.prog) und_env key_str (k := names[j]) (v := typedV types[j]) (w := wr.drew) HBJ.out (look_take HD.out j hlt hlt2)
      have hnx : envV ((names.zip types).take j) ++ [(names[j], typedV types[j])] = envV ((names.zip types).take (j + 1)) := by
        rw [List.take_succ_eq_append_getElem (by simp; have := HL.out; omega)]
        simp [envV]
      rw [hnx] at hup
      obtain ⟨w5, hw5⟩ : ∃ w5, w5 = World.lay wr.drew B (kmap kStr (envV ((names.zip types).take (j + 1)))) := ⟨_, rfl⟩
      rw [← hw5] at hup
      unfold kStr typedV at hup
      have k5 : Keep none' w w5 := by
        rw [hw5]
        exact (HK.out.trans (Keep.drew _ _)).trans' (lay_keep wr.drew B _) (fun _ _ h => h) (fun i hi (e : i = B) => by have := HBB.out; omega)
      have b5 : w5.heap[B]? = some (kmap kStr (envV ((names.zip types).take (j + 1)))) := by rw [hw5]; exact lay_same (lt_of_heap (w := wr.drew) HBJ.out)
      have HK5 := Lib.hid k5; have HB5 := Lib.hid b5
      have S0 : wr.drew.cell? ⟨q1, j, none⟩ = some (.string (bs names[j])) ∧ wr.drew.cell? ⟨q2, j, none⟩ = some (.string (bs types[j])) := ⟨c1, c2⟩
      have S5 : w5.cell? ⟨q1, j, none⟩ = some (.string (bs names[j])) ∧ w5.cell? ⟨q2, j, none⟩ = some (.string (bs types[j])) := by
        have h5 := HG.out.keep0 k5
        obtain ⟨p1, e1, d1⟩ := HN.out w5 h5 j (.string (bs names[j])) (by simp [hlt])
        obtain ⟨p2, e2, d2⟩ := HT.out w5 h5 j (.string (bs types[j])) (by simp [hlt2])
        injection e1 with e1; injection e1 with e1; subst e1
        injection e2 with e2; injection e2 with e2; subst e2
        exact ⟨d1, d2⟩
      have hji : ((j : Int) < (names.length : Int)) := by omega
      have hjt : ((j : Int) < (types.length : Int)) := by omega
      clear hHj c1 c2 hnx hw5 k5 b5
      go_wp2_with fail
      refine wp_region_float (fun w' => w'.cell? ⟨q1, j, none⟩ = some (.string (bs names[j])) ∧ w'.cell? ⟨q2, j, none⟩ = some (.string (bs types[j]))) [0, 1, 2, 3, 5, 6, 7, 9] [4, 8] (by kernel_rfl) ?_
      (refine float0 (i := 0) (v := ?_) rfl (by kernel_rfl) (by kernel_rfl) (by kernel_rfl) (by kernel_rfl) (fun _ _ _ h => h) (by rfl) ?_ ?_); rotate_left
      (intro wF; go_simp; try with_reducible rfl)
      (try simp only [Act.put, List.setIfInBounds_toArray, List.set_cons_zero, List.set_cons_succ])
      (refine float0 (i := 1) (v := ?_) rfl (by kernel_rfl) (by kernel_rfl) (by kernel_rfl) (by kernel_rfl) (fun _ _ _ h => h) (by rfl) ?_ ?_); rotate_left
      (intro wF; go_simp; try with_reducible rfl)
      (try simp only [Act.put, List.setIfInBounds_toArray, List.set_cons_zero, List.set_cons_succ])
      (refine float0 (i := 2) (v := ?_) rfl (by kernel_rfl) (by kernel_rfl) (by kernel_rfl) (by kernel_rfl) (fun _ _ _ h => h) (by rfl) ?_ ?_); rotate_left
      (intro wF; go_simp; try with_reducible rfl)
      (try simp only [Act.put, List.setIfInBounds_toArray, List.set_cons_zero, List.set_cons_succ])
      (refine float0 (i := 3) (v := ?_) rfl (by kernel_rfl) (by kernel_rfl) (by kernel_rfl) (by kernel_rfl) (fun _ _ _ h => h) (by rfl) ?_ ?_); rotate_left
      (intro wF; go_simp; try with_reducible rfl)
      (try simp only [Act.put, List.setIfInBounds_toArray, List.set_cons_zero, List.set_cons_succ])
      (refine floatS (i := 4) (v := ?_) rfl (by kernel_rfl) (by kernel_rfl) (by kernel_rfl) (by kernel_rfl) (fun _ _ _ h => h) (by assumption) (by rfl) ?_ ?_); rotate_left
      (intro wF hF; (try dsimp only at hF); go_simp; try with_reducible rfl)
      (try simp only [Act.put, List.setIfInBounds_toArray, List.set_cons_zero, List.set_cons_succ])
      (refine float0 (i := 5) (v := ?_) rfl (by kernel_rfl) (by kernel_rfl) (by kernel_rfl) (by kernel_rfl) (fun _ _ _ h => h) (by rfl) ?_ ?_); rotate_left
      (intro wF; go_simp; try with_reducible rfl)
      (try simp only [Act.put, List.setIfInBounds_toArray, List.set_cons_zero, List.set_cons_succ])
      (refine float0 (i := 6) (v := ?_) rfl (by kernel_rfl) (by kernel_rfl) (by kernel_rfl) (by kernel_rfl) (fun _ _ _ h => h) (by rfl) ?_ ?_); rotate_left
      (intro wF; go_simp; try with_reducible rfl)
      (try simp only [Act.put, List.setIfInBounds_toArray, List.set_cons_zero, List.set_cons_succ])
      (refine float0 (i := 7) (v := ?_) rfl (by kernel_rfl) (by kernel_rfl) (by kernel_rfl) (by kernel_rfl) (fun _ _ _ h => h) (by rfl) ?_ ?_); rotate_left
      (intro wF; go_simp; try with_reducible rfl)
      (try simp only [Act.put, List.setIfInBounds_toArray, List.set_cons_zero, List.set_cons_succ])
      (refine floatS (i := 8) (v := ?_) rfl (by kernel_rfl) (by kernel_rfl) (by kernel_rfl) (by kernel_rfl) (fun _ _ _ h => h) (by assumption) (by rfl) ?_ ?_); rotate_left
      (intro wF hF; (try dsimp only at hF); go_simp; try with_reducible rfl)
      (try simp only [Act.put, List.setIfInBounds_toArray, List.set_cons_zero, List.set_cons_succ])
      (refine float0 (i := 9) (v := ?_) rfl (by kernel_rfl) (by kernel_rfl) (by kernel_rfl) (by kernel_rfl) (fun _ _ _ h => h) (by rfl) ?_ ?_); rotate_left
      (intro wF; go_simp; try with_reducible rfl)
      (try simp only [Act.put, List.setIfInBounds_toArray, List.set_cons_zero, List.set_cons_succ])
      (refine floatM (i := 10) rfl (by kernel_rfl) (by kernel_rfl) (fun K hK => ?_)); go_simp
      refine hK.out _ _ (fun _ => S5) ?_
      clear hK K
      (try simp only [Act.put, List.setIfInBounds_toArray, List.set_cons_zero, List.set_cons_succ])
      (refine floatE (by kernel_rfl) ?_)
      clear S0 S5 hup
      go_wp2_with fail
      go_roundg (names.length - (j + 1))
      case measure => have := HM.out; omega
      case rel => exact ⟨j + 1, by omega, Lib.hid rfl, by go_num, HK5, HB5⟩
    · have hje : j = names.length := by omega
      subst hje
      go_wp2_with fail
      go_ret
      have hb := HBJ.out
      rw [List.take_of_length_le (by simp; have := HL.out; omega)] at hb
      have hBB := HBB.out
      subst hBB
      exact ⟨rfl, HK.out, hb⟩

theorem ment_born {K : Type} (f : K → Value) : ∀ (l : List (K × Value)) (i : Nat), (∀ x ∈ ment f i l, i ≤ x.born ∧ x.born < i + l.length) ∧ ((ment f i l).map (·.born)).Nodup
  | [], i => by simp [ment]
  | p :: r, i => by
    obtain ⟨h1, h2⟩ := ment_born f r (i + 1)
    refine ⟨fun x hx => ?_, ?_⟩
    · simp only [ment, List.mem_cons] at hx
      rcases hx with rfl | hx
      · simp
      · have := h1 x hx; simp only [List.length_cons]; omega
    · simp only [ment, List.map_cons, List.nodup_cons]
      refine ⟨fun hm => ?_, h2⟩
      obtain ⟨x, hx, e⟩ := List.mem_map.1 hm
      have := h1 x hx; omega
theorem ment_val : ∀ (l : List (Str × Str)) (i : Nat), ∀ x ∈ ment kStr i (envV l), ∃ s t j, x = ⟨kStr s, typedV t, j⟩
  | [], i, x, hx => by simp [envV, ment] at hx
  | (a, b) :: r, i, x, hx => by
    simp only [envV, List.map_cons, ment, List.mem_cons] at hx
    rcases hx with rfl | hx
    · exact ⟨_, _, _, rfl⟩
    · exact ment_val r (i + 1) x hx
theorem look_env (l : List (Str × Str)) (k : Str) : @List.lookup Str Value instBEqOfDecidableEq k (envV l) = none ∨ ∃ t, @List.lookup Str Value instBEqOfDecidableEq k (envV l) = some (typedV t) := by
  induction l with
  | nil => exact .inl rfl
  | cons p r ih =>
    simp only [envV, List.map_cons, List.lookup_cons]
    split
    · exact .inr ⟨_, rfl⟩
    · exact ih
set_option maxRecDepth 100000 in
set_option maxHeartbeats 4000000 in
/-- maps.Equal: it answers. -/
theorem equal_any {w : World} {a b : Nat} {l m : List (Str × Str)} (ha : w.heap[a]? = some (kmap kStr (envV l))) (hb : w.heap[b]? = some (kmap kStr (envV m))) (hl : l.length ≤ 1000000) (hm : m.length ≤ 1000000) :
    Calls Tryz.prog 36 #[.map (some a), .map (some b)] w fun e w' => (∃ r, e = .returned (.bool r)) ∧ Keep none' w w' := by
  have l1 := run_len_map (P := Tryz.prog) und_env (w := w) ha 3
  have l2 := run_len_map (P := Tryz.prog) und_env (w := w) hb 3
  obtain ⟨es, hes⟩ : ∃ es, es = (ment kStr 0 (envV l)).toArray := ⟨_, rfl⟩
  obtain ⟨L, hL⟩ : ∃ L, L = (envV l).length := ⟨_, rfl⟩
  have ha' : w.heap[a]? = some (.map es L) := by rw [hes, hL]; exact ha
  have hrg : (Instr.range 71 (.map (some a))).run Tryz.prog w = .ok (.pointer (some ⟨w.heap.size, 0, none⟩)) (w.alloc (.mapIter (some a) L #[] L)) := run_range_map w _ _ _ a _ L und_env ha'
  have hborn : ∀ x ∈ es.toList, x.born < L := fun x hx => by rw [hes] at hx; have := ((ment_born kStr (envV l) 0).1 x (by simpa using hx)).2; omega
  have hnod : (es.toList.map (·.born)).Nodup := by rw [hes]; simpa using (ment_born kStr (envV l) 0).2
  have hval : ∀ x ∈ es.toList, ∃ s t j, x = ⟨kStr s, typedV t, j⟩ := fun x hx => by rw [hes] at hx; exact ment_val l 0 x (by simpa using hx)
  rw [← hL] at l1
  obtain ⟨L2, hL2⟩ : ∃ L2, L2 = (envV m).length := ⟨_, rfl⟩
  rw [← hL2] at l2
  have HA := Lib.hid ha'; have HB := Lib.hid hb; have HBORN := Lib.hid hborn; have HNOD := Lib.hid hnod; have HVAL := Lib.hid hval
  clear ha hb ha' hborn hnod hval hes hL hL2
  have tail : ∀ (a : Act) (w' : World), True := fun _ _ => trivial
  clear tail
  by_cases hne : ((L : Int) != (L2 : Int)) = true
  · go_enter Tryz.func36, Tryz.ntmps36
    go_wp2_with fail
    go_ret
    exact ⟨⟨false, rfl⟩, Keep.refl _ _⟩
  have hne' : ((L : Int) != (L2 : Int)) = false := by simpa using hne
  clear hne
  go_enter Tryz.func36, Tryz.ntmps36
  go_wp2_with fail
  clear hrg l1 l2
  obtain ⟨IB, hIB⟩ : ∃ IB, IB = w.heap.size := ⟨_, rfl⟩
  have hi0 : (w.alloc (.mapIter (some a) L #[] L)).heap[IB]? = some (.mapIter (some a) L #[] L) := by rw [hIB]; exact heap_new _ _
  obtain ⟨w0, hw0⟩ : ∃ w0, w0 = w.alloc (.mapIter (some a) L #[] L) := ⟨_, rfl⟩
  have hk0 : Keep none' w w0 := by rw [hw0]; exact Keep.alloc _ _ _
  rw [← hw0] at hi0 ⊢
  rw [← hIB]
  have HI0 := Lib.hid hi0; have HK0 := Lib.hid hk0; have HIB := Lib.hid hIB
  clear hi0 hk0 hw0 hIB
  go_loopg [] (leftOf es #[]).size (fun n wr => ∃ (seen : Array Nat) (c0 : Nat), Hid (wr.heap[IB]? = some (.mapIter (some a) L seen c0)) ∧ Hid (n = (leftOf es seen).size) ∧ L ≤ c0 ∧ Hid (Keep none' w wr))
  case atStart => exact ⟨#[], L, HI0, Lib.hid rfl, Nat.le_refl _, HK0⟩
  case round =>
    obtain ⟨seen, c0, HW, HN, hc0, HK1⟩ := hrel
    have hba := HK1.out.get HA.out (fun x => x)
    rcases run_next_at (P := Tryz.prog) wr 0 IB a L c0 seen es L HW.out hba HBORN.out hc0 with ⟨h0, hn⟩ | ⟨e, he, w1, hal, hn⟩
    · clear hba h0
      go_wp2_with fail
      go_ret
      exact ⟨⟨true, rfl⟩, HK1.out⟩
    · have HSH := Lib.hid (left_shrinks _ _ _ he)
      obtain ⟨hm', hs⟩ := mem_left he
      obtain ⟨ks, vt, jj, rfl⟩ := HVAL.out e hm'
      obtain ⟨w2, hw2⟩ : ∃ w2, w2 = Go.ChangeMaps.setBlock w1 IB (.mapIter (some a) L (seen.push jj) L) := ⟨_, rfl⟩
      have hsz1 : w1.heap = wr.heap := by rcases hal with rfl | rfl <;> rfl
      have k1 : Keep none' wr w1 := by rcases hal with rfl | rfl
                                       · exact Keep.refl _ _
                                       · exact Keep.drew _ _
      have hlt := lt_of_heap HW.out
      have h2 : w2.heap[IB]? = some (.mapIter (some a) L (seen.push jj) L) := by rw [hw2]; simp only [Go.ChangeMaps.setBlock]; rw [Array.getElem?_setIfInBounds_self_of_lt (by rw [hsz1]; exact hlt)]
      have k2 : Keep (one' IB) w1 w2 := by
        rw [hw2]
        refine ⟨rfl, rfl, by simp [Go.ChangeMaps.setBlock], fun i hi hn => ?_⟩
        have : i ≠ IB := hn
        simp only [Go.ChangeMaps.setBlock]
        rw [Array.getElem?_setIfInBounds_ne (Ne.symm this)]
      have K2 : Keep none' w w2 := (HK1.out.trans k1).trans' k2 (fun _ _ h => h) (fun i hi (e : i = IB) => by have := HIB.out; omega)
      have hen := run_entry_at (P := Tryz.prog) w2 IB a L seen es L _ h2 (K2.get HA.out (fun x => x)) hm' HNOD.out
      simp only [← hw2] at hn
      simp only at hn hen
      have HK2 := Lib.hid K2; have H2 := Lib.hid h2
      clear hba hal hs k1 k2 hsz1 hlt hm' hw2 h2
      have K3 : Keep none' w (w2.alloc (.cells #[.string (bs vt)] 76)) := K2.trans (Keep.alloc _ _ _)
      have hb3 := K3.get HB.out (fun x => x)
      have HK3 := Lib.hid K3
      have H3 := Lib.hid (heap_old (o' := .cells #[.string (bs vt)] 76) H2.out)
      clear K2 K3
      rcases look_env m ks with hlk | ⟨t2, hlk⟩
      · have lk := run_look_none (P := Tryz.prog) und_env key_str zero_typed (k := ks) hb3 hlk true
        clear hb3
        simp only [if_true, kStr, typedV] at lk hn hen
        go_wp2_with fail
        go_ret
        exact ⟨.inl rfl, HK3.out.trans (Keep.alloc _ _ _)⟩
      · have lk := run_look_some (P := Tryz.prog) und_env key_str (k := ks) hb3 hlk true
        clear hb3
        simp only [if_true, kStr, typedV] at lk hn hen
        go_wp2_with fail
        · have K4 := HK3.out.trans (Keep.alloc none' _ (.cells #[.string (bs t2)] 76))
          have H4 := heap_old (o' := .cells #[.string (bs t2)] 76) H3.out
          go_roundg (leftOf es (seen.push jj)).size
          case measure => have h1 : (leftOf es (seen.push jj)).size < (leftOf es seen).size := HSH.out; have h2 := HN.out; omega
          case rel => exact ⟨seen.push jj, L, Lib.hid H4, Lib.hid rfl, Nat.le_refl _, Lib.hid K4⟩
        · go_ret
          exact ⟨.inl rfl, HK3.out.trans (Keep.alloc _ _ _)⟩
end Go.Proofs.YtabikmkoajdhmaaGreatDoor
