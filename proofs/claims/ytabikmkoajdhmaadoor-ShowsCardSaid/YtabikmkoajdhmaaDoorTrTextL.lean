/- typerref's Text: let, let rec. -/
import Derived.Test.YtabikmkoajdhmaaDoorTrText
set_option linter.unusedVariables false
set_option linter.unusedSimpArgs false
set_option linter.unnecessarySimpa false
namespace Go.Proofs.YtabikmkoajdhmaaDoor
open Go.RowKit

/-- The bindings' text: names with what they stand for. -/
def bndS : List (Str × Str) → Str
  | [] => []
  | (n, s) :: r => n ++ [32, 61, 32] ++ s ++ (match r with | [] => [] | _ => [32, 97, 110, 100, 32]) ++ bndS r
/-- .. of the first so many, as the loop lays it. -/
def bndL (pre : Str) : List (Str × Str) → Nat → Str
  | [], _ => pre
  | (n, s) :: r, k => bndL ((if 0 < k then pre ++ [32, 97, 110, 100, 32] else pre) ++ (n ++ [32, 61, 32] ++ s)) r (k + 1)
def preL (op : Str) : Str := if op = REC then [108, 101, 116, 32, 114, 101, 99, 32] else [108, 101, 116, 32]
theorem bndL_snoc (pre : Str) (a : Str × Str) : ∀ (l : List (Str × Str)) (k : Nat), bndL pre (l ++ [a]) k = (if 0 < k + l.length then bndL pre l k ++ [32, 97, 110, 100, 32] else bndL pre l k) ++ (a.1 ++ [32, 61, 32] ++ a.2)
  | [], k => by simp [bndL]
  | (n, s) :: r, k => by
    simp only [List.cons_append, bndL, List.length_cons]
    rw [bndL_snoc]
    simp only [show k + 1 + r.length = k + (r.length + 1) by omega]
theorem bndL_len (pre : Str) (B : Nat) : ∀ (l : List (Str × Str)) (k : Nat), (∀ a ∈ l, a.1.length + a.2.length ≤ B) → (bndL pre l k).length ≤ pre.length + l.length * (B + 8)
  | [], k, h => by simp [bndL]
  | (n, s) :: r, k, h => by
    have h1 := h (n, s) (by simp)
    simp only at h1
    refine Nat.le_trans (bndL_len _ B r (k + 1) (fun a ha => h a (by simp [ha]))) ?_
    have h2 : ((if 0 < k then pre ++ [32, 97, 110, 100, 32] else pre) ++ (n ++ [32, 61, 32] ++ s)).length ≤ pre.length + (B + 8) := by
      split <;> simp <;> omega
    simp only [List.length_cons, Nat.add_mul, Nat.one_mul]
    omega
set_option maxRecDepth 100000 in
set_option maxHeartbeats 8000000 in
theorem text_let {G : GH} {b : Nat} {op : Str} {nv lv : Value} {at' : Int} {l : List (Str × Str)} {ks : List Nat} {ke : Nat} {e : Str} (h1 : G b = some (xO op nv lv at')) (ho : op = LET ∨ op = REC) (h2 : SlR G nv (l.map fun a => .string (bs a.1))) (h3 : SlR G lv ((ks ++ [ke]).map ptr)) (hkl : ks.length = l.length) (hll : l.length ≤ 1000000) (hb : ∀ a ∈ l, a.1.length + a.2.length ≤ 1000000) (hel : e.length ≤ 1000000000000)
    (hk : ∀ i (h : i < ks.length) (h2 : i < l.length), ∀ w, Holds G w → TextQ ks[i] l[i].2 w) (he : ∀ w, Holds G w → TextQ ke e w) (w : World) (hw : Holds G w) : TextQ b (bndL (preL op) l 0 ++ [32, 105, 110, 32] ++ e) w := by
  obtain ⟨aoN, cap, rfl, hc⟩ := slr_shp h2
  obtain ⟨lb, cap2, rfl, hc2⟩ := slr_at (n := l.length) h3 (by simp [hkl])
  rw [List.length_map] at h1 h2
  obtain ⟨N1, hN1⟩ : ∃ N1, N1 = l.length := ⟨_, rfl⟩
  have hn0 : l.length = N1 := hN1.symm
  rw [← hN1] at h1
  obtain ⟨M1, hM1⟩ : ∃ M1, M1 = N1 + 1 := ⟨_, rfl⟩
  rw [← hM1] at h1
  have hcells : ∀ n, (w.drewN n).cell? ⟨b, 0, none⟩ = some (.string (bs op)) ∧ (w.drewN n).cell? ⟨b, 1, none⟩ = some (.slice aoN N1 cap) ∧ (w.drewN n).cell? ⟨b, 2, none⟩ = some (.slice (some ⟨lb, 0, none⟩) M1 cap2) ∧ (∀ i (h : i < l.length), ∃ nb, aoN = some ⟨nb, 0, none⟩ ∧ (w.drewN n).cell? ⟨nb, i, none⟩ = some (.string (bs l[i].1))) ∧ (∀ i (h : i < ks.length), (w.drewN n).cell? ⟨lb, i, none⟩ = some (.pointer (some ⟨ks[i], 0, none⟩))) ∧ (w.drewN n).cell? ⟨lb, N1, none⟩ = some (.pointer (some ⟨ke, 0, none⟩)) := fun n => by
    have hwn : Holds G (w.drewN n) := hw.keep0 (Keep.drewN _ _ _)
    refine ⟨cell_of_heap (hwn _ _ h1) rfl, cell_of_heap (hwn _ _ h1) rfl, cell_of_heap (hwn _ _ h1) rfl, fun i h => ?_, fun i h => ?_, ?_⟩
    · obtain ⟨nb, e1, e2⟩ := hc i (by simpa using h)
      exact ⟨nb, e1, by rw [e2 _ hwn]; simp⟩
    · rw [hc2 i (by simp; omega) _ hwn]; simp [h, ptr]
    · rw [hc2 N1 (by simp; omega) _ hwn]; simp [hkl, hn0, ptr]
  have c0 : w.cell? ⟨b, 0, none⟩ = some (.string (bs op)) := cell_of_heap (hw _ _ h1) rfl
  have c1 : w.cell? ⟨b, 1, none⟩ = some (.slice aoN N1 cap) := cell_of_heap (hw _ _ h1) rfl
  have q1 : ((bs op).toList == [110, 97, 109, 101]) = false := (str_c _ _).trans (by rcases ho with rfl | rfl <;> decide)
  have q2 : ((bs op).toList == [110, 117, 109]) = false := (str_c _ _).trans (by rcases ho with rfl | rfl <;> decide)
  have q3 : ((bs op).toList == [102, 117, 110]) = false := (str_c _ _).trans (by rcases ho with rfl | rfl <;> decide)
  have q4 : ((bs op).toList == [112, 97, 105, 114]) = false := (str_c _ _).trans (by rcases ho with rfl | rfl <;> decide)
  have q5 : ((bs op).toList == [105, 102]) = false := (str_c _ _).trans (by rcases ho with rfl | rfl <;> decide)
  have q6 : ((bs op).toList == [97, 112, 112]) = false := (str_c _ _).trans (by rcases ho with rfl | rfl <;> decide)
  have q7 : ((bs op).toList == [114, 101, 99]) = decide (op = REC) := str_c _ _
  have hkw : ∀ i (h : i < ks.length) (h2 : i < l.length), ∀ n, TextQ ks[i] l[i].2 (w.drewN n) := fun i h h2 n => hk i h h2 _ (hw.keep0 (Keep.drewN _ _ _))
  have hew : ∀ n, TextQ ke e (w.drewN n) := fun n => he _ (hw.keep0 (Keep.drewN _ _ _))
  have hpl : (preL op).length ≤ 8 := by unfold preL; split <;> simp
  have HKW := Lib.hid hkw; have HEW := Lib.hid hew; have HC := Lib.hid hcells; have HB := Lib.hid hb; have HKL := Lib.hid hkl; have HN0 := Lib.hid hn0; have HPL := Lib.hid hpl
  unfold TextQ
  clear h1 h2 h3 hk he hc hc2 hw hkw hew hcells hb hkl hpl
  have hn1 : N1 ≤ 1000000 := by omega
  by_cases hr : op = REC
  all_goals
    first | rw [decide_eq_true hr] at q7 | rw [decide_eq_false hr] at q7
    have hpre : preL op = (if op = REC then [108, 101, 116, 32, 114, 101, 99, 32] else [108, 101, 116, 32]) := rfl
    first | rw [if_pos hr] at hpre | rw [if_neg hr] at hpre
    have HPRE := Lib.hid hpre; have HO := Lib.hid ho
    have hz1 : (N1 : Int) < (M1 : Int) := by omega
    clear hr hpre ho hn0 hll hN1 hM1
    go_enter Tryd.func11, Tryd.ntmps11
    go_wp2_with fail
    have hz0 : (0 : Int) ≤ (N1 : Int) := by omega
    go_loopg [7, 169] N1 (fun gn s7 s169 wr => ∃ i : Nat, i ≤ N1 ∧ Hid (gn = N1 - i) ∧ s169 = .int .i64 i ∧ s7 = .string (bs (bndL (preL op) (l.take i) 0)) ∧ ∃ m, wr = w.drewN m)
    case atStart => exact ⟨0, by omega, Lib.hid rfl, rfl, by rw [List.take_zero]; simp only [bndL]; rw [HPRE.out]; rfl, 0, rfl⟩
    case round =>
      obtain ⟨i, hi, HM, rfl, rfl, m, hwr⟩ := hrel
      subst wr
      obtain ⟨d0, d1, d2, dn, dk, de⟩ := HC.out m
      have h0i : (0 : Int) ≤ (i : Int) := by omega
      have hsl : (bs (bndL (preL op) (l.take i) 0)).size ≤ 8 + 1000001 * 1000008 := by
        rw [bs_size]
        refine Nat.le_trans (bndL_len _ 1000000 (l.take i) 0 (fun a ha => HB.out a (List.mem_of_mem_take ha))) ?_
        have h1 : (l.take i).length ≤ 1000001 := by rw [List.length_take]; omega
        have h2 := HPL.out
        have h3 := Nat.mul_le_mul_right (1000000 + 8) h1
        omega
      by_cases hlt : i < N1
      · have hii : (i : Int) < (N1 : Int) := by omega
        have hil : i < l.length := by have := HN0.out; omega
        have hik : i < ks.length := by have := HKL.out; omega
        obtain ⟨nb, rfl, cn⟩ := dn i hil
        have ck := dk i hik
        have hcall := HKW.out i hik hil m
        have hsn : bndL (preL op) (l.take (i + 1)) 0 = (if 0 < i then bndL (preL op) (l.take i) 0 ++ [32, 97, 110, 100, 32] else bndL (preL op) (l.take i) 0) ++ (l[i].1 ++ [32, 61, 32] ++ l[i].2) := by
          rw [List.take_succ_eq_append_getElem hil, bndL_snoc]
          simp only [List.length_take, Nat.min_eq_left (Nat.le_of_lt hil), Nat.zero_add]
        have hbl := HB.out l[i] (List.getElem_mem hil)
        obtain ⟨N, hN⟩ : ∃ N, N = l[i].1 := ⟨_, rfl⟩
        obtain ⟨X, hX⟩ : ∃ X, X = l[i].2 := ⟨_, rfl⟩
        obtain ⟨ki, hki⟩ : ∃ ki, ki = ks[i] := ⟨_, rfl⟩
        obtain ⟨Si, hSi⟩ : ∃ Si, Si = bndL (preL op) (l.take i) 0 := ⟨_, rfl⟩
        rw [← hN] at cn hsn hbl
        rw [← hX] at hsn hbl hcall
        rw [← hki] at ck hcall
        rw [← hSi] at hsn hsl ⊢
        have z1 : (bs N).size = N.length := bs_size _
        have z2 : (bs X).size = X.length := bs_size _
        have t1 : ¬ 9223372036854775807 < (bs Si).size + 5 := by omega
        have t2 : ¬ 9223372036854775807 < (bs N).size + 3 := by omega
        have t3 : ¬ 9223372036854775807 < (bs N).size + 3 + (bs X).size := by omega
        have t4 : ¬ 9223372036854775807 < (bs Si).size + 5 + ((bs N).size + 3 + (bs X).size) := by omega
        have t5 : ¬ 9223372036854775807 < (bs Si).size + ((bs N).size + 3 + (bs X).size) := by omega
        have HSN := Lib.hid hsn; have HCALL := Lib.hid hcall; have HSL := Lib.hid hsl
        clear dn dk de hsn hcall hbl hN hX hki hSi hil hik z1 z2 hsl d0 d1
        by_cases hi0 : 0 < i
        · have hgi : (0 : Int) < (i : Int) := by omega
          have HI0 := Lib.hid hi0
          clear hi0
          go_wp2_with fail
          refine HCALL.out.mono ?_
          rintro e2 w2 ⟨rfl, m2, hw2⟩
          have hw3 : w2 = w.drewN (m + m2) := by rw [hw2, World.drewN_drewN]
          subst w2
          rw [hw3]
          clear hw3
          go_wp2_with fail
          go_roundg (N1 - (i + 1))
          case measure => have := HM.out; omega
          case rel =>
            refine ⟨i + 1, by omega, Lib.hid rfl, by go_num, congrArg Value.string ?_, _, rfl⟩
            rw [HSN.out, if_pos HI0.out]
            show bs Si ++ bs [32, 97, 110, 100, 32] ++ (bs N ++ bs [32, 61, 32] ++ bs X) = _
            rw [bs_append, bs_append, bs_append, bs_append]
        · have hgi : ¬ (0 : Int) < (i : Int) := by omega
          have HI0 := Lib.hid hi0
          clear hi0
          go_wp2_with fail
          refine HCALL.out.mono ?_
          rintro e2 w2 ⟨rfl, m2, hw2⟩
          have hw3 : w2 = w.drewN (m + m2) := by rw [hw2, World.drewN_drewN]
          subst w2
          rw [hw3]
          clear hw3
          go_wp2_with fail
          go_roundg (N1 - (i + 1))
          case measure => have := HM.out; omega
          case rel =>
            refine ⟨i + 1, by omega, Lib.hid rfl, by go_num, congrArg Value.string ?_, _, rfl⟩
            rw [HSN.out, if_neg HI0.out]
            show bs Si ++ (bs N ++ bs [32, 61, 32] ++ bs X) = _
            rw [bs_append, bs_append, bs_append]
      · have hie : N1 = i := by omega
        subst hie
        have htk : l.take N1 = l := by rw [← HN0.out, List.take_length]
        rw [htk] at hsl ⊢
        obtain ⟨Si, hSi⟩ : ∃ Si, Si = bndL (preL op) l 0 := ⟨_, rfl⟩
        rw [← hSi] at hsl ⊢
        have z1 : (bs e).size = e.length := bs_size _
        have t1 : ¬ 9223372036854775807 < (bs Si).size + 4 := by omega
        have t2 : ¬ 9223372036854775807 < (bs Si).size + 4 + (bs e).size := by omega
        have heq : ∀ n, Calls Tryd.prog 11 #[.pointer (some ⟨ke, 0, none⟩)] (w.drewN (m + n)) fun e2 w'' => e2 = .returned (.string (bs e)) ∧ ∃ k, w'' = w.drewN (m + k) := fun n => (HEW.out (m + n)).mono fun _ _ ⟨h1, k, h2⟩ => ⟨h1, n + k, by rw [h2, World.drewN_drewN, Nat.add_assoc]⟩
        have HEQ := Lib.hid heq
        have D1 : w.cell? ⟨b, 1, none⟩ = some (.slice aoN N1 cap) := d1
        have D2 : w.cell? ⟨b, 2, none⟩ = some (.slice (some ⟨lb, 0, none⟩) M1 cap2) := d2
        have DE : w.cell? ⟨lb, N1, none⟩ = some (.pointer (some ⟨ke, 0, none⟩)) := de
        have HSI := Lib.hid hSi
        clear d1 d2 de
        clear dn dk htk hSi z1 hsl d0 hel heq
        go_wp2_with fail
        go_quiet (exact HEQ.out _)
        go_wp2_with fail
        go_ret
        refine ⟨congrArg (fun s => Ending.returned (Value.string s)) ?_, _, World.drewN_drewN _ _ _⟩
        show bs Si ++ bs [32, 105, 110, 32] ++ bs e = _
        rw [bs_append, bs_append, HSI.out]
end Go.Proofs.YtabikmkoajdhmaaDoor
