/- Path by a contract: a tree of pairs, gone along by fst and snd. -/
import Derived.Test.YtabikmkoajdhmaaGreatDoorTimes
set_option linter.unusedVariables false
set_option linter.unusedSimpArgs false
namespace Go.Proofs.YtabikmkoajdhmaaGreatDoor
open Go.RowKit

def pLeaves : List Str := [[49], [116, 114, 117, 101], [110, 105, 108], [97, 100, 100], [104, 100]]
def pTypes : List Str := [[105, 110, 116], [98, 111, 111, 108], [91, 97, 93], [105, 110, 116, 32, 45, 62, 32, 105, 110, 116, 32, 45, 62, 32, 105, 110, 116], [91, 97, 93, 32, 45, 62, 32, 97]]
def oddB (b : UInt8) : Bool := b.toNat % 2 == 1
/-- Pairs as deep as may be; the type of the leaf that the path leads to; the next leaf. -/
def treeS : Nat → List Bool → Nat → Str × Str × Nat
  | 0, _, n => (pLeaves.getD (n % 5) [], pTypes.getD (n % 5) [], n + 1)
  | d + 1, p, n =>
    let x := treeS d p.tail n
    let y := treeS d p.tail x.2.2
    ([40] ++ x.1 ++ [44, 32] ++ y.1 ++ [41], if p.headD false then y.2.1 else x.2.1, y.2.2)
def stepS : Bool → Str → Str
  | true, s => [115, 110, 100, 32, 40] ++ s ++ [41]
  | false, s => [102, 115, 116, 32, 40] ++ s ++ [41]
def goS : Nat → List Bool → Str → Str
  | d + 1, b :: r, s => goS d r (stepS b s)
  | _, _, s => s
def pathS (d : Nat) (p : List Bool) : Str := goS d p (treeS d p 0).1
def pathT (d : Nat) (p : List Bool) : Str := (treeS d p 0).2.1
theorem path0 : isK (pathS 0 []) (pathT 0 []) = true := by kernel_rfl
theorem path1 : ∀ a : Bool, isK (pathS 1 [a]) (pathT 1 [a]) = true := by intro a; cases a <;> kernel_rfl
theorem path2 : ∀ a b : Bool, isK (pathS 2 [a, b]) (pathT 2 [a, b]) = true := by intro a b; cases a <;> cases b <;> kernel_rfl
theorem path3 : ∀ a b c : Bool, isK (pathS 3 [a, b, c]) (pathT 3 [a, b, c]) = true := by intro a b c; cases a <;> cases b <;> cases c <;> kernel_rfl
theorem path_k {d : Nat} {p : List Bool} (hd : d < 4) (hp : d ≤ p.length) : isK (pathS d p) (pathT d p) = true := by
  match d, p with
  | 0, p => exact path0
  | 1, a :: r => exact path1 a
  | 2, a :: b :: r => exact path2 a b
  | 3, a :: b :: c :: r => exact path3 a b c

theorem treeS_len : ∀ (d : Nat) (p : List Bool) (n : Nat), (treeS d p n).1.length + 6 ≤ 26 * 2 ^ d ∧ (treeS d p n).2.1.length ≤ 100
  | 0, p, n => by
    have hL : ∀ k, k < 5 → (pLeaves.getD k []).length + 6 ≤ 26 * 2 ^ 0 ∧ (pTypes.getD k []).length ≤ 100 := by decide
    exact hL (n % 5) (Nat.mod_lt _ (by decide))
  | d + 1, p, n => by
    have h1 := treeS_len d p.tail n
    have h2 := treeS_len d p.tail (treeS d p.tail n).2.2
    simp only [treeS]
    refine ⟨?_, ?_⟩
    · simp only [List.length_append, List.length_cons, List.length_nil]
      rw [Nat.pow_succ]
      omega
    · split
      · exact h2.2
      · exact h1.2
theorem treeS_n : ∀ (d : Nat) (p : List Bool) (n : Nat), (treeS d p n).2.2 ≤ n + 2 ^ d
  | 0, p, n => Nat.le_refl _
  | d + 1, p, n => by
    have h1 := treeS_n d p.tail n
    have h2 := treeS_n d p.tail (treeS d p.tail n).2.2
    simp only [treeS]
    rw [Nat.pow_succ]; omega

theorem catS (a1 a2 : Str) : (⟨#[40]⟩ ++ bs a1 ++ ⟨#[44, 32]⟩ ++ bs a2 ++ ⟨#[41]⟩ : ByteArray) = bs (40 :: (a1 ++ 44 :: 32 :: (a2 ++ [41]))) := by
  show bs [40] ++ bs a1 ++ bs [44, 32] ++ bs a2 ++ bs [41] = _
  rw [bs_append, bs_append, bs_append, bs_append]
  simp
theorem odd_at (c : UInt8) (r : Str) (h : 0 < (bs (c :: r)).size) : ((((bs (c :: r))[0]'h).toNat : Int) % 2 == 1) = oddB c := by
  show (((c.toNat : Nat) : Int) % 2 == 1) = (c.toNat % 2 == 1)
  rw [Bool.eq_iff_iff]
  simp only [beq_iff_eq]
  omega
theorem odd_j (P : Str) (j : Nat) (hj : j < P.length) (h : j < (bs P).size) : ((((bs P)[j]'h).toNat : Int) % 2 == 1) = oddB P[j] := by
  show (((P[j].toNat : Nat) : Int) % 2 == 1) = (P[j].toNat % 2 == 1)
  rw [Bool.eq_iff_iff]
  simp only [beq_iff_eq]
  omega
def fstB (b : Bool) : ByteArray := if b then ⟨#[115, 110, 100]⟩ else ⟨#[102, 115, 116]⟩
theorem step_cat (b : Bool) (s : Str) : fstB b ++ ⟨#[32, 40]⟩ ++ bs s ++ ⟨#[41]⟩ = bs (stepS b s) := by
  cases b
  · show bs [102, 115, 116] ++ bs [32, 40] ++ bs s ++ bs [41] = _
    rw [bs_append, bs_append, bs_append]; simp [stepS]
  · show bs [115, 110, 100] ++ bs [32, 40] ++ bs s ++ bs [41] = _
    rw [bs_append, bs_append, bs_append]; simp [stepS]
theorem list3 : ∀ p : Str, p = [] ∨ (∃ c, p = [c]) ∨ ∃ c c2 r, p = c :: c2 :: r
  | [] => .inl rfl
  | [c] => .inr (.inl ⟨c, rfl⟩)
  | c :: c2 :: r => .inr (.inr ⟨c, c2, r, rfl⟩)
def TreeOk (d : Nat) : Prop := ∀ (G : GH) (w : World) (p : Str) (n nb : Nat) (lv tv : Value), Holds G w → SlR G lv (pLeaves.map fun n => .string (bs n)) → SlR G tv (pTypes.map fun n => .string (bs n)) → w.heap[nb]? = some (.cells #[.int .i64 n] 3) → G nb = none → n + 2 ^ d ≤ 1000 → p.length ≤ 6 →
  Calls Tryz.prog 30 #[.int .i64 d, .string (bs p), .pointer (some ⟨nb, 0, none⟩), lv, tv] w fun e w' => e = .returned (.tuple #[.string (bs (treeS d (p.map oddB) n).1), .string (bs (treeS d (p.map oddB) n).2.1)]) ∧ Keep (one' nb) w w' ∧ w'.heap[nb]? = some (.cells #[.int .i64 (treeS d (p.map oddB) n).2.2] 3)

set_option maxRecDepth 100000 in
set_option maxHeartbeats 800000 in
theorem tree_0 : TreeOk 0 := by
  intro G w p n nb lv tv hG hl ht hb hg hn hp
  obtain ⟨la, lc, rfl, hlc⟩ := hl.shp
  obtain ⟨ta, tc, rfl, htc⟩ := ht.shp
  have hk : n % 5 < 5 := Nat.mod_lt _ (by decide)
  have nc := cell_of_heap (i := 0) hb rfl
  have nf : ∀ i, w.frozen? ⟨nb, i, none⟩ = false := fun i => free_of_heap hb
  have k2 : Keep (one' nb) w (w.setCell ⟨nb, 0, none⟩ (.int .i64 ((n : Int) + 1))) := Keep.setCell _ _ (fun _ => rfl)
  have hG2 := hG.keep k2 (off_one hg)
  have hb2 : (w.setCell ⟨nb, 0, none⟩ (.int .i64 ((n : Int) + 1))).heap[nb]? = some (.cells #[.int .i64 ((n : Int) + 1)] 3) := heap_set_same (c := #[.int .i64 n]) hb
  obtain ⟨lq, rfl, lcell⟩ := hlc _ hG2 (n % 5) (.string (bs (pLeaves.getD (n % 5) []))) (by
    rw [List.getElem?_map, List.getElem?_eq_getElem (show n % 5 < pLeaves.length from hk)]; simp [List.getD, List.getElem?_eq_getElem (show n % 5 < pLeaves.length from hk)])
  obtain ⟨tq, rfl, tcell⟩ := htc _ hG2 (n % 5) (.string (bs (pTypes.getD (n % 5) []))) (by
    rw [List.getElem?_map, List.getElem?_eq_getElem (show n % 5 < pTypes.length from hk)]; simp [List.getD, List.getElem?_eq_getElem (show n % 5 < pTypes.length from hk)])
  obtain ⟨W2, hW2⟩ : ∃ W2, W2 = w.setCell ⟨nb, 0, none⟩ (.int .i64 ((n : Int) + 1)) := ⟨_, rfl⟩
  rw [← hW2] at k2 hb2 lcell tcell
  obtain ⟨kk, hkk⟩ : ∃ kk, kk = n % 5 := ⟨_, rfl⟩
  have hki : (n : Int) % 5 = (kk : Int) := by omega
  rw [← hkk] at lcell tcell hk
  have L0 : W2.drew.cell? ⟨lq, kk, none⟩ = _ := lcell
  have T0 : W2.drew.cell? ⟨tq, kk, none⟩ = _ := tcell
  have HW2 := Lib.hid hW2; have HKK := Lib.hid hkk; have HK2 := Lib.hid k2; have HB2 := Lib.hid hb2
  have hk0 : (0 : Int) ≤ (kk : Int) := by omega
  have hk5 : (kk : Int) < 5 := by omega
  clear hG2 k2 hb2 hW2 hkk hb hG hg hl ht hlc htc
  have e1 : (pLeaves.map fun n => Value.string (bs n)).length = 5 := rfl
  have e2 : (pTypes.map fun n => Value.string (bs n)).length = 5 := rfl
  rw [e1, e2]
  clear e1 e2
  go_enter Tryz.func30, Tryz.ntmps30
  go_wp2_with fail
  rw [← HW2.out]
  simp only [hki]
  go_region
  go_wp2_with fail
  have ef : treeS 0 (p.map oddB) n = (pLeaves.getD kk [], pTypes.getD kk [], n + 1) := by rw [HKK.out]; rfl
  rw [ef]
  exact bodyPost_ret (v := .tuple #[.string (bs (pLeaves.getD kk [])), .string (bs (pTypes.getD kk []))]) (by simp [results, Tryz.results30, go_sem, List.getD]) rfl ⟨rfl, HK2.out.trans (Keep.drew _ _), HB2.out⟩

set_option maxRecDepth 100000 in
set_option maxHeartbeats 800000 in
theorem tree_step (d : Nat) (hd : d < 4) (ih : TreeOk d) : TreeOk (d + 1) := by
  intro G w p n nb lv tv hG hl ht hb hg hn hp
  have hd0 : ((d + 1 : Nat) : Int) = (d : Int) + 1 := by omega
  rw [hd0]
  obtain ⟨la, lc, hlv, hlc⟩ := hl.shp
  obtain ⟨ta, tc, htv, htc⟩ := ht.shp
  have hcall := fun (W : World) (m : Nat) (hk : Keep (one' nb) w W) (hW : W.heap[nb]? = some (.cells #[.int .i64 m] 3)) (hm : m + 2 ^ d ≤ 1000) (q : Str) (hq : q.length ≤ 6) => ih G W q m nb lv tv (hG.keep hk (off_one hg)) hl ht hW hg hm hq
  subst hlv; subst htv
  have e1 : (pLeaves.map fun n => Value.string (bs n)).length = 5 := rfl
  have e2 : (pTypes.map fun n => Value.string (bs n)).length = 5 := rfl
  rw [e1, e2] at hcall ⊢
  rw [Nat.pow_succ] at hn
  have c1 := hcall w n (Keep.refl _ _) hb (by omega) p.tail (by simp; omega)
  have hl1 := treeS_len d (p.tail.map oddB) n
  have hl2 := treeS_len d (p.tail.map oddB) (treeS d (p.tail.map oddB) n).2.2
  have hn1 := treeS_n d (p.tail.map oddB) n
  have h2d : 2 ^ d ≤ 8 := by
    rcases (show d = 0 ∨ d = 1 ∨ d = 2 ∨ d = 3 by omega) with rfl | rfl | rfl | rfl <;> decide
  have hstep : treeS (d + 1) (p.map oddB) n = ([40] ++ (treeS d (p.tail.map oddB) n).1 ++ [44, 32] ++ (treeS d (p.tail.map oddB) (treeS d (p.tail.map oddB) n).2.2).1 ++ [41], if (p.map oddB).headD false then (treeS d (p.tail.map oddB) (treeS d (p.tail.map oddB) n).2.2).2.1 else (treeS d (p.tail.map oddB) n).2.1, (treeS d (p.tail.map oddB) (treeS d (p.tail.map oddB) n).2.2).2.2) := by
    simp only [treeS, List.map_tail]
  rw [hstep]
  obtain ⟨⟨a1, t1, n1⟩, hx1⟩ : ∃ x, x = treeS d (p.tail.map oddB) n := ⟨_, rfl⟩
  rw [← hx1] at c1 hl1 hl2 hn1 ⊢
  obtain ⟨⟨a2, t2, n2⟩, hx2⟩ : ∃ x, x = treeS d (p.tail.map oddB) n1 := ⟨_, rfl⟩
  simp only at c1 hl1 hl2 hn1 ⊢
  rw [← hx2] at hl2 ⊢
  simp only at hl2 ⊢
  have c2 := fun (W : World) (hk : Keep (one' nb) w W) (hW : W.heap[nb]? = some (.cells #[.int .i64 n1] 3)) => hcall W n1 hk hW (by omega) p.tail (by simp; omega)
  rw [← hx2] at c2
  simp only at c2
  have nn2 : (treeS d (p.tail.map oddB) n1).2.2 = n2 := by rw [← hx2]
  have HC1 := Lib.hid c1; have HC2 := Lib.hid c2
  have ex : (bs p).extract 1 (bs p).size = bs p.tail := by
    rw [extract_bs]
    have : bytes (bs p) = p := by simp [bytes, bs]
    rw [this, bs_size, List.drop_one, List.take_of_length_le (by simp)]
  have qd : ((d : Int) + 1 == 0) = false := by simp; omega
  have hsp := bs_size p
  have q1 : ¬ 9223372036854775807 < 1 + (bs a1).size := by rw [bs_size]; omega
  have q2 : ¬ 9223372036854775807 < 1 + (bs a1).size + 2 := by rw [bs_size]; omega
  have q3 : ¬ 9223372036854775807 < 1 + (bs a1).size + 2 + (bs a2).size := by rw [bs_size, bs_size]; omega
  have q4 : ¬ 9223372036854775807 < 1 + (bs a1).size + 2 + (bs a2).size + 1 := by rw [bs_size, bs_size]; omega
  clear hG hl ht hb hg hcall ih hx1 hx2 c1 c2 hl1 hl2 hn1 h2d hstep nn2 hn hd0 hsp e1 e2
  have hpc := list3 p
  rcases hpc with hpe | ⟨c, hpe⟩ | ⟨c, c2, r, hpe⟩
  · have r1 : ¬ ((1 : Int) < (bs p).size) := by rw [bs_size, hpe]; simp
    have r2 : ¬ ((0 : Int) < (bs p).size) := by rw [bs_size, hpe]; simp
    have ht : p.tail = [] := by rw [hpe]; rfl
    have hh : (p.map oddB).headD false = false := by rw [hpe]; rfl
    rw [ht] at HC1 HC2
    rw [hh]
    have HHP := Lib.hid hpe; clear hpe ht hh ex
    go_enter Tryz.func30, Tryz.ntmps30
    go_wp2_with fail
    refine HC1.out.mono ?_
    rintro e w1 ⟨rfl, k1, b1⟩
    have h2 := HC2.out w1 k1 b1
    have H2 := Lib.hid h2; have HK1 := Lib.hid k1
    clear h2 k1 b1
    go_wp2_with fail
    refine H2.out.mono ?_
    rintro e w2 ⟨rfl, k2, b2⟩
    have HK2 := Lib.hid (HK1.out.trans k2); have HB2 := Lib.hid b2
    clear k2 b2
    go_wp2_with fail
    exact bodyPost_ret (v := .tuple #[.string (⟨#[40]⟩ ++ bs a1 ++ ⟨#[44, 32]⟩ ++ bs a2 ++ ⟨#[41]⟩), .string (bs t1)]) (by simp [results, Tryz.results30, go_sem]) rfl ⟨by rw [catS], HK2.out, HB2.out⟩
  · have r1 : ¬ ((1 : Int) < (bs p).size) := by rw [bs_size, hpe]; simp
    have r2 : ((0 : Int) < (bs p).size) := by rw [bs_size, hpe]; simp
    have ht : p.tail = [] := by rw [hpe]; rfl
    have hh : (p.map oddB).headD false = oddB c := by rw [hpe]; rfl
    rw [ht] at HC1 HC2
    rw [hh]
    clear ht hh ex
    subst hpe
    have hz : 0 < (bs ([c])).size := by rw [bs_size]; simp
    cases ho : oddB c
    all_goals
      have qo := (odd_at c ([]) hz).trans ho
      clear ho
      simp only [Bool.false_eq_true, if_false, if_true]
      go_enter Tryz.func30, Tryz.ntmps30
      go_wp2_with fail
      refine HC1.out.mono ?_
      rintro e w1 ⟨rfl, k1, b1⟩
      have h2 := HC2.out w1 k1 b1
      have H2 := Lib.hid h2; have HK1 := Lib.hid k1
      clear h2 k1 b1
      go_wp2_with fail
      refine H2.out.mono ?_
      rintro e w2 ⟨rfl, k2, b2⟩
      have HK2 := Lib.hid (HK1.out.trans k2); have HB2 := Lib.hid b2
      clear k2 b2
      go_wp2_with fail
      refine bodyPost_ret (v := .tuple #[.string (⟨#[40]⟩ ++ bs a1 ++ ⟨#[44, 32]⟩ ++ bs a2 ++ ⟨#[41]⟩), .string (bs _)]) (by simp [results, Tryz.results30, go_sem] <;> rfl) rfl ⟨by rw [catS]; simp, HK2.out, HB2.out⟩
  · have r1 : ((1 : Int) < (bs p).size) := by rw [bs_size, hpe]; simp; omega
    have r2 : ((0 : Int) < (bs p).size) := by rw [bs_size, hpe]; simp; omega
    have hh : (p.map oddB).headD false = oddB c := by rw [hpe]; rfl
    have ht : True := trivial
    rw [hh]
    clear ht hh
    subst hpe
    have hz : 0 < (bs (c :: c2 :: r)).size := by rw [bs_size]; simp
    cases ho : oddB c
    all_goals
      have qo := (odd_at c (c2 :: r) hz).trans ho
      clear ho
      simp only [Bool.false_eq_true, if_false, if_true]
      go_enter Tryz.func30, Tryz.ntmps30
      go_wp2_with fail
      refine HC1.out.mono ?_
      rintro e w1 ⟨rfl, k1, b1⟩
      have h2 := HC2.out w1 k1 b1
      have H2 := Lib.hid h2; have HK1 := Lib.hid k1
      clear h2 k1 b1
      go_wp2_with fail
      refine H2.out.mono ?_
      rintro e w2 ⟨rfl, k2, b2⟩
      have HK2 := Lib.hid (HK1.out.trans k2); have HB2 := Lib.hid b2
      clear k2 b2
      go_wp2_with fail
      refine bodyPost_ret (v := .tuple #[.string (⟨#[40]⟩ ++ bs a1 ++ ⟨#[44, 32]⟩ ++ bs a2 ++ ⟨#[41]⟩), .string (bs _)]) (by simp [results, Tryz.results30, go_sem] <;> rfl) rfl ⟨by rw [catS]; simp, HK2.out, HB2.out⟩
theorem tree_ok : ∀ d, d ≤ 4 → TreeOk d
  | 0, _ => tree_0
  | d + 1, h => tree_step d (by omega) (tree_ok d (by omega))

theorem tree_new (w : World) (P : Str) (n : Nat) (hn : n < 4) (hP : P.length ≤ 6) :
    Calls Tryz.prog 30 #[.int .i64 n, .string (bs P), .pointer (some ⟨w.heap.size + 1 + 1, 0, none⟩), .slice (some ⟨w.heap.size, 0, none⟩) 5 5, .slice (some ⟨w.heap.size + 1, 0, none⟩) 5 5]
      (((w.alloc (.cells (pLeaves.map fun n => Value.string (bs n)).toArray 9)).alloc (.cells (pTypes.map fun n => Value.string (bs n)).toArray 9)).alloc (.cells #[.int .i64 0] 3))
      fun e w' => e = .returned (.tuple #[.string (bs (treeS n (P.map oddB) 0).1), .string (bs (treeS n (P.map oddB) 0).2.1)]) ∧ Keep none' w w' := by
  obtain ⟨A1, h1⟩ : ∃ A1, A1 = w.alloc (.cells (pLeaves.map fun n => Value.string (bs n)).toArray 9) := ⟨_, rfl⟩
  obtain ⟨A2, h2⟩ : ∃ A2, A2 = A1.alloc (.cells (pTypes.map fun n => Value.string (bs n)).toArray 9) := ⟨_, rfl⟩
  have s1 : A1.heap.size = w.heap.size + 1 := by rw [h1]; simp
  have s2 : A2.heap.size = w.heap.size + 1 + 1 := by rw [h2]; simp [s1]
  have b1 : A1.heap[w.heap.size]? = some (.cells (pLeaves.map fun n => Value.string (bs n)).toArray 9) := by rw [h1]; exact heap_new _ _
  have b2 : A2.heap[w.heap.size + 1]? = some (.cells (pTypes.map fun n => Value.string (bs n)).toArray 9) := by rw [h2, ← s1]; exact heap_new _ _
  have b1' : A2.heap[w.heap.size]? = some (.cells (pLeaves.map fun n => Value.string (bs n)).toArray 9) := by rw [h2]; exact heap_old b1
  have k2 : Keep none' w A2 := by rw [h2, h1]; exact (Keep.alloc _ _ _).trans (Keep.alloc _ _ _)
  rw [← h1, ← h2]
  have hG : Holds ((noG.put w.heap.size (.cells (pLeaves.map fun n => Value.string (bs n)).toArray 9)).put (w.heap.size + 1) (.cells (pTypes.map fun n => Value.string (bs n)).toArray 9)) (A2.alloc (.cells #[.int .i64 0] 3)) :=
    (((noG_holds _).put b1').put b2).keep0 (Keep.alloc _ _ _)
  have hb : (A2.alloc (.cells #[.int .i64 0] 3)).heap[w.heap.size + 1 + 1]? = some (.cells #[.int .i64 ((0 : Nat) : Int)] 3) := by rw [← s2]; exact heap_new _ _
  refine (tree_ok n (by omega) _ _ P 0 (w.heap.size + 1 + 1) (.slice (some ⟨w.heap.size, 0, none⟩) 5 5) (.slice (some ⟨w.heap.size + 1, 0, none⟩) 5 5) hG
    (slr_lit (T := 9) (xs := pLeaves.map fun n => Value.string (bs n)) (by rw [GH.put_other _ _ (by omega)]; exact GH.put_same _ _ _)) (slr_lit (T := 9) (xs := pTypes.map fun n => Value.string (bs n)) (GH.put_same _ _ _)) hb (by rw [GH.put_other _ _ (by omega), GH.put_other _ _ (by omega)]; rfl) (by
      have : 2 ^ n ≤ 2 ^ 4 := Nat.pow_le_pow_right (by decide) (by omega)
      omega) hP).mono ?_
  rintro e w' ⟨rfl, k, _⟩
  exact ⟨rfl, (k2.trans (Keep.alloc _ _ _)).behind k (fun i (h : i = w.heap.size + 1 + 1) => by omega)⟩

set_option maxRecDepth 100000 in
set_option maxHeartbeats 800000 in
theorem path_ok (p : Nat → Addr) (S : ByteArray) (c : Int) (hc : -9223372036854775808 ≤ c ∧ c ≤ 9223372036854775807) (hS : S.size ≤ 9223372036854775807) (w : World) (hs : Sents p w) : Calls Tryz.prog 10 #[.string S, .int .i64 c] w fun e w' => e = .returned (.bool true) ∧ Keep none' w w' := by
  obtain ⟨n, hn⟩ : ∃ n : Nat, pickI c 4 = (n : Int) := ⟨(pickI c 4).toNat, by have := (pickI_lt (c := c) (n := 4) (by decide)).1; omega⟩
  have hlt : n < 4 := by have := (pickI_lt (c := c) (n := 4) (by decide)).2; omega
  have hp : ∀ W : World, Calls Tryz.prog 12 #[.int .i64 c, .int .i64 4] W fun e w' => e = .returned (.int .i64 (pickI c 4)) ∧ w' = W := fun W => pick_ok c 4 hc (by decide) W
  rw [hn] at hp
  have HP := Lib.hid hp; have HS := Lib.hid hs
  clear hp hn hs
  obtain ⟨P, hP, hPl⟩ : ∃ P : Str, S.extract 0 (min (S.size : Int) 6).toNat = bs P ∧ P.length ≤ 6 := by
    refine ⟨_, extract_bs S 0 _, ?_⟩
    rw [List.length_take]; omega
  have HPE := Lib.hid hP; have HPL := Lib.hid hPl
  clear hP hPl
  go_enter Tryz.func10, Tryz.ntmps10
  go_wp2_with fail
  rw [HPE.out]
  refine (HP.out w).mono ?_
  rintro e w1 ⟨rfl, rfl⟩
  have htn := tree_new w1 P n hlt HPL.out
  have HTN := Lib.hid htn; clear htn
  go_wp2_with fail
  refine Calls.mono HTN.out ?_
  rintro e w2 ⟨rfl, k2⟩
  have hl0 := (treeS_len n (P.map oddB) 0).1
  have h2d : 2 ^ n ≤ 2 ^ 4 := Nat.pow_le_pow_right (by decide) (by omega)
  have HK2 := Lib.hid k2; have HL0 := Lib.hid (show (treeS n (P.map oddB) 0).1.length ≤ 1000 by omega)
  clear k2 hl0 h2d
  go_wp2_with fail
  go_loopg [8, 10] n (fun gn s8 s10 wr => ∃ (j : Nat) (sj : Str), j ≤ n ∧ Hid (j ≤ P.length) ∧ Hid (gn = n - j) ∧ s8 = .string (bs sj) ∧ s10 = .int .i64 j ∧ Hid (sj.length ≤ 1000 + 10 * j) ∧ Hid (goS (n - j) ((P.map oddB).drop j) sj = pathS n (P.map oddB)) ∧ wr = w2)
  case atStart => exact ⟨0, _, by omega, Lib.hid (by omega), Lib.hid rfl, rfl, rfl, Lib.hid (by have := HL0.out; omega), Lib.hid rfl, rfl⟩
  case round =>
    obtain ⟨j, sj, hj, HJP, HM, rfl, rfl, HSL, HEQ, rfl⟩ := hrel
    have hjj : (0 : Int) ≤ (j : Int) := by omega
    by_cases hjp : j < P.length
    · have qp : ((j : Int) < ((bs P).size : Int)) := by rw [bs_size]; omega
      have hz : j < (bs P).size := by rw [bs_size]; omega
      by_cases hjn : j < n
      · have qn : ((j : Int) < (n : Int)) := by omega
        have hod := odd_j P j hjp hz
        have hgo : goS (n - j) ((P.map oddB).drop j) sj = goS (n - (j + 1)) ((P.map oddB).drop (j + 1)) (stepS (oddB P[j]) sj) := by
          rw [List.drop_eq_getElem_cons (by simpa using hjp), show n - j = (n - (j + 1)) + 1 by omega]
          simp [goS]
          rfl
        have hsl := HSL.out
        have HGO := Lib.hid hgo; clear hgo
        cases ho : oddB P[j]
        all_goals
          have qo := hod.trans ho
          have HO := Lib.hid ho
          clear ho
          have q1 : ¬ 9223372036854775807 < 5 + (bs sj).size := by rw [bs_size]; omega
          have q2 : ¬ 9223372036854775807 < 5 + (bs sj).size + 1 := by rw [bs_size]; omega
          clear hod
          go_wp2_with fail
          go_roundg (n - (j + 1))
          case measure => have := HM.out; omega
          case rel => exact ⟨j + 1, stepS (oddB P[j]) sj, by omega, Lib.hid (by omega), Lib.hid rfl, by rw [HO.out]; first | exact congrArg Value.string (step_cat false sj) | exact congrArg Value.string (step_cat true sj), by go_num, Lib.hid (by rw [HO.out]; simp [stepS]; omega), Lib.hid (HGO.out.symm.trans HEQ.out), rfl⟩
      · have qn : ¬ ((j : Int) < (n : Int)) := by omega
        have he : n = j := by omega
        subst he
        have heq := HEQ.out
        rw [Nat.sub_self] at heq
        have heq : sj = pathS n (P.map oddB) := by rw [← heq]; rfl
        have hk := watch_k (path_k (p := P.map oddB) hlt (by simpa using HJP.out))
        have hby : bytes (bs sj) = sj := by simp [bytes, bs]
        have hh := has_ok p (bs sj) (pathT n (P.map oddB)) wr (HS.out.keep0 HK2.out) (by rw [bs_size]; have := HSL.out; omega) (rr := readE sj) (by rw [hby, heq]; exact hk.1) (t := pathT n (P.map oddB)) (by rw [hby, heq]; exact hk.2)
        simp only [decide_true] at hh
        have HH := Lib.hid hh
        have qg : ¬ (((bs P).size : Int) < (n : Int)) := by rw [bs_size]; omega
        clear hby hh hk heq
        by_cases hbig : (300 : Int) < ((bs sj).size : Int)
        · go_wp2_with fail
          go_ret
          exact ⟨rfl, HK2.out⟩
        · go_wp2_with fail
          refine HH.out.mono ?_
          rintro e w3 ⟨rfl, k3⟩
          have HK3 := Lib.hid k3; clear k3
          go_wp2_with fail
          go_ret
          exact ⟨rfl, HK2.out.trans HK3.out⟩
    · have qp : ¬ ((j : Int) < ((bs P).size : Int)) := by rw [bs_size]; omega
      by_cases hgt : P.length < n
      · have qg : (((bs P).size : Int) < (n : Int)) := by rw [bs_size]; omega
        go_wp2_with fail
        go_ret
        exact ⟨rfl, HK2.out⟩
      · have hjP := HJP.out
        have he : n = j := by omega
        subst he
        have heq := HEQ.out
        rw [Nat.sub_self] at heq
        have heq : sj = pathS n (P.map oddB) := by rw [← heq]; rfl
        have hk := watch_k (path_k (p := P.map oddB) hlt (by simpa using HJP.out))
        have hby : bytes (bs sj) = sj := by simp [bytes, bs]
        have hh := has_ok p (bs sj) (pathT n (P.map oddB)) wr (HS.out.keep0 HK2.out) (by rw [bs_size]; have := HSL.out; omega) (rr := readE sj) (by rw [hby, heq]; exact hk.1) (t := pathT n (P.map oddB)) (by rw [hby, heq]; exact hk.2)
        simp only [decide_true] at hh
        have HH := Lib.hid hh
        have qg : ¬ (((bs P).size : Int) < (n : Int)) := by rw [bs_size]; omega
        clear hby hh hk heq
        by_cases hbig : (300 : Int) < ((bs sj).size : Int)
        · go_wp2_with fail
          go_ret
          exact ⟨rfl, HK2.out⟩
        · go_wp2_with fail
          refine HH.out.mono ?_
          rintro e w3 ⟨rfl, k3⟩
          have HK3 := Lib.hid k3; clear k3
          go_wp2_with fail
          go_ret
          exact ⟨rfl, HK2.out.trans HK3.out⟩
end Go.Proofs.YtabikmkoajdhmaaGreatDoor
