/- Refuses, the special case 2. -/
import Derived.Test.YtabikmkoajdhmaaGreatDoorRefA
set_option linter.unusedVariables false
set_option linter.unusedSimpArgs false
namespace Go.Proofs.YtabikmkoajdhmaaGreatDoor
open Go.RowKit

set_option maxRecDepth 100000 in
set_option maxHeartbeats 4000000 in
theorem refuses_2 (p : Nat → Addr) (c : Int) (hc : -9223372036854775808 ≤ c ∧ c ≤ 9223372036854775807) (w : World) (hs : Sents p w) (hn : pickI c 63 = 57) : Calls Tryz.prog 3 #[.int .i64 c] w fun e w' => e = .returned (.bool true) ∧ Keep none' w w' := by
  have hp : ∀ W : World, Calls Tryz.prog 12 #[.int .i64 c, .int .i64 63] W fun e w' => e = .returned (.int .i64 (pickI c 63)) ∧ w' = W := fun W => pick_ok c 63 hc (by decide) W
  rw [hn] at hp
  obtain ⟨L, hL⟩ : ∃ L, L = long2 301 := ⟨_, rfl⟩
  have h0 : ∀ (W : World), Keep none' w W → ∀ (b1 b2 : Nat), W.heap[b1]? = some (.cells #[.string ⟨#[120]⟩, .string ⟨#[98]⟩, .string ⟨#[99]⟩] 9) → W.heap[b2]? = some (.cells #[.string ⟨#[105, 110, 116]⟩, .string ⟨#[40]⟩, .string ⟨#[41]⟩] 9) → b1 ≠ b2 → Calls Tryz.prog 16 #[.string ⟨#[121]⟩, .slice (some ⟨b1, 0, none⟩) 3 3, .slice (some ⟨b2, 0, none⟩) 3 3, .int .i64 1] W fun e w' => (∃ c, e = .returned (.tuple #[.string ⟨#[]⟩, .agg #[.int .i64 5, .int .i64 0, .string ⟨#[98]⟩, .int .i64 2, .int .i64 1], .bool c])) ∧ Keep none' W w' := fun W kW b1 b2 h1 h2 hne =>
    ref_infer p (names := N2) (types := T2) r2 (sort_ofR (by decide) (by decide)) rfl (by simp [N2, LET]) (by simp [N2]) (by simp [N2, T2, LET, INT, hL, long2]) (by decide) (G := (noG.put b1 (.cells #[.string ⟨#[120]⟩, .string ⟨#[98]⟩, .string ⟨#[99]⟩] 9)).put b2 (.cells #[.string ⟨#[105, 110, 116]⟩, .string ⟨#[40]⟩, .string ⟨#[41]⟩] 9))
      (slr_litR (T := 9) (xs := [.string ⟨#[120]⟩, .string ⟨#[98]⟩, .string ⟨#[99]⟩]) (by rw [GH.put_other _ _ hne]; exact GH.put_same _ _ _)) (slr_litR (T := 9) (xs := [.string ⟨#[105, 110, 116]⟩, .string ⟨#[40]⟩, .string ⟨#[41]⟩]) (GH.put_same _ _ _)) W (((noG_holds W).put h1).put h2) (hs.keep0 kW)
  have HP := Lib.hid hp; have HL := Lib.hid hL; have H0 := Lib.hid h0
  clear hp hL hs hn hc h0
  go_enter Tryz.func3, Tryz.ntmps3
  go_wp2_with fail
  refine (faults_ok _).mono ?_
  rintro e w1 ⟨b, rfl, hb, k1, hb1⟩
  have HK1 := Lib.hid k1
  clear k1 hb hb1
  go_wp2_with fail
  refine (HP.out _).mono ?_
  rintro e w2 ⟨rfl, hw2⟩
  subst w2
  go_wp2_with fail
  go_loopg [9] 301 (fun gn s9 wr => ∃ j : Nat, j ≤ 301 ∧ Hid (gn = 301 - j) ∧ s9 = .string (bs (long2 j)) ∧ wr = w1)
  case atStart => exact ⟨0, by omega, Lib.hid rfl, rfl, rfl⟩
  case round =>
    obtain ⟨j, hj, HM, rfl, hwr⟩ := hrel
    subst wr
    have hl : (long2 j).length = j := by simp [long2]
    have hsz := bs_size (long2 j)
    by_cases hlt : j < 301
    · have hi : ((bs (long2 j)).size : Int) ≤ 300 := by omega
      have q1 : ¬ 9223372036854775807 < (bs (long2 j)).size + 1 := by omega
      clear hl hsz
      go_wp2_with fail
      go_roundg (301 - (j + 1))
      case measure => have := HM.out; omega
      case rel => exact ⟨j + 1, by omega, Lib.hid rfl, congrArg Value.string ((bs_append _ [120]).trans (congrArg bs (by simp [long2, List.replicate_succ']))), rfl⟩
    · have hje : j = 301 := by omega
      subst hje
      have hi : ¬ ((bs (long2 301)).size : Int) ≤ 300 := by omega
      rw [← HL.out] at hi ⊢
      clear hl hsz
      go_wp2_with fail
      have HKa := HK1
      refine (H0.out _ (HK1.out.trans ((Keep.alloc none' w1 (.cells #[.string ⟨#[120]⟩, .string ⟨#[98]⟩, .string ⟨#[99]⟩] 9)).trans (Keep.alloc none' _ (.cells #[.string ⟨#[105, 110, 116]⟩, .string ⟨#[40]⟩, .string ⟨#[41]⟩] 9)))) w1.heap.size (w1.heap.size + 1) (heap_old (heap_new _ _)) (by rw [show w1.heap.size + 1 = (w1.alloc (.cells #[.string ⟨#[120]⟩, .string ⟨#[98]⟩, .string ⟨#[99]⟩] 9)).heap.size by simp]; exact heap_new _ _) (by omega)).mono ?_
      rintro e u0 ⟨⟨c0, rfl⟩, k⟩
      have k' : Keep none' w (u0.alloc (.cells #[.int .i64 5, .int .i64 0, .string ⟨#[98]⟩, .int .i64 2, .int .i64 1] 28)) := ((HK1.out.trans ((Keep.alloc none' w1 (.cells #[.string ⟨#[120]⟩, .string ⟨#[98]⟩, .string ⟨#[99]⟩] 9)).trans (Keep.alloc none' _ (.cells #[.string ⟨#[105, 110, 116]⟩, .string ⟨#[40]⟩, .string ⟨#[41]⟩] 9)))).trans k).trans (Keep.alloc _ _ _)
      have gu0 : (u0.alloc (.cells #[.int .i64 5, .int .i64 0, .string ⟨#[98]⟩, .int .i64 2, .int .i64 1] 28)).heap[u0.heap.size]? = some (.cells #[.int .i64 5, .int .i64 0, .string ⟨#[98]⟩, .int .i64 2, .int .i64 1] 28) := heap_new _ _
      have Gu0_0 := Lib.hid gu0
      have HK2 := Lib.hid k'
      have eu0_0 := cell_of_heap (i := 0) gu0 rfl
      have eu0_1 := cell_of_heap (i := 1) gu0 rfl
      have eu0_2 := cell_of_heap (i := 2) gu0 rfl
      have eu0_3 := cell_of_heap (i := 3) gu0 rfl
      have eu0_4 := cell_of_heap (i := 4) gu0 rfl
      clear k' k gu0
      go_wp2_with fail
      exact bodyPost_ret (v := .bool true) (by simp [results, Tryz.results3, go_sem]) rfl ⟨rfl, HK2.out⟩
end Go.Proofs.YtabikmkoajdhmaaGreatDoor

namespace Go.Proofs.YtabikmkoajdhmaaGreatDoor
open Go.RowKit

set_option maxRecDepth 100000 in
set_option maxHeartbeats 4000000 in
theorem refuses_3 (p : Nat → Addr) (c : Int) (hc : -9223372036854775808 ≤ c ∧ c ≤ 9223372036854775807) (w : World) (hs : Sents p w) (hn : pickI c 63 = 58) : Calls Tryz.prog 3 #[.int .i64 c] w fun e w' => e = .returned (.bool true) ∧ Keep none' w w' := by
  have hp : ∀ W : World, Calls Tryz.prog 12 #[.int .i64 c, .int .i64 63] W fun e w' => e = .returned (.int .i64 (pickI c 63)) ∧ w' = W := fun W => pick_ok c 63 hc (by decide) W
  rw [hn] at hp
  obtain ⟨L, hL⟩ : ∃ L, L = long2 301 := ⟨_, rfl⟩
  have h0 : ∀ (W : World), Keep none' w W → ∀ (b1 b2 : Nat), W.heap[b1]? = some (.cells #[.string ⟨#[108, 101, 116]⟩] 9) → W.heap[b2]? = some (.cells #[.string ⟨#[105, 110, 116]⟩] 9) → b1 ≠ b2 → Calls Tryz.prog 16 #[.string ⟨#[121]⟩, .slice (some ⟨b1, 0, none⟩) 1 1, .slice (some ⟨b2, 0, none⟩) 1 1, .int .i64 1] W fun e w' => (∃ c, e = .returned (.tuple #[.string ⟨#[]⟩, .agg #[.int .i64 5, .int .i64 0, .string ⟨#[108, 101, 116]⟩, .int .i64 0, .int .i64 0], .bool c])) ∧ Keep none' W w' := fun W kW b1 b2 h1 h2 hne =>
    ref_infer p (names := [LET]) (types := [INT]) r3 (sort_ofR (by decide) (by decide)) rfl (by simp [N2, LET]) (by simp [N2]) (by simp [N2, T2, LET, INT, hL, long2]) (by decide) (G := (noG.put b1 (.cells #[.string ⟨#[108, 101, 116]⟩] 9)).put b2 (.cells #[.string ⟨#[105, 110, 116]⟩] 9))
      (slr_litR (T := 9) (xs := [.string ⟨#[108, 101, 116]⟩]) (by rw [GH.put_other _ _ hne]; exact GH.put_same _ _ _)) (slr_litR (T := 9) (xs := [.string ⟨#[105, 110, 116]⟩]) (GH.put_same _ _ _)) W (((noG_holds W).put h1).put h2) (hs.keep0 kW)
  have HP := Lib.hid hp; have HL := Lib.hid hL; have H0 := Lib.hid h0
  clear hp hL hs hn hc h0
  go_enter Tryz.func3, Tryz.ntmps3
  go_wp2_with fail
  refine (faults_ok _).mono ?_
  rintro e w1 ⟨b, rfl, hb, k1, hb1⟩
  have HK1 := Lib.hid k1
  clear k1 hb hb1
  go_wp2_with fail
  refine (HP.out _).mono ?_
  rintro e w2 ⟨rfl, hw2⟩
  subst w2
  go_wp2_with fail
  go_loopg [9] 301 (fun gn s9 wr => ∃ j : Nat, j ≤ 301 ∧ Hid (gn = 301 - j) ∧ s9 = .string (bs (long2 j)) ∧ wr = w1)
  case atStart => exact ⟨0, by omega, Lib.hid rfl, rfl, rfl⟩
  case round =>
    obtain ⟨j, hj, HM, rfl, hwr⟩ := hrel
    subst wr
    have hl : (long2 j).length = j := by simp [long2]
    have hsz := bs_size (long2 j)
    by_cases hlt : j < 301
    · have hi : ((bs (long2 j)).size : Int) ≤ 300 := by omega
      have q1 : ¬ 9223372036854775807 < (bs (long2 j)).size + 1 := by omega
      clear hl hsz
      go_wp2_with fail
      go_roundg (301 - (j + 1))
      case measure => have := HM.out; omega
      case rel => exact ⟨j + 1, by omega, Lib.hid rfl, congrArg Value.string ((bs_append _ [120]).trans (congrArg bs (by simp [long2, List.replicate_succ']))), rfl⟩
    · have hje : j = 301 := by omega
      subst hje
      have hi : ¬ ((bs (long2 301)).size : Int) ≤ 300 := by omega
      rw [← HL.out] at hi ⊢
      clear hl hsz
      go_wp2_with fail
      have HKa := HK1
      refine (H0.out _ (HK1.out.trans ((Keep.alloc none' w1 (.cells #[.string ⟨#[108, 101, 116]⟩] 9)).trans (Keep.alloc none' _ (.cells #[.string ⟨#[105, 110, 116]⟩] 9)))) w1.heap.size (w1.heap.size + 1) (heap_old (heap_new _ _)) (by rw [show w1.heap.size + 1 = (w1.alloc (.cells #[.string ⟨#[108, 101, 116]⟩] 9)).heap.size by simp]; exact heap_new _ _) (by omega)).mono ?_
      rintro e u0 ⟨⟨c0, rfl⟩, k⟩
      have k' : Keep none' w (u0.alloc (.cells #[.int .i64 5, .int .i64 0, .string ⟨#[108, 101, 116]⟩, .int .i64 0, .int .i64 0] 28)) := ((HK1.out.trans ((Keep.alloc none' w1 (.cells #[.string ⟨#[108, 101, 116]⟩] 9)).trans (Keep.alloc none' _ (.cells #[.string ⟨#[105, 110, 116]⟩] 9)))).trans k).trans (Keep.alloc _ _ _)
      have gu0 : (u0.alloc (.cells #[.int .i64 5, .int .i64 0, .string ⟨#[108, 101, 116]⟩, .int .i64 0, .int .i64 0] 28)).heap[u0.heap.size]? = some (.cells #[.int .i64 5, .int .i64 0, .string ⟨#[108, 101, 116]⟩, .int .i64 0, .int .i64 0] 28) := heap_new _ _
      have Gu0_0 := Lib.hid gu0
      have HK2 := Lib.hid k'
      have eu0_0 := cell_of_heap (i := 0) gu0 rfl
      have eu0_1 := cell_of_heap (i := 1) gu0 rfl
      have eu0_2 := cell_of_heap (i := 2) gu0 rfl
      have eu0_3 := cell_of_heap (i := 3) gu0 rfl
      have eu0_4 := cell_of_heap (i := 4) gu0 rfl
      clear k' k gu0
      go_wp2_with fail
      exact bodyPost_ret (v := .bool true) (by simp [results, Tryz.results3, go_sem]) rfl ⟨rfl, HK2.out⟩
end Go.Proofs.YtabikmkoajdhmaaGreatDoor

namespace Go.Proofs.YtabikmkoajdhmaaGreatDoor
open Go.RowKit

set_option maxRecDepth 100000 in
set_option maxHeartbeats 4000000 in
theorem refuses_4 (p : Nat → Addr) (c : Int) (hc : -9223372036854775808 ≤ c ∧ c ≤ 9223372036854775807) (w : World) (hs : Sents p w) (hn : pickI c 63 = 59) : Calls Tryz.prog 3 #[.int .i64 c] w fun e w' => e = .returned (.bool true) ∧ Keep none' w w' := by
  have hp : ∀ W : World, Calls Tryz.prog 12 #[.int .i64 c, .int .i64 63] W fun e w' => e = .returned (.int .i64 (pickI c 63)) ∧ w' = W := fun W => pick_ok c 63 hc (by decide) W
  rw [hn] at hp
  obtain ⟨L, hL⟩ : ∃ L, L = long2 301 := ⟨_, rfl⟩
  have h0 : ∀ (W : World), Keep none' w W → ∀ (b1 b2 : Nat), W.heap[b1]? = some (.cells #[.string ⟨#[120]⟩] 9) → W.heap[b2]? = some (.cells #[.string (bs L)] 9) → b1 ≠ b2 → Calls Tryz.prog 16 #[.string ⟨#[121]⟩, .slice (some ⟨b1, 0, none⟩) 1 1, .slice (some ⟨b2, 0, none⟩) 1 1, .int .i64 1] W fun e w' => (∃ c, e = .returned (.tuple #[.string ⟨#[]⟩, .agg #[.int .i64 5, .int .i64 0, .string ⟨#[120]⟩, .int .i64 1, .int .i64 0], .bool c])) ∧ Keep none' W w' := fun W kW b1 b2 h1 h2 hne =>
    ref_infer p (names := [[120]]) (types := [L]) (by rw [hL]; exact r4 : infB [121] ([[120]].zip [L]) [[120]] 1 [] F4 = true) (sort_ofR (List.Perm.refl _) (by simp)) rfl (by simp [N2, LET]) (by simp [N2]) (by simp [N2, T2, LET, INT, hL, long2]) (by decide) (G := (noG.put b1 (.cells #[.string ⟨#[120]⟩] 9)).put b2 (.cells #[.string (bs L)] 9))
      (slr_litR (T := 9) (xs := [.string ⟨#[120]⟩]) (by rw [GH.put_other _ _ hne]; exact GH.put_same _ _ _)) (slr_litR (T := 9) (xs := [.string (bs L)]) (GH.put_same _ _ _)) W (((noG_holds W).put h1).put h2) (hs.keep0 kW)
  have HP := Lib.hid hp; have HL := Lib.hid hL; have H0 := Lib.hid h0
  clear hp hL hs hn hc h0
  go_enter Tryz.func3, Tryz.ntmps3
  go_wp2_with fail
  refine (faults_ok _).mono ?_
  rintro e w1 ⟨b, rfl, hb, k1, hb1⟩
  have HK1 := Lib.hid k1
  clear k1 hb hb1
  go_wp2_with fail
  refine (HP.out _).mono ?_
  rintro e w2 ⟨rfl, hw2⟩
  subst w2
  go_wp2_with fail
  go_loopg [9] 301 (fun gn s9 wr => ∃ j : Nat, j ≤ 301 ∧ Hid (gn = 301 - j) ∧ s9 = .string (bs (long2 j)) ∧ wr = w1)
  case atStart => exact ⟨0, by omega, Lib.hid rfl, rfl, rfl⟩
  case round =>
    obtain ⟨j, hj, HM, rfl, hwr⟩ := hrel
    subst wr
    have hl : (long2 j).length = j := by simp [long2]
    have hsz := bs_size (long2 j)
    by_cases hlt : j < 301
    · have hi : ((bs (long2 j)).size : Int) ≤ 300 := by omega
      have q1 : ¬ 9223372036854775807 < (bs (long2 j)).size + 1 := by omega
      clear hl hsz
      go_wp2_with fail
      go_roundg (301 - (j + 1))
      case measure => have := HM.out; omega
      case rel => exact ⟨j + 1, by omega, Lib.hid rfl, congrArg Value.string ((bs_append _ [120]).trans (congrArg bs (by simp [long2, List.replicate_succ']))), rfl⟩
    · have hje : j = 301 := by omega
      subst hje
      have hi : ¬ ((bs (long2 301)).size : Int) ≤ 300 := by omega
      rw [← HL.out] at hi ⊢
      clear hl hsz
      go_wp2_with fail
      have HKa := HK1
      refine (H0.out _ (HK1.out.trans ((Keep.alloc none' w1 (.cells #[.string ⟨#[120]⟩] 9)).trans (Keep.alloc none' _ (.cells #[.string (bs L)] 9)))) w1.heap.size (w1.heap.size + 1) (heap_old (heap_new _ _)) (by rw [show w1.heap.size + 1 = (w1.alloc (.cells #[.string ⟨#[120]⟩] 9)).heap.size by simp]; exact heap_new _ _) (by omega)).mono ?_
      rintro e u0 ⟨⟨c0, rfl⟩, k⟩
      have k' : Keep none' w (u0.alloc (.cells #[.int .i64 5, .int .i64 0, .string ⟨#[120]⟩, .int .i64 1, .int .i64 0] 28)) := ((HK1.out.trans ((Keep.alloc none' w1 (.cells #[.string ⟨#[120]⟩] 9)).trans (Keep.alloc none' _ (.cells #[.string (bs L)] 9)))).trans k).trans (Keep.alloc _ _ _)
      have gu0 : (u0.alloc (.cells #[.int .i64 5, .int .i64 0, .string ⟨#[120]⟩, .int .i64 1, .int .i64 0] 28)).heap[u0.heap.size]? = some (.cells #[.int .i64 5, .int .i64 0, .string ⟨#[120]⟩, .int .i64 1, .int .i64 0] 28) := heap_new _ _
      have Gu0_0 := Lib.hid gu0
      have HK2 := Lib.hid k'
      have eu0_0 := cell_of_heap (i := 0) gu0 rfl
      have eu0_1 := cell_of_heap (i := 1) gu0 rfl
      have eu0_2 := cell_of_heap (i := 2) gu0 rfl
      have eu0_3 := cell_of_heap (i := 3) gu0 rfl
      have eu0_4 := cell_of_heap (i := 4) gu0 rfl
      clear k' k gu0
      go_wp2_with fail
      exact bodyPost_ret (v := .bool true) (by simp [results, Tryz.results3, go_sem]) rfl ⟨rfl, HK2.out⟩
end Go.Proofs.YtabikmkoajdhmaaGreatDoor

namespace Go.Proofs.YtabikmkoajdhmaaGreatDoor
open Go.RowKit

set_option maxRecDepth 100000 in
set_option maxHeartbeats 4000000 in
theorem refuses_5 (p : Nat → Addr) (c : Int) (hc : -9223372036854775808 ≤ c ∧ c ≤ 9223372036854775807) (w : World) (hs : Sents p w) (hn : pickI c 63 = 60) : Calls Tryz.prog 3 #[.int .i64 c] w fun e w' => e = .returned (.bool true) ∧ Keep none' w w' := by
  have hp : ∀ W : World, Calls Tryz.prog 12 #[.int .i64 c, .int .i64 63] W fun e w' => e = .returned (.int .i64 (pickI c 63)) ∧ w' = W := fun W => pick_ok c 63 hc (by decide) W
  rw [hn] at hp
  obtain ⟨L, hL⟩ : ∃ L, L = long2 301 := ⟨_, rfl⟩
  have h0 : ∀ (W : World), Keep none' w W → Calls Tryz.prog 17 #[.string ⟨#[97, 32, 45, 62, 32, 97]⟩, .string ⟨#[105, 110, 116, 32, 45, 62, 32, 98, 111, 111, 108]⟩] W fun e w' => ∃ nv tv, e = .returned (.tuple #[nv, tv, .bool true, .agg #[.int .i64 11, .int .i64 0, .string ⟨#[]⟩, .int .i64 0, .int .i64 0]]) ∧ Keep none' W w' ∧ w'.ownsRow W.heap.size 9 1 nv 0 [] ∧ w'.ownsRow W.heap.size 9 1 tv 0 [] := fun W kW => ref_inst p r5a inst_nil.1 inst_nil.2 W (hs.keep0 kW)
  have h1 : ∀ (W : World), Keep none' w W → Calls Tryz.prog 17 #[.string ⟨#[40, 97, 44, 32, 98, 41]⟩, .string ⟨#[91, 105, 110, 116, 93]⟩] W fun e w' => ∃ nv tv, e = .returned (.tuple #[nv, tv, .bool true, .agg #[.int .i64 11, .int .i64 0, .string ⟨#[]⟩, .int .i64 0, .int .i64 0]]) ∧ Keep none' W w' ∧ w'.ownsRow W.heap.size 9 1 nv 0 [] ∧ w'.ownsRow W.heap.size 9 1 tv 0 [] := fun W kW => ref_inst p r5b inst_nil.1 inst_nil.2 W (hs.keep0 kW)
  have h2 : ∀ (W : World), Keep none' w W → Calls Tryz.prog 17 #[.string ⟨#[105, 110, 116]⟩, .string ⟨#[97]⟩] W fun e w' => ∃ nv tv, e = .returned (.tuple #[nv, tv, .bool true, .agg #[.int .i64 11, .int .i64 0, .string ⟨#[]⟩, .int .i64 0, .int .i64 0]]) ∧ Keep none' W w' ∧ w'.ownsRow W.heap.size 9 1 nv 0 [] ∧ w'.ownsRow W.heap.size 9 1 tv 0 [] := fun W kW => ref_inst p r5c inst_nil.1 inst_nil.2 W (hs.keep0 kW)
  have HP := Lib.hid hp; have HL := Lib.hid hL; have H0 := Lib.hid h0; have H1 := Lib.hid h1; have H2 := Lib.hid h2
  clear hp hL hs hn hc h0 h1 h2
  go_enter Tryz.func3, Tryz.ntmps3
  go_wp2_with fail
  refine (faults_ok _).mono ?_
  rintro e w1 ⟨b, rfl, hb, k1, hb1⟩
  have HK1 := Lib.hid k1
  clear k1 hb hb1
  go_wp2_with fail
  refine (HP.out _).mono ?_
  rintro e w2 ⟨rfl, hw2⟩
  subst w2
  go_wp2_with fail
  go_loopg [9] 301 (fun gn s9 wr => ∃ j : Nat, j ≤ 301 ∧ Hid (gn = 301 - j) ∧ s9 = .string (bs (long2 j)) ∧ wr = w1)
  case atStart => exact ⟨0, by omega, Lib.hid rfl, rfl, rfl⟩
  case round =>
    obtain ⟨j, hj, HM, rfl, hwr⟩ := hrel
    subst wr
    have hl : (long2 j).length = j := by simp [long2]
    have hsz := bs_size (long2 j)
    by_cases hlt : j < 301
    · have hi : ((bs (long2 j)).size : Int) ≤ 300 := by omega
      have q1 : ¬ 9223372036854775807 < (bs (long2 j)).size + 1 := by omega
      clear hl hsz
      go_wp2_with fail
      go_roundg (301 - (j + 1))
      case measure => have := HM.out; omega
      case rel => exact ⟨j + 1, by omega, Lib.hid rfl, congrArg Value.string ((bs_append _ [120]).trans (congrArg bs (by simp [long2, List.replicate_succ']))), rfl⟩
    · have hje : j = 301 := by omega
      subst hje
      have hi : ¬ ((bs (long2 301)).size : Int) ≤ 300 := by omega
      rw [← HL.out] at hi ⊢
      clear hl hsz
      go_wp2_with fail
      have HKa := HK1
      refine (H0.out _ HK1.out).mono ?_
      rintro e u0 ⟨nv0, tv0, rfl, k, o0, ot0⟩
      obtain ⟨ao0, cap0, rfl, _⟩ := own_shape o0
      obtain ⟨at0, cat0, rfl, _⟩ := own_shape ot0
      have k' : Keep none' w (u0.alloc (.cells #[.int .i64 11, .int .i64 0, .string ⟨#[]⟩, .int .i64 0, .int .i64 0] 28)) := (HK1.out.trans k).trans (Keep.alloc _ _ _)
      have gu0 : (u0.alloc (.cells #[.int .i64 11, .int .i64 0, .string ⟨#[]⟩, .int .i64 0, .int .i64 0] 28)).heap[u0.heap.size]? = some (.cells #[.int .i64 11, .int .i64 0, .string ⟨#[]⟩, .int .i64 0, .int .i64 0] 28) := heap_new _ _
      have Gu0_0 := Lib.hid gu0
      have HK2 := Lib.hid k'
      clear k' k gu0
      go_wp2_with fail
      refine (H1.out _ HK2.out).mono ?_
      rintro e u1 ⟨nv1, tv1, rfl, k, o1, ot1⟩
      obtain ⟨ao1, cap1, rfl, _⟩ := own_shape o1
      obtain ⟨at1, cat1, rfl, _⟩ := own_shape ot1
      have k' : Keep none' w (u1.alloc (.cells #[.int .i64 11, .int .i64 0, .string ⟨#[]⟩, .int .i64 0, .int .i64 0] 28)) := (HK2.out.trans k).trans (Keep.alloc _ _ _)
      have gu0 : (u1.alloc (.cells #[.int .i64 11, .int .i64 0, .string ⟨#[]⟩, .int .i64 0, .int .i64 0] 28)).heap[u0.heap.size]? = some (.cells #[.int .i64 11, .int .i64 0, .string ⟨#[]⟩, .int .i64 0, .int .i64 0] 28) := heap_old (k.get Gu0_0.out (fun x => x))
      have gu1 : (u1.alloc (.cells #[.int .i64 11, .int .i64 0, .string ⟨#[]⟩, .int .i64 0, .int .i64 0] 28)).heap[u1.heap.size]? = some (.cells #[.int .i64 11, .int .i64 0, .string ⟨#[]⟩, .int .i64 0, .int .i64 0] 28) := heap_new _ _
      have Gu0_1 := Lib.hid gu0
      have Gu1_1 := Lib.hid gu1
      have HK3 := Lib.hid k'
      clear k' k gu0 gu1
      go_wp2_with fail
      refine (H2.out _ HK3.out).mono ?_
      rintro e u2 ⟨nv2, tv2, rfl, k, o2, ot2⟩
      obtain ⟨ao2, cap2, rfl, _⟩ := own_shape o2
      obtain ⟨at2, cat2, rfl, _⟩ := own_shape ot2
      have k' : Keep none' w (u2.alloc (.cells #[.int .i64 11, .int .i64 0, .string ⟨#[]⟩, .int .i64 0, .int .i64 0] 28)) := (HK3.out.trans k).trans (Keep.alloc _ _ _)
      have gu0 : (u2.alloc (.cells #[.int .i64 11, .int .i64 0, .string ⟨#[]⟩, .int .i64 0, .int .i64 0] 28)).heap[u0.heap.size]? = some (.cells #[.int .i64 11, .int .i64 0, .string ⟨#[]⟩, .int .i64 0, .int .i64 0] 28) := heap_old (k.get Gu0_1.out (fun x => x))
      have gu1 : (u2.alloc (.cells #[.int .i64 11, .int .i64 0, .string ⟨#[]⟩, .int .i64 0, .int .i64 0] 28)).heap[u1.heap.size]? = some (.cells #[.int .i64 11, .int .i64 0, .string ⟨#[]⟩, .int .i64 0, .int .i64 0] 28) := heap_old (k.get Gu1_1.out (fun x => x))
      have gu2 : (u2.alloc (.cells #[.int .i64 11, .int .i64 0, .string ⟨#[]⟩, .int .i64 0, .int .i64 0] 28)).heap[u2.heap.size]? = some (.cells #[.int .i64 11, .int .i64 0, .string ⟨#[]⟩, .int .i64 0, .int .i64 0] 28) := heap_new _ _
      have Gu0_2 := Lib.hid gu0
      have Gu1_2 := Lib.hid gu1
      have Gu2_2 := Lib.hid gu2
      have HK4 := Lib.hid k'
      have eu0_0 := cell_of_heap (i := 0) gu0 rfl
      have eu0_1 := cell_of_heap (i := 1) gu0 rfl
      have eu1_0 := cell_of_heap (i := 0) gu1 rfl
      have eu1_1 := cell_of_heap (i := 1) gu1 rfl
      have eu2_0 := cell_of_heap (i := 0) gu2 rfl
      have eu2_1 := cell_of_heap (i := 1) gu2 rfl
      clear k' k gu0 gu1 gu2
      go_wp2_with fail
      exact bodyPost_ret (v := .bool true) (by simp [results, Tryz.results3, go_sem]) rfl ⟨rfl, HK4.out⟩
end Go.Proofs.YtabikmkoajdhmaaGreatDoor

namespace Go.Proofs.YtabikmkoajdhmaaGreatDoor
open Go.RowKit

set_option maxRecDepth 100000 in
set_option maxHeartbeats 4000000 in
theorem refuses_6 (p : Nat → Addr) (c : Int) (hc : -9223372036854775808 ≤ c ∧ c ≤ 9223372036854775807) (w : World) (hs : Sents p w) (hn : pickI c 63 = 61) : Calls Tryz.prog 3 #[.int .i64 c] w fun e w' => e = .returned (.bool true) ∧ Keep none' w w' := by
  have hp : ∀ W : World, Calls Tryz.prog 12 #[.int .i64 c, .int .i64 63] W fun e w' => e = .returned (.int .i64 (pickI c 63)) ∧ w' = W := fun W => pick_ok c 63 hc (by decide) W
  rw [hn] at hp
  obtain ⟨L, hL⟩ : ∃ L, L = long2 301 := ⟨_, rfl⟩
  have h0 : ∀ (W : World), Keep none' w W → Calls Tryz.prog 17 #[.string ⟨#[97, 32, 45, 62, 32, 98, 32, 45, 62, 32, 91, 97, 93]⟩, .string ⟨#[40, 120, 44, 32, 121, 41, 32, 45, 62, 32, 105, 110, 116, 32, 45, 62, 32, 91, 40, 120, 44, 32, 121, 41, 93]⟩] W fun e w' => ∃ nv tv, e = .returned (.tuple #[nv, tv, .bool false, .agg #[.int .i64 0, .int .i64 0, .string ⟨#[]⟩, .int .i64 0, .int .i64 0]]) ∧ Keep none' W w' ∧ w'.ownsRow W.heap.size 9 1 nv 2 [.string ⟨#[97]⟩, .string ⟨#[98]⟩] ∧ w'.ownsRow W.heap.size 9 1 tv 2 [.string ⟨#[40, 120, 44, 32, 121, 41]⟩, .string ⟨#[105, 110, 116]⟩] := fun W kW => ref_inst p r6a (inst_ab _ _).1 (inst_ab _ _).2 W (hs.keep0 kW)
  have h1 : ∀ (W : World), Keep none' w W → Calls Tryz.prog 17 #[.string ⟨#[105, 110, 116]⟩, .string ⟨#[105, 110, 116]⟩] W fun e w' => ∃ nv tv, e = .returned (.tuple #[nv, tv, .bool false, .agg #[.int .i64 0, .int .i64 0, .string ⟨#[]⟩, .int .i64 0, .int .i64 0]]) ∧ Keep none' W w' ∧ w'.ownsRow W.heap.size 9 1 nv 0 [] ∧ w'.ownsRow W.heap.size 9 1 tv 0 [] := fun W kW => ref_inst p r6b inst_nil.1 inst_nil.2 W (hs.keep0 kW)
  have HP := Lib.hid hp; have HL := Lib.hid hL; have H0 := Lib.hid h0; have H1 := Lib.hid h1
  clear hp hL hs hn hc h0 h1
  go_enter Tryz.func3, Tryz.ntmps3
  go_wp2_with fail
  refine (faults_ok _).mono ?_
  rintro e w1 ⟨b, rfl, hb, k1, hb1⟩
  have HK1 := Lib.hid k1
  clear k1 hb hb1
  go_wp2_with fail
  refine (HP.out _).mono ?_
  rintro e w2 ⟨rfl, hw2⟩
  subst w2
  go_wp2_with fail
  go_loopg [9] 301 (fun gn s9 wr => ∃ j : Nat, j ≤ 301 ∧ Hid (gn = 301 - j) ∧ s9 = .string (bs (long2 j)) ∧ wr = w1)
  case atStart => exact ⟨0, by omega, Lib.hid rfl, rfl, rfl⟩
  case round =>
    obtain ⟨j, hj, HM, rfl, hwr⟩ := hrel
    subst wr
    have hl : (long2 j).length = j := by simp [long2]
    have hsz := bs_size (long2 j)
    by_cases hlt : j < 301
    · have hi : ((bs (long2 j)).size : Int) ≤ 300 := by omega
      have q1 : ¬ 9223372036854775807 < (bs (long2 j)).size + 1 := by omega
      clear hl hsz
      go_wp2_with fail
      go_roundg (301 - (j + 1))
      case measure => have := HM.out; omega
      case rel => exact ⟨j + 1, by omega, Lib.hid rfl, congrArg Value.string ((bs_append _ [120]).trans (congrArg bs (by simp [long2, List.replicate_succ']))), rfl⟩
    · have hje : j = 301 := by omega
      subst hje
      have hi : ¬ ((bs (long2 301)).size : Int) ≤ 300 := by omega
      rw [← HL.out] at hi ⊢
      clear hl hsz
      go_wp2_with fail
      have HKa := HK1
      refine (H0.out _ HK1.out).mono ?_
      rintro e u0 ⟨nv0, tv0, rfl, k, o0, ot0⟩
      obtain ⟨ao0, cap0, rfl, hq0⟩ := own_shape o0
      obtain ⟨at0, cat0, rfl, hr0⟩ := own_shape ot0
      obtain ⟨gm, rfl, hm⟩ := hq0 (by decide)
      obtain ⟨gt, rfl, ht⟩ := hr0 (by decide)
      have hm0 := hm 0 _ rfl; have ht0 := ht 0 _ rfl; have ht1 := ht 1 _ rfl
      have HM0 := Lib.hid hm0; have HT0 := Lib.hid ht0; have HT1 := Lib.hid ht1
      clear hm ht hm0 ht0 ht1 hq0 hr0 o0 ot0
      have k' : Keep none' w (u0.alloc (.cells #[.int .i64 0, .int .i64 0, .string ⟨#[]⟩, .int .i64 0, .int .i64 0] 28)) := (HK1.out.trans k).trans (Keep.alloc _ _ _)
      have gu0 : (u0.alloc (.cells #[.int .i64 0, .int .i64 0, .string ⟨#[]⟩, .int .i64 0, .int .i64 0] 28)).heap[u0.heap.size]? = some (.cells #[.int .i64 0, .int .i64 0, .string ⟨#[]⟩, .int .i64 0, .int .i64 0] 28) := heap_new _ _
      have Gu0_0 := Lib.hid gu0
      have HK2 := Lib.hid k'
      clear k' k gu0
      go_wp2_with fail
      refine (H1.out _ HK2.out).mono ?_
      rintro e u1 ⟨nv1, tv1, rfl, k, o1, ot1⟩
      obtain ⟨ao1, cap1, rfl, _⟩ := own_shape o1
      obtain ⟨at1, cat1, rfl, _⟩ := own_shape ot1
      have k' : Keep none' w (u1.alloc (.cells #[.int .i64 0, .int .i64 0, .string ⟨#[]⟩, .int .i64 0, .int .i64 0] 28)) := (HK2.out.trans k).trans (Keep.alloc _ _ _)
      have gu0 : (u1.alloc (.cells #[.int .i64 0, .int .i64 0, .string ⟨#[]⟩, .int .i64 0, .int .i64 0] 28)).heap[u0.heap.size]? = some (.cells #[.int .i64 0, .int .i64 0, .string ⟨#[]⟩, .int .i64 0, .int .i64 0] 28) := heap_old (k.get Gu0_0.out (fun x => x))
      have gu1 : (u1.alloc (.cells #[.int .i64 0, .int .i64 0, .string ⟨#[]⟩, .int .i64 0, .int .i64 0] 28)).heap[u1.heap.size]? = some (.cells #[.int .i64 0, .int .i64 0, .string ⟨#[]⟩, .int .i64 0, .int .i64 0] 28) := heap_new _ _
      have Gu0_1 := Lib.hid gu0
      have Gu1_1 := Lib.hid gu1
      have HK3 := Lib.hid k'
      have eu0_0 := cell_of_heap (i := 0) gu0 rfl
      have eu0_1 := cell_of_heap (i := 1) gu0 rfl
      have eu1_0 := cell_of_heap (i := 0) gu1 rfl
      have eu1_1 := cell_of_heap (i := 1) gu1 rfl
      have eM0 := (Keep.alloc none' u1 (.cells #[.int .i64 0, .int .i64 0, .string ⟨#[]⟩, .int .i64 0, .int .i64 0] 28)).cell_some (k.cell_some ((Keep.alloc none' u0 (.cells #[.int .i64 0, .int .i64 0, .string ⟨#[]⟩, .int .i64 0, .int .i64 0] 28)).cell_some HM0.out (fun x => x)) (fun x => x)) (fun x => x)
      have eT0 := (Keep.alloc none' u1 (.cells #[.int .i64 0, .int .i64 0, .string ⟨#[]⟩, .int .i64 0, .int .i64 0] 28)).cell_some (k.cell_some ((Keep.alloc none' u0 (.cells #[.int .i64 0, .int .i64 0, .string ⟨#[]⟩, .int .i64 0, .int .i64 0] 28)).cell_some HT0.out (fun x => x)) (fun x => x)) (fun x => x)
      have eT1 := (Keep.alloc none' u1 (.cells #[.int .i64 0, .int .i64 0, .string ⟨#[]⟩, .int .i64 0, .int .i64 0] 28)).cell_some (k.cell_some ((Keep.alloc none' u0 (.cells #[.int .i64 0, .int .i64 0, .string ⟨#[]⟩, .int .i64 0, .int .i64 0] 28)).cell_some HT1.out (fun x => x)) (fun x => x)) (fun x => x)
      clear k' k gu0 gu1
      go_wp2_with fail
      exact bodyPost_ret (v := .bool true) (by simp [results, Tryz.results3, go_sem]) rfl ⟨rfl, HK3.out⟩
end Go.Proofs.YtabikmkoajdhmaaGreatDoor

namespace Go.Proofs.YtabikmkoajdhmaaGreatDoor
open Go.RowKit

set_option maxRecDepth 100000 in
set_option maxHeartbeats 4000000 in
theorem refuses_7 (p : Nat → Addr) (c : Int) (hc : -9223372036854775808 ≤ c ∧ c ≤ 9223372036854775807) (w : World) (hs : Sents p w) (hn : pickI c 63 = 62) : Calls Tryz.prog 3 #[.int .i64 c] w fun e w' => e = .returned (.bool true) ∧ Keep none' w w' := by
  have hp : ∀ W : World, Calls Tryz.prog 12 #[.int .i64 c, .int .i64 63] W fun e w' => e = .returned (.int .i64 (pickI c 63)) ∧ w' = W := fun W => pick_ok c 63 hc (by decide) W
  rw [hn] at hp
  obtain ⟨L, hL⟩ : ∃ L, L = long2 301 := ⟨_, rfl⟩
  have h0 : ∀ (W : World), Keep none' w W → Calls Tryz.prog 17 #[.string ⟨#[40]⟩, .string ⟨#[41]⟩] W fun e w' => ∃ nv tv, e = .returned (.tuple #[nv, tv, .bool true, .agg #[.int .i64 2, .int .i64 1, .string ⟨#[]⟩, .int .i64 0, .int .i64 0]]) ∧ Keep none' W w' ∧ w'.ownsRow W.heap.size 9 1 nv 0 [] ∧ w'.ownsRow W.heap.size 9 1 tv 0 [] := fun W kW => ref_inst p r7a inst_nil.1 inst_nil.2 W (hs.keep0 kW)
  have h1 : ∀ (W : World), Keep none' w W → Calls Tryz.prog 17 #[.string ⟨#[97]⟩, .string ⟨#[41]⟩] W fun e w' => ∃ nv tv, e = .returned (.tuple #[nv, tv, .bool true, .agg #[.int .i64 2, .int .i64 0, .string ⟨#[]⟩, .int .i64 0, .int .i64 0]]) ∧ Keep none' W w' ∧ w'.ownsRow W.heap.size 9 1 nv 0 [] ∧ w'.ownsRow W.heap.size 9 1 tv 0 [] := fun W kW => ref_inst p r7b inst_nil.1 inst_nil.2 W (hs.keep0 kW)
  have HP := Lib.hid hp; have HL := Lib.hid hL; have H0 := Lib.hid h0; have H1 := Lib.hid h1
  clear hp hL hs hn hc h0 h1
  go_enter Tryz.func3, Tryz.ntmps3
  go_wp2_with fail
  refine (faults_ok _).mono ?_
  rintro e w1 ⟨b, rfl, hb, k1, hb1⟩
  have HK1 := Lib.hid k1
  clear k1 hb hb1
  go_wp2_with fail
  refine (HP.out _).mono ?_
  rintro e w2 ⟨rfl, hw2⟩
  subst w2
  go_wp2_with fail
  go_loopg [9] 301 (fun gn s9 wr => ∃ j : Nat, j ≤ 301 ∧ Hid (gn = 301 - j) ∧ s9 = .string (bs (long2 j)) ∧ wr = w1)
  case atStart => exact ⟨0, by omega, Lib.hid rfl, rfl, rfl⟩
  case round =>
    obtain ⟨j, hj, HM, rfl, hwr⟩ := hrel
    subst wr
    have hl : (long2 j).length = j := by simp [long2]
    have hsz := bs_size (long2 j)
    by_cases hlt : j < 301
    · have hi : ((bs (long2 j)).size : Int) ≤ 300 := by omega
      have q1 : ¬ 9223372036854775807 < (bs (long2 j)).size + 1 := by omega
      clear hl hsz
      go_wp2_with fail
      go_roundg (301 - (j + 1))
      case measure => have := HM.out; omega
      case rel => exact ⟨j + 1, by omega, Lib.hid rfl, congrArg Value.string ((bs_append _ [120]).trans (congrArg bs (by simp [long2, List.replicate_succ']))), rfl⟩
    · have hje : j = 301 := by omega
      subst hje
      have hi : ¬ ((bs (long2 301)).size : Int) ≤ 300 := by omega
      rw [← HL.out] at hi ⊢
      clear hl hsz
      go_wp2_with fail
      have HKa := HK1
      refine (H0.out _ HK1.out).mono ?_
      rintro e u0 ⟨nv0, tv0, rfl, k, o0, ot0⟩
      obtain ⟨ao0, cap0, rfl, _⟩ := own_shape o0
      obtain ⟨at0, cat0, rfl, _⟩ := own_shape ot0
      have k' : Keep none' w (u0.alloc (.cells #[.int .i64 2, .int .i64 1, .string ⟨#[]⟩, .int .i64 0, .int .i64 0] 28)) := (HK1.out.trans k).trans (Keep.alloc _ _ _)
      have gu0 : (u0.alloc (.cells #[.int .i64 2, .int .i64 1, .string ⟨#[]⟩, .int .i64 0, .int .i64 0] 28)).heap[u0.heap.size]? = some (.cells #[.int .i64 2, .int .i64 1, .string ⟨#[]⟩, .int .i64 0, .int .i64 0] 28) := heap_new _ _
      have Gu0_0 := Lib.hid gu0
      have HK2 := Lib.hid k'
      clear k' k gu0
      go_wp2_with fail
      refine (H1.out _ HK2.out).mono ?_
      rintro e u1 ⟨nv1, tv1, rfl, k, o1, ot1⟩
      obtain ⟨ao1, cap1, rfl, _⟩ := own_shape o1
      obtain ⟨at1, cat1, rfl, _⟩ := own_shape ot1
      have k' : Keep none' w (u1.alloc (.cells #[.int .i64 2, .int .i64 0, .string ⟨#[]⟩, .int .i64 0, .int .i64 0] 28)) := (HK2.out.trans k).trans (Keep.alloc _ _ _)
      have gu0 : (u1.alloc (.cells #[.int .i64 2, .int .i64 0, .string ⟨#[]⟩, .int .i64 0, .int .i64 0] 28)).heap[u0.heap.size]? = some (.cells #[.int .i64 2, .int .i64 1, .string ⟨#[]⟩, .int .i64 0, .int .i64 0] 28) := heap_old (k.get Gu0_0.out (fun x => x))
      have gu1 : (u1.alloc (.cells #[.int .i64 2, .int .i64 0, .string ⟨#[]⟩, .int .i64 0, .int .i64 0] 28)).heap[u1.heap.size]? = some (.cells #[.int .i64 2, .int .i64 0, .string ⟨#[]⟩, .int .i64 0, .int .i64 0] 28) := heap_new _ _
      have Gu0_1 := Lib.hid gu0
      have Gu1_1 := Lib.hid gu1
      have HK3 := Lib.hid k'
      have eu0_0 := cell_of_heap (i := 0) gu0 rfl
      have eu0_1 := cell_of_heap (i := 1) gu0 rfl
      have eu1_0 := cell_of_heap (i := 0) gu1 rfl
      have eu1_1 := cell_of_heap (i := 1) gu1 rfl
      clear k' k gu0 gu1
      go_wp2_with fail
      exact bodyPost_ret (v := .bool true) (by simp [results, Tryz.results3, go_sem]) rfl ⟨rfl, HK3.out⟩
end Go.Proofs.YtabikmkoajdhmaaGreatDoor

namespace Go.Proofs.YtabikmkoajdhmaaGreatDoor
open Go.RowKit

theorem refuses_ok (p : Nat → Addr) (c : Int) (hc : -9223372036854775808 ≤ c ∧ c ≤ 9223372036854775807) (w : World) (hs : Sents p w) : Calls Tryz.prog 3 #[.int .i64 c] w fun e w' => e = .returned (.bool true) ∧ Keep none' w w' := by
  have h0 := (pickI_lt (c := c) (n := 63) (by decide))
  obtain ⟨n, hn⟩ : ∃ n : Nat, pickI c 63 = (n : Int) := ⟨(pickI c 63).toNat, by omega⟩
  by_cases hlt : n < 55
  · exact refuses_low p c hc w hs n hlt hn
  · have : n = 55 ∨ n = 56 ∨ n = 57 ∨ n = 58 ∨ n = 59 ∨ n = 60 ∨ n = 61 ∨ n = 62 := by omega
    rcases this with rfl | rfl | rfl | rfl | rfl | rfl | rfl | rfl
    · exact refuses_0 p c hc w hs hn
    · exact refuses_1 p c hc w hs hn
    · exact refuses_2 p c hc w hs hn
    · exact refuses_3 p c hc w hs hn
    · exact refuses_4 p c hc w hs hn
    · exact refuses_5 p c hc w hs hn
    · exact refuses_6 p c hc w hs hn
    · exact refuses_7 p c hc w hs hn
end Go.Proofs.YtabikmkoajdhmaaGreatDoor
