/- typerlaw.Names by a walk: it returns true. -/
import Derived.Test.YtabikmkoajdhmaaDoorNamesW
namespace Go.Proofs.YtabikmkoajdhmaaDoor
open Go.RowKit

theorem own_shape0 {w : World} {base : Nat} {e : TypeId} {v : Value} {n : Nat} {xs : List Value} (h : w.ownsRow base e 1 v n xs) (hn : 0 < n) :
    ∃ g cap, v = .slice (some ⟨g, 0, none⟩) n cap ∧ ∀ j u, xs[j]? = some u → w.cell? ⟨g, j, none⟩ = some u := by
  have h1 := h
  rcases h.2 with ⟨_, rfl⟩ | ⟨g, cap, cur, rfl, rest⟩
  · omega
  · refine ⟨g, cap, rfl, fun j u hu => ?_⟩
    have hadd : (⟨g, 0, none⟩ : Addr).add j = ⟨g, j, none⟩ := by unfold Addr.add; split <;> simp_all
    rw [← hadd]
    exact h1.cells (g := g) rfl j u hu

def bnd : Nat → Int
  | 0 => 300 | 1 => 8 | 2 => 40 | 3 => 120 | _ => 12
theorem bnd_at (k : Nat) (h : k < 5) : (#[.int .i64 300, .int .i64 8, .int .i64 40, .int .i64 120, .int .i64 12] : Array Value)[k]? = some (.int .i64 (bnd k)) := by
  obtain rfl | rfl | rfl | rfl | rfl : k = 0 ∨ k = 1 ∨ k = 2 ∨ k = 3 ∨ k = 4 := by omega
  all_goals rfl
theorem same_at (k : Nat) (h : k < 128) : (sameV 128)[k]? = some (.bool ((k : Int) / 16 == (k : Int) % 16 / 2)) := by
  unfold sameV
  rw [List.getElem?_map, List.getElem?_range h]
  simp only [Option.map_some]
  congr 2
  rw [Bool.eq_iff_iff]
  simp only [decide_eq_true_eq, beq_iff_eq]
  omega

set_option maxRecDepth 100000 in
set_option maxHeartbeats 4000000 in
theorem names_law (p : Nat → Addr) (w : World) (hs : Sents p w) : Calls Tryd.prog 3 #[] w fun e w' => e = .returned (.bool true) ∧ Keep none' w w' := by
  go_enter Tryd.func3, Tryd.ntmps3
  go_wp2_with fail
  refine (names_any p w hs).mono ?_
  rintro e w1 ⟨s1, rfl, k1, hb, ho⟩
  obtain ⟨g, cap, rfl, hc⟩ := own_shape0 ho (by decide)
  have HC := Lib.hid hc; have HB := Lib.hid hb; have HK := Lib.hid k1
  clear hc hb k1 ho hs
  go_wp2_with fail
  go_loopg [29] 5 (fun n s29 wr => ∃ k : Nat, k ≤ 5 ∧ Hid (n = 5 - k) ∧ s29 = .int .i64 k ∧ Hid (Keep none' (w1.alloc (.cells #[.int .i64 300, .int .i64 8, .int .i64 40, .int .i64 120, .int .i64 12] 3)) wr))
  case atStart => exact ⟨0, by omega, Lib.hid rfl, rfl, Lib.hid (Keep.refl _ _)⟩
  case round =>
    obtain ⟨k, hk, HN, rfl, HK2⟩ := hrel
    have hkk : (0 : Int) ≤ (k : Int) := by omega
    by_cases hlt : k < 5
    · have c0 : wr.cell? ⟨w.heap.size, k, none⟩ = some (.int .i64 (bnd k)) := cell_of_heap (HK2.out.get (heap_old HB.out) (fun x => x)) (bnd_at k hlt)
      have c1 : wr.cell? ⟨w1.heap.size, k, none⟩ = some (.int .i64 (bnd k)) := cell_of_heap (HK2.out.get (heap_new _ _) (fun x => x)) (bnd_at k hlt)
      have hl5 : ((k : Int) < 5) := by omega
      go_wp2_with fail
      go_quiet (fail)
      go_wp2_with fail
      go_roundg (5 - (k + 1))
      case measure => have := HN.out; omega
      case rel => exact ⟨k + 1, by omega, Lib.hid rfl, by go_num, Lib.hid (HK2.out.trans (Keep.drewN _ _ _))⟩
    · have hk5 : k = 5 := by omega
      subst hk5
      have HK3 : Hid (Keep none' w1 wr) := Lib.hid ((Keep.alloc _ _ _).trans HK2.out)
      clear HK2
      obtain ⟨wo, rfl⟩ : ∃ wo : World, wo = wr := ⟨_, rfl⟩
      go_wp2_with fail
      go_loopg [44] 128 (fun n s44 wr => ∃ k : Nat, k ≤ 128 ∧ Hid (n = 128 - k) ∧ s44 = .int .i64 k ∧ wr = wo)
      case atStart => exact ⟨0, by omega, Lib.hid rfl, rfl, rfl⟩
      case round =>
        obtain ⟨k, hk, HN2, rfl, rfl⟩ := hrel
        have hkk : (0 : Int) ≤ (k : Int) := by omega
        by_cases hlt : k < 128
        · have c0 : wr.cell? ⟨g, k, none⟩ = some (.bool ((k : Int) / 16 == (k : Int) % 16 / 2)) := HK3.out.cell_some (HC.out k _ (same_at k hlt)) (fun x => x)
          have hl5 : ((k : Int) < 128) := by omega
          go_wp2_with fail
          go_roundg (128 - (k + 1))
          case measure => have := HN2.out; omega
          case rel => exact ⟨k + 1, by omega, Lib.hid rfl, by go_num, rfl⟩
        · have hk5 : k = 128 := by omega
          subst hk5
          go_wp2_with fail
          go_ret
          exact ⟨rfl, HK.out.trans HK3.out⟩
end Go.Proofs.YtabikmkoajdhmaaDoor
