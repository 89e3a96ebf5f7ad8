/- Times by a contract. -/
import Derived.Test.YtabikmkoajdhmaaGreatDoorQ40
set_option linter.unusedVariables false
set_option linter.unusedSimpArgs false
namespace Go.Proofs.YtabikmkoajdhmaaGreatDoor
open Go.RowKit

/-- Which of n things a raw number speaks of. -/
def pickI (c n : Int) : Int := (if c < 0 then -(c + 1) else c) % n
set_option maxHeartbeats 800000 in
theorem pick_ok (c : Int) (n : Nat) (hc : -9223372036854775808 ≤ c ∧ c ≤ 9223372036854775807) (hn : 0 < n ∧ n ≤ 1000) (w : World) : Calls Tryz.prog 12 #[.int .i64 c, .int .i64 n] w fun e w' => e = .returned (.int .i64 (pickI c n)) ∧ w' = w := by
  have h0 : (0 : Int) < (n : Int) := by omega
  by_cases hneg : c < 0
  · go_enter Tryz.func12, Tryz.ntmps12
    go_wp2_with fail
    go_ret
    have e : (-(c + 1)) % (n : Int) = -((c + 1).tmod n) := by rw [← Int.tmod_eq_emod_of_nonneg (by omega), Int.neg_tmod]
    have e2 : pickI c n = -((c + 1).tmod n) := by unfold pickI; rw [if_pos hneg, e]
    rw [e2]
    exact ⟨rfl, rfl⟩
  · go_enter Tryz.func12, Tryz.ntmps12
    go_wp2_with fail
    go_ret
    have e2 : pickI c n = c % n := by unfold pickI; rw [if_neg (by omega)]
    rw [e2]
    exact ⟨rfl, rfl⟩
theorem pickI_lt {c n : Int} (hn : 0 < n) : 0 ≤ pickI c n ∧ pickI c n < n := by
  unfold pickI
  exact ⟨Int.emod_nonneg _ (by omega), Int.emod_lt_of_pos _ (by omega)⟩

def FX : Str := [102, 117, 110, 32, 102, 32, 45, 62, 32, 102, 117, 110, 32, 120, 32, 45, 62, 32]
theorem timesB_len : ∀ n, (timesB n).length = 4 * n + 1
  | 0 => rfl
  | n + 1 => by simp [timesB, timesB_len n]; omega
set_option maxRecDepth 100000 in
set_option maxHeartbeats 800000 in
theorem times_ok (p : Nat → Addr) (c : Int) (hc : -9223372036854775808 ≤ c ∧ c ≤ 9223372036854775807) (w : World) (hs : Sents p w) : Calls Tryz.prog 9 #[.int .i64 c] w fun e w' => e = .returned (.bool true) ∧ Keep none' w w' := by
  obtain ⟨n, hn⟩ : ∃ n : Nat, pickI c 20 = (n : Int) := ⟨(pickI c 20).toNat, by have := (pickI_lt (c := c) (n := 20) (by decide)).1; omega⟩
  have hlt : n < 20 := by have := (pickI_lt (c := c) (n := 20) (by decide)).2; omega
  have hp := pick_ok c 20 hc (by decide) w
  have hp : Calls Tryz.prog 12 #[.int .i64 c, .int .i64 20] w fun e w' => e = .returned (.int .i64 (pickI c 20)) ∧ w' = w := hp
  rw [hn] at hp
  have HP := Lib.hid hp; have HS := Lib.hid hs
  clear hp hn hs
  go_enter Tryz.func9, Tryz.ntmps9
  go_wp2_with fail
  refine HP.out.mono ?_
  rintro e w1 ⟨rfl, rfl⟩
  go_wp2_with fail
  go_loopg [3, 8] n (fun gn s3 s8 wr => ∃ j : Nat, j ≤ n ∧ Hid (gn = n - j) ∧ s3 = .string (bs (timesB j)) ∧ s8 = .int .i64 j ∧ wr = w1)
  case atStart => exact ⟨0, by omega, Lib.hid rfl, rfl, rfl, rfl⟩
  case round =>
    obtain ⟨j, hj, HM, rfl, rfl, rfl⟩ := hrel
    have hjj : (0 : Int) ≤ (j : Int) := by omega
    by_cases hjn : j < n
    · have hji : ((j : Int) < (n : Int)) := by omega
      have hl := timesB_len j
      have q1 : ¬ 9223372036854775807 < 3 + (bs (timesB j)).size := by rw [bs_size]; omega
      have q2 : ¬ 9223372036854775807 < 3 + (bs (timesB j)).size + 1 := by rw [bs_size]; omega
      go_wp2_with fail
      go_roundg (n - (j + 1))
      case measure => have := HM.out; omega
      case rel => exact ⟨j + 1, by omega, Lib.hid rfl, congrArg Value.string (show bs [102, 32, 40] ++ bs (timesB j) ++ bs [41] = bs (timesB (j + 1)) by rw [bs_append, bs_append]; rfl), by go_num, rfl⟩
    · have hje : j = n := by omega
      subst hje
      have hk := watch_k (times_k hlt)
      have hl := timesB_len j
      have q3 : ¬ 9223372036854775807 < 18 + (bs (timesB j)).size := by rw [bs_size]; omega
      have hsz : (bs (timesS j)).size ≤ 9223372036854775807 := by rw [bs_size]; simp [timesS]; omega
      have hby : bytes (bs (timesS j)) = timesS j := by simp [bytes, bs]
      have hh := has_ok p (bs (timesS j)) (timesT j) wr HS.out hsz (rr := readE (timesS j)) (by rw [hby]; exact hk.1) (t := timesT j) (by rw [hby]; exact hk.2)
      have hts : bs (timesS j) = bs FX ++ bs (timesB j) := by rw [bs_append]; rfl
      rw [hts] at hh
      simp only [decide_true] at hh
      unfold FX bs at hh
      have HH := Lib.hid hh
      clear hk hl hsz hby hh hts
      rcases (show j = 0 ∨ j = 1 ∨ 2 ≤ j by omega) with rfl | rfl | h2
      · go_wp2_with fail
        refine HH.out.mono ?_
        rintro e w2 ⟨rfl, k2⟩
        have HK := Lib.hid k2; clear k2
        go_wp2_with fail
        go_ret
        exact ⟨rfl, HK.out⟩
      · go_wp2_with fail
        refine HH.out.mono ?_
        rintro e w2 ⟨rfl, k2⟩
        have HK := Lib.hid k2; clear k2
        go_wp2_with fail
        go_ret
        exact ⟨rfl, HK.out⟩
      · have q0 : ((j : Int) == 0) = false := by simp; omega
        have q1 : ((j : Int) == 1) = false := by simp; omega
        have ht : timesT j = timesT 2 := by
          obtain ⟨i, rfl⟩ : ∃ i, j = i + 2 := ⟨j - 2, by omega⟩
          rfl
        rw [ht] at HH
        go_wp2_with fail
        refine HH.out.mono ?_
        rintro e w2 ⟨rfl, k2⟩
        have HK := Lib.hid k2; clear k2
        go_wp2_with fail
        go_ret
        exact ⟨rfl, HK.out⟩
end Go.Proofs.YtabikmkoajdhmaaGreatDoor
