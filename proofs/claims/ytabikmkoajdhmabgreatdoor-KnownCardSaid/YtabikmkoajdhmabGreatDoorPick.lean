/- Which of n things a raw number speaks of. -/
import Derived.Test.YtabikmkoajdhmabGreatDoorQ40
set_option linter.unusedVariables false
set_option linter.unusedSimpArgs false
namespace Go.Proofs.YtabikmkoajdhmabGreatDoor
open Go.RowKit

/-- Which of n things a raw number speaks of. -/
def pickI (c n : Int) : Int := (if c < 0 then -(c + 1) else c) % n
set_option maxHeartbeats 800000 in
theorem pick_ok (c : Int) (n : Nat) (hc : -9223372036854775808 ≤ c ∧ c ≤ 9223372036854775807) (hn : 0 < n ∧ n ≤ 1000) (w : World) : Calls Tryz.prog 8 #[.int .i64 c, .int .i64 n] w fun e w' => e = .returned (.int .i64 (pickI c n)) ∧ w' = w := by
  have h0 : (0 : Int) < (n : Int) := by omega
  by_cases hneg : c < 0
  · go_enter Tryz.func8, Tryz.ntmps8
    go_wp2_with fail
    go_ret
    have e : (-(c + 1)) % (n : Int) = -((c + 1).tmod n) := by rw [← Int.tmod_eq_emod_of_nonneg (by omega), Int.neg_tmod]
    have e2 : pickI c n = -((c + 1).tmod n) := by unfold pickI; rw [if_pos hneg, e]
    rw [e2]
    exact ⟨rfl, rfl⟩
  · go_enter Tryz.func8, Tryz.ntmps8
    go_wp2_with fail
    go_ret
    have e2 : pickI c n = c % n := by unfold pickI; rw [if_neg (by omega)]
    rw [e2]
    exact ⟨rfl, rfl⟩
theorem pickI_lt {c n : Int} (hn : 0 < n) : 0 ≤ pickI c n ∧ pickI c n < n := by
  unfold pickI
  exact ⟨Int.emod_nonneg _ (by omega), Int.emod_lt_of_pos _ (by omega)⟩
end Go.Proofs.YtabikmkoajdhmabGreatDoor
