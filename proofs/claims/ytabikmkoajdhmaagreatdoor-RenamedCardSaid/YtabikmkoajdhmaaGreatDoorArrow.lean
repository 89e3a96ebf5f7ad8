/- The law Renamed's own helper by a contract: does -> stand outside of all brackets? -/
import Derived.Test.YtabikmkoajdhmaaGreatDoorQ04
set_option linter.unusedVariables false
set_option linter.unusedSimpArgs false
namespace Go.Proofs.YtabikmkoajdhmaaGreatDoor
open Go.RowKit

/-- Does -> stand outside of all brackets? The last byte is not looked at. -/
def arrS (o : Int) : Str → Bool
  | [] => false
  | [_] => false
  | c :: d :: r =>
    if c.toNat = 40 ∨ c.toNat = 91 then arrS (o + 1) (d :: r)
    else if c.toNat = 41 ∨ c.toNat = 93 then arrS (o - 1) (d :: r)
    else if c.toNat = 45 then (if o = 0 then true else arrS o (d :: r))
    else arrS o (d :: r)
theorem arrS_end {o : Int} {S : Str} {j : Nat} (h : ¬ j + 1 < S.length) : arrS o (S.drop j) = false := by
  rcases hd : S.drop j with _ | ⟨c, _ | ⟨d, r⟩⟩
  · rfl
  · rfl
  · have := congrArg List.length hd
    simp only [List.length_drop, List.length_cons] at this
    omega
theorem arrS_step {o : Int} {S : Str} {j : Nat} (h : j + 1 < S.length) : arrS o (S.drop j) =
    (if (S[j]).toNat = 40 ∨ (S[j]).toNat = 91 then arrS (o + 1) (S.drop (j + 1))
    else if (S[j]).toNat = 41 ∨ (S[j]).toNat = 93 then arrS (o - 1) (S.drop (j + 1))
    else if (S[j]).toNat = 45 then (if o = 0 then true else arrS o (S.drop (j + 1)))
    else arrS o (S.drop (j + 1))) := by
  rw [List.drop_eq_getElem_cons (show j < S.length by omega), List.drop_eq_getElem_cons h]
  simp only [arrS]
set_option maxHeartbeats 800000 in
theorem arrow_ok (S : Str) (hl : S.length ≤ 1000000) (w : World) : Calls Tryz.prog 18 #[.string (bs S)] w fun e w' => e = .returned (.bool (arrS 0 S)) ∧ w' = w := by
  have hsz := bs_size S
  have HSZ := Lib.hid hsz; clear hsz
  go_enter Tryz.func18, Tryz.ntmps18
  go_wp2_with fail
  go_loopg [3, 4] S.length (fun gn s2 s3 wr => ∃ (j : Nat) (o : Int), j ≤ S.length ∧ Hid (gn = S.length - j) ∧ s2 = .int .i64 o ∧ s3 = .int .i64 j ∧ -(j : Int) ≤ o ∧ o ≤ j ∧ Hid (arrS o (S.drop j) = arrS 0 S) ∧ wr = w)
  case atStart => exact ⟨0, 0, by omega, Lib.hid rfl, rfl, rfl, by omega, by omega, Lib.hid rfl, rfl⟩
  case round =>
    obtain ⟨j, o, hj, HM, rfl, rfl, ho1, ho2, HA, rfl⟩ := hrel
    have hjj : (0 : Int) ≤ (j : Int) := by omega
    by_cases hlt : j + 1 < S.length
    · have hz : j < (bs S).size := by rw [HSZ.out]; omega
      have hzi : ((j : Int) + 1 < ((bs S).size : Int)) := by rw [HSZ.out]; omega
      have hlj : j < S.length := by omega
      have ec : (bs S)[j]'hz = S[j]'hlj := by simp [bs]; rfl
      have hs := arrS_step (o := o) hlt
      rw [HA.out] at hs
      obtain ⟨c, hc⟩ : ∃ c, c = (S[j]'hlj).toNat := ⟨_, rfl⟩
      rw [← hc] at hs
      have q : ∀ k : Nat, ((((bs S)[j]'hz).toNat : Int) == (k : Int)) = decide (c = k) := fun k => by
        rw [ec, ← hc, Bool.eq_iff_iff, beq_iff_eq, decide_eq_true_eq]; constructor <;> intro h <;> omega
      have q40 := q 40; have q91 := q 91; have q41 := q 41; have q93 := q 93; have q45 := q 45
      clear ec hc q
      have HS := Lib.hid hs; clear hs hlt hlj
      have nofl : ¬ 9223372036854775807 < o + 1 := by omega
      by_cases c1 : c = 40
      · subst c1
        have p40 : ((((bs S)[j]'hz).toNat : Int) == 40) = true := q40
        have p91 : ((((bs S)[j]'hz).toNat : Int) == 91) = false := q91
        have p41 : ((((bs S)[j]'hz).toNat : Int) == 41) = false := q41
        have p93 : ((((bs S)[j]'hz).toNat : Int) == 93) = false := q93
        have p45 : ((((bs S)[j]'hz).toNat : Int) == 45) = false := q45
        clear q40 q91 q41 q93 q45
        go_wp2_with fail
        go_roundg (S.length - (j + 1))
        case measure => have := HM.out; have := HSZ.out; omega
        case rel => exact ⟨j + 1, o + 1, by have := HSZ.out; omega, Lib.hid rfl, by go_num, by go_num, by omega, by omega, Lib.hid (by have h := HS.out; simpa using h.symm), rfl⟩
      by_cases c2 : c = 91
      · subst c2
        have p40 : ((((bs S)[j]'hz).toNat : Int) == 40) = false := q40
        have p91 : ((((bs S)[j]'hz).toNat : Int) == 91) = true := q91
        have p41 : ((((bs S)[j]'hz).toNat : Int) == 41) = false := q41
        have p93 : ((((bs S)[j]'hz).toNat : Int) == 93) = false := q93
        have p45 : ((((bs S)[j]'hz).toNat : Int) == 45) = false := q45
        clear q40 q91 q41 q93 q45
        go_wp2_with fail
        go_roundg (S.length - (j + 1))
        case measure => have := HM.out; have := HSZ.out; omega
        case rel => exact ⟨j + 1, o + 1, by have := HSZ.out; omega, Lib.hid rfl, by go_num, by go_num, by omega, by omega, Lib.hid (by have h := HS.out; simpa using h.symm), rfl⟩
      by_cases c3 : c = 41
      · subst c3
        have p40 : ((((bs S)[j]'hz).toNat : Int) == 40) = false := q40
        have p91 : ((((bs S)[j]'hz).toNat : Int) == 91) = false := q91
        have p41 : ((((bs S)[j]'hz).toNat : Int) == 41) = true := q41
        have p93 : ((((bs S)[j]'hz).toNat : Int) == 93) = false := q93
        have p45 : ((((bs S)[j]'hz).toNat : Int) == 45) = false := q45
        clear q40 q91 q41 q93 q45
        go_wp2_with fail
        go_roundg (S.length - (j + 1))
        case measure => have := HM.out; have := HSZ.out; omega
        case rel => exact ⟨j + 1, o - 1, by have := HSZ.out; omega, Lib.hid rfl, by go_num, by go_num, by omega, by omega, Lib.hid (by have h := HS.out; simpa using h.symm), rfl⟩
      by_cases c4 : c = 93
      · subst c4
        have p40 : ((((bs S)[j]'hz).toNat : Int) == 40) = false := q40
        have p91 : ((((bs S)[j]'hz).toNat : Int) == 91) = false := q91
        have p41 : ((((bs S)[j]'hz).toNat : Int) == 41) = false := q41
        have p93 : ((((bs S)[j]'hz).toNat : Int) == 93) = true := q93
        have p45 : ((((bs S)[j]'hz).toNat : Int) == 45) = false := q45
        clear q40 q91 q41 q93 q45
        go_wp2_with fail
        go_roundg (S.length - (j + 1))
        case measure => have := HM.out; have := HSZ.out; omega
        case rel => exact ⟨j + 1, o - 1, by have := HSZ.out; omega, Lib.hid rfl, by go_num, by go_num, by omega, by omega, Lib.hid (by have h := HS.out; simpa using h.symm), rfl⟩
      by_cases c5 : c = 45
      · subst c5
        have p40 : ((((bs S)[j]'hz).toNat : Int) == 40) = false := q40
        have p91 : ((((bs S)[j]'hz).toNat : Int) == 91) = false := q91
        have p41 : ((((bs S)[j]'hz).toNat : Int) == 41) = false := q41
        have p93 : ((((bs S)[j]'hz).toNat : Int) == 93) = false := q93
        have p45 : ((((bs S)[j]'hz).toNat : Int) == 45) = true := q45
        clear q40 q91 q41 q93 q45
        by_cases h0 : o = 0
        · have po : (o == 0) = true := by simp [h0]
          go_wp2_with fail
          go_ret
          have h := HS.out
          simp only [h0] at h
          exact ⟨by rw [h]; rfl, rfl⟩
        · have po : (o == 0) = false := by simp [h0]
          go_wp2_with fail
          go_roundg (S.length - (j + 1))
          case measure => have := HM.out; have := HSZ.out; omega
          case rel => exact ⟨j + 1, o, by have := HSZ.out; omega, Lib.hid rfl, rfl, by go_num, by omega, by omega, Lib.hid (by have h := HS.out; simpa [h0] using h.symm), rfl⟩
      have n40 : ((((bs S)[j]'hz).toNat : Int) == 40) = false := by rw [show (40 : Int) = ((40 : Nat) : Int) from rfl, q40]; simpa using c1
      have n91 : ((((bs S)[j]'hz).toNat : Int) == 91) = false := by rw [show (91 : Int) = ((91 : Nat) : Int) from rfl, q91]; simpa using c2
      have n41 : ((((bs S)[j]'hz).toNat : Int) == 41) = false := by rw [show (41 : Int) = ((41 : Nat) : Int) from rfl, q41]; simpa using c3
      have n93 : ((((bs S)[j]'hz).toNat : Int) == 93) = false := by rw [show (93 : Int) = ((93 : Nat) : Int) from rfl, q93]; simpa using c4
      have n45 : ((((bs S)[j]'hz).toNat : Int) == 45) = false := by rw [show (45 : Int) = ((45 : Nat) : Int) from rfl, q45]; simpa using c5
      clear q40 q91 q41 q93 q45
      go_wp2_with fail
      go_roundg (S.length - (j + 1))
      case measure => have := HM.out; have := HSZ.out; omega
      case rel => exact ⟨j + 1, o, by have := HSZ.out; omega, Lib.hid rfl, rfl, by go_num, by omega, by omega, Lib.hid (by have h := HS.out; simpa [c1, c2, c3, c4, c5] using h.symm), rfl⟩
    · have hzi : ¬ ((j : Int) + 1 < ((bs S).size : Int)) := by rw [HSZ.out]; omega
      have he := arrS_end (o := o) hlt
      rw [HA.out] at he
      have HE := Lib.hid he; clear he
      go_wp2_with fail
      go_ret
      rw [HE.out]
      exact ⟨rfl, rfl⟩
end Go.Proofs.YtabikmkoajdhmaaGreatDoor
