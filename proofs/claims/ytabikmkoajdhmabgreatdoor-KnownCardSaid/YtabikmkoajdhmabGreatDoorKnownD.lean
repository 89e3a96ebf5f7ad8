/- The law Known's own helper: a text without blanks, by a contract. -/
import Derived.Test.YtabikmkoajdhmabGreatDoorQ04
set_option linter.unusedVariables false
set_option linter.unusedSimpArgs false
namespace Go.Proofs.YtabikmkoajdhmabGreatDoor
open Go.RowKit

def desp (s : Str) : Str := s.filter fun c => c != 32
theorem desp_take {S : Str} {j : Nat} (h : j < S.length) : desp (S.take (j + 1)) = if S[j].toNat = 32 then desp (S.take j) else desp (S.take j) ++ [S[j]] := by
  unfold desp
  rw [List.take_succ_eq_append_getElem h, List.filter_append]
  by_cases hc : (S[j]).toNat = 32
  · have : S[j] = 32 := UInt8.toNat_inj.1 hc
    simp [this]
  · have : ¬ S[j] = 32 := fun e => hc (by rw [e]; rfl)
    simp [hc, this]
theorem desp_len (S : Str) : (desp S).length ≤ S.length := List.length_filter_le _ _
set_option maxHeartbeats 800000 in
theorem despaced_ok (S : Str) (hl : S.length ≤ 1000000) (w : World) : Calls Tryz.prog 18 #[.string (bs S)] w fun e w' => e = .returned (.string (bs (desp S))) ∧ w' = w := by
  have hsz := bs_size S
  have HSZ := Lib.hid hsz; clear hsz
  go_enter Tryz.func18, Tryz.ntmps18
  go_wp2_with fail
  go_loopg [3, 4] S.length (fun gn s2 s3 wr => ∃ j : Nat, j ≤ S.length ∧ Hid (gn = S.length - j) ∧ s2 = .string (bs (desp (S.take j))) ∧ s3 = .int .i64 j ∧ wr = w)
  case atStart => exact ⟨0, by omega, Lib.hid rfl, rfl, rfl, rfl⟩
  case round =>
    obtain ⟨j, hj, HM, rfl, rfl, rfl⟩ := hrel
    have hjj : (0 : Int) ≤ (j : Int) := by omega
    by_cases hlt : j < S.length
    · have hz : j < (bs S).size := by rw [HSZ.out]; omega
      have hzi : ((j : Int) < ((bs S).size : Int)) := by omega
      have ec : (bs S)[j] = S[j]'hlt := by simp [bs]; rfl
      have hd := desp_take hlt
      have hln := desp_len (S.take j)
      have hex : (bs S).extract j (j + 1) = bs [S[j]'hlt] := by
        rw [extract_bs]
        simp only [bytes, bs_toList, Nat.add_sub_cancel_left]
        rw [List.drop_eq_getElem_cons hlt]; rfl
      have q1 : ¬ 9223372036854775807 < (bs (desp (S.take j))).size + (bs [S[j]'hlt]).size := by rw [bs_size, bs_size]; simp at hln ⊢; omega
      have HEX := Lib.hid hex
      clear hln
      by_cases hc : (S[j]'hlt).toNat = 32
      · have q : (((bs S)[j].toNat : Int) == 32) = true := by rw [ec, hc]; rfl
        rw [if_pos hc] at hd
        have HD := Lib.hid hd; clear hd
        clear ec hex q1
        go_wp2_with fail
        go_roundg (S.length - (j + 1))
        case measure => have := HM.out; omega
        case rel => exact ⟨j + 1, by omega, Lib.hid rfl, by rw [HD.out], by go_num, rfl⟩
      · have q : (((bs S)[j].toNat : Int) == 32) = false := by rw [ec]; simp; omega
        rw [if_neg hc] at hd
        have HD := Lib.hid (congrArg bs hd); clear hd
        clear ec
        go_wp2_with fail
        go_roundg (S.length - (j + 1))
        case measure => have := HM.out; omega
        case rel => exact ⟨j + 1, by omega, Lib.hid rfl, congrArg Value.string ((bs_append _ _).trans HD.out.symm), by go_num, rfl⟩
    · have hje : j = S.length := by omega
      subst hje
      have hzi : ¬ ((S.length : Int) < ((bs S).size : Int)) := by rw [HSZ.out]; omega
      go_wp2_with fail
      go_ret
      exact ⟨rfl, rfl⟩
end Go.Proofs.YtabikmkoajdhmabGreatDoor
