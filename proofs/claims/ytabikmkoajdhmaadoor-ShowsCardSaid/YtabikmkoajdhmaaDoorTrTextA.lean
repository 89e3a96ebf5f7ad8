/- typerref's Text: an application. -/
import Derived.Test.YtabikmkoajdhmaaDoorTrText
import Derived.Deep.DeepCutAuto
set_option linter.unusedVariables false
set_option linter.unusedSimpArgs false
set_option linter.unnecessarySimpa false
namespace Go.Proofs.YtabikmkoajdhmaaDoor
open Go.RowKit

set_option maxRecDepth 100000 in
set_option maxHeartbeats 8000000 in
theorem text_app {G : GH} {b k0 k1 : Nat} {x y opx opy : Str} {nv lv nvx lvx nvy lvy : Value} {at' atx aty : Int} (h1 : G b = some (xO rAPP nv lv at')) (h3 : SlR G lv [ptr k0, ptr k1]) (hox : G k0 = some (xO opx nvx lvx atx)) (hoy : G k1 = some (xO opy nvy lvy aty)) (hx : ∀ w, Holds G w → TextQ k0 x w) (hy : ∀ w, Holds G w → TextQ k1 y w) (hs : x.length + y.length ≤ 1000000000000) (w : World) (hw : Holds G w) : TextQ b (parS (parF opx) x ++ [32] ++ parS (parA opy) y) w := by
  obtain ⟨lb, cap2, rfl, hc2⟩ := slr_at h3 rfl
  have hcells : ∀ n, (w.drewN n).cell? ⟨b, 2, none⟩ = some (.slice (some ⟨lb, 0, none⟩) (1 + 1) cap2) ∧ (w.drewN n).cell? ⟨lb, 0, none⟩ = some (.pointer (some ⟨k0, 0, none⟩)) ∧ (w.drewN n).cell? ⟨lb, 1, none⟩ = some (.pointer (some ⟨k1, 0, none⟩)) ∧ (w.drewN n).cell? ⟨k0, 0, none⟩ = some (.string (bs opx)) ∧ (w.drewN n).cell? ⟨k1, 0, none⟩ = some (.string (bs opy)) := fun n => by
    have hwn : Holds G (w.drewN n) := hw.keep0 (Keep.drewN _ _ _)
    exact ⟨cell_of_heap (hwn _ _ h1) rfl, hc2 0 (by simp) _ hwn, hc2 1 (by simp) _ hwn, cell_of_heap (hwn _ _ hox) rfl, cell_of_heap (hwn _ _ hoy) rfl⟩
  have c0 : w.cell? ⟨b, 0, none⟩ = some (.string (bs rAPP)) := cell_of_heap (hw _ _ h1) rfl
  have c2 : w.cell? ⟨b, 2, none⟩ = some (.slice (some ⟨lb, 0, none⟩) (1 + 1) cap2) := cell_of_heap (hw _ _ h1) rfl
  have l0 : w.cell? ⟨lb, 0, none⟩ = some (.pointer (some ⟨k0, 0, none⟩)) := hc2 0 (by simp) w hw
  have q1 : ((bs rAPP).toList == [110, 97, 109, 101]) = false := (str_c _ _).trans (by decide)
  have q2 : ((bs rAPP).toList == [110, 117, 109]) = false := (str_c _ _).trans (by decide)
  have q3 : ((bs rAPP).toList == [102, 117, 110]) = false := (str_c _ _).trans (by decide)
  have q4 : ((bs rAPP).toList == [112, 97, 105, 114]) = false := (str_c _ _).trans (by decide)
  have q5 : ((bs rAPP).toList == [105, 102]) = false := (str_c _ _).trans (by decide)
  have q6 : ((bs rAPP).toList == [97, 112, 112]) = true := (str_c _ _).trans (by decide)
  have hk0 := hx w hw
  have hk1 : ∀ n, TextQ k1 y (w.drewN n) := fun n => hy _ (hw.keep0 (Keep.drewN _ _ _))
  have HK0 := Lib.hid hk0; have HK1 := Lib.hid hk1; have HC := Lib.hid hcells; have HS := Lib.hid hs
  unfold TextQ
  clear h1 h3 hox hoy hx hy hc2 hw hk0 hk1 hcells hs
  go_enter Tryd.func11, Tryd.ntmps11
  go_wp2_with fail
  refine HK0.out.mono ?_
  rintro e w2 ⟨rfl, m, hw2⟩
  subst w2
  obtain ⟨d2, e0, e1, f0, f1⟩ := HC.out m
  clear c0 c2 l0 q1 q2 q3 q4 q5 q6
  go_upto_region 14 with fail
  go_cut [120] (fun s120 wx => s120 = .bool (parF opx) ∧ wx = w.drewN m)
  case first =>
    have r0 : ((bs opx).toList == [102, 117, 110]) = decide (opx = FUN) := str_c _ _
    by_cases g0 : opx = FUN
    · rw [decide_eq_true g0] at r0
      have hpf : parF opx = true := by rw [g0]; decide
      have HPF := Lib.hid hpf
      clear g0 hpf
      go_wp2_with fail
      go_meet
      case rel => exact ⟨by rw [HPF.out], rfl⟩
    · rw [decide_eq_false g0] at r0
      have r1 : ((bs opx).toList == [105, 102]) = decide (opx = IF) := str_c _ _
      by_cases g1 : opx = IF
      · rw [decide_eq_true g1] at r1
        have hpf : parF opx = true := by rw [g1]; decide
        have HPF := Lib.hid hpf
        clear g1 hpf
        go_wp2_with fail
        go_meet
        case rel => exact ⟨by rw [HPF.out], rfl⟩
      · rw [decide_eq_false g1] at r1
        have r2 : ((bs opx).toList == [108, 101, 116]) = decide (opx = LET) := str_c _ _
        by_cases g2 : opx = LET
        · rw [decide_eq_true g2] at r2
          have hpf : parF opx = true := by rw [g2]; decide
          have HPF := Lib.hid hpf
          clear g2 hpf
          go_wp2_with fail
          go_meet
          case rel => exact ⟨by rw [HPF.out], rfl⟩
        · rw [decide_eq_false g2] at r2
          have r3 : ((bs opx).toList == [114, 101, 99]) = decide (opx = REC) := str_c _ _
          by_cases g3 : opx = REC
          · rw [decide_eq_true g3] at r3
            have hpf : parF opx = true := by rw [g3]; decide
            have HPF := Lib.hid hpf
            clear g3 hpf
            go_wp2_with fail
            go_meet
            case rel => exact ⟨by rw [HPF.out], rfl⟩
          · rw [decide_eq_false g3] at r3
            go_wp2_with fail
            go_meet
            case rel => exact ⟨by rw [show parF opx = false by simp [parF, g0, g1, g2, g3]], rfl⟩
  case rest =>
    obtain ⟨rfl, hwc⟩ := hcut
    subst wc
    have hs := HS.out
    have z1 : (bs x).size = x.length := bs_size _
    have s1 : ¬ 9223372036854775807 < 1 + (bs x).size := by omega
    have s2 : ¬ 9223372036854775807 < 1 + (bs x).size + 1 := by omega
    obtain ⟨pf, hpf⟩ : ∃ pf, pf = parF opx := ⟨_, rfl⟩
    rw [← hpf]
    have HPF := Lib.hid hpf
    clear hs z1 hpf
    go_upto_if 120 with fail
    go_cut [3] (fun s3 wx => s3 = .string (bs (parS pf x)) ∧ wx = w.drewN m)
    case first =>
      cases pf with
      | true =>
        go_wp2_with fail
        go_meet
        case rel =>
          refine ⟨congrArg Value.string ?_, rfl⟩
          show bs [40] ++ bs x ++ bs [41] = _
          rw [bs_append, bs_append]; rfl
      | false =>
        go_wp2_with fail
        go_meet
        case rel => exact ⟨rfl, rfl⟩
    case rest =>
      obtain ⟨rfl, hwc⟩ := hcut
      subst wc
      go_wp2_with fail
      refine (HK1.out m).mono ?_
      rintro e w3 ⟨rfl, m2, hw3⟩
      have hw4 : w3 = w.drewN (m + m2) := by rw [hw3, World.drewN_drewN]
      subst w3
      rw [hw4]
      clear hw4 d2 e0 e1 f0 f1
      obtain ⟨d2, e0, e1, f0, f1⟩ := HC.out (m + m2)
      go_upto_region 18 with fail
      go_cut [149] (fun s149 wx => s149 = .bool (parA opy) ∧ wx = w.drewN (m + m2))
      case first =>
        have r0 : ((bs opy).toList == [110, 97, 109, 101]) = decide (opy = rNAME) := str_c _ _
        have v0 : ((bs opy).toList != [110, 97, 109, 101]) = !decide (opy = rNAME) := by rw [bne, str_c]; rfl
        by_cases g0 : opy = rNAME
        · rw [decide_eq_true g0] at r0 v0
          have hpf : parA opy = false := by rw [g0]; decide
          have HPA := Lib.hid hpf
          clear g0 hpf
          go_wp2_with fail
          go_meet
          case rel => exact ⟨by rw [HPA.out], rfl⟩
        · rw [decide_eq_false g0] at r0 v0
          have r1 : ((bs opy).toList == [110, 117, 109]) = decide (opy = rNUM) := str_c _ _
          have v1 : ((bs opy).toList != [110, 117, 109]) = !decide (opy = rNUM) := by rw [bne, str_c]; rfl
          by_cases g1 : opy = rNUM
          · rw [decide_eq_true g1] at r1 v1
            have hpf : parA opy = false := by rw [g1]; decide
            have HPA := Lib.hid hpf
            clear g1 hpf
            go_wp2_with fail
            go_meet
            case rel => exact ⟨by rw [HPA.out], rfl⟩
          · rw [decide_eq_false g1] at r1 v1
            have r2 : ((bs opy).toList == [112, 97, 105, 114]) = decide (opy = rPAIR) := str_c _ _
            have v2 : ((bs opy).toList != [112, 97, 105, 114]) = !decide (opy = rPAIR) := by rw [bne, str_c]; rfl
            by_cases g2 : opy = rPAIR
            · rw [decide_eq_true g2] at r2 v2
              have hpf : parA opy = false := by rw [g2]; decide
              have HPA := Lib.hid hpf
              clear g2 hpf
              go_wp2_with fail
              go_meet
              case rel => exact ⟨by rw [HPA.out], rfl⟩
            · rw [decide_eq_false g2] at r2 v2
              go_wp2_with fail
              go_meet
              case rel => exact ⟨by rw [show parA opy = true by simp [parA, g0, g1, g2]], rfl⟩
      case rest =>
        obtain ⟨rfl, hwc⟩ := hcut
        subst wc
        have hs := HS.out
        have z1 : (bs x).size = x.length := bs_size _
        have z2 : (bs y).size = y.length := bs_size _
        have z3 : (bs (parS pf x)).size ≤ x.length + 2 := by rw [bs_size]; unfold parS; split <;> simp [LP, RP] <;> omega
        have z4 : (bs (parS (parA opy) y)).size ≤ y.length + 2 := by rw [bs_size]; unfold parS; split <;> simp [LP, RP] <;> omega
        have t1 : ¬ 9223372036854775807 < 1 + (bs y).size := by omega
        have t2 : ¬ 9223372036854775807 < 1 + (bs y).size + 1 := by omega
        have t3 : ¬ 9223372036854775807 < (bs (parS pf x)).size + 1 := by omega
        have t4 : ¬ 9223372036854775807 < (bs (parS pf x)).size + 1 + (bs (parS (parA opy) y)).size := by omega
        obtain ⟨pa, hpa⟩ : ∃ pa, pa = parA opy := ⟨_, rfl⟩
        rw [← hpa] at t4 ⊢
        have HPA := Lib.hid hpa
        clear hs z1 z2 z3 z4 hpa
        go_upto_if 149 with fail
        go_cut [5] (fun s5 wx => s5 = .string (bs (parS pa y)) ∧ wx = w.drewN (m + m2))
        case first =>
          cases pa with
          | true =>
            go_wp2_with fail
            go_meet
            case rel =>
              refine ⟨congrArg Value.string ?_, rfl⟩
              show bs [40] ++ bs y ++ bs [41] = _
              rw [bs_append, bs_append]; rfl
          | false =>
            go_wp2_with fail
            go_meet
            case rel => exact ⟨rfl, rfl⟩
        case rest =>
          obtain ⟨rfl, hwc⟩ := hcut
          subst wc
          go_wp2_with fail
          go_ret
          refine ⟨congrArg (fun s => Ending.returned (Value.string s)) ?_, _, rfl⟩
          rw [← HPF.out, ← HPA.out]
          show bs (parS pf x) ++ bs [32] ++ bs (parS pa y) = _
          rw [bs_append, bs_append]
end Go.Proofs.YtabikmkoajdhmaaDoor
