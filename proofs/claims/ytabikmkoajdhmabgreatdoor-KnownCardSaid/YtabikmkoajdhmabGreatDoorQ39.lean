/- The engine, for every fuel of the plain engine (no watcher). -/
import Derived.Test.YtabikmkoajdhmabGreatDoorQ38
set_option linter.unusedVariables false
set_option linter.unusedSimpArgs false
namespace Go.Proofs.YtabikmkoajdhmabGreatDoor
open Go.RowKit

set_option maxRecDepth 100000 in
set_option maxHeartbeats 4000000 in
theorem part_rc (u : Sur) (hu : SurOk u) (hnl : SurNil u) (k : Nat) (ih : ∀ j, j ≤ k → ∀ P : Nat → Prop, (∀ b, P b → u.P b) → OfOk (u.narrow P) j) {G : GH} {A : GV} {w : World} {n : Nat} {pos : Int} {l : List Told} {env : Env} {e : Option Addr} {b : Nat} {nv lv ev : Value} {vs : List Value} {bd : Bs} {x : Ex} {r : ERes}
    (hin : EngIn u G A w n l env e) (hg : G b = some (.cells #[.int .i64 pos, nv, lv, ev] 221)) (hnv : SlR G nv (bd.names.map fun n => .string (bs n))) (hlv : SlR G lv vs) (hbd : BsR G vs bd) (hvs : vs ≠ [] ∧ vs.length ≤ 1000000000) (hx : ExR G ev x)
    (hr : partS u.fuel u.stop (k + 1) env (.rc bd x) n l = r) (hne : r ≠ none) :
    Calls Tryz.prog 94 #[.pointer (some ⟨u.gB, 0, none⟩), .iface 218 (.pointer (some ⟨b, 0, none⟩)), .pointer e] w (EngPost u G A w r) := by
  simp only [partS] at hr
  have hn : n + bd.exprs.length < 1000000000 := by
    rcases Nat.lt_or_ge (n + bd.exprs.length) 1000000000 with h | h
    · exact h
    · rw [if_neg (fun c => by omega)] at hr; exact absurd hr.symm hne
  rw [if_pos ⟨by rw [hnl.stop]; decide, hn⟩] at hr
  have hc := rec_ok u hu hnl k ih hin hg hnv hlv hbd hvs hx hn hr hne
  have HC := Lib.hid hc; have HNE := Lib.hid hne
  clear hc hu hnl ih hin hg hnv hlv hbd hvs hx hr hne
  have aRecNum := taRecNum
  have aRecName := taRecName
  have aRecFun := taRecFun
  have aRecApp := taRecApp
  have aRecPair := taRecPair
  have aRecIf := taRecIf
  have aRecLet := taRecLet
  have aRecRec := taRecRec
  go_enter Tryz.func94, Tryz.ntmps94
  go_wp2_with fail
  refine HC.out.mono ?_
  cases r with
  | none => exact absurd rfl HNE.out
  | some rr =>
    cases rr with
    | error q =>
      obtain ⟨kq, lq⟩ := q
      rintro e1 w1 ⟨rfl, k1, r1⟩
      have HK1 := Lib.hid k1; have HRW := Lib.hid r1; clear k1 r1
      go_wp2_with fail
      exact ⟨rfl, rfl, HK1.out, HRW.out⟩
    | ok q =>
      obtain ⟨t1, d1, n1, l1⟩ := q
      rintro e1 w1 ⟨u1, G1, A1, rfl, x1, ei1, r1, y1⟩
      obtain ⟨T1, b1, rfl⟩ := y1.iface
      have HX := Lib.hid x1; have HE := Lib.hid ei1; have HRW := Lib.hid r1; have HY := Lib.hid y1
      clear x1 ei1 r1 y1
      go_wp2_with fail
      go_ret
      exact ⟨_, G1, A1, rfl, HX.out, HE.out, HRW.out, HY.out⟩

theorem SurNil.narrow {u : Sur} (h : SurNil u) (P : Nat → Prop) : SurNil (u.narrow P) := ⟨h.each, h.stop, h.rw, h.fuel⟩
theorem part_step (u : Sur) (hu : SurOk u) (hnl : SurNil u) (k : Nat) (ih : ∀ j, j ≤ k → ∀ P : Nat → Prop, (∀ b, P b → u.P b) → OfOk (u.narrow P) j) : PartOk u (k + 1) := by
  have ih0 : OfOk u k := ih k (Nat.le_refl _) u.P (fun _ h => h)
  intro G A w n l env e xv x r hin hx hr hne
  cases hx with
  | num h =>
    simp only [partS] at hr; subst hr
    exact part_num u hu hin
  | @name b p nm h =>
    simp only [partS] at hr
    cases hl : env.lookup nm with
    | none => rw [hl] at hr; exact absurd hr.symm hne
    | some s =>
      rw [hl] at hr
      cases hi : inst s.all s.t ⟨[], n⟩ with
      | none => simp only [hi] at hr; exact absurd hr.symm hne
      | some tf =>
        obtain ⟨t, f⟩ := tf
        simp only [hi] at hr; subst hr
        exact part_name u hu hin h hl hi
  | fn h a => exact part_fn u hu k ih0 hin h a hr hne
  | app h a b => exact part_app u hu k ih0 hin h a b hr hne
  | pair h a b => exact part_pair u hu k ih0 hin h a b hr hne
  | lt h a b => exact part_lt u hu k ih0 hin h a b hr hne
  | ite h a b c => exact part_ite u hu k ih0 hin h a b c hr hne
  | rc h n l b q e => exact part_rc u hu hnl k ih hin h n l b q e hr hne
theorem of_all : ∀ (k : Nat) (u : Sur), SurOk u → SurNil u → ∀ j, j ≤ k → OfOk u j ∧ PartOk u j
  | 0, u, hu, hnl, j, hj => by
    have hj0 : j = 0 := by omega
    subst hj0
    refine ⟨fun G A w n l env e xv x r _ _ hr hne => absurd (by rw [← hr]; unfold ofS; rfl) hne, fun G A w n l env e xv x r _ _ hr hne => absurd (by rw [← hr]; unfold partS; rfl) hne⟩
  | k + 1, u, hu, hnl, j, hj => by
    by_cases hjk : j ≤ k
    · exact of_all k u hu hnl j hjk
    · have hje : j = k + 1 := by omega
      subst hje
      have ih := of_all k
      exact ⟨of_step u hu k (ih u hu hnl k (Nat.le_refl _)).2, part_step u hu hnl k (fun j hj P hP => (ih (u.narrow P) (hu.narrow hP) (hnl.narrow P) j hj).1)⟩
theorem engine_ok (u : Sur) (hu : SurOk u) (hnl : SurNil u) (k : Nat) : OfOk u k := (of_all k u hu hnl k (Nat.le_refl _)).1
end Go.Proofs.YtabikmkoajdhmabGreatDoor
