/- typerref's reading of types, as plain functions that go the way of the code; that they agree with the reading of the program's side. No program in sight. -/
import Derived.Test.YtabikmkoajdhmaaDoorTrSpec
import Derived.Test.YtabikmkoajdhmaaDoorQ26
set_option linter.unusedVariables false
set_option linter.unusedSimpArgs false
set_option linter.unnecessarySimpa false
namespace Go.Proofs.YtabikmkoajdhmaaDoor
open Go.RowKit

mutual
def rWhole : Nat → TS → RS → Option (Ty × TS × RS)
  | 0, _, _ => none
  | f + 1, st, s => (rOne f st s).bind fun q =>
    if q.2.2.isK (.kw ARROW) then (rWhole f q.2.1 q.2.2.step).bind fun q2 => some (.fn q.1 q2.1, q2.2.1, q2.2.2)
    else some q
def rOne : Nat → TS → RS → Option (Ty × TS × RS)
  | 0, _, _ => none
  | f + 1, st, s =>
    if s.isK (.kw INT) then some (.int, st, s.step)
    else if s.isK (.kw BOOL) then some (.bool, st, s.step)
    else if s.isK (.kw LB) then (rWhole f st s.step).bind fun q => some (.list q.1, q.2.1, q.2.2.need (.kw RB))
    else if s.isK (.kw LP) then (rWhole f st s.step).bind fun q =>
      if q.2.2.isK (.kw COMMA) then (rWhole f q.2.1 q.2.2.step).bind fun q2 => some (.pair q.1 q2.1, q2.2.1, q2.2.2.need (.kw RP))
      else some (q.1, q.2.1, q.2.2.need (.kw RP))
    else if (s.need .name).bad.isSome then some (.int, st, s.need .name)
    else match st.m.lookup (hd s.l).text with
      | some v => some (.var v, st, s.need .name)
      | none => if st.n < 1000000000 then some (.var (st.n + 1), ⟨st.m ++ [((hd s.l).text, st.n + 1)], st.n + 1⟩, s.need .name) else none
end
def AgreeT (r : Except Nat (Ty × TS × List Tok)) (q : Ty × TS × RS) : Prop := match r with
  | .ok (t, st, l) => q = (t, st, ⟨l, none⟩) ∧ TL l
  | .error p => q.2.2.bad = some p
mutual
theorem whole_agree : ∀ (K : Nat) (st : TS) (l : List Tok) (r : Except Nat (Ty × TS × List Tok)), TL l → qWhole K st l = some r → ∃ q, rWhole K st ⟨l, none⟩ = some q ∧ AgreeT r q
  | 0, _, _, _, _, h => by simp [qWhole] at h
  | K + 1, st, l, r, hl, h => by
    rw [rWhole]
    rw [qWhole] at h
    cases hp : qOne K st l with
    | none => rw [hp] at h; cases h
    | some r1 =>
      obtain ⟨q, g1, g2⟩ := one_agree K st _ r1 hl hp
      rw [hp] at h; rw [g1]
      simp only [Option.bind_some]
      cases r1 with
      | error p =>
        simp only [Res.bind, Option.some.injEq] at h; subst h
        have g2 : q.2.2.bad = some p := g2
        rw [bad_is g2]
        exact ⟨_, rfl, g2⟩
      | ok v =>
        obtain ⟨t, st1, l1⟩ := v
        obtain ⟨rfl, g3⟩ := g2
        simp only [Res.bind, good_is, decide_eq_true_eq] at h ⊢
        by_cases h5 : (hd l1).kind = .kw ARROW
        · rw [if_pos h5] at h ⊢
          cases hp2 : qWhole K st1 (adv l1) with
          | none => rw [hp2] at h; cases h
          | some r2 =>
            obtain ⟨q2, g4, g5⟩ := whole_agree K st1 _ r2 (adv_tl g3) hp2
            rw [hp2] at h
            rw [show (RS.mk l1 none).step = ⟨adv l1, none⟩ from rfl, g4]
            simp only [Option.bind_some]
            cases r2 with
            | error p => simp only [Option.some.injEq] at h; subst h; exact ⟨_, rfl, g5⟩
            | ok v2 =>
              obtain ⟨u, st2, l2⟩ := v2
              obtain ⟨rfl, g6⟩ := g5
              simp only [Option.some.injEq] at h; subst h
              exact ⟨_, rfl, rfl, g6⟩
        · rw [if_neg h5] at h ⊢
          simp only [Option.some.injEq] at h; subst h
          exact ⟨_, rfl, rfl, g3⟩
theorem one_agree : ∀ (K : Nat) (st : TS) (l : List Tok) (r : Except Nat (Ty × TS × List Tok)), TL l → qOne K st l = some r → ∃ q, rOne K st ⟨l, none⟩ = some q ∧ AgreeT r q
  | 0, _, _, _, _, h => by simp [qOne] at h
  | K + 1, st, l, r, hl, h => by
    rw [rOne]
    rw [qOne] at h
    simp only [good_is, decide_eq_true_eq]
    by_cases h1 : (hd l).kind = .kw INT
    · rw [if_pos h1] at h ⊢
      simp only [Option.some.injEq] at h; subst h
      exact ⟨_, rfl, rfl, adv_tl hl⟩
    · rw [if_neg h1] at h ⊢
      by_cases h2 : (hd l).kind = .kw BOOL
      · rw [if_pos h2] at h ⊢
        simp only [Option.some.injEq] at h; subst h
        exact ⟨_, rfl, rfl, adv_tl hl⟩
      · rw [if_neg h2] at h ⊢
        by_cases h3 : (hd l).kind = .kw LB
        · rw [if_pos h3] at h ⊢
          cases hp : qWhole K st (adv l) with
          | none => rw [hp] at h; cases h
          | some r1 =>
            obtain ⟨q, g1, g2⟩ := whole_agree K st _ r1 (adv_tl hl) hp
            rw [hp] at h
            rw [show (RS.mk l none).step = ⟨adv l, none⟩ from rfl, g1]
            simp only [Option.bind_some]
            cases r1 with
            | error p =>
              simp only [Res.bind, Option.some.injEq] at h; subst h
              have g2 : q.2.2.bad = some p := g2
              rw [bad_need g2]
              exact ⟨_, rfl, g2⟩
            | ok v =>
              obtain ⟨t, st1, l1⟩ := v
              obtain ⟨rfl, g3⟩ := g2
              simp only [Res.bind] at h
              rcases want_need (l := l1) (k := .kw RB) with ⟨m2, i1, i2, i3, i4⟩ | ⟨i1, i2⟩
              · rw [i1] at h; rw [i3]
                simp only [Option.some.injEq] at h; subst h
                exact ⟨_, rfl, rfl, adv_tl g3⟩
              · rw [i1] at h; rw [i2]
                simp only [Option.some.injEq] at h; subst h
                exact ⟨_, rfl, rfl⟩
        · rw [if_neg h3] at h ⊢
          by_cases h4 : (hd l).kind = .kw LP
          · rw [if_pos h4] at h ⊢
            cases hp : qWhole K st (adv l) with
            | none => rw [hp] at h; cases h
            | some r1 =>
              obtain ⟨q, g1, g2⟩ := whole_agree K st _ r1 (adv_tl hl) hp
              rw [hp] at h
              rw [show (RS.mk l none).step = ⟨adv l, none⟩ from rfl, g1]
              simp only [Option.bind_some]
              cases r1 with
              | error p =>
                simp only [Res.bind, Option.some.injEq] at h; subst h
                have g2 : q.2.2.bad = some p := g2
                rw [bad_is g2, bad_need g2]
                exact ⟨_, rfl, g2⟩
              | ok v =>
                obtain ⟨t, st1, l1⟩ := v
                obtain ⟨rfl, g3⟩ := g2
                simp only [Res.bind, good_is, decide_eq_true_eq] at h ⊢
                by_cases h5 : (hd l1).kind = .kw COMMA
                · rw [if_pos h5] at h ⊢
                  cases hp2 : qWhole K st1 (adv l1) with
                  | none => rw [hp2] at h; cases h
                  | some r2 =>
                    obtain ⟨q2, g4, g5⟩ := whole_agree K st1 _ r2 (adv_tl g3) hp2
                    rw [hp2] at h
                    rw [show (RS.mk l1 none).step = ⟨adv l1, none⟩ from rfl, g4]
                    simp only [Option.bind_some]
                    cases r2 with
                    | error p =>
                      simp only [Option.some.injEq] at h; subst h
                      have g5 : q2.2.2.bad = some p := g5
                      rw [bad_need g5]
                      exact ⟨_, rfl, g5⟩
                    | ok v2 =>
                      obtain ⟨u, st2, l2⟩ := v2
                      obtain ⟨rfl, g6⟩ := g5
                      simp only at h
                      rcases want_need (l := l2) (k := .kw RP) with ⟨m2, i1, i2, i3, i4⟩ | ⟨i1, i2⟩
                      · rw [i1] at h; rw [i3]
                        simp only [Option.some.injEq] at h; subst h
                        exact ⟨_, rfl, rfl, adv_tl g6⟩
                      · rw [i1] at h; rw [i2]
                        simp only [Option.some.injEq] at h; subst h
                        exact ⟨_, rfl, rfl⟩
                · rw [if_neg h5] at h ⊢
                  rcases want_need (l := l1) (k := .kw RP) with ⟨m2, i1, i2, i3, i4⟩ | ⟨i1, i2⟩
                  · rw [i1] at h; rw [i3]
                    simp only [Option.some.injEq] at h; subst h
                    exact ⟨_, rfl, rfl, adv_tl g3⟩
                  · rw [i1] at h; rw [i2]
                    simp only [Option.some.injEq] at h; subst h
                    exact ⟨_, rfl, rfl⟩
          · rw [if_neg h4] at h ⊢
            rcases want_need (l := l) (k := .name) with ⟨n, i1, rfl, i3, i4⟩ | ⟨i1, i2⟩
            · rw [i1] at h; rw [i3]
              simp only [Res.bind, Option.isSome_none, Bool.false_eq_true, if_false] at h ⊢
              cases hlk : st.m.lookup (hd l).text with
              | some v =>
                rw [hlk] at h
                simp only [Option.some.injEq] at h; subst h
                exact ⟨_, rfl, rfl, adv_tl hl⟩
              | none =>
                rw [hlk] at h
                simp only at h ⊢
                split at h
                · rename_i hn
                  rw [if_pos hn]
                  simp only [Option.some.injEq] at h; subst h
                  exact ⟨_, rfl, rfl, adv_tl hl⟩
                · cases h
            · rw [i1] at h; rw [i2]
              simp only [Res.bind, Option.some.injEq] at h; subst h
              exact ⟨_, rfl, rfl⟩
end
end Go.Proofs.YtabikmkoajdhmaaDoor
