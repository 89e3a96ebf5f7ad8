/- typerref's reading of expressions, as plain functions that go the way of the code; that they agree with the reading of the program's side. No program in sight. -/
import Derived.Test.YtabikmkoajdhmaaDoorQ04
set_option linter.unusedVariables false
set_option linter.unusedSimpArgs false
set_option linter.unnecessarySimpa false
namespace Go.Proofs.YtabikmkoajdhmaaDoor
open Go.RowKit

/-- A list of tokens that ends with the end, or with what is no token. -/
inductive TL : List Tok → Prop
  | last {t : Tok} : t.stop = true → TL [t]
  | cons {t : Tok} {r : List Tok} : t.stop = false → TL r → TL (t :: r)
theorem TL.ne {l : List Tok} (h : TL l) : l ≠ [] := by cases h <;> simp
theorem TL.step {l : List Tok} (h : TL l) (hs : (hd l).stop = false) : ∃ t r, l = t :: r ∧ TL r ∧ adv l = r := by
  cases h with
  | last h1 => simp [hd, h1] at hs
  | @cons t r h1 h2 =>
    cases h2 with
    | last h3 => exact ⟨_, _, rfl, .last h3, rfl⟩
    | cons h3 h4 => exact ⟨_, _, rfl, .cons h3 h4, rfl⟩
theorem toks_tl (kw : Str → Bool) (s : Str) : ∀ (n i : Nat), i ≤ s.length → s.length - i ≤ n → TL (toks kw s i)
  | n, i, hi, hn => by
    rw [toks_step kw s i hi]
    have h := lexAt_le kw s i hi
    cases hs : (lexAt kw s i).1.stop with
    | true => exact .last hs
    | false =>
      have h3 := h.2.2.1 hs
      have h2 := h.2.1
      refine .cons hs ?_
      simp only [Bool.false_eq_true, if_false]
      cases n with
      | zero => omega
      | succ n => exact toks_tl kw s n _ h2 (by omega)
theorem adv_tl {l : List Tok} (h : TL l) : TL (adv l) := by
  cases h with
  | last h1 => exact .last h1
  | cons h1 h2 => cases h2 with
    | last h3 => exact .last h3
    | cons h3 h4 => exact .cons h3 h4

/-- A reader's state: the tokens that are left; the first place that is wrong. -/
structure RS where
  l : List Tok
  bad : Option Nat
def RS.isK (s : RS) (k : TK) : Bool := s.bad.isNone && decide ((hd s.l).kind = k)
def RS.step (s : RS) : RS := ⟨adv s.l, s.bad⟩
def RS.need (s : RS) (k : TK) : RS := if s.isK k then s.step else if s.bad.isNone then ⟨s.l, some (hd s.l).pos⟩ else s
def RS.dup (s : RS) (d : Bool) (at' : Nat) : RS := if s.bad.isNone && d then ⟨s.l, some at'⟩ else s
def ltOf (n : Str) (a e : Ex) : Ex := .lt n a e

mutual
def rExp : Nat → RS → Option (Ex × RS)
  | 0, _ => none
  | f + 1, s =>
    if s.bad.isSome then some (.num [], s)
    else if s.isK (.kw FUN) then (rExp f ((s.step.need .name).need (.kw ARROW))).bind fun q => some (.fn (hd s.step.l).text q.1, q.2)
    else if s.isK (.kw IF) then (rExp f s.step).bind fun q1 => (rExp f (q1.2.need (.kw THEN))).bind fun q2 => (rExp f (q2.2.need (.kw ELSE))).bind fun q3 => some (.ite q1.1 q2.1 q3.1, q3.2)
    else if s.isK (.kw LET) then
      if s.step.isK (.kw REC) then rRec f [] s.step.step
      else (rExp f ((s.step.need .name).need (.kw EQ))).bind fun q1 => (rExp f (q1.2.need (.kw IN))).bind fun q2 => some (.lt (hd s.step.l).text q1.1 q2.1, q2.2)
    else (rAtom f s).bind fun q => rApps f q.1 q.2
def rApps : Nat → Ex → RS → Option (Ex × RS)
  | 0, _, _ => none
  | f + 1, x, s =>
    if s.isK .name || s.isK .num || s.isK (.kw LP) then (rAtom f s).bind fun q => rApps f (.app x q.1) q.2
    else some (x, s)
def rRec : Nat → List (Str × Ex) → RS → Option (Ex × RS)
  | 0, _, _ => none
  | f + 1, acc, s =>
    (rExp f (((s.need .name).dup (acc.any (fun b => b.1 == (hd s.l).text)) (hd s.l).pos).need (.kw EQ))).bind fun q =>
      if q.2.isK (.kw AND) then rRec f (acc ++ [((hd s.l).text, q.1)]) q.2.step
      else (rExp f (q.2.need (.kw IN))).bind fun q2 => some (.rc (Bs.of (acc ++ [((hd s.l).text, q.1)])) q2.1, q2.2)
def rAtom : Nat → RS → Option (Ex × RS)
  | 0, _ => none
  | f + 1, s =>
    if s.isK .name then some (.name (hd s.l).pos (hd s.l).text, s.step)
    else if s.isK .num then some (.num (hd s.l).text, s.step)
    else (rExp f (s.need (.kw LP))).bind fun q =>
      if q.2.isK (.kw COMMA) then (rExp f q.2.step).bind fun q2 => some (.pair q.1 q2.1, q2.2.need (.kw RP))
      else some (q.1, q.2.need (.kw RP))
end

/-! ### agreement -/
def Agree (r : Except Nat (Ex × List Tok)) (q : Ex × RS) : Prop := match r with
  | .ok (x, l) => q = (x, ⟨l, none⟩) ∧ TL l
  | .error p => q.2.bad = some p
theorem bad_is {s : RS} {p : Nat} (h : s.bad = some p) (k : TK) : s.isK k = false := by simp [RS.isK, h]
theorem bad_need {s : RS} {p : Nat} (h : s.bad = some p) (k : TK) : s.need k = s := by simp [RS.need, RS.isK, h]
theorem bad_dup {s : RS} {p : Nat} (h : s.bad = some p) (d : Bool) (a : Nat) : s.dup d a = s := by simp [RS.dup, h]
theorem bad_exp {s : RS} {p : Nat} (h : s.bad = some p) (f : Nat) : rExp (f + 1) s = some (.num [], s) := by simp [rExp, h]
theorem good_is (l : List Tok) (k : TK) : (RS.mk l none).isK k = decide ((hd l).kind = k) := by simp [RS.isK]
theorem good_need (l : List Tok) (k : TK) : (RS.mk l none).need k = if (hd l).kind = k then ⟨adv l, none⟩ else ⟨l, some (hd l).pos⟩ := by
  simp only [RS.need, good_is, RS.step, decide_eq_true_eq, Option.isNone_none, if_true]
/-- want against need. -/
theorem want_need {l : List Tok} {k : TK} : (∃ x, want k l = some (.ok (x, adv l)) ∧ x = (hd l).text ∧ (RS.mk l none).need k = ⟨adv l, none⟩ ∧ (hd l).kind = k) ∨ (want k l = some (.error (hd l).pos) ∧ (RS.mk l none).need k = ⟨l, some (hd l).pos⟩) := by
  rw [good_need]
  unfold want
  by_cases h : (hd l).kind = k
  · left; simp [h]
  · right; simp [h]

mutual
theorem exp_agree : ∀ (K : Nat) (l : List Tok) (r : Except Nat (Ex × List Tok)), TL l → pExp K l = some r → ∃ q, rExp (K + 1) ⟨l, none⟩ = some q ∧ Agree r q
  | 0, _, _, _, h => by simp [pExp] at h
  | K + 1, l, r, hl, h => by
    rw [rExp]
    simp only [Option.isSome_none, Bool.false_eq_true, if_false, good_is, RS.step]
    rw [pExp] at h
    by_cases h1 : (hd l).kind = .kw FUN
    · simp only [h1, if_true, decide_true] at h ⊢
      rcases want_need (l := adv l) (k := .name) with ⟨n, e1, e2, e3, e4⟩ | ⟨e1, e2⟩
      · rw [e1] at h; rw [e3]
        simp only [Res.bind] at h
        rcases want_need (l := adv (adv l)) (k := .kw ARROW) with ⟨m, f1, f2, f3, f4⟩ | ⟨f1, f2⟩
        · rw [f1] at h; rw [f3]
          simp only at h
          cases hp : pExp K (adv (adv (adv l))) with
          | none => rw [hp] at h; cases h
          | some r1 =>
            obtain ⟨q, g1, g2⟩ := exp_agree K _ r1 (adv_tl (adv_tl (adv_tl hl))) hp
            rw [hp] at h; rw [g1]
            cases r1 with
            | error p => simp only [Option.some.injEq] at h; subst h; exact ⟨_, rfl, g2⟩
            | ok v =>
              obtain ⟨b, l3⟩ := v
              simp only [Option.some.injEq] at h; subst h
              obtain ⟨rfl, g3⟩ := g2
              exact ⟨_, rfl, by rw [e2], g3⟩
        · rw [f1] at h; rw [f2]
          simp only [Option.some.injEq] at h; subst h
          rw [bad_exp rfl]
          exact ⟨_, rfl, rfl⟩
      · rw [e1] at h; rw [e2, bad_need rfl]
        simp only [Res.bind, Option.some.injEq] at h; subst h
        rw [bad_exp rfl]
        exact ⟨_, rfl, rfl⟩
    · simp only [h1, if_false, decide_false, Bool.false_eq_true] at h ⊢
      by_cases h2 : (hd l).kind = .kw IF
      · simp only [h2, if_true, decide_true] at h ⊢
        cases hp : pExp K (adv l) with
        | none => rw [hp] at h; cases h
        | some r1 =>
          obtain ⟨q, g1, g2⟩ := exp_agree K _ r1 (adv_tl hl) hp
          rw [hp] at h; rw [g1]
          simp only [Option.bind_some]
          cases r1 with
          | error p =>
            simp only [Res.bind, Option.some.injEq] at h; subst h
            have g2 : q.2.bad = some p := g2
            rw [bad_need g2]
            cases K with
            | zero => simp [pExp] at hp
            | succ K =>
              rw [bad_exp g2]; simp only [Option.bind_some]
              rw [bad_need g2, bad_exp g2]
              exact ⟨_, rfl, g2⟩
          | ok v =>
            obtain ⟨c, l1⟩ := v
            obtain ⟨rfl, g3⟩ := g2
            simp only [Res.bind] at h
            simp only
            rcases want_need (l := l1) (k := .kw THEN) with ⟨n, e1, e2, e3, e4⟩ | ⟨e1, e2⟩
            · rw [e1] at h; rw [e3]
              simp only at h
              cases hp2 : pExp K (adv l1) with
              | none => rw [hp2] at h; cases h
              | some r2 =>
                obtain ⟨q2, g4, g5⟩ := exp_agree K _ r2 (adv_tl g3) hp2
                rw [hp2] at h; rw [g4]
                simp only [Option.bind_some]
                cases r2 with
                | error p =>
                  simp only [Option.some.injEq] at h; subst h
                  have g5 : q2.2.bad = some p := g5
                  rw [bad_need g5]
                  cases K with
                  | zero => simp [pExp] at hp
                  | succ K => rw [bad_exp g5]; exact ⟨_, rfl, g5⟩
                | ok v2 =>
                  obtain ⟨a, l3⟩ := v2
                  obtain ⟨rfl, g6⟩ := g5
                  simp only at h ⊢
                  rcases want_need (l := l3) (k := .kw ELSE) with ⟨n, e1, e2, e3, e4⟩ | ⟨e1, e2⟩
                  · rw [e1] at h; rw [e3]
                    simp only at h
                    cases hp3 : pExp K (adv l3) with
                    | none => rw [hp3] at h; cases h
                    | some r3 =>
                      obtain ⟨q3, g7, g8⟩ := exp_agree K _ r3 (adv_tl g6) hp3
                      rw [hp3] at h; rw [g7]
                      cases r3 with
                      | error p => simp only [Option.some.injEq] at h; subst h; exact ⟨_, rfl, g8⟩
                      | ok v3 =>
                        obtain ⟨b, l5⟩ := v3
                        simp only [Option.some.injEq] at h; subst h
                        obtain ⟨rfl, g9⟩ := g8
                        exact ⟨_, rfl, rfl, g9⟩
                  · rw [e1] at h; rw [e2]
                    simp only [Option.some.injEq] at h; subst h
                    rw [bad_exp rfl]
                    exact ⟨_, rfl, rfl⟩
            · rw [e1] at h; rw [e2]
              simp only [Option.some.injEq] at h; subst h
              rw [bad_exp rfl]; simp only [Option.bind_some]
              rw [bad_need rfl, bad_exp rfl]
              exact ⟨_, rfl, rfl⟩
      · simp only [h2, if_false, decide_false, Bool.false_eq_true] at h ⊢
        by_cases h3 : (hd l).kind = .kw LET
        · simp only [h3, if_true, decide_true] at h ⊢
          by_cases h4 : (hd (adv l)).kind = .kw REC
          · simp only [h4, if_true, decide_true] at h ⊢
            exact rec_agree K [] _ r (adv_tl (adv_tl hl)) h
          · simp only [h4, if_false, decide_false, Bool.false_eq_true] at h ⊢
            rcases want_need (l := adv l) (k := .name) with ⟨n, e1, e2, e3, e4⟩ | ⟨e1, e2⟩
            · rw [e1] at h; rw [e3]
              simp only [Res.bind] at h
              rcases want_need (l := adv (adv l)) (k := .kw EQ) with ⟨m, f1, f2, f3, f4⟩ | ⟨f1, f2⟩
              · rw [f1] at h; rw [f3]
                simp only at h
                cases hp : pExp K (adv (adv (adv l))) with
                | none => rw [hp] at h; cases h
                | some r1 =>
                  obtain ⟨q, g1, g2⟩ := exp_agree K _ r1 (adv_tl (adv_tl (adv_tl hl))) hp
                  rw [hp] at h; rw [g1]
                  simp only [Option.bind_some]
                  cases r1 with
                  | error p =>
                    simp only [Option.some.injEq] at h; subst h
                    have g2 : q.2.bad = some p := g2
                    rw [bad_need g2]
                    cases K with
                    | zero => simp [pExp] at hp
                    | succ K => rw [bad_exp g2]; exact ⟨_, rfl, g2⟩
                  | ok v =>
                    obtain ⟨a, l3⟩ := v
                    obtain ⟨rfl, g3⟩ := g2
                    simp only at h ⊢
                    rcases want_need (l := l3) (k := .kw IN) with ⟨m2, i1, i2, i3, i4⟩ | ⟨i1, i2⟩
                    · rw [i1] at h; rw [i3]
                      simp only at h
                      cases hp3 : pExp K (adv l3) with
                      | none => rw [hp3] at h; cases h
                      | some r3 =>
                        obtain ⟨q3, g7, g8⟩ := exp_agree K _ r3 (adv_tl g3) hp3
                        rw [hp3] at h; rw [g7]
                        cases r3 with
                        | error p => simp only [Option.some.injEq] at h; subst h; exact ⟨_, rfl, g8⟩
                        | ok v3 =>
                          obtain ⟨b, l5⟩ := v3
                          simp only [Option.some.injEq] at h; subst h
                          obtain ⟨rfl, g9⟩ := g8
                          exact ⟨_, rfl, by rw [e2], g9⟩
                    · rw [i1] at h; rw [i2]
                      simp only [Option.some.injEq] at h; subst h
                      rw [bad_exp rfl]
                      exact ⟨_, rfl, rfl⟩
              · rw [f1] at h; rw [f2]
                simp only [Option.some.injEq] at h; subst h
                rw [bad_exp rfl]; simp only [Option.bind_some]
                rw [bad_need rfl, bad_exp rfl]
                exact ⟨_, rfl, rfl⟩
            · rw [e1] at h; rw [e2, bad_need rfl]
              simp only [Res.bind, Option.some.injEq] at h; subst h
              rw [bad_exp rfl]; simp only [Option.bind_some]
              rw [bad_need rfl, bad_exp rfl]
              exact ⟨_, rfl, rfl⟩
        · simp only [h3, if_false, decide_false, Bool.false_eq_true] at h ⊢
          cases hp : pAtom K l with
          | none => rw [hp] at h; cases h
          | some r1 =>
            obtain ⟨q, g1, g2⟩ := atom_agree K _ r1 hl hp
            rw [hp] at h; rw [g1]
            simp only [Option.bind_some]
            cases r1 with
            | error p =>
              simp only [Res.bind, Option.some.injEq] at h; subst h
              have g2 : q.2.bad = some p := g2
              refine ⟨q, ?_, g2⟩
              rw [rApps]; simp [bad_is g2]
            | ok v =>
              obtain ⟨x, l1⟩ := v
              obtain ⟨rfl, g3⟩ := g2
              simp only [Res.bind] at h
              exact apps_agree K x l1 r g3 h
theorem apps_agree : ∀ (K : Nat) (x : Ex) (l : List Tok) (r : Except Nat (Ex × List Tok)), TL l → pApps K x l = some r → ∃ q, rApps (K + 1) x ⟨l, none⟩ = some q ∧ Agree r q
  | 0, _, _, _, _, h => by simp [pApps] at h
  | K + 1, x, l, r, hl, h => by
    rw [rApps]
    rw [pApps] at h
    simp only [good_is, Bool.or_eq_true, decide_eq_true_eq]
    by_cases h1 : (hd l).kind = .name ∨ (hd l).kind = .num ∨ (hd l).kind = .kw LP
    · rw [if_pos h1] at h
      rw [if_pos (by rcases h1 with h1 | h1 | h1 <;> simp [h1])]
      cases hp : pAtom K l with
      | none => rw [hp] at h; cases h
      | some r1 =>
        obtain ⟨q, g1, g2⟩ := atom_agree K _ r1 hl hp
        rw [hp] at h; rw [g1]
        simp only [Option.bind_some]
        cases r1 with
        | error p =>
          simp only [Res.bind, Option.some.injEq] at h; subst h
          have g2 : q.2.bad = some p := g2
          refine ⟨(.app x q.1, q.2), ?_, g2⟩
          rw [rApps]; simp only [bad_is g2, Bool.or_self, Bool.false_eq_true, if_false]
        | ok v =>
          obtain ⟨y, l1⟩ := v
          obtain ⟨rfl, g3⟩ := g2
          simp only [Res.bind] at h
          exact apps_agree K _ l1 r g3 h
    · rw [if_neg h1] at h
      rw [if_neg (by intro h2; exact h1 (by rcases h2 with (h2 | h2) | h2 <;> simp [h2]))]
      simp only [Option.some.injEq] at h; subst h
      exact ⟨_, rfl, rfl, hl⟩
theorem rec_agree : ∀ (K : Nat) (acc : List (Str × Ex)) (l : List Tok) (r : Except Nat (Ex × List Tok)), TL l → pRec K acc l = some r → ∃ q, rRec (K + 1) acc ⟨l, none⟩ = some q ∧ Agree r q
  | 0, _, _, _, _, h => by simp [pRec] at h
  | K + 1, acc, l, r, hl, h => by
    rw [rRec]
    rw [pRec] at h
    rcases want_need (l := l) (k := .name) with ⟨n, e1, rfl, e3, e4⟩ | ⟨e1, e2⟩
    · rw [e1] at h; rw [e3]
      simp only [Res.bind] at h
      cases hd' : acc.any (fun b => b.1 == (hd l).text) with
      | true =>
        rw [hd'] at h
        simp only [if_true, Option.some.injEq] at h; subst h
        simp only [RS.dup, Option.isNone_none, Bool.and_self, if_true]
        rw [bad_need rfl, bad_exp rfl]; simp only [Option.bind_some]
        rw [bad_is rfl, bad_need rfl, bad_exp rfl]
        exact ⟨_, rfl, rfl⟩
      | false =>
        rw [hd'] at h
        simp only [Bool.false_eq_true, if_false] at h
        simp only [RS.dup, Bool.and_false, Bool.false_eq_true, if_false]
        rcases want_need (l := adv l) (k := .kw EQ) with ⟨m, f1, f2, f3, f4⟩ | ⟨f1, f2⟩
        · rw [f1] at h; rw [f3]
          simp only at h
          cases hp : pExp K (adv (adv l)) with
          | none => rw [hp] at h; cases h
          | some r1 =>
            obtain ⟨q, g1, g2⟩ := exp_agree K _ r1 (adv_tl (adv_tl hl)) hp
            rw [hp] at h; rw [g1]
            simp only [Option.bind_some]
            cases r1 with
            | error p =>
              simp only [Option.some.injEq] at h; subst h
              have g2 : q.2.bad = some p := g2
              rw [bad_is g2, bad_need g2]
              cases K with
              | zero => simp [pExp] at hp
              | succ K => rw [bad_exp g2]; exact ⟨_, rfl, g2⟩
            | ok v =>
              obtain ⟨b, l3⟩ := v
              obtain ⟨rfl, g3⟩ := g2
              simp only [good_is, decide_eq_true_eq] at h ⊢
              by_cases h5 : (hd l3).kind = .kw AND
              · rw [if_pos h5] at h ⊢
                exact rec_agree K _ _ r (adv_tl g3) h
              · rw [if_neg h5] at h ⊢
                rcases want_need (l := l3) (k := .kw IN) with ⟨m2, i1, i2, i3, i4⟩ | ⟨i1, i2⟩
                · rw [i1] at h; rw [i3]
                  simp only at h
                  cases hp3 : pExp K (adv l3) with
                  | none => rw [hp3] at h; cases h
                  | some r3 =>
                    obtain ⟨q3, g7, g8⟩ := exp_agree K _ r3 (adv_tl g3) hp3
                    rw [hp3] at h; rw [g7]
                    cases r3 with
                    | error p => simp only [Option.some.injEq] at h; subst h; exact ⟨_, rfl, g8⟩
                    | ok v3 =>
                      obtain ⟨e, l5⟩ := v3
                      simp only [Option.some.injEq] at h; subst h
                      obtain ⟨rfl, g9⟩ := g8
                      exact ⟨_, rfl, rfl, g9⟩
                · rw [i1] at h; rw [i2]
                  simp only [Option.some.injEq] at h; subst h
                  rw [bad_exp rfl]
                  exact ⟨_, rfl, rfl⟩
        · rw [f1] at h; rw [f2]
          simp only [Option.some.injEq] at h; subst h
          rw [bad_exp rfl]; simp only [Option.bind_some]
          rw [bad_is rfl, bad_need rfl, bad_exp rfl]
          exact ⟨_, rfl, rfl⟩
    · rw [e1] at h; rw [e2, bad_dup rfl, bad_need rfl]
      simp only [Res.bind, Option.some.injEq] at h; subst h
      rw [bad_exp rfl]; simp only [Option.bind_some]
      rw [bad_is rfl, bad_need rfl, bad_exp rfl]
      exact ⟨_, rfl, rfl⟩
theorem atom_agree : ∀ (K : Nat) (l : List Tok) (r : Except Nat (Ex × List Tok)), TL l → pAtom K l = some r → ∃ q, rAtom (K + 1) ⟨l, none⟩ = some q ∧ Agree r q
  | 0, _, _, _, h => by simp [pAtom] at h
  | K + 1, l, r, hl, h => by
    rw [rAtom]
    rw [pAtom] at h
    simp only [good_is, RS.step, decide_eq_true_eq]
    by_cases h1 : (hd l).kind = .name
    · rw [if_pos h1] at h ⊢
      simp only [Option.some.injEq] at h; subst h
      exact ⟨_, rfl, rfl, adv_tl hl⟩
    · rw [if_neg h1] at h ⊢
      by_cases h2 : (hd l).kind = .num
      · rw [if_pos h2] at h ⊢
        simp only [Option.some.injEq] at h; subst h
        exact ⟨_, rfl, rfl, adv_tl hl⟩
      · rw [if_neg h2] at h ⊢
        rcases want_need (l := l) (k := .kw LP) with ⟨n, e1, e2, e3, e4⟩ | ⟨e1, e2⟩
        · rw [e1] at h; rw [e3]
          simp only [Res.bind] at h
          cases hp : pExp K (adv l) with
          | none => rw [hp] at h; cases h
          | some r1 =>
            obtain ⟨q, g1, g2⟩ := exp_agree K _ r1 (adv_tl hl) hp
            rw [hp] at h; rw [g1]
            simp only [Option.bind_some]
            cases r1 with
            | error p =>
              simp only [Option.some.injEq] at h; subst h
              have g2 : q.2.bad = some p := g2
              rw [bad_is g2, bad_need g2]
              exact ⟨_, rfl, g2⟩
            | ok v =>
              obtain ⟨x, l2⟩ := v
              obtain ⟨rfl, g3⟩ := g2
              simp only [good_is, decide_eq_true_eq] at h ⊢
              by_cases h5 : (hd l2).kind = .kw COMMA
              · rw [if_pos h5] at h ⊢
                cases hp2 : pExp K (adv l2) with
                | none => rw [hp2] at h; cases h
                | some r2 =>
                  obtain ⟨q2, g4, g5⟩ := exp_agree K _ r2 (adv_tl g3) hp2
                  rw [hp2] at h; rw [g4]
                  simp only [Option.bind_some]
                  cases r2 with
                  | error p =>
                    simp only [Option.some.injEq] at h; subst h
                    have g5 : q2.2.bad = some p := g5
                    rw [bad_need g5]
                    exact ⟨_, rfl, g5⟩
                  | ok v2 =>
                    obtain ⟨y, l3⟩ := v2
                    obtain ⟨rfl, g6⟩ := g5
                    simp only at h ⊢
                    rcases want_need (l := l3) (k := .kw RP) with ⟨m2, i1, i2, i3, i4⟩ | ⟨i1, i2⟩
                    · rw [i1] at h; rw [i3]
                      simp only [Option.some.injEq] at h; subst h
                      exact ⟨_, rfl, rfl, adv_tl g6⟩
                    · rw [i1] at h; rw [i2]
                      simp only [Option.some.injEq] at h; subst h
                      exact ⟨_, rfl, rfl⟩
              · rw [if_neg h5] at h ⊢
                rcases want_need (l := l2) (k := .kw RP) with ⟨m2, i1, i2, i3, i4⟩ | ⟨i1, i2⟩
                · rw [i1] at h; rw [i3]
                  simp only [Option.some.injEq] at h; subst h
                  exact ⟨_, rfl, rfl, adv_tl g3⟩
                · rw [i1] at h; rw [i2]
                  simp only [Option.some.injEq] at h; subst h
                  exact ⟨_, rfl, rfl⟩
        · rw [e1] at h; rw [e2, bad_exp rfl]
          simp only [Res.bind, Option.some.injEq] at h; subst h
          simp only [Option.bind_some]
          rw [bad_is rfl, bad_need rfl]
          exact ⟨_, rfl, rfl⟩
end
theorem exp_good {f : Nat} {s : RS} {q : Ex × RS} (h : rExp f s = some q) (hb : q.2.bad = none) : s.bad = none := by
  cases hs : s.bad with
  | none => rfl
  | some p =>
    cases f with
    | zero => simp [rExp] at h
    | succ f => rw [bad_exp hs] at h; injection h with h; subst h; rw [hb] at hs; cases hs
end Go.Proofs.YtabikmkoajdhmaaDoor
