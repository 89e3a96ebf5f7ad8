/- The reference's reading of a type, whole: what it comes to is what the program's reads; its size. No program in sight. -/
import Derived.Test.YtabikmkoajdhmaaDoorTrTSpec
import Derived.Test.YtabikmkoajdhmaaDoorTrTot
import Derived.Test.YtabikmkoajdhmaaDoorTrMatch
set_option linter.unusedVariables false
set_option linter.unusedSimpArgs false
set_option linter.unnecessarySimpa false
namespace Go.Proofs.YtabikmkoajdhmaaDoor
open Go.RowKit

def SzP (n : Nat) (r : Res (Ty × TS × List Tok)) : Prop := ∀ t st l', r = some (.ok (t, st, l')) → TG l' ∧ t.size + l'.length ≤ n
theorem want_lt {l : List Tok} (h : TG l) {k : TK} (hs : k ≠ .fin ∧ k ≠ .bad) {x : Str} {l' : List Tok} (e : want k l = some (.ok (x, l'))) : TG l' ∧ l'.length + 1 = l.length := by
  obtain ⟨h1, _, h3⟩ := want_some e
  simp only at h3
  subst h3
  exact ⟨h.adv, adv_lt h h1 hs⟩
mutual
theorem whole_sz : ∀ (k : Nat) (st : TS) (l : List Tok), TG l → SzP l.length (qWhole k st l)
  | 0, _, _, _ => fun t st l' h => by simp [qWhole] at h
  | k + 1, st, l, hl => fun t st' l' h => by
    simp only [qWhole] at h
    obtain ⟨⟨t1, s1, l1⟩, h1, h2⟩ := Res.bind_ok h
    obtain ⟨g1, z1⟩ := one_sz k st l hl _ _ _ h1
    simp only at h2
    split at h2
    · rename_i ha
      obtain ⟨⟨t2, s2, l2⟩, h3, h4⟩ := Res.bind_ok h2
      obtain ⟨g2, z2⟩ := whole_sz k _ _ g1.adv _ _ _ h3
      have := adv_lt g1 ha (by simp)
      simp only [Option.some.injEq, Except.ok.injEq, Prod.mk.injEq] at h4
      obtain ⟨rfl, rfl, rfl⟩ := h4
      exact ⟨g2, by simp only [Ty.size]; omega⟩
    · simp only [Option.some.injEq, Except.ok.injEq, Prod.mk.injEq] at h2
      obtain ⟨rfl, rfl, rfl⟩ := h2
      exact ⟨g1, z1⟩
theorem one_sz : ∀ (k : Nat) (st : TS) (l : List Tok), TG l → SzP l.length (qOne k st l)
  | 0, _, _, _ => fun t st l' h => by simp [qOne] at h
  | k + 1, st, l, hl => fun t st' l' h => by
    simp only [qOne] at h
    by_cases a1 : (hd l).kind = .kw INT
    · rw [if_pos a1] at h
      simp only [Option.some.injEq, Except.ok.injEq, Prod.mk.injEq] at h
      obtain ⟨rfl, rfl, rfl⟩ := h
      have := adv_lt hl a1 (by simp)
      exact ⟨hl.adv, by simp only [Ty.size]; omega⟩
    rw [if_neg a1] at h
    by_cases a2 : (hd l).kind = .kw BOOL
    · rw [if_pos a2] at h
      simp only [Option.some.injEq, Except.ok.injEq, Prod.mk.injEq] at h
      obtain ⟨rfl, rfl, rfl⟩ := h
      have := adv_lt hl a2 (by simp)
      exact ⟨hl.adv, by simp only [Ty.size]; omega⟩
    rw [if_neg a2] at h
    by_cases a3 : (hd l).kind = .kw LB
    · rw [if_pos a3] at h
      have hh := adv_lt hl a3 (by simp)
      obtain ⟨⟨t1, s1, l1⟩, h1, h2⟩ := Res.bind_ok h
      obtain ⟨g1, z1⟩ := whole_sz k _ _ hl.adv _ _ _ h1
      obtain ⟨⟨x, l2⟩, h3, h4⟩ := Res.bind_ok h2
      obtain ⟨g2, z2⟩ := want_lt g1 (by simp) h3
      simp only [Option.some.injEq, Except.ok.injEq, Prod.mk.injEq] at h4
      obtain ⟨rfl, rfl, rfl⟩ := h4
      exact ⟨g2, by simp only [Ty.size]; omega⟩
    rw [if_neg a3] at h
    by_cases a4 : (hd l).kind = .kw LP
    · rw [if_pos a4] at h
      have hh := adv_lt hl a4 (by simp)
      obtain ⟨⟨t1, s1, l1⟩, h1, h2⟩ := Res.bind_ok h
      obtain ⟨g1, z1⟩ := whole_sz k _ _ hl.adv _ _ _ h1
      simp only at h2
      by_cases a5 : (hd l1).kind = .kw COMMA
      · rw [if_pos a5] at h2
        have hh2 := adv_lt g1 a5 (by simp)
        obtain ⟨⟨t2, s2, l2⟩, h3, h4⟩ := Res.bind_ok h2
        obtain ⟨g2, z2⟩ := whole_sz k _ _ g1.adv _ _ _ h3
        obtain ⟨⟨x, l3⟩, h5, h6⟩ := Res.bind_ok h4
        obtain ⟨g3, z3⟩ := want_lt g2 (by simp) h5
        simp only [Option.some.injEq, Except.ok.injEq, Prod.mk.injEq] at h6
        obtain ⟨rfl, rfl, rfl⟩ := h6
        exact ⟨g3, by simp only [Ty.size]; omega⟩
      · rw [if_neg a5] at h2
        obtain ⟨⟨x, l3⟩, h5, h6⟩ := Res.bind_ok h2
        obtain ⟨g3, z3⟩ := want_lt g1 (by simp) h5
        simp only [Option.some.injEq, Except.ok.injEq, Prod.mk.injEq] at h6
        obtain ⟨rfl, rfl, rfl⟩ := h6
        exact ⟨g3, by omega⟩
    rw [if_neg a4] at h
    obtain ⟨⟨x, l1⟩, h1, h2⟩ := Res.bind_ok h
    obtain ⟨g1, z1⟩ := want_lt hl (by simp) h1
    simp only at h2
    cases hk : st.m.lookup x with
    | some v =>
      simp only [hk, Option.some.injEq, Except.ok.injEq, Prod.mk.injEq] at h2
      obtain ⟨rfl, rfl, rfl⟩ := h2
      exact ⟨g1, by simp only [Ty.size]; omega⟩
    | none =>
      simp only [hk] at h2
      by_cases hn : st.n < 1000000000
      · simp only [hn, if_true, Option.some.injEq, Except.ok.injEq, Prod.mk.injEq] at h2
        obtain ⟨rfl, rfl, rfl⟩ := h2
        exact ⟨g1, by simp only [Ty.size]; omega⟩
      · simp only [hn, if_false] at h2; cases h2
end
/-- What typerref.Parsed comes to. -/
def refT (q : Ty × TS × RS) : Except Flt (Ty × TS) := match (q.2.2.need .fin).bad with
  | some p => .error { what := 2, pos := p }
  | none => if q.1.size > 120 then .error { what := 8 } else .ok (q.1, q.2.1)
structure RefT (s : Str) (q : Ty × TS × RS) : Prop where
  run : rWhole readFuel ⟨[], 0⟩ ⟨toks kindsB s 0, none⟩ = some q
  rd : readTy s 0 = some (refT q)
  sz : (q.2.2.need .fin).bad = none → q.2.2.bad = none ∧ q.1.size ≤ 301
theorem parsed_ref {s : Str} (h : s.length ≤ 300) : ∃ q, RefT s q := by
  have hto := readTy_total s 0 (by omega)
  have htg := toks_tg (kw := kindsB) h
  have h301 := toks_len301 (kw := kindsB) h
  have hrd : readTy s 0 = readTy s 0 := rfl
  conv at hrd => rhs; unfold readTy
  rw [if_neg (by omega)] at hrd
  cases hp : qWhole readFuel ⟨[], 0⟩ (toks kindsB s 0) with
  | none => rw [hp] at hrd; exact absurd hrd hto
  | some r =>
    obtain ⟨q, hq, ha⟩ := whole_agree readFuel _ _ r htg.tl hp
    rw [hp] at hrd
    cases r with
    | error p =>
      have ha' : q.2.2.bad = some p := ha
      have hn : (q.2.2.need .fin).bad = some p := by rw [bad_need ha']; exact ha'
      exact ⟨q, hq, by rw [hrd]; simp only [Res.bind, refT, hn], fun e => by rw [hn] at e; cases e⟩
    | ok v =>
      obtain ⟨t, st, l⟩ := v
      obtain ⟨rfl, _⟩ := ha
      obtain ⟨hg, hz⟩ := whole_sz readFuel _ _ htg _ _ _ hp
      refine ⟨_, hq, ?_, fun e => ⟨rfl, by simp only; omega⟩⟩
      rw [hrd]
      simp only [refT, good_need, Res.bind, want]
      by_cases hf : (hd l).kind = .fin
      · simp only [if_pos hf]
        split <;> rfl
      · simp only [if_neg hf]
end Go.Proofs.YtabikmkoajdhmaaDoor
