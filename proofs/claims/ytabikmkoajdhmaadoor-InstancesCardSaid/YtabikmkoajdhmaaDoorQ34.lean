/- The reader of types always answers; and answers alike from any counter on. -/
import Derived.Test.YtabikmkoajdhmaaDoorQ31
set_option linter.unusedVariables false
set_option linter.unusedSimpArgs false
set_option linter.unnecessarySimpa false
namespace Go.Proofs.YtabikmkoajdhmaaDoor
open Go.RowKit

/-- Tokens up to the first that is none, or the end. -/
inductive Good : List Tok → Prop
  | last {u : Tok} : u.stop = true → Good [u]
  | cons {x : Tok} {l : List Tok} : x.stop = false → Good l → Good (x :: l)
theorem Good.ne {l : List Tok} (h : Good l) : l ≠ [] := by cases h <;> simp
theorem Good.tl {x : Tok} {l : List Tok} (h : Good (x :: l)) (hs : x.stop = false) : adv (x :: l) = l ∧ Good l := by
  cases h with
  | last h => rw [hs] at h; cases h
  | cons _ h => exact ⟨adv_cons h.ne, h⟩
theorem Good.kind {l : List Tok} {k : TK} (h : Good l) (hk : (hd l).kind = k) (hn : k ≠ .fin ∧ k ≠ .bad) : ∃ x m, l = x :: m ∧ adv l = m ∧ Good m ∧ x.kind = k := by
  cases l with
  | nil => exact absurd rfl h.ne
  | cons x m =>
    have hs : x.stop = false := by
      unfold Tok.stop
      simp only [hd, List.headD_cons] at hk
      rw [hk]
      cases k <;> simp_all
    exact ⟨x, m, rfl, (h.tl hs).1, (h.tl hs).2, by simpa [hd] using hk⟩
theorem Good.wnt {l : List Tok} {k : TK} (h : Good l) (hn : k ≠ .fin ∧ k ≠ .bad) : (∃ p, want k l = some (.error p)) ∨ ∃ x m, l = x :: m ∧ want k l = some (.ok (x.text, m)) ∧ Good m ∧ x.kind = k := by
  by_cases hk : (hd l).kind = k
  · obtain ⟨x, m, rfl, ha, hg, hx⟩ := h.kind hk hn
    exact .inr ⟨x, m, rfl, want_cons hx hg.ne, hg, hx⟩
  · exact .inl ⟨_, by unfold want; rw [if_neg hk]⟩
/-- It answers, and takes some. -/
structure Took (st : TS) (l : List Tok) (r : Res (Ty × TS × List Tok)) : Prop where
  ne : r ≠ none
  ok : ∀ t st' l', r = some (.ok (t, st', l')) → Good l' ∧ l'.length < l.length ∧ st'.n + l'.length ≤ st.n + l.length
theorem Took.err {st : TS} {l : List Tok} {p : Nat} : Took st l (some (.error p)) := ⟨by simp, fun _ _ _ h => by cases h⟩
theorem Took.here {st : TS} {l m : List Tok} {t : Ty} (hg : Good m) (hl : m.length < l.length) : Took st l (some (.ok (t, st, m))) :=
  ⟨by simp, fun _ _ _ h => by
    simp only [Option.some.injEq, Except.ok.injEq, Prod.mk.injEq] at h
    obtain ⟨_, rfl, rfl⟩ := h
    exact ⟨hg, hl, by omega⟩⟩
theorem res_cases {α : Type} (r : Res α) (h : r ≠ none) : (∃ p, r = some (.error p)) ∨ ∃ x, r = some (.ok x) := by
  rcases r with _ | p | x
  · exact absurd rfl h
  · exact .inl ⟨p, rfl⟩
  · exact .inr ⟨x, rfl⟩
mutual
theorem whole_took : ∀ (k : Nat) (st : TS) (l : List Tok), Good l → 2 * l.length + 2 ≤ k → st.n + l.length ≤ 1000000 → Took st l (qWhole k st l)
  | 0, _, _, _, h, _ => by omega
  | k + 1, st, l, hg, hk, hn => by
    have h1 := one_took k st l hg (by omega) hn
    simp only [qWhole]
    rcases res_cases _ h1.ne with ⟨p, e⟩ | ⟨⟨t, s1, l1⟩, e⟩
    · rw [e]; exact .err
    · rw [e]
      obtain ⟨g1, n1, m1⟩ := h1.ok _ _ _ e
      simp only [Res.bind]
      by_cases ha : (hd l1).kind = .kw ARROW
      · rw [if_pos ha]
        obtain ⟨x, m, rfl, ea, gm, _⟩ := g1.kind ha ⟨by simp, by simp⟩
        rw [ea]
        simp only [List.length_cons] at n1 m1
        have h2 := whole_took k s1 m gm (by omega) (by omega)
        rcases res_cases _ h2.ne with ⟨p, e2⟩ | ⟨⟨u, s2, l2⟩, e2⟩
        · rw [e2]; exact .err
        · rw [e2]
          obtain ⟨g2, n2, m2⟩ := h2.ok _ _ _ e2
          exact ⟨by simp, fun _ _ _ h => by
            simp only [Option.some.injEq, Except.ok.injEq, Prod.mk.injEq] at h
            obtain ⟨_, rfl, rfl⟩ := h
            exact ⟨g2, by omega, by omega⟩⟩
      · rw [if_neg ha]
        exact ⟨by simp, fun _ _ _ h => by
          simp only [Option.some.injEq, Except.ok.injEq, Prod.mk.injEq] at h
          obtain ⟨_, rfl, rfl⟩ := h
          exact ⟨g1, n1, m1⟩⟩
theorem one_took : ∀ (k : Nat) (st : TS) (l : List Tok), Good l → 2 * l.length + 1 ≤ k → st.n + l.length ≤ 1000000 → Took st l (qOne k st l)
  | 0, _, _, _, h, _ => by omega
  | k + 1, st, l, hg, hk, hn => by
    simp only [qOne]
    by_cases a1 : (hd l).kind = .kw INT
    · obtain ⟨x, m, rfl, ea, gm, _⟩ := hg.kind a1 ⟨by simp, by simp⟩
      rw [if_pos a1, ea]; exact .here gm (by simp)
    rw [if_neg a1]
    by_cases a2 : (hd l).kind = .kw BOOL
    · obtain ⟨x, m, rfl, ea, gm, _⟩ := hg.kind a2 ⟨by simp, by simp⟩
      rw [if_pos a2, ea]; exact .here gm (by simp)
    rw [if_neg a2]
    by_cases a3 : (hd l).kind = .kw LB
    · obtain ⟨x, m, rfl, ea, gm, _⟩ := hg.kind a3 ⟨by simp, by simp⟩
      rw [if_pos a3, ea]
      simp only [List.length_cons] at hk hn
      have h1 := whole_took k st m gm (by omega) (by omega)
      rcases res_cases _ h1.ne with ⟨p, e⟩ | ⟨⟨t, s1, l1⟩, e⟩
      · rw [e]; exact .err
      · rw [e]
        obtain ⟨g1, n1, m1⟩ := h1.ok _ _ _ e
        simp only [Res.bind]
        rcases g1.wnt (k := .kw RB) ⟨by simp, by simp⟩ with ⟨p, e2⟩ | ⟨y, l2, rfl, e2, g2, _⟩
        · rw [e2]; exact .err
        · rw [e2]
          simp only [List.length_cons] at n1 m1
          exact ⟨by simp, fun _ _ _ h => by
            simp only [Option.some.injEq, Except.ok.injEq, Prod.mk.injEq] at h
            obtain ⟨_, rfl, rfl⟩ := h
            exact ⟨g2, by simp; omega, by simp; omega⟩⟩
    rw [if_neg a3]
    by_cases a4 : (hd l).kind = .kw LP
    · obtain ⟨x, m, rfl, ea, gm, _⟩ := hg.kind a4 ⟨by simp, by simp⟩
      rw [if_pos a4, ea]
      simp only [List.length_cons] at hk hn
      have h1 := whole_took k st m gm (by omega) (by omega)
      rcases res_cases _ h1.ne with ⟨p, e⟩ | ⟨⟨t, s1, l1⟩, e⟩
      · rw [e]; exact .err
      · rw [e]
        obtain ⟨g1, n1, m1⟩ := h1.ok _ _ _ e
        simp only [Res.bind]
        by_cases a5 : (hd l1).kind = .kw COMMA
        · obtain ⟨y, l2, rfl, eb, g2, _⟩ := g1.kind a5 ⟨by simp, by simp⟩
          rw [if_pos a5, eb]
          simp only [List.length_cons] at n1 m1
          have h2 := whole_took k s1 l2 g2 (by omega) (by omega)
          rcases res_cases _ h2.ne with ⟨p, e2⟩ | ⟨⟨u, s2, l3⟩, e2⟩
          · rw [e2]; exact .err
          · rw [e2]
            obtain ⟨g3, n3, m3⟩ := h2.ok _ _ _ e2
            simp only
            rcases g3.wnt (k := .kw RP) ⟨by simp, by simp⟩ with ⟨p, e3⟩ | ⟨z, l4, rfl, e3, g4, _⟩
            · rw [e3]; exact .err
            · rw [e3]
              simp only [List.length_cons] at n3 m3
              exact ⟨by simp, fun _ _ _ h => by
                simp only [Option.some.injEq, Except.ok.injEq, Prod.mk.injEq] at h
                obtain ⟨_, rfl, rfl⟩ := h
                exact ⟨g4, by simp; omega, by simp; omega⟩⟩
        · rw [if_neg a5]
          rcases g1.wnt (k := .kw RP) ⟨by simp, by simp⟩ with ⟨p, e2⟩ | ⟨y, l2, rfl, e2, g2, _⟩
          · rw [e2]; exact .err
          · rw [e2]
            simp only [List.length_cons] at n1 m1
            exact ⟨by simp, fun _ _ _ h => by
              simp only [Option.some.injEq, Except.ok.injEq, Prod.mk.injEq] at h
              obtain ⟨_, rfl, rfl⟩ := h
              exact ⟨g2, by simp; omega, by simp; omega⟩⟩
    rw [if_neg a4]
    rcases hg.wnt (k := .name) ⟨by simp, by simp⟩ with ⟨p, e⟩ | ⟨x, m, rfl, e, gm, _⟩
    · rw [e]; exact .err
    · rw [e]
      simp only [Res.bind]
      cases hl : st.m.lookup x.text with
      | some v => exact .here gm (by simp)
      | none =>
        simp only [List.length_cons] at hn
        simp only
        rw [if_pos (by omega)]
        exact ⟨by simp, fun _ _ _ h => by
          simp only [Option.some.injEq, Except.ok.injEq, Prod.mk.injEq] at h
          obtain ⟨_, rfl, rfl⟩ := h
          exact ⟨gm, by simp, by simp; omega⟩⟩
end
theorem lexFrom_used (kw : Str → Bool) (r : Str) (h : (lexFrom kw 0 r).1.stop = false) : 0 < (lexFrom kw 0 r).2 ∧ 0 < r.length := by
  unfold lexFrom at *
  cases r with
  | nil => simp [Tok.stop] at h
  | cons c r =>
    simp only at *
    refine ⟨?_, by simp⟩
    split
    · rename_i hc
      rw [if_pos hc] at h
      have hs : 0 < spanN lowfig (c :: r) := by simp [spanN, lowfig, hc]
      split
      · rename_i h8; rw [if_pos h8] at h; simp [Tok.stop] at h
      · simp only; omega
    · rename_i hc
      rw [if_neg hc] at h
      split
      · rename_i hf
        rw [if_pos hf] at h
        have hs : 0 < spanN fig (c :: r) := by simp [spanN, hf]
        split
        · rename_i h8; rw [if_pos h8] at h; simp [Tok.stop] at h
        · simp only; omega
      · rename_i hf
        rw [if_neg hf] at h
        split
        · simp
        · rename_i ha
          rw [if_neg ha] at h
          split
          · simp
          · rename_i hs; rw [if_neg hs] at h; simp [Tok.stop] at h
theorem toksN_good (kw : Str → Bool) (s : Str) : ∀ (k i : Nat), s.length < k + i → 0 < k → Good (toksN kw s k i)
  | 0, _, _, h => by omega
  | k + 1, i, h, _ => by
    simp only [toksN]
    cases hs : (lexAt kw s i).1.stop with
    | true => exact .last hs
    | false =>
      refine .cons hs ?_
      have hs' := hs
      simp only [lexAt] at hs' ⊢
      obtain ⟨h1, h2, h3⟩ := lexFrom_at kw (i + spanN blank (s.drop i)) (s.drop (i + spanN blank (s.drop i)))
      have hst : (lexFrom kw 0 (s.drop (i + spanN blank (s.drop i)))).1.stop = false := by
        unfold Tok.stop at hs' ⊢; rw [← h1]; exact hs'
      obtain ⟨u1, u2⟩ := lexFrom_used kw _ hst
      rw [h3]
      simp only [List.length_drop] at u2
      exact toksN_good kw s k _ (by omega) (by omega)
theorem toks_good (kw : Str → Bool) (s : Str) : Good (toks kw s 0) := toksN_good kw s _ 0 (by omega) (by omega)
theorem toksN_len (kw : Str → Bool) (s : Str) : ∀ (k i : Nat), (toksN kw s k i).length ≤ k
  | 0, _ => Nat.le_refl _
  | k + 1, i => by
    simp only [toksN, List.length_cons]
    split
    · simp
    · have := toksN_len kw s k (lexAt kw s i).2; omega
theorem readTy_total (s : Str) (n : Nat) (hn : n ≤ 100000) : readTy s n ≠ none := by
  unfold readTy
  split
  · simp
  · rename_i hl
    have hlen : (toks kindsB s 0).length ≤ 301 := by
      have := toksN_len kindsB s (s.length + 1 - 0) 0
      unfold toks; omega
    have h := whole_took readFuel ⟨[], n⟩ (toks kindsB s 0) (toks_good _ _) (by unfold readFuel; omega) (by simp only; omega)
    rcases res_cases _ h.ne with ⟨p, e⟩ | ⟨⟨t, s1, l1⟩, e⟩
    · rw [e]; simp [Res.bind]
    · rw [e]
      simp only [Res.bind, want]
      by_cases hf : (hd l1).kind = .fin
      · simp only [if_pos hf]
        split <;> simp
      · simp only [if_neg hf]
        simp
end Go.Proofs.YtabikmkoajdhmaaDoor

/- Types put for variables are found again; a type and its one text are instances of each other: plain. -/
namespace Go.Proofs.YtabikmkoajdhmaaDoor
open Go.RowKit

def TS.sh (d : Nat) (st : TS) : TS := ⟨st.m.map fun q => (q.1, q.2 + d), st.n + d⟩
theorem look_sh (d : Nat) (k : Str) : ∀ m : Names, (m.map fun q => (q.1, q.2 + d)).lookup k = (m.lookup k).map (· + d)
  | [] => rfl
  | (a, v) :: r => by
    simp only [List.map_cons, List.lookup_cons]
    by_cases h : k = a
    · subst h; simp
    · have : (k == a) = false := by simpa using h
      rw [this]; exact look_sh d k r
def ShOk (d : Nat) (f : TS → List Tok → Res (Ty × TS × List Tok)) : Prop := ∀ st l t st' l', f st l = some (.ok (t, st', l')) → st.n ≤ st'.n ∧ (st'.n + d ≤ 1000000000 → f (st.sh d) l = some (.ok (t.mapv (· + d), st'.sh d, l')))
mutual
theorem whole_sh (d : Nat) : ∀ k : Nat, ShOk d (qWhole k)
  | 0 => fun st l t st' l' h => by simp [qWhole] at h
  | k + 1 => fun st l t st' l' h => by
    simp only [qWhole] at h ⊢
    obtain ⟨⟨t1, s1, l1⟩, h1, h2⟩ := Res.bind_ok h
    obtain ⟨n1, e1⟩ := one_sh d k _ _ _ _ _ h1
    simp only at h2
    split at h2
    · rename_i ha
      obtain ⟨⟨t2, s2, l2⟩, h3, h4⟩ := Res.bind_ok h2
      obtain ⟨n2, e2⟩ := whole_sh d k _ _ _ _ _ h3
      simp only [Option.some.injEq, Except.ok.injEq, Prod.mk.injEq] at h4
      obtain ⟨rfl, rfl, rfl⟩ := h4
      refine ⟨by omega, fun hb => ?_⟩
      rw [e1 (by omega)]
      simp only [Res.bind, if_pos ha]
      rw [e2 hb]
      rfl
    · rename_i ha
      simp only [Option.some.injEq, Except.ok.injEq, Prod.mk.injEq] at h2
      obtain ⟨rfl, rfl, rfl⟩ := h2
      refine ⟨n1, fun hb => ?_⟩
      rw [e1 hb]
      simp only [Res.bind, if_neg ha]
theorem one_sh (d : Nat) : ∀ k : Nat, ShOk d (qOne k)
  | 0 => fun st l t st' l' h => by simp [qOne] at h
  | k + 1 => fun st l t st' l' h => by
    simp only [qOne] at h ⊢
    by_cases a1 : (hd l).kind = .kw INT
    · rw [if_pos a1] at h ⊢
      simp only [Option.some.injEq, Except.ok.injEq, Prod.mk.injEq] at h
      obtain ⟨rfl, rfl, rfl⟩ := h
      exact ⟨Nat.le_refl _, fun _ => rfl⟩
    by_cases a2 : (hd l).kind = .kw BOOL
    · rw [if_neg a1, if_pos a2] at h
      simp only [Option.some.injEq, Except.ok.injEq, Prod.mk.injEq] at h
      obtain ⟨rfl, rfl, rfl⟩ := h
      exact ⟨Nat.le_refl _, fun _ => by rw [if_neg a1, if_pos a2]; rfl⟩
    by_cases a3 : (hd l).kind = .kw LB
    · rw [if_neg a1, if_neg a2, if_pos a3] at h
      obtain ⟨⟨t1, s1, l1⟩, h1, h2⟩ := Res.bind_ok h
      obtain ⟨n1, e1⟩ := whole_sh d k _ _ _ _ _ h1
      obtain ⟨⟨x, l2⟩, h3, h4⟩ := Res.bind_ok h2
      simp only [Option.some.injEq, Except.ok.injEq, Prod.mk.injEq] at h4
      obtain ⟨rfl, rfl, rfl⟩ := h4
      refine ⟨n1, fun hb => ?_⟩
      rw [if_neg a1, if_neg a2, if_pos a3, e1 hb]
      (try simp only at h3)
      simp only [Res.bind, h3]
      rfl
    by_cases a4 : (hd l).kind = .kw LP
    · rw [if_neg a1, if_neg a2, if_neg a3, if_pos a4] at h
      obtain ⟨⟨t1, s1, l1⟩, h1, h2⟩ := Res.bind_ok h
      obtain ⟨n1, e1⟩ := whole_sh d k _ _ _ _ _ h1
      simp only at h2
      by_cases a5 : (hd l1).kind = .kw COMMA
      · rw [if_pos a5] at h2
        obtain ⟨⟨t2, s2, l2⟩, h3, h4⟩ := Res.bind_ok h2
        obtain ⟨n2, e2⟩ := whole_sh d k _ _ _ _ _ h3
        obtain ⟨⟨x, l3⟩, h5, h6⟩ := Res.bind_ok h4
        simp only [Option.some.injEq, Except.ok.injEq, Prod.mk.injEq] at h6
        obtain ⟨rfl, rfl, rfl⟩ := h6
        refine ⟨by omega, fun hb => ?_⟩
        rw [if_neg a1, if_neg a2, if_neg a3, if_pos a4, e1 (by omega)]
        simp only [Res.bind, if_pos a5]
        rw [e2 hb]
        (try simp only at h5)
        simp only [h5]
        rfl
      · rw [if_neg a5] at h2
        obtain ⟨⟨x, l3⟩, h5, h6⟩ := Res.bind_ok h2
        simp only [Option.some.injEq, Except.ok.injEq, Prod.mk.injEq] at h6
        obtain ⟨rfl, rfl, rfl⟩ := h6
        refine ⟨n1, fun hb => ?_⟩
        rw [if_neg a1, if_neg a2, if_neg a3, if_pos a4, e1 hb]
        simp only [Res.bind, if_neg a5]
        (try simp only at h5)
        simp only [h5]
    rw [if_neg a1, if_neg a2, if_neg a3, if_neg a4] at h
    obtain ⟨⟨x, l1⟩, h1, h2⟩ := Res.bind_ok h
    simp only at h2
    cases hl : st.m.lookup x with
    | some v =>
      simp only [hl, Option.some.injEq, Except.ok.injEq, Prod.mk.injEq] at h2
      obtain ⟨rfl, rfl, rfl⟩ := h2
      refine ⟨Nat.le_refl _, fun _ => ?_⟩
      rw [if_neg a1, if_neg a2, if_neg a3, if_neg a4, h1]
      simp only [Res.bind, TS.sh, look_sh, hl, Option.map_some]
      rfl
    | none =>
      simp only [hl] at h2
      split at h2
      · simp only [Option.some.injEq, Except.ok.injEq, Prod.mk.injEq] at h2
        obtain ⟨rfl, rfl, rfl⟩ := h2
        refine ⟨by simp, fun hb => ?_⟩
        simp only at hb
        have hlt : (st.sh d).n < 1000000000 := by simp only [TS.sh]; omega
        have hl' : (st.sh d).m.lookup x = none := by simp [TS.sh, look_sh, hl]
        rw [if_neg a1, if_neg a2, if_neg a3, if_neg a4, h1]
        simp only [Res.bind, hl', if_pos hlt]
        simp [TS.sh, Ty.mapv, Nat.add_right_comm]
      · cases h2
end
theorem readTy_sh {s : Str} {t : Ty} {st : TS} (h : readTy s 0 = some (.ok (t, st))) (d : Nat) (hd' : st.n + d ≤ 1000000000) : readTy s d = some (.ok (t.mapv (· + d), st.sh d)) := by
  unfold readTy at h ⊢
  split at h
  · cases h
  · rename_i hl
    rw [if_neg hl]
    split at h
    · cases h
    · cases h
    · rename_i t1 st1 he
      split at h
      · cases h
      · rename_i hs
        injection h with h; injection h with h; injection h with h1 h2; subst h1; subst h2
        obtain ⟨⟨t2, st2, l2⟩, h1, h2⟩ := Res.bind_ok he
        obtain ⟨x, h3, h4⟩ := Res.bind_ok h2
        simp only [Option.some.injEq, Except.ok.injEq, Prod.mk.injEq] at h4
        obtain ⟨rfl, rfl⟩ := h4
        have e := (whole_sh d readFuel _ _ _ _ _ h1).2 hd'
        have e0 : TS.sh d ⟨[], 0⟩ = ⟨[], d⟩ := by simp [TS.sh]
        rw [e0] at e
        rw [e]
        (try simp only at h3)
        simp only [Res.bind, h3, Ty.mapv_size]
        rw [if_neg hs]
theorem readTy_n {s : Str} {t : Ty} {st : TS} (h : readTy s 0 = some (.ok (t, st))) : st.n ≤ 301 := by
  unfold readTy at h
  split at h
  · cases h
  · rename_i hl
    split at h
    · cases h
    · cases h
    · rename_i t1 st1 he
      split at h
      · cases h
      · injection h with h; injection h with h; injection h with h1 h2; subst h1; subst h2
        obtain ⟨⟨t2, st2, l2⟩, h1, h2⟩ := Res.bind_ok he
        obtain ⟨x, h3, h4⟩ := Res.bind_ok h2
        simp only [Option.some.injEq, Except.ok.injEq, Prod.mk.injEq] at h4
        obtain ⟨rfl, rfl⟩ := h4
        have hlen : (toks kindsB s 0).length ≤ 301 := by
          have := toksN_len kindsB s (s.length + 1 - 0) 0
          unfold toks; omega
        have := ((whole_took readFuel ⟨[], 0⟩ (toks kindsB s 0) (toks_good _ _) (by unfold readFuel; omega) (by simp only; omega)).ok _ _ _ h1).2.2
        simp only at this
        omega
theorem named_congr {f g : Nat → Str} : ∀ {t : Ty}, (∀ v, t.has v = true → f v = g v) → t.named f = t.named g
  | .var v, h => by simp only [Ty.named]; rw [h v (by simp [Ty.has])]
  | .int, _ => rfl
  | .bool, _ => rfl
  | .list a, h => by simp only [Ty.named]; rw [named_congr (t := a) h]
  | .pair a b, h => by simp only [Ty.named]; rw [named_congr (t := a) fun v hv => h v (by simp [Ty.has, hv]), named_congr (t := b) fun v hv => h v (by simp [Ty.has, hv])]
  | .fn a b, h => by simp only [Ty.named]; rw [named_congr (t := a) fun v hv => h v (by simp [Ty.has, hv]), named_congr (t := b) fun v hv => h v (by simp [Ty.has, hv])]
theorem idx_map {g : Nat → Nat} {F : List Nat} {v : Nat} (hv : v ∈ F) : ∀ {s : List Nat}, (∀ w ∈ s, g v = g w → v = w) → (s.map g).idxOf (g v) = s.idxOf v
  | [], _ => rfl
  | w :: s, h => by
    simp only [List.map_cons, List.idxOf_cons]
    by_cases e : g w = g v
    · have := h w (by simp) e.symm; subst this; simp
    · have h1 : (g w == g v) = false := by simpa using e
      have h2 : (w == v) = false := by simpa using fun x => e (by rw [x])
      rw [h1, h2]
      simp only [cond_false]
      rw [idx_map hv (s := s) (fun u hu => h u (by simp [hu]))]
theorem firsts_map {g : Nat → Nat} {F : List Nat} (hinj : ∀ v ∈ F, ∀ w ∈ F, g v = g w → v = w) : ∀ (t : Ty) (s : List Nat), firsts t s <+: F → firsts (t.mapv g) (s.map g) = (firsts t s).map g
  | .var v, s, h => by
    have hvF : v ∈ F := h.subset ((firsts_has _ _ _).2 (.inr (by simp [Ty.has])))
    have hs : ∀ w ∈ s, w ∈ F := fun w hw => ((firsts_pre _ _).trans h).subset hw
    have hm : g v ∈ s.map g ↔ v ∈ s := by
      simp only [List.mem_map]
      constructor
      · rintro ⟨w, hw, e⟩; rw [hinj v hvF w (hs w hw) e.symm]; exact hw
      · exact fun hv => ⟨v, hv, rfl⟩
    simp only [Ty.mapv, firsts, hm]
    split <;> simp
  | .int, s, _ => rfl
  | .bool, s, _ => rfl
  | .list a, s, h => firsts_map hinj a s h
  | .pair a b, s, h => by simp only [Ty.mapv, firsts]; rw [firsts_map hinj a s ((firsts_pre b _).trans h), firsts_map hinj b _ h]
  | .fn a b, s, h => by simp only [Ty.mapv, firsts]; rw [firsts_map hinj a s ((firsts_pre b _).trans h), firsts_map hinj b _ h]
theorem canon_eq (t : Ty) : canonT t = (t.named (nmF (firsts t []))).show := by
  unfold canonT; rw [canon_named (firsts t []) t [] (List.prefix_refl _)]
theorem canon_map {g : Nat → Nat} {t : Ty} (hinj : ∀ v ∈ firsts t [], ∀ w ∈ firsts t [], g v = g w → v = w) : canonT (t.mapv g) = canonT t := by
  rw [canon_eq, canon_eq, Ty.named_mapv]
  have e := firsts_map hinj t [] (List.prefix_refl _)
  rw [List.map_nil] at e
  rw [e]
  congr 1
  refine named_congr (fun v hv => ?_)
  have hvF : v ∈ firsts t [] := (firsts_has _ _ _).2 (.inr hv)
  unfold nmF
  rw [idx_map hvF (fun w hw => hinj v hvF w hw)]
theorem nodup_inj {α β : Type} {g : α → β} : ∀ {l : List α}, (l.map g).Nodup → ∀ {q p : α}, q ∈ l → p ∈ l → g q = g p → q = p
  | [], _, q, _, hq, _, _ => by cases hq
  | a :: l, nd, q, p, hq, hp, e => by
    rw [List.map_cons, List.nodup_cons] at nd
    rcases List.mem_cons.1 hq with e1 | h1
    · rcases List.mem_cons.1 hp with e2 | h2
      · rw [e1, e2]
      · exact (nd.1 (List.mem_map.2 ⟨p, h2, by rw [← e, e1]⟩)).elim
    · rcases List.mem_cons.1 hp with e2 | h2
      · exact (nd.1 (List.mem_map.2 ⟨q, h1, by rw [e, e2]⟩)).elim
      · exact nodup_inj nd.2 h1 h2 e
theorem nodup_map {α β : Type} {g : α → β} : ∀ {l : List α}, l.Nodup → (∀ a ∈ l, ∀ b ∈ l, g a = g b → a = b) → (l.map g).Nodup
  | [], _, _ => by simp
  | a :: l, nd, h => by
    rw [List.nodup_cons] at nd
    rw [List.map_cons, List.nodup_cons]
    refine ⟨fun hm => ?_, nodup_map nd.2 (fun x hx y hy => h x (by simp [hx]) y (by simp [hy]))⟩
    obtain ⟨b, hb, e⟩ := List.mem_map.1 hm
    exact nd.1 (h b (by simp [hb]) a (by simp) e ▸ hb)
theorem nmS_own {l l2 : Names} (nd : (l.map (·.2)).Nodup) {q : Str × Nat} (hq : q ∈ l) : nmS (l ++ l2) q.2 = q.1 := by
  unfold nmS
  rw [List.find?_append]
  have : l.find? (fun p => p.2 == q.2) = some q := by
    induction l with
    | nil => cases hq
    | cons p r ih =>
      rw [List.map_cons, List.nodup_cons] at nd
      rw [List.find?_cons]
      rcases List.mem_cons.1 hq with rfl | hr
      · simp
      · have : (p.2 == q.2) = false := by
          simp only [beq_eq_false_iff_ne, ne_eq]
          intro e; exact nd.1 (e ▸ List.mem_map.2 ⟨q, hr, rfl⟩)
        rw [this]; exact ih nd.2 hr
  rw [this]
  rfl
theorem nmS_late {l l2 : Names} (nd : (l2.map (·.2)).Nodup) {q : Str × Nat} (hq : q ∈ l2) (hn : ∀ p ∈ l, p.2 ≠ q.2) : nmS (l ++ l2) q.2 = q.1 := by
  have h0 : l.find? (fun p => p.2 == q.2) = none := by
    rw [List.find?_eq_none]
    intro p hp; simp [hn p hp]
  have h1 := nmS_own (l2 := []) nd hq
  unfold nmS at h1 ⊢
  rw [List.append_nil] at h1
  rw [List.find?_append, h0, Option.none_or]
  exact h1
/-- What is known of a type's one text. -/
structure OneT (s : Str) (t : Ty) (st : TS) (F : List Nat) : Prop where
  nd : F.Nodup
  len : F.length ≤ 120
  all : ∀ v, t.has v = true ↔ v ∈ F
  can : canonT t = (t.named (nmF F)).show
  ok : (t.named (nmF F)).ok
  inj : ∀ v ∈ F, ∀ w ∈ F, nmF F v = nmF F w → v = w
theorem one_t {s : Str} {t : Ty} {st : TS} (h : readTy s 0 = some (.ok (t, st))) (hsz : t.size ≤ 120) : OneT s t st (firsts t []) := by
  have hl := firsts_len t []
  simp only [List.length_nil] at hl
  have hi : ∀ v ∈ firsts t [], (firsts t []).idxOf v < 130 := fun v hv => by have := List.idxOf_lt_length_of_mem hv; omega
  exact ⟨firsts_nodup t [] (by simp), by omega, fun v => by rw [firsts_has]; simp, canon_eq t, named_ok (fun v hv => letters_okn (hi v ((firsts_has _ _ _).2 (.inr hv)))), fun v hv w hw e => idx_inj hv hw (letters_inj (hi v hv) (hi w hw) e)⟩
theorem read_canon {s : Str} {t : Ty} {st : TS} {F : List Nat} (hF : F = firsts t []) (h : OneT s t st F) (hsz : t.size ≤ 120) (hl : (canonT t).length ≤ 300) (n : Nat) (hn : n ≤ 100000) :
    readTy (canonT t) n = some (.ok (t.mapv (gF F n), ⟨F.map fun v => (nmF F v, gF F n v), n + F.length⟩)) := by
  rw [h.can] at hl ⊢
  have hnum := num_named (n := n) h.inj t [] (by rw [hF]; exact List.prefix_refl _)
  simp only [List.map_nil, List.length_nil, Nat.add_zero] at hnum
  rw [readTy_show h.ok hl n hn, hnum, ← hF]
  simp only [Ty.mapv_size]
  rw [if_neg (by omega)]
theorem canon_again {s : Str} {t : Ty} {st : TS} {F : List Nat} (hF : F = firsts t []) (n : Nat) : canonT (t.mapv (gF F n)) = canonT t :=
  canon_map (fun v hv w hw e => gF_inj (hF ▸ hv) (hF ▸ hw) e)
theorem inst_own {s : Str} {t : Ty} {st : TS} {F : List Nat} (hs : readTy s 0 = some (.ok (t, st))) (hF : F = firsts t []) (h : OneT s t st F) (hsz : t.size ≤ 120) (hl : (canonT t).length ≤ 300) : ∃ m, instF s (canonT t) = some (.ok m) ∧ m.length = F.length := by
  have hin := readTy_in hs
  have hn := readTy_n hs
  have hc := read_canon hF h hsz hl st.n (by omega)
  unfold instF
  simp only [hs, hc]
  have hown : ∀ v ∈ F, ∃ q ∈ st.m, q.2 = v ∧ nmS (st.m ++ F.map fun v => (nmF F v, gF F st.n v)) v = q.1 := fun v hv => by
    obtain ⟨q, hq, e⟩ := hin.has v ((h.all v).2 hv)
    exact ⟨q, hq, e, by rw [← e]; exact nmS_own hin.inn.nd2 hq⟩
  have hm := match_map (nm := nmS (st.m ++ F.map fun v => (nmF F v, gF F st.n v))) (f := id) (g := gF F st.n) (F := F) (fun v hv w hw e => by
    obtain ⟨q, hq, e1, e2⟩ := hown v hv
    obtain ⟨p, hp, e3, e4⟩ := hown w hw
    simp only [id] at e
    rw [e2, e4] at e
    have : q = p := nodup_inj hin.inn.nd1 hq hp e
    rw [← e1, ← e3, this]) t [] (by rw [hF]; exact List.prefix_refl _)
  rw [Ty.mapv_id] at hm
  rw [List.map_nil] at hm
  rw [hm]
  exact ⟨_, rfl, by rw [List.length_map, hF]⟩
theorem inst_back {s : Str} {t : Ty} {st : TS} {F : List Nat} (hs : readTy s 0 = some (.ok (t, st))) (hF : F = firsts t []) (h : OneT s t st F) (hsz : t.size ≤ 120) (hl : (canonT t).length ≤ 300) : ∃ m, instF (canonT t) s = some (.ok m) ∧ m.length = F.length := by
  have hn := readTy_n hs
  have hlen := h.len
  have hc := read_canon hF h hsz hl 0 (by omega)
  have hsh := readTy_sh hs (0 + F.length) (by omega)
  unfold instF
  simp only [hc, hsh]
  have nd2 : ((F.map fun v => (nmF F v, gF F 0 v)).map (·.2)).Nodup := by
    rw [List.map_map]
    exact nodup_map h.nd (fun a ha b hb e => gF_inj ha hb e)
  have hown : ∀ v ∈ F, nmS ((F.map fun v => (nmF F v, gF F 0 v)) ++ (st.sh (0 + F.length)).m) (gF F 0 v) = nmF F v := fun v hv =>
    nmS_own nd2 (q := (nmF F v, gF F 0 v)) (List.mem_map.2 ⟨v, hv, rfl⟩)
  have hm := match_map (nm := nmS ((F.map fun v => (nmF F v, gF F 0 v)) ++ (st.sh (0 + F.length)).m)) (f := gF F 0) (g := (· + (0 + F.length))) (F := F) (fun v hv w hw e => by
    rw [hown v hv, hown w hw] at e
    exact h.inj v hv w hw e) t [] (by rw [hF]; exact List.prefix_refl _)
  rw [List.map_nil] at hm
  rw [hm]
  exact ⟨_, rfl, by rw [List.length_map, hF]⟩
end Go.Proofs.YtabikmkoajdhmaaDoor
