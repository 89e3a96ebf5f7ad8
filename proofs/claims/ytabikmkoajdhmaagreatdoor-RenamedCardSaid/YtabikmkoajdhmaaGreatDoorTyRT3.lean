/- The reader of types always answers; and answers alike from any counter on. -/
import Derived.Test.YtabikmkoajdhmaaGreatDoorTyRT2
set_option linter.unusedVariables false
set_option linter.unusedSimpArgs false
set_option linter.unnecessarySimpa false
namespace Go.Proofs.YtabikmkoajdhmaaGreatDoor
open Go.RowKit

/-- Tokens up to the first that is none, or the end. -/
inductive Good : List Tok → Prop
  | last {u : Tok} : u.stop = true → Good [u]
  | cons {x : Tok} {l : List Tok} : x.stop = false → Good l → Good (x :: l)
theorem Good.ne {l : List Tok} (h : Good l) : l ≠ [] := by cases h <;> simp
theorem Good.tl {x : Tok} {l : List Tok} (h : Good (x :: l)) (hs : x.stop = false) : adv (x :: l) = l ∧ Good l := by
  cases h with
  | last h => rw [hs] at h; cases h
  | cons _ h => exact ⟨adv_cons h.ne, h⟩
theorem Good.kind {l : List Tok} {k : TK} (h : Good l) (hk : (hd l).kind = k) (hn : k ≠ .fin ∧ k ≠ .bad) : ∃ x m, l = x :: m ∧ adv l = m ∧ Good m ∧ x.kind = k := by
  cases l with
  | nil => exact absurd rfl h.ne
  | cons x m =>
    have hs : x.stop = false := by
      unfold Tok.stop
      simp only [hd, List.headD_cons] at hk
      rw [hk]
      cases k <;> simp_all
    exact ⟨x, m, rfl, (h.tl hs).1, (h.tl hs).2, by simpa [hd] using hk⟩
theorem Good.wnt {l : List Tok} {k : TK} (h : Good l) (hn : k ≠ .fin ∧ k ≠ .bad) : (∃ p, want k l = some (.error p)) ∨ ∃ x m, l = x :: m ∧ want k l = some (.ok (x.text, m)) ∧ Good m ∧ x.kind = k := by
  by_cases hk : (hd l).kind = k
  · obtain ⟨x, m, rfl, ha, hg, hx⟩ := h.kind hk hn
    exact .inr ⟨x, m, rfl, want_cons hx hg.ne, hg, hx⟩
  · exact .inl ⟨_, by unfold want; rw [if_neg hk]⟩
/-- It answers, and takes some. -/
structure Took (st : TS) (l : List Tok) (r : Res (Ty × TS × List Tok)) : Prop where
  ne : r ≠ none
  ok : ∀ t st' l', r = some (.ok (t, st', l')) → Good l' ∧ l'.length < l.length ∧ st'.n + l'.length ≤ st.n + l.length
theorem Took.err {st : TS} {l : List Tok} {p : Nat} : Took st l (some (.error p)) := ⟨by simp, fun _ _ _ h => by cases h⟩
theorem Took.here {st : TS} {l m : List Tok} {t : Ty} (hg : Good m) (hl : m.length < l.length) : Took st l (some (.ok (t, st, m))) :=
  ⟨by simp, fun _ _ _ h => by
    simp only [Option.some.injEq, Except.ok.injEq, Prod.mk.injEq] at h
    obtain ⟨_, rfl, rfl⟩ := h
    exact ⟨hg, hl, by omega⟩⟩
theorem res_cases {α : Type} (r : Res α) (h : r ≠ none) : (∃ p, r = some (.error p)) ∨ ∃ x, r = some (.ok x) := by
  rcases r with _ | p | x
  · exact absurd rfl h
  · exact .inl ⟨p, rfl⟩
  · exact .inr ⟨x, rfl⟩
mutual
theorem whole_took : ∀ (k : Nat) (st : TS) (l : List Tok), Good l → 2 * l.length + 2 ≤ k → st.n + l.length ≤ 1000000 → Took st l (qWhole k st l)
  | 0, _, _, _, h, _ => by omega
  | k + 1, st, l, hg, hk, hn => by
    have h1 := one_took k st l hg (by omega) hn
    simp only [qWhole]
    rcases res_cases _ h1.ne with ⟨p, e⟩ | ⟨⟨t, s1, l1⟩, e⟩
    · rw [e]; exact .err
    · rw [e]
      obtain ⟨g1, n1, m1⟩ := h1.ok _ _ _ e
      simp only [Res.bind]
      by_cases ha : (hd l1).kind = .kw ARROW
      · rw [if_pos ha]
        obtain ⟨x, m, rfl, ea, gm, _⟩ := g1.kind ha ⟨by simp, by simp⟩
        rw [ea]
        simp only [List.length_cons] at n1 m1
        have h2 := whole_took k s1 m gm (by omega) (by omega)
        rcases res_cases _ h2.ne with ⟨p, e2⟩ | ⟨⟨u, s2, l2⟩, e2⟩
        · rw [e2]; exact .err
        · rw [e2]
          obtain ⟨g2, n2, m2⟩ := h2.ok _ _ _ e2
          exact ⟨by simp, fun _ _ _ h => by
            simp only [Option.some.injEq, Except.ok.injEq, Prod.mk.injEq] at h
            obtain ⟨_, rfl, rfl⟩ := h
            exact ⟨g2, by omega, by omega⟩⟩
      · rw [if_neg ha]
        exact ⟨by simp, fun _ _ _ h => by
          simp only [Option.some.injEq, Except.ok.injEq, Prod.mk.injEq] at h
          obtain ⟨_, rfl, rfl⟩ := h
          exact ⟨g1, n1, m1⟩⟩
theorem one_took : ∀ (k : Nat) (st : TS) (l : List Tok), Good l → 2 * l.length + 1 ≤ k → st.n + l.length ≤ 1000000 → Took st l (qOne k st l)
  | 0, _, _, _, h, _ => by omega
  | k + 1, st, l, hg, hk, hn => by
    simp only [qOne]
    by_cases a1 : (hd l).kind = .kw INT
    · obtain ⟨x, m, rfl, ea, gm, _⟩ := hg.kind a1 ⟨by simp, by simp⟩
      rw [if_pos a1, ea]; exact .here gm (by simp)
    rw [if_neg a1]
    by_cases a2 : (hd l).kind = .kw BOOL
    · obtain ⟨x, m, rfl, ea, gm, _⟩ := hg.kind a2 ⟨by simp, by simp⟩
      rw [if_pos a2, ea]; exact .here gm (by simp)
    rw [if_neg a2]
    by_cases a3 : (hd l).kind = .kw LB
    · obtain ⟨x, m, rfl, ea, gm, _⟩ := hg.kind a3 ⟨by simp, by simp⟩
      rw [if_pos a3, ea]
      simp only [List.length_cons] at hk hn
      have h1 := whole_took k st m gm (by omega) (by omega)
      rcases res_cases _ h1.ne with ⟨p, e⟩ | ⟨⟨t, s1, l1⟩, e⟩
      · rw [e]; exact .err
      · rw [e]
        obtain ⟨g1, n1, m1⟩ := h1.ok _ _ _ e
        simp only [Res.bind]
        rcases g1.wnt (k := .kw RB) ⟨by simp, by simp⟩ with ⟨p, e2⟩ | ⟨y, l2, rfl, e2, g2, _⟩
        · rw [e2]; exact .err
        · rw [e2]
          simp only [List.length_cons] at n1 m1
          exact ⟨by simp, fun _ _ _ h => by
            simp only [Option.some.injEq, Except.ok.injEq, Prod.mk.injEq] at h
            obtain ⟨_, rfl, rfl⟩ := h
            exact ⟨g2, by simp; omega, by simp; omega⟩⟩
    rw [if_neg a3]
    by_cases a4 : (hd l).kind = .kw LP
    · obtain ⟨x, m, rfl, ea, gm, _⟩ := hg.kind a4 ⟨by simp, by simp⟩
      rw [if_pos a4, ea]
      simp only [List.length_cons] at hk hn
      have h1 := whole_took k st m gm (by omega) (by omega)
      rcases res_cases _ h1.ne with ⟨p, e⟩ | ⟨⟨t, s1, l1⟩, e⟩
      · rw [e]; exact .err
      · rw [e]
        obtain ⟨g1, n1, m1⟩ := h1.ok _ _ _ e
        simp only [Res.bind]
        by_cases a5 : (hd l1).kind = .kw COMMA
        · obtain ⟨y, l2, rfl, eb, g2, _⟩ := g1.kind a5 ⟨by simp, by simp⟩
          rw [if_pos a5, eb]
          simp only [List.length_cons] at n1 m1
          have h2 := whole_took k s1 l2 g2 (by omega) (by omega)
          rcases res_cases _ h2.ne with ⟨p, e2⟩ | ⟨⟨u, s2, l3⟩, e2⟩
          · rw [e2]; exact .err
          · rw [e2]
            obtain ⟨g3, n3, m3⟩ := h2.ok _ _ _ e2
            simp only
            rcases g3.wnt (k := .kw RP) ⟨by simp, by simp⟩ with ⟨p, e3⟩ | ⟨z, l4, rfl, e3, g4, _⟩
            · rw [e3]; exact .err
            · rw [e3]
              simp only [List.length_cons] at n3 m3
              exact ⟨by simp, fun _ _ _ h => by
                simp only [Option.some.injEq, Except.ok.injEq, Prod.mk.injEq] at h
                obtain ⟨_, rfl, rfl⟩ := h
                exact ⟨g4, by simp; omega, by simp; omega⟩⟩
        · rw [if_neg a5]
          rcases g1.wnt (k := .kw RP) ⟨by simp, by simp⟩ with ⟨p, e2⟩ | ⟨y, l2, rfl, e2, g2, _⟩
          · rw [e2]; exact .err
          · rw [e2]
            simp only [List.length_cons] at n1 m1
            exact ⟨by simp, fun _ _ _ h => by
              simp only [Option.some.injEq, Except.ok.injEq, Prod.mk.injEq] at h
              obtain ⟨_, rfl, rfl⟩ := h
              exact ⟨g2, by simp; omega, by simp; omega⟩⟩
    rw [if_neg a4]
    rcases hg.wnt (k := .name) ⟨by simp, by simp⟩ with ⟨p, e⟩ | ⟨x, m, rfl, e, gm, _⟩
    · rw [e]; exact .err
    · rw [e]
      simp only [Res.bind]
      cases hl : st.m.lookup x.text with
      | some v => exact .here gm (by simp)
      | none =>
        simp only [List.length_cons] at hn
        simp only
        rw [if_pos (by omega)]
        exact ⟨by simp, fun _ _ _ h => by
          simp only [Option.some.injEq, Except.ok.injEq, Prod.mk.injEq] at h
          obtain ⟨_, rfl, rfl⟩ := h
          exact ⟨gm, by simp, by simp; omega⟩⟩
end
theorem lexFrom_used (kw : Str → Bool) (r : Str) (h : (lexFrom kw 0 r).1.stop = false) : 0 < (lexFrom kw 0 r).2 ∧ 0 < r.length := by
  unfold lexFrom at *
  cases r with
  | nil => simp [Tok.stop] at h
  | cons c r =>
    simp only at *
    refine ⟨?_, by simp⟩
    split
    · rename_i hc
      rw [if_pos hc] at h
      have hs : 0 < spanN lowfig (c :: r) := by simp [spanN, lowfig, hc]
      split
      · rename_i h8; rw [if_pos h8] at h; simp [Tok.stop] at h
      · simp only; omega
    · rename_i hc
      rw [if_neg hc] at h
      split
      · rename_i hf
        rw [if_pos hf] at h
        have hs : 0 < spanN fig (c :: r) := by simp [spanN, hf]
        split
        · rename_i h8; rw [if_pos h8] at h; simp [Tok.stop] at h
        · simp only; omega
      · rename_i hf
        rw [if_neg hf] at h
        split
        · simp
        · rename_i ha
          rw [if_neg ha] at h
          split
          · simp
          · rename_i hs; rw [if_neg hs] at h; simp [Tok.stop] at h
theorem toksN_good (kw : Str → Bool) (s : Str) : ∀ (k i : Nat), s.length < k + i → 0 < k → Good (toksN kw s k i)
  | 0, _, _, h => by omega
  | k + 1, i, h, _ => by
    simp only [toksN]
    cases hs : (lexAt kw s i).1.stop with
    | true => exact .last hs
    | false =>
      refine .cons hs ?_
      have hs' := hs
      simp only [lexAt] at hs' ⊢
      obtain ⟨h1, h2, h3⟩ := lexFrom_at kw (i + spanN blank (s.drop i)) (s.drop (i + spanN blank (s.drop i)))
      have hst : (lexFrom kw 0 (s.drop (i + spanN blank (s.drop i)))).1.stop = false := by
        unfold Tok.stop at hs' ⊢; rw [← h1]; exact hs'
      obtain ⟨u1, u2⟩ := lexFrom_used kw _ hst
      rw [h3]
      simp only [List.length_drop] at u2
      exact toksN_good kw s k _ (by omega) (by omega)
theorem toks_good (kw : Str → Bool) (s : Str) : Good (toks kw s 0) := toksN_good kw s _ 0 (by omega) (by omega)
theorem toksN_len (kw : Str → Bool) (s : Str) : ∀ (k i : Nat), (toksN kw s k i).length ≤ k
  | 0, _ => Nat.le_refl _
  | k + 1, i => by
    simp only [toksN, List.length_cons]
    split
    · simp
    · have := toksN_len kw s k (lexAt kw s i).2; omega
theorem readTy_total (s : Str) (n : Nat) (hn : n ≤ 100000) : readTy s n ≠ none := by
  unfold readTy
  split
  · simp
  · rename_i hl
    have hlen : (toks kindsB s 0).length ≤ 301 := by
      have := toksN_len kindsB s (s.length + 1 - 0) 0
      unfold toks; omega
    have h := whole_took readFuel ⟨[], n⟩ (toks kindsB s 0) (toks_good _ _) (by unfold readFuel; omega) (by simp only; omega)
    rcases res_cases _ h.ne with ⟨p, e⟩ | ⟨⟨t, s1, l1⟩, e⟩
    · rw [e]; simp [Res.bind]
    · rw [e]
      simp only [Res.bind, want]
      by_cases hf : (hd l1).kind = .fin
      · simp only [if_pos hf]
        split <;> simp
      · simp only [if_neg hf]
        simp
end Go.Proofs.YtabikmkoajdhmaaGreatDoor
