/- The reading of an expression comes to an end, and what it reads is no longer than the text allows. No program in sight. -/
import Derived.Test.YtabikmkoajdhmaaDoorTrSpec
set_option linter.unusedVariables false
set_option linter.unusedSimpArgs false
set_option linter.unnecessarySimpa false
namespace Go.Proofs.YtabikmkoajdhmaaDoor
open Go.RowKit

structure TG (l : List Tok) : Prop where
  tl : TL l
  tx : ∀ t ∈ l, t.text.length ≤ 300
theorem TG.adv {l : List Tok} (h : TG l) : TG (adv l) := by
  refine ⟨adv_tl h.tl, fun t ht => ?_⟩
  have := h.tx
  cases l with
  | nil => exact this t ht
  | cons a r => cases r with
    | nil => exact this t ht
    | cons b r => exact this t (List.mem_cons_of_mem _ ht)
theorem TG.hd {l : List Tok} (h : TG l) : (hd l).text.length ≤ 300 := by
  cases l with
  | nil => exact absurd rfl h.tl.ne
  | cons a r => exact h.tx a (by simp)
theorem adv_lt {l : List Tok} (h : TG l) {k : TK} (hk : (hd l).kind = k) (hs : k ≠ .fin ∧ k ≠ .bad) : (adv l).length + 1 = l.length := by
  have hst : (Go.Proofs.YtabikmkoajdhmaaDoor.hd l).stop = false := by
    unfold Tok.stop; rw [hk]
    cases k with
    | fin => exact absurd rfl hs.1
    | bad => exact absurd rfl hs.2
    | _ => rfl
  obtain ⟨t, r, e, _, e2⟩ := h.tl.step hst
  rw [e2, e]; rfl
/-- A reading that comes to an end, with what holds of it if nothing is wrong. -/
def Dn {α : Type} (r : Res (α × List Tok)) (P : α → List Tok → Prop) : Prop := match r with
  | none => False
  | some (.error _) => True
  | some (.ok (x, l)) => P x l
theorem Dn.bind {α β : Type} {r : Res (α × List Tok)} {P : α → List Tok → Prop} {f : α × List Tok → Res (β × List Tok)} {Q : β → List Tok → Prop} (h : Dn r P) (hf : ∀ x l, P x l → Dn (f (x, l)) Q) : Dn (r.bind f) Q := by
  unfold Dn at h
  split at h
  · cases h
  · trivial
  · exact hf _ _ h
theorem Dn.mono {α : Type} {r : Res (α × List Tok)} {P Q : α → List Tok → Prop} (h : Dn r P) (hf : ∀ x l, P x l → Q x l) : Dn r Q := by
  unfold Dn at h ⊢
  split at h
  · cases h
  · trivial
  · exact hf _ _ h
theorem want_dn {l : List Tok} (h : TG l) {k : TK} (hs : k ≠ .fin ∧ k ≠ .bad) : Dn (want k l) fun x l' => TG l' ∧ l'.length + 1 = l.length ∧ x.length ≤ 300 := by
  unfold want
  by_cases hk : (hd l).kind = k
  · rw [if_pos hk]; exact ⟨h.adv, adv_lt h hk hs, h.hd⟩
  · rw [if_neg hk]; trivial
structure EP (n : Nat) (x : Ex) (l' : List Tok) : Prop where
  tg : TG l'
  lt : l'.length < n
  sh : x.show.length + 5 + 1000 * l'.length ≤ 1000 * n
  d1 : 1 ≤ x.depth
  dl : x.depth + l'.length ≤ n
structure AP (x0 : Ex) (n : Nat) (x : Ex) (l' : List Tok) : Prop where
  tg : TG l'
  le : l'.length ≤ n
  sh : x.show.length + 1000 * l'.length ≤ x0.show.length + 1000 * n
  d1 : 1 ≤ x.depth
  dl : x.depth + l'.length ≤ x0.depth + n
theorem bs_snoc : ∀ (acc : List (Str × Ex)) (n : Str) (x : Ex), (Bs.of (acc ++ [(n, x)])).show.length ≤ (Bs.of acc).show.length + n.length + x.show.length + 8
  | [], n, x => by simp [Bs.of, Bs.show]; omega
  | [(m, y)], n, x => by simp [Bs.of, Bs.show]; omega
  | (m, y) :: (m2, y2) :: r, n, x => by
    have := bs_snoc ((m2, y2) :: r) n x
    simp only [List.cons_append, Bs.of, Bs.show, List.length_append] at this ⊢
    omega
theorem bs_snoc_d : ∀ (acc : List (Str × Ex)) (n : Str) (x : Ex), (Bs.of (acc ++ [(n, x)])).depth = max (Bs.of acc).depth x.depth
  | [], n, x => by simp [Bs.of, Bs.depth]
  | (m, y) :: r, n, x => by
    have := bs_snoc_d r n x
    simp only [List.cons_append, Bs.of, Bs.depth] at this ⊢
    omega
theorem app_showT (f a : Ex) : (Ex.app f a).show.length ≤ f.show.length + a.show.length + 5 := by
  simp only [Ex.show, List.length_append]
  have h1 : (if isApp f = true then f.show else if isFlat f = true then f.show else LP ++ f.show ++ RP).length ≤ f.show.length + 2 := by
    split
    · omega
    · split
      · omega
      · simp [LP, RP]
  have h2 : (if isFlat a = true then a.show else LP ++ a.show ++ RP).length ≤ a.show.length + 2 := by
    split
    · omega
    · simp [LP, RP]
  simp only [List.length_cons, List.length_nil]
  omega
mutual
theorem exp_dn : ∀ (K : Nat) (l : List Tok), TG l → 2 * l.length + 2 ≤ K → Dn (pExp K l) (EP l.length)
  | 0, _, _, h => by omega
  | K + 1, l, hl, hK => by
    rw [pExp]
    split
    · rename_i h1
      have a1 := adv_lt hl h1 (by simp)
      refine (want_dn hl.adv (by simp)).bind fun n l1 ⟨g1, n1, x1⟩ => (want_dn g1 (by simp)).bind fun _ l2 ⟨g2, n2, x2⟩ => (exp_dn K l2 g2 (by omega)).bind fun b l3 h => ?_
      exact ⟨h.tg, by have := h.lt; omega, by have := h.sh; simp [Ex.show, FUN]; omega, by simp [Ex.depth], by have := h.dl; simp only [Ex.depth]; omega⟩
    · split
      · rename_i h1
        have a1 := adv_lt hl h1 (by simp)
        refine (exp_dn K _ hl.adv (by omega)).bind fun c l1 hc => (want_dn hc.tg (by simp)).bind fun _ l2 ⟨g2, n2, x2⟩ => (exp_dn K l2 g2 (by have := hc.lt; omega)).bind fun a l3 ha => (want_dn ha.tg (by simp)).bind fun _ l4 ⟨g4, n4, x4⟩ => (exp_dn K l4 g4 (by have := hc.lt; have := ha.lt; omega)).bind fun b l5 hb => ?_
        exact ⟨hb.tg, by have := hc.lt; have := ha.lt; have := hb.lt; omega, by have := hc.sh; have := ha.sh; have := hb.sh; simp [Ex.show, IF]; omega, by simp [Ex.depth], by have := hc.dl; have := ha.dl; have := hb.dl; have := hc.d1; have := ha.d1; have := hb.d1; simp only [Ex.depth]; omega⟩
      · split
        · rename_i h1
          have a1 := adv_lt hl h1 (by simp)
          split
          · rename_i h2
            have a2 := adv_lt hl.adv h2 (by simp)
            refine (rec_dn K [] _ hl.adv.adv (by omega)).mono fun x l' ⟨u1, u2, u3, u4, u5⟩ => ?_
            simp only [Bs.of, Bs.show, Bs.depth, List.length_nil] at u3 u5
            exact ⟨u1, by omega, by omega, u4, by omega⟩
          · refine (want_dn hl.adv (by simp)).bind fun n l1 ⟨g1, n1, x1⟩ => (want_dn g1 (by simp)).bind fun _ l2 ⟨g2, n2, x2⟩ => (exp_dn K l2 g2 (by omega)).bind fun a l3 ha => (want_dn ha.tg (by simp)).bind fun _ l4 ⟨g4, n4, x4⟩ => (exp_dn K l4 g4 (by have := ha.lt; omega)).bind fun b l5 hb => ?_
            exact ⟨hb.tg, by have := ha.lt; have := hb.lt; omega, by have := ha.sh; have := hb.sh; simp [Ex.show, LET]; omega, by simp [Ex.depth], by have := ha.dl; have := hb.dl; have := ha.d1; have := hb.d1; simp only [Ex.depth]; omega⟩
        · refine (atom_dn K l hl (by omega)).bind fun x l1 hx => (apps_dn K x l1 hx.tg (by have := hx.lt; omega) hx.d1).mono fun y l2 hy => ?_
          exact ⟨hy.tg, by have := hx.lt; have := hy.le; omega, by have := hx.sh; have := hy.sh; omega, hy.d1, by have := hx.dl; have := hy.dl; omega⟩
theorem apps_dn : ∀ (K : Nat) (x : Ex) (l : List Tok), TG l → 2 * l.length + 2 ≤ K → 1 ≤ x.depth → Dn (pApps K x l) (AP x l.length)
  | 0, _, _, _, h, _ => by omega
  | K + 1, x, l, hl, hK, hd1 => by
    rw [pApps]
    split
    · refine (atom_dn K l hl (by omega)).bind fun a l1 ha => (apps_dn K _ l1 ha.tg (by have := ha.lt; omega) (by simp [Ex.depth])).mono fun y l2 hy => ?_
      exact ⟨hy.tg, by have := ha.lt; have := hy.le; omega, by have := ha.sh; have := hy.sh; have := app_showT x a; omega, hy.d1, by have h7 := ha.dl; have h8 := hy.dl; have h9 := ha.d1; simp only [Ex.depth] at h8; omega⟩
    · exact ⟨hl, Nat.le_refl _, Nat.le_refl _, hd1, Nat.le_refl _⟩
theorem rec_dn : ∀ (K : Nat) (acc : List (Str × Ex)) (l : List Tok), TG l → 2 * l.length + 2 ≤ K → Dn (pRec K acc l) fun x l' => TG l' ∧ l'.length < l.length ∧ x.show.length + 5 + 1000 * l'.length ≤ (Bs.of acc).show.length + 100 + 1000 * l.length ∧ 1 ≤ x.depth ∧ x.depth + l'.length ≤ (Bs.of acc).depth + 1 + l.length
  | 0, _, _, _, h => by omega
  | K + 1, acc, l, hl, hK => by
    rw [pRec]
    refine (want_dn hl (by simp)).bind fun n l1 ⟨g1, n1, x1⟩ => ?_
    dsimp only
    split
    · trivial
    · refine (want_dn g1 (by simp)).bind fun _ l2 ⟨g2, n2, x2⟩ => (exp_dn K l2 g2 (by omega)).bind fun b l3 hb => ?_
      dsimp only
      have s1 := bs_snoc acc n b
      have s2 := bs_snoc_d acc n b
      have hb1 := hb.lt; have hb2 := hb.sh; have hb3 := hb.dl; have hb4 := hb.d1
      split
      · rename_i h5
        have a5 := adv_lt hb.tg h5 (by simp)
        refine (rec_dn K _ _ hb.tg.adv (by omega)).mono fun x l' ⟨h1, h2, h3, h4, h6⟩ => ?_
        exact ⟨h1, by omega, by omega, h4, by omega⟩
      · refine (want_dn hb.tg (by simp)).bind fun _ l4 ⟨g4, n4, x4⟩ => (exp_dn K l4 g4 (by omega)).bind fun e l5 he => ?_
        have he1 := he.lt; have he2 := he.sh; have he3 := he.dl; have he4 := he.d1
        dsimp only
        exact ⟨he.tg, by omega, by simp [Ex.show, LET, REC]; omega, by simp [Ex.depth], by simp only [Ex.depth]; omega⟩
theorem atom_dn : ∀ (K : Nat) (l : List Tok), TG l → 2 * l.length + 1 ≤ K → Dn (pAtom K l) (EP l.length)
  | 0, _, _, h => by omega
  | K + 1, l, hl, hK => by
    rw [pAtom]
    split
    · rename_i h1
      have a1 := adv_lt hl h1 (by simp)
      exact ⟨hl.adv, by omega, by have := hl.hd; simp only [Ex.show]; omega, by simp [Ex.depth], by simp only [Ex.depth]; omega⟩
    · split
      · rename_i h1
        have a1 := adv_lt hl h1 (by simp)
        exact ⟨hl.adv, by omega, by have := hl.hd; simp only [Ex.show]; omega, by simp [Ex.depth], by simp only [Ex.depth]; omega⟩
      · refine (want_dn hl (by simp)).bind fun _ l1 ⟨g1, n1, x1⟩ => (exp_dn K l1 g1 (by omega)).bind fun x l2 hx => ?_
        have hx1 := hx.lt; have hx2 := hx.sh; have hx3 := hx.dl; have hx4 := hx.d1
        dsimp only
        split
        · rename_i h5
          have a5 := adv_lt hx.tg h5 (by simp)
          refine (exp_dn K _ hx.tg.adv (by omega)).bind fun y l3 hy => (want_dn hy.tg (by simp)).bind fun _ l4 ⟨g4, n4, x4⟩ => ?_
          have hy1 := hy.lt; have hy2 := hy.sh; have hy3 := hy.dl; have hy4 := hy.d1
          dsimp only
          exact ⟨g4, by omega, by simp [Ex.show, LP, RP]; omega, by simp [Ex.depth], by simp only [Ex.depth]; omega⟩
        · refine (want_dn hx.tg (by simp)).bind fun _ l3 ⟨g3, n3, x3⟩ => ?_
          dsimp only
          exact ⟨g3, by omega, by omega, hx4, by omega⟩
end
theorem toksN_lenT (kw : Str → Bool) (s : Str) : ∀ (k i : Nat), (toksN kw s k i).length ≤ k
  | 0, _ => Nat.le_refl _
  | k + 1, i => by
    simp only [toksN, List.length_cons]
    split
    · simp
    · have := toksN_lenT kw s k (lexAt kw s i).2; omega
theorem lexFrom_txt (kw : Str → Bool) (i : Nat) (s : Str) (h : s.length ≤ 300) : (lexFrom kw i s).1.text.length ≤ 300 := by
  unfold lexFrom
  split
  · simp
  · rename_i c r
    split
    · split
      · simp
      · simp only [List.length_take]; omega
    · split
      · split
        · simp
        · simp only [List.length_take]; omega
      · split
        · simp [ARROW]
        · split <;> simp
theorem toksN_txt (kw : Str → Bool) (s : Str) (h : s.length ≤ 300) : ∀ (k i : Nat), ∀ t ∈ toksN kw s k i, t.text.length ≤ 300
  | 0, _, _, ht => by simp [toksN] at ht
  | k + 1, i, t, ht => by
    simp only [toksN, List.mem_cons] at ht
    rcases ht with rfl | ht
    · unfold lexAt; exact lexFrom_txt _ _ _ (by simp; omega)
    · split at ht
      · cases ht
      · exact toksN_txt kw s h k _ t ht
theorem toks_tg {kw : Str → Bool} {s : Str} (h : s.length ≤ 300) : TG (toks kw s 0) := ⟨toks_tl kw s s.length 0 (by omega) (by omega), toksN_txt kw s h _ _⟩
/-- Every text is read, or what is wrong is told. -/
theorem read_dn {s : Str} (h : s.length ≤ 300) : Dn (pExp readFuel (toks wordsB s 0)) (EP (toks wordsB s 0).length) := by
  have hl : (toks wordsB s 0).length ≤ 301 := by have := toksN_lenT wordsB s (s.length + 1 - 0) 0; unfold toks; omega
  exact exp_dn _ _ (toks_tg h) (by unfold readFuel; omega)
theorem toks_len301 {kw : Str → Bool} {s : Str} (h : s.length ≤ 300) : (toks kw s 0).length ≤ 301 := by have := toksN_lenT kw s (s.length + 1 - 0) 0; unfold toks; omega
end Go.Proofs.YtabikmkoajdhmaaDoor
