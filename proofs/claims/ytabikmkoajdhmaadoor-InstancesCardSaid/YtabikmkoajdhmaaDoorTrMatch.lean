/- typerref's Matched against the program's Instance: the text of a type tells it; what variables stand for. No program in sight. -/
import Derived.Test.YtabikmkoajdhmaaDoorQ34
set_option linter.unusedVariables false
set_option linter.unusedSimpArgs false
set_option linter.unnecessarySimpa false
namespace Go.Proofs.YtabikmkoajdhmaaDoor
open Go.RowKit

/-! ### a type's text tells it -/
def na (r : List KT) : Prop := ∀ x, r.head? = some x → x.1 ≠ .kw ARROW
theorem na_cons {x : KT} {r : List KT} (h : x.1 ≠ .kw ARROW) : na (x :: r) := fun y hy => by simp at hy; subst hy; exact h
mutual
theorem NT.one_inj : ∀ (t u : NT) (r r' : List KT), t.isFn = false → u.isFn = false → t.toks ++ r = u.toks ++ r' → t = u ∧ r = r'
  | .var n, u, r, r', _, hu, h => by
    cases u with
    | var m => simp only [NT.toks, List.cons_append, List.nil_append, List.cons.injEq, Prod.mk.injEq, true_and] at h; exact ⟨by rw [h.1], h.2⟩
    | fn a b => cases hu
    | _ => simp [NT.toks] at h
  | .int, u, r, r', _, hu, h => by
    cases u with
    | int => simpa [NT.toks] using h
    | fn a b => cases hu
    | _ => simp [NT.toks, INT, BOOL, LB, LP] at h
  | .bool, u, r, r', _, hu, h => by
    cases u with
    | bool => simpa [NT.toks] using h
    | fn a b => cases hu
    | _ => simp [NT.toks, INT, BOOL, LB, LP] at h
  | .list a, u, r, r', _, hu, h => by
    cases u with
    | list b =>
      simp only [NT.toks, List.cons_append, List.append_assoc, List.cons.injEq, true_and] at h
      have h2 := NT.all_inj a b _ _ (na_cons (by simp [RB, ARROW])) (na_cons (by simp [RB, ARROW])) h
      simp only [List.nil_append, List.cons.injEq, true_and] at h2
      exact ⟨by rw [h2.1], h2.2⟩
    | fn a b => cases hu
    | _ => simp [NT.toks, INT, BOOL, LB, LP] at h
  | .pair a b, u, r, r', _, hu, h => by
    cases u with
    | pair c d =>
      simp only [NT.toks, List.cons_append, List.append_assoc, List.cons.injEq, true_and] at h
      have h2 := NT.all_inj a c _ _ (na_cons (by simp [COMMA, ARROW])) (na_cons (by simp [COMMA, ARROW])) h
      simp only [List.cons.injEq, true_and] at h2
      have h3 := NT.all_inj b d _ _ (na_cons (by simp [RP, ARROW])) (na_cons (by simp [RP, ARROW])) h2.2
      simp only [List.nil_append, List.cons.injEq, true_and] at h3
      exact ⟨by rw [h2.1, h3.1], h3.2⟩
    | fn a b => cases hu
    | _ => simp [NT.toks, INT, BOOL, LB, LP] at h
  | .fn _ _, _, _, _, h, _, _ => by cases h
theorem NT.all_inj : ∀ (t u : NT) (r r' : List KT), na r → na r' → t.toks ++ r = u.toks ++ r' → t = u ∧ r = r'
  | .fn a b, u, r, r', hr, hr', h => by
    cases u with
    | fn c d =>
      simp only [NT.toks] at h
      cases ha : a.isFn with
      | true =>
        cases hc : c.isFn with
        | true =>
          simp only [ha, hc, if_true, List.cons_append, List.append_assoc, List.cons.injEq, true_and] at h
          have h2 := NT.all_inj a c _ _ (na_cons (by simp [RP, ARROW])) (na_cons (by simp [RP, ARROW])) h
          simp only [List.nil_append, List.cons.injEq, true_and] at h2
          have h3 := NT.all_inj b d _ _ hr hr' h2.2
          exact ⟨by rw [h2.1, h3.1], h3.2⟩
        | false =>
          simp only [ha, hc, if_true, if_false, Bool.false_eq_true, List.cons_append, List.append_assoc] at h
          cases c with
          | pair x y =>
            simp only [NT.toks, List.cons_append, List.append_assoc, List.cons.injEq, true_and] at h
            have h2 := NT.all_inj a x _ _ (na_cons (by simp [RP, ARROW])) (na_cons (by simp [COMMA, ARROW])) h
            simp [RP, COMMA] at h2
          | fn x y => cases hc
          | _ => simp [NT.toks, INT, BOOL, LB, LP] at h
      | false =>
        cases hc : c.isFn with
        | true =>
          simp only [ha, hc, if_true, if_false, Bool.false_eq_true, List.cons_append, List.append_assoc] at h
          cases a with
          | pair x y =>
            simp only [NT.toks, List.cons_append, List.append_assoc, List.cons.injEq, true_and] at h
            have h2 := NT.all_inj x c _ _ (na_cons (by simp [COMMA, ARROW])) (na_cons (by simp [RP, ARROW])) h
            simp [RP, COMMA] at h2
          | fn x y => cases ha
          | _ => simp [NT.toks, INT, BOOL, LB, LP] at h
        | false =>
          simp only [ha, hc, if_false, Bool.false_eq_true, List.append_assoc] at h
          have h2 := NT.one_inj a c _ _ ha hc h
          simp only [List.cons_append, List.cons.injEq, true_and] at h2
          have h3 := NT.all_inj b d _ _ hr hr' h2.2
          exact ⟨by rw [h2.1, h3.1], h3.2⟩
    | _ =>
      exfalso
      simp only [NT.toks] at h
      cases ha : a.isFn with
      | true =>
        simp only [ha, if_true, List.cons_append, List.append_assoc] at h
        first
          | (simp [INT, BOOL, LB, LP] at h; done)
          | (rename_i x y
             simp only [List.cons.injEq, true_and] at h
             have h2 := NT.all_inj a x _ _ (na_cons (by simp [RP, ARROW])) (na_cons (by simp [COMMA, ARROW])) h
             simp [RP, COMMA] at h2)
      | false =>
        simp only [ha, if_false, Bool.false_eq_true, List.append_assoc] at h
        have hh : ∀ (v : NT) (z : List KT), v.isFn = false → a.toks ++ (((.kw ARROW, ARROW) :: b.toks) ++ r) = v.toks ++ r' → False := fun v z hv e => by
          have h2 := NT.one_inj a v _ _ ha hv e
          exact hr' _ (by rw [← h2.2]; rfl) rfl
        first
          | exact hh (.var _) [] rfl h
          | exact hh .int [] rfl h
          | exact hh .bool [] rfl h
          | exact hh (.list _) [] rfl (by simpa [NT.toks] using h)
          | exact hh (.pair _ _) [] rfl (by simpa [NT.toks] using h)
  | .var n, u, r, r', hr, hr', h => NT.na_one (.var n) u r r' rfl hr hr' h (fun c d e => by
      subst e
      simp only [NT.toks] at h
      cases hc : c.isFn with
      | true => simp [hc, LP] at h
      | false =>
        simp only [hc, if_false, Bool.false_eq_true, List.append_assoc] at h
        cases c with
        | var m => simp only [NT.toks, List.cons_append, List.nil_append, List.cons.injEq] at h; exact hr _ (by rw [h.2]; rfl) rfl
        | fn x y => cases hc
        | _ => simp [NT.toks] at h) (fun hu => NT.one_inj (.var n) u r r' rfl hu h)
  | .int, u, r, r', hr, hr', h => NT.na_one .int u r r' rfl hr hr' h (fun c d e => by
      subst e
      simp only [NT.toks] at h
      cases hc : c.isFn with
      | true => simp [hc, LP, INT] at h
      | false =>
        simp only [hc, if_false, Bool.false_eq_true, List.append_assoc] at h
        cases c with
        | int => simp only [NT.toks, List.cons_append, List.nil_append, List.cons.injEq] at h; exact hr _ (by rw [h.2]; rfl) rfl
        | fn x y => cases hc
        | _ => simp [NT.toks, INT, BOOL, LB, LP] at h) (fun hu => NT.one_inj .int u r r' rfl hu h)
  | .bool, u, r, r', hr, hr', h => NT.na_one .bool u r r' rfl hr hr' h (fun c d e => by
      subst e
      simp only [NT.toks] at h
      cases hc : c.isFn with
      | true => simp [hc, LP, BOOL] at h
      | false =>
        simp only [hc, if_false, Bool.false_eq_true, List.append_assoc] at h
        cases c with
        | bool => simp only [NT.toks, List.cons_append, List.nil_append, List.cons.injEq] at h; exact hr _ (by rw [h.2]; rfl) rfl
        | fn x y => cases hc
        | _ => simp [NT.toks, INT, BOOL, LB, LP] at h) (fun hu => NT.one_inj .bool u r r' rfl hu h)
  | .list a, u, r, r', hr, hr', h => NT.na_one (.list a) u r r' rfl hr hr' h (fun c d e => by
      subst e
      simp only [NT.toks] at h
      cases hc : c.isFn with
      | true => simp [hc, LP, LB] at h
      | false =>
        simp only [hc, if_false, Bool.false_eq_true, List.append_assoc] at h
        cases c with
        | list m =>
          simp only [NT.toks, List.cons_append, List.append_assoc, List.cons.injEq, true_and] at h
          have h2 := NT.all_inj a m _ _ (na_cons (by simp [RB, ARROW])) (na_cons (by simp [RB, ARROW])) h
          simp only [List.nil_append, List.cons.injEq, true_and] at h2
          exact hr _ (by rw [h2.2]; rfl) rfl
        | fn x y => cases hc
        | _ => simp [NT.toks, INT, BOOL, LB, LP] at h) (fun hu => by
      cases u with
      | list b =>
        simp only [NT.toks, List.cons_append, List.append_assoc, List.cons.injEq, true_and] at h
        have h2 := NT.all_inj a b _ _ (na_cons (by simp [RB, ARROW])) (na_cons (by simp [RB, ARROW])) h
        simp only [List.nil_append, List.cons.injEq, true_and] at h2
        exact ⟨by rw [h2.1], h2.2⟩
      | fn a b => cases hu
      | _ => simp [NT.toks, INT, BOOL, LB, LP] at h)
  | .pair a b, u, r, r', hr, hr', h => NT.na_one (.pair a b) u r r' rfl hr hr' h (fun c d e => by
      subst e
      simp only [NT.toks] at h
      cases hc : c.isFn with
      | true =>
        simp only [hc, if_true, List.cons_append, List.append_assoc, List.cons.injEq, true_and] at h
        have h2 := NT.all_inj a c _ _ (na_cons (by simp [COMMA, ARROW])) (na_cons (by simp [RP, ARROW])) h
        simp [RP, COMMA] at h2
      | false =>
        simp only [hc, if_false, Bool.false_eq_true, List.append_assoc] at h
        cases c with
        | pair m n =>
          simp only [NT.toks, List.cons_append, List.append_assoc, List.cons.injEq, true_and] at h
          have h2 := NT.all_inj a m _ _ (na_cons (by simp [COMMA, ARROW])) (na_cons (by simp [COMMA, ARROW])) h
          simp only [List.cons.injEq, true_and] at h2
          have h3 := NT.all_inj b n _ _ (na_cons (by simp [RP, ARROW])) (na_cons (by simp [RP, ARROW])) h2.2
          simp only [List.nil_append, List.cons.injEq, true_and] at h3
          exact hr _ (by rw [h3.2]; rfl) rfl
        | fn x y => cases hc
        | _ => simp [NT.toks, INT, BOOL, LB, LP] at h) (fun hu => by
      cases u with
      | pair c d =>
        simp only [NT.toks, List.cons_append, List.append_assoc, List.cons.injEq, true_and] at h
        have h2 := NT.all_inj a c _ _ (na_cons (by simp [COMMA, ARROW])) (na_cons (by simp [COMMA, ARROW])) h
        simp only [List.cons.injEq, true_and] at h2
        have h3 := NT.all_inj b d _ _ (na_cons (by simp [RP, ARROW])) (na_cons (by simp [RP, ARROW])) h2.2
        simp only [List.nil_append, List.cons.injEq, true_and] at h3
        exact ⟨by rw [h2.1, h3.1], h3.2⟩
      | fn a b => cases hu
      | _ => simp [NT.toks, INT, BOOL, LB, LP] at h)
theorem NT.na_one (t u : NT) (r r' : List KT) (_ : t.isFn = false) (_ : na r) (_ : na r') (_ : t.toks ++ r = u.toks ++ r') (h1 : ∀ c d, u = .fn c d → False) (h2 : u.isFn = false → t = u ∧ r = r') : t = u ∧ r = r' := by
  cases u with
  | fn c d => exact absurd rfl (fun e => h1 c d e)
  | _ => exact h2 rfl
end
theorem lexR_nil (kw : Str → Bool) (k : Nat) : lexR kw (k + 1) [] = [(.fin, [])] := by simp [lexR, spanN, lexFrom, Tok.stop]
theorem NT.show_inj {t u : NT} (ht : t.ok) (hu : u.ok) (h : t.show = u.show) : t = u := by
  have h1 := NT.lex t ht [] (u.toks.length + 1) rfl
  have h2 := NT.lex u hu [] (t.toks.length + 1) rfl
  rw [List.append_nil, lexR_nil] at h1 h2
  rw [h, show t.toks.length + (u.toks.length + 1) = u.toks.length + (t.toks.length + 1) by omega, h2] at h1
  exact (NT.all_inj t u [(.fin, [])] [(.fin, [])] (na_cons (by simp)) (na_cons (by simp)) h1.symm).1

/-! ### names -/
theorem spanN_all (p : UInt8 → Bool) : ∀ (s : Str), ∀ c ∈ s.take (spanN p s), p c = true
  | [], c, h => by simp at h
  | a :: r, c, h => by
    simp only [spanN] at h
    split at h
    · rename_i ha
      rcases List.mem_cons.1 (by simpa using h) with rfl | h
      · exact ha
      · exact spanN_all p r c h
    · simp at h
theorem lexFrom_okn {i : Nat} {s : Str} (h : (lexFrom kindsB i s).1.kind = .name) : OkN (lexFrom kindsB i s).1.text := by
  unfold lexFrom at h ⊢
  split at h
  · cases h
  · rename_i c r
    split at h
    · rename_i hc
      split at h
      · cases h
      · rename_i h8
        rw [if_pos hc, if_neg h8]
        simp only at h ⊢
        split at h
        · cases h
        · rename_i hk
          have h1 : spanN lowfig (c :: r) = spanN lowfig r + 1 := by simp [spanN, lowfig, hc]
          refine ⟨⟨c, r.take (spanN lowfig r), by rw [h1]; rfl, hc⟩, spanN_all _ _, by simp only [List.length_take]; omega, by simpa using hk⟩
    · split at h
      · split at h <;> cases h
      · split at h
        · cases h
        · split at h <;> cases h
theorem toksN_okn {s : Str} : ∀ (k i : Nat) (u : Tok), u ∈ toksN kindsB s k i → u.kind = .name → OkN u.text
  | 0, _, _, h, _ => by simp [toksN] at h
  | k + 1, i, u, h, hk => by
    simp only [toksN, List.mem_cons] at h
    rcases h with h | h
    · subst h; exact lexFrom_okn hk
    · split at h
      · cases h
      · exact toksN_okn k _ u h hk
theorem readTy_okn {s : Str} {n : Nat} {t : Ty} {st : TS} (h : readTy s n = some (.ok (t, st))) : ∀ q ∈ st.m, OkN q.1 := by
  unfold readTy at h
  split at h
  · cases h
  · split at h
    · cases h
    · cases h
    · rename_i t1 st1 he
      split at h
      · cases h
      · injection h with h; injection h with h; injection h with h1 h2; subst h1; subst h2
        obtain ⟨⟨t2, st2, l2⟩, h1, h2⟩ := Res.bind_ok he
        obtain ⟨x, h3, h4⟩ := Res.bind_ok h2
        simp only [Option.some.injEq, Except.ok.injEq, Prod.mk.injEq] at h4
        obtain ⟨rfl, rfl⟩ := h4
        exact (qWhole_up n _ _ _ _ _ _ h1).txt OkN (fun v hv hk => toksN_okn _ _ v hv hk) (fun q hq => by cases hq)
/-- Names in the order of their numbers, one by one. -/
def TSok (st : TS) : Prop := st.n = st.m.length ∧ ∀ k (h : k < st.m.length), (st.m[k]).2 = k + 1
structure WUp (st st' : TS) (t : Ty) : Prop where
  ok : TSok st → TSok st'
  has : ∀ p ∈ st'.m, p ∈ st.m ∨ t.has p.2 = true
theorem WUp.refl {st : TS} {t : Ty} : WUp st st t := ⟨fun h => h, fun _ h => .inl h⟩
theorem WUp.trans {a b c : TS} {t u v : Ty} (h : WUp a b t) (k : WUp b c u) (hv : ∀ N, t.has N = true ∨ u.has N = true → v.has N = true) : WUp a c v :=
  ⟨fun x => k.ok (h.ok x), fun p hp => by
    rcases k.has p hp with h1 | h1
    · rcases h.has p h1 with h2 | h2
      · exact .inl h2
      · exact .inr (hv _ (.inl h2))
    · exact .inr (hv _ (.inr h1))⟩
theorem WUp.ty {a b : TS} {t v : Ty} (h : WUp a b t) (hv : ∀ N, t.has N = true → v.has N = true) : WUp a b v := ⟨h.ok, fun p hp => (h.has p hp).imp_right (hv _)⟩
mutual
theorem qWhole_w : ∀ (k : Nat) (st : TS) (l : List Tok) (t : Ty) (st' : TS) (l' : List Tok), qWhole k st l = some (.ok (t, st', l')) → WUp st st' t
  | 0, _, _, _, _, _, h => by simp [qWhole] at h
  | k + 1, st, l, t, st', l', h => by
    simp only [qWhole] at h
    obtain ⟨⟨t1, s1, l1⟩, h1, h2⟩ := Res.bind_ok h
    have u1 := qOne_w k _ _ _ _ _ h1
    simp only at h2
    split at h2
    · obtain ⟨⟨t2, s2, l2⟩, h3, h4⟩ := Res.bind_ok h2
      have u2 := qWhole_w k _ _ _ _ _ h3
      simp only [Option.some.injEq, Except.ok.injEq, Prod.mk.injEq] at h4
      obtain ⟨rfl, rfl, rfl⟩ := h4
      exact u1.trans u2 (fun N x => by simpa [Ty.has] using x)
    · simp only [Option.some.injEq, Except.ok.injEq, Prod.mk.injEq] at h2
      obtain ⟨rfl, rfl, rfl⟩ := h2
      exact u1
theorem qOne_w : ∀ (k : Nat) (st : TS) (l : List Tok) (t : Ty) (st' : TS) (l' : List Tok), qOne k st l = some (.ok (t, st', l')) → WUp st st' t
  | 0, _, _, _, _, _, h => by simp [qOne] at h
  | k + 1, st, l, t, st', l', h => by
    simp only [qOne] at h
    split at h
    · simp only [Option.some.injEq, Except.ok.injEq, Prod.mk.injEq] at h
      obtain ⟨rfl, rfl, rfl⟩ := h
      exact .refl
    · split at h
      · simp only [Option.some.injEq, Except.ok.injEq, Prod.mk.injEq] at h
        obtain ⟨rfl, rfl, rfl⟩ := h
        exact .refl
      · split at h
        · obtain ⟨⟨t1, s1, l1⟩, h1, h2⟩ := Res.bind_ok h
          have u1 := qWhole_w k _ _ _ _ _ h1
          obtain ⟨⟨x, l2⟩, h3, h4⟩ := Res.bind_ok h2
          simp only [Option.some.injEq, Except.ok.injEq, Prod.mk.injEq] at h4
          obtain ⟨rfl, rfl, rfl⟩ := h4
          exact u1.ty (fun N x => by simpa [Ty.has] using x)
        · split at h
          · obtain ⟨⟨t1, s1, l1⟩, h1, h2⟩ := Res.bind_ok h
            have u1 := qWhole_w k _ _ _ _ _ h1
            simp only at h2
            split at h2
            · obtain ⟨⟨t2, s2, l2⟩, h3, h4⟩ := Res.bind_ok h2
              have u2 := qWhole_w k _ _ _ _ _ h3
              obtain ⟨⟨x, l3⟩, h5, h6⟩ := Res.bind_ok h4
              simp only [Option.some.injEq, Except.ok.injEq, Prod.mk.injEq] at h6
              obtain ⟨rfl, rfl, rfl⟩ := h6
              exact u1.trans u2 (fun N x => by simpa [Ty.has] using x)
            · obtain ⟨⟨x, l3⟩, h5, h6⟩ := Res.bind_ok h2
              simp only [Option.some.injEq, Except.ok.injEq, Prod.mk.injEq] at h6
              obtain ⟨rfl, rfl, rfl⟩ := h6
              exact u1
          · obtain ⟨⟨n, l1⟩, h1, h2⟩ := Res.bind_ok h
            simp only at h2
            split at h2
            · rename_i v hv
              simp only [Option.some.injEq, Except.ok.injEq, Prod.mk.injEq] at h2
              obtain ⟨rfl, rfl, rfl⟩ := h2
              exact .refl
            · split at h2
              · simp only [Option.some.injEq, Except.ok.injEq, Prod.mk.injEq] at h2
                obtain ⟨rfl, rfl, rfl⟩ := h2
                refine ⟨fun ⟨x1, x2⟩ => ⟨by simp [x1], fun j hj => ?_⟩, fun p hp => ?_⟩
                · simp only [List.length_append, List.length_singleton] at hj
                  by_cases hlt : j < st.m.length
                  · simp only [List.getElem_append_left hlt]; exact x2 j hlt
                  · have : j = st.m.length := by omega
                    subst this
                    simp [x1]
                · rcases List.mem_append.1 hp with hp | hp
                  · exact .inl hp
                  · simp only [List.mem_singleton] at hp; subst hp
                    exact .inr (by simp [Ty.has])
              · cases h2
end
theorem readTy_w {s : Str} {t : Ty} {st : TS} (h : readTy s 0 = some (.ok (t, st))) : TSok st ∧ ∀ p ∈ st.m, t.has p.2 = true := by
  unfold readTy at h
  split at h
  · cases h
  · split at h
    · cases h
    · cases h
    · rename_i t1 st1 he
      split at h
      · cases h
      · injection h with h; injection h with h; injection h with h1 h2; subst h1; subst h2
        obtain ⟨⟨t2, st2, l2⟩, h1, h2⟩ := Res.bind_ok he
        obtain ⟨x, h3, h4⟩ := Res.bind_ok h2
        simp only [Option.some.injEq, Except.ok.injEq, Prod.mk.injEq] at h4
        obtain ⟨rfl, rfl⟩ := h4
        have u := qWhole_w _ _ _ _ _ _ h1
        exact ⟨u.ok ⟨rfl, fun k h => by cases h⟩, fun p hp => (u.has p hp).resolve_left (by simp)⟩

/-! ### matching -/
/-- typerref.Matched: what variables stand for, by number. -/
def matchR : Ty → Ty → List (Option Ty) → Option (List (Option Ty))
  | .var v, b, got => (match got[v - 1]? with
    | some (some o) => if o = b then some got else none
    | _ => some (got.set (v - 1) (some b)))
  | .int, .int, got => some got
  | .bool, .bool, got => some got
  | .list a, .list b, got => matchR a b got
  | .pair a a', .pair b b', got => (matchR a b got).bind (matchR a' b')
  | .fn a a', .fn b b', got => (matchR a b got).bind (matchR a' b')
  | _, _, _ => none
/-- The two lists say the same. -/
structure MR (nm : Nat → Str) (d n : Nat) (m : List (Str × Str)) (got : List (Option Ty)) : Prop where
  len : got.length = n
  look : ∀ v, 1 ≤ v → v ≤ n → m.lookup (nm v) = (got[v - 1]?).join.map (fun b => shownT nm (b.mapv (· + d)))
  cnt : m.length = (got.filter Option.isSome).length
theorem lookup_snoc {k x : Str} {y : Str} : ∀ {m : List (Str × Str)}, (m ++ [(x, y)]).lookup k = (m.lookup k).or (if k = x then some y else none)
  | [] => by
    simp only [List.nil_append, List.lookup_cons, List.lookup_nil, Option.none_or]
    by_cases h : k = x
    · subst h; simp
    · have : (k == x) = false := by simpa using h
      simp [this, h]
  | (a, b) :: r => by
    simp only [List.cons_append, List.lookup_cons]
    cases k == a with
    | true => simp
    | false => simp only; exact lookup_snoc
theorem cnt_set : ∀ (got : List (Option Ty)) (i : Nat) (b : Ty), got[i]? = some none → ((got.set i (some b)).filter Option.isSome).length = (got.filter Option.isSome).length + 1
  | [], i, b, h => by simp at h
  | x :: r, 0, b, h => by simp at h; subst h; simp
  | x :: r, i + 1, b, h => by
    simp only [List.getElem?_cons_succ] at h
    have := cnt_set r i b h
    simp only [List.set_cons_succ, List.filter_cons]
    split <;> simp_all
theorem named_inj {f : Nat → Str} {B : Nat → Prop} (hf : ∀ v w, B v → B w → f v = f w → v = w) : ∀ (a b : Ty), (∀ v, a.has v = true → B v) → (∀ v, b.has v = true → B v) → a.named f = b.named f → a = b
  | .var v, b, ha, hb, h => by
    cases b with
    | var w => simp only [Ty.named, NT.var.injEq] at h; rw [hf v w (ha v (by simp [Ty.has])) (hb w (by simp [Ty.has])) h]
    | _ => simp [Ty.named] at h
  | .int, b, ha, hb, h => by cases b <;> simp [Ty.named] at h ⊢
  | .bool, b, ha, hb, h => by cases b <;> simp [Ty.named] at h ⊢
  | .list a, b, ha, hb, h => by
    cases b with
    | list c =>
      simp only [Ty.named, NT.list.injEq] at h
      rw [named_inj hf a c (fun v x => ha v (by simp [Ty.has, x])) (fun v x => hb v (by simp [Ty.has, x])) h]
    | _ => simp [Ty.named] at h
  | .pair a a', b, ha, hb, h => by
    cases b with
    | pair c c' =>
      simp only [Ty.named, NT.pair.injEq] at h
      rw [named_inj hf a c (fun v x => ha v (by simp [Ty.has, x])) (fun v x => hb v (by simp [Ty.has, x])) h.1, named_inj hf a' c' (fun v x => ha v (by simp [Ty.has, x])) (fun v x => hb v (by simp [Ty.has, x])) h.2]
    | _ => simp [Ty.named] at h
  | .fn a a', b, ha, hb, h => by
    cases b with
    | fn c c' =>
      simp only [Ty.named, NT.fn.injEq] at h
      rw [named_inj hf a c (fun v x => ha v (by simp [Ty.has, x])) (fun v x => hb v (by simp [Ty.has, x])) h.1, named_inj hf a' c' (fun v x => ha v (by simp [Ty.has, x])) (fun v x => hb v (by simp [Ty.has, x])) h.2]
    | _ => simp [Ty.named] at h
theorem shown_is (nm : Nat → Str) (d : Nat) (b : Ty) : shownT nm (b.mapv (· + d)) = (b.named (fun v => nm (v + d))).show := by
  unfold shownT; rw [shown_named, Ty.named_mapv]
def MatchP (nm : Nat → Str) (d n : Nat) (B : Nat → Prop) (a : Ty) (r : Option (List (Option Ty))) (got : List (Option Ty)) (r2 : Option (List (Str × Str))) : Prop := match r with
  | none => r2 = none
  | some got' => ∃ m', r2 = some m' ∧ MR nm d n m' got' ∧ (∀ o, some o ∈ got' → ∀ v, o.has v = true → B v) ∧ (∀ v, 1 ≤ v → v ≤ n → (∃ o, got[v - 1]? = some (some o)) ∨ a.has v = true → ∃ o, got'[v - 1]? = some (some o))
theorem MatchP.ty {nm : Nat → Str} {d n : Nat} {B : Nat → Prop} {a a' : Ty} {r : Option (List (Option Ty))} {got : List (Option Ty)} {r2 : Option (List (Str × Str))} (h : MatchP nm d n B a r got r2) (ha : ∀ v, a'.has v = true → a.has v = true) : MatchP nm d n B a' r got r2 := by
  cases r with
  | none => exact h
  | some g =>
    obtain ⟨m, h1, h2, h3, h4⟩ := h
    exact ⟨m, h1, h2, h3, fun v x y z => h4 v x y (z.imp_right (ha v))⟩
theorem MatchP.bind {nm : Nat → Str} {d n : Nat} {B : Nat → Prop} {a a' c : Ty} {r : Option (List (Option Ty))} {got : List (Option Ty)} {r2 : Option (List (Str × Str))} {f : List (Option Ty) → Option (List (Option Ty))} {f2 : List (Str × Str) → Option (List (Str × Str))}
    (h : MatchP nm d n B a r got r2) (hf : ∀ m got', MR nm d n m got' → (∀ o, some o ∈ got' → ∀ v, o.has v = true → B v) → MatchP nm d n B a' (f got') got' (f2 m)) (hc : ∀ v, c.has v = true → a.has v = true ∨ a'.has v = true) : MatchP nm d n B c (r.bind f) got (r2.bind f2) := by
  cases r with
  | none =>
    have h : r2 = none := h
    rw [h]; rfl
  | some g =>
    obtain ⟨m, h1, h2, h3, h4⟩ := h
    rw [h1]
    simp only [Option.bind_some]
    have k := hf m g h2 h3
    cases hg : f g with
    | none => rw [hg] at k; exact k
    | some g' =>
      rw [hg] at k
      obtain ⟨m', k1, k2, k3, k4⟩ := k
      refine ⟨m', k1, k2, k3, fun v x y z => ?_⟩
      rcases z with z | z
      · exact k4 v x y (.inl (h4 v x y (.inl z)))
      · rcases hc v z with z | z
        · exact k4 v x y (.inl (h4 v x y (.inr z)))
        · exact k4 v x y (.inr z)
theorem match_ref {nm : Nat → Str} {d n : Nat} (hinj : ∀ v w, 1 ≤ v → v ≤ n → 1 ≤ w → w ≤ n → nm v = nm w → v = w) (B : Nat → Prop) (hB : ∀ v, B v → OkN (nm (v + d))) (hBi : ∀ v w, B v → B w → nm (v + d) = nm (w + d) → v = w) :
    ∀ (a b : Ty) (m : List (Str × Str)) (got : List (Option Ty)), (∀ v, a.has v = true → 1 ≤ v ∧ v ≤ n) → (∀ v, b.has v = true → B v) → (∀ o, some o ∈ got → ∀ v, o.has v = true → B v) → MR nm d n m got →
      MatchP nm d n B a (matchR a b got) got (matchS nm a (b.mapv (· + d)) m)
  | .var v, b, m, got, ha, hb, hg, h => by
    have hv := ha v (by simp [Ty.has])
    have hlk := h.look v hv.1 hv.2
    have hlt : v - 1 < got.length := by rw [h.len]; omega
    have hx : got[v - 1]? = some got[v - 1] := List.getElem?_eq_getElem hlt
    rw [hx] at hlk
    simp only [matchR, matchS, hlk, hx]
    cases hgv : got[v - 1] with
    | none =>
      simp only [Option.join_some, Option.map_none]
      refine ⟨_, rfl, ⟨by simp [h.len], fun w h1 h2 => ?_, by rw [cnt_set got _ b (by rw [hx, hgv]), List.length_append, h.cnt]; rfl⟩, fun o ho => ?_, fun w h1 h2 hw => ?_⟩
      · rw [lookup_snoc, h.look w h1 h2]
        by_cases e : w = v
        · subst e
          rw [hx, hgv]; simp [List.getElem?_set, hlt]
        · have hne : ¬ nm w = nm v := fun e2 => e (hinj w v h1 h2 hv.1 hv.2 e2)
          rw [if_neg hne, Option.or_none, List.getElem?_set, if_neg (by omega)]
      · rcases List.mem_or_eq_of_mem_set ho with ho | ho
        · exact hg o ho
        · injection ho with ho; subst ho; exact hb
      · by_cases e : w = v
        · subst e; exact ⟨b, by simp [List.getElem?_set, hlt]⟩
        · rcases hw with ⟨o, ho⟩ | hw
          · exact ⟨o, by rw [List.getElem?_set, if_neg (by omega)]; exact ho⟩
          · simp only [Ty.has, decide_eq_true_eq] at hw; exact absurd hw.symm e
    | some o =>
      simp only [Option.join_some, Option.map_some]
      have hoB : ∀ u, o.has u = true → B u := hg o (by rw [← hgv]; exact List.getElem_mem hlt)
      by_cases e : o = b
      · subst e
        rw [if_pos rfl, if_pos rfl]
        refine ⟨_, rfl, h, hg, fun w h1 h2 hw => ?_⟩
        rcases hw with hw | hw
        · exact hw
        · simp only [Ty.has, decide_eq_true_eq] at hw; subst hw; exact ⟨o, by rw [hx, hgv]⟩
      · rw [if_neg e, if_neg]
        · rfl
        · intro e2
          rw [shown_is, shown_is] at e2
          have e3 := NT.show_inj (named_ok fun u hu => hB u (hoB u hu)) (named_ok fun u hu => hB u (hb u hu)) e2
          exact e (named_inj hBi o b hoB hb e3)
  | .int, b, m, got, ha, hb, hg, h => by
    cases b <;> simp only [matchR, Ty.mapv, matchS] <;> first | rfl | exact ⟨_, rfl, h, hg, fun w h1 h2 hw => hw.elim id (fun x => by simp [Ty.has] at x)⟩
  | .bool, b, m, got, ha, hb, hg, h => by
    cases b <;> simp only [matchR, Ty.mapv, matchS] <;> first | rfl | exact ⟨_, rfl, h, hg, fun w h1 h2 hw => hw.elim id (fun x => by simp [Ty.has] at x)⟩
  | .list a, b, m, got, ha, hb, hg, h => by
    cases b with
    | list c =>
      simp only [matchR, Ty.mapv, matchS]
      refine (match_ref hinj B hB hBi a c m got (fun v x => ha v (by simp [Ty.has, x])) (fun v x => hb v (by simp [Ty.has, x])) hg h).ty (fun v x => by simpa [Ty.has] using x)
    | _ => simp only [matchR, Ty.mapv, matchS]; rfl
  | .pair a a', b, m, got, ha, hb, hg, h => by
    cases b with
    | pair c c' =>
      simp only [matchR, Ty.mapv, matchS]
      exact (match_ref hinj B hB hBi a c m got (fun v x => ha v (by simp [Ty.has, x])) (fun v x => hb v (by simp [Ty.has, x])) hg h).bind (fun m' got' h' hg' => match_ref hinj B hB hBi a' c' m' got' (fun v x => ha v (by simp [Ty.has, x])) (fun v x => hb v (by simp [Ty.has, x])) hg' h') (fun v x => by simpa [Ty.has] using x)
    | _ => simp only [matchR, Ty.mapv, matchS]; rfl
  | .fn a a', b, m, got, ha, hb, hg, h => by
    cases b with
    | fn c c' =>
      simp only [matchR, Ty.mapv, matchS]
      exact (match_ref hinj B hB hBi a c m got (fun v x => ha v (by simp [Ty.has, x])) (fun v x => hb v (by simp [Ty.has, x])) hg h).bind (fun m' got' h' hg' => match_ref hinj B hB hBi a' c' m' got' (fun v x => ha v (by simp [Ty.has, x])) (fun v x => hb v (by simp [Ty.has, x])) hg' h') (fun v x => by simpa [Ty.has] using x)
    | _ => simp only [matchR, Ty.mapv, matchS]; rfl
theorem readTy_has {s : Str} {t : Ty} {st : TS} (h : readTy s 0 = some (.ok (t, st))) {v : Nat} (hv : t.has v = true) : 1 ≤ v ∧ v ≤ st.n := by
  have hi := readTy_in h
  obtain ⟨q, hq, e⟩ := hi.has v hv
  have := hi.inn.lo q hq
  omega
theorem own_name {st : TS} (h : TSok st) {v : Nat} (h1 : 1 ≤ v) (h2 : v ≤ st.n) : ∃ q ∈ st.m, q.2 = v ∧ st.m[v - 1]? = some q := by
  have hl : v - 1 < st.m.length := by have := h.1; omega
  exact ⟨st.m[v - 1], List.getElem_mem hl, by rw [h.2 _ hl]; omega, List.getElem?_eq_getElem hl⟩
/-- The reference's names of a type's variables. -/
def ownN (st : TS) (v : Nat) : Str := ((st.m[v - 1]?).map (·.1)).getD []
/-- Instance, as the reference says it. -/
theorem inst_ref {g s : Str} {a b : Ty} {st sb : TS} (hg : readTy g 0 = some (.ok (a, st))) (hs : readTy s 0 = some (.ok (b, sb))) :
    match matchR a b (List.replicate st.n none) with
    | none => instF g s = some (.error { what := 11 })
    | some got => got.length = st.n ∧ ∃ m, instF g s = some (.ok m) ∧ m.length = st.n ∧ ∀ k (h : k < st.m.length), ∃ o, got[k]? = some (some o) ∧ m.lookup (st.m[k]).1 = some ((o.named (ownN sb)).show) := by
  have hin := readTy_in hg
  have hib := readTy_in hs
  have hn := readTy_n hg
  have hnb := readTy_n hs
  obtain ⟨w1, w2⟩ := readTy_w hg
  obtain ⟨b1, b2⟩ := readTy_w hs
  have hsh := readTy_sh hs st.n (by omega)
  have hF : instF g s = match matchS (nmS (st.m ++ (sb.sh st.n).m)) a (b.mapv (· + st.n)) [] with
      | none => some (.error { what := 11 })
      | some m => some (.ok m) := by
    unfold instF; simp only [hg, hsh]
    cases matchS (nmS (st.m ++ (sb.sh st.n).m)) a (b.mapv (· + st.n)) [] <;> rfl
  obtain ⟨nm, hnm⟩ : ∃ nm, nm = nmS (st.m ++ (sb.sh st.n).m) := ⟨_, rfl⟩
  have hown : ∀ v, 1 ≤ v → v ≤ st.n → ∃ q ∈ st.m, q.2 = v ∧ nm v = q.1 ∧ st.m[v - 1]? = some q := fun v h1 h2 => by
    obtain ⟨q, hq, e, e2⟩ := own_name w1 h1 h2
    exact ⟨q, hq, e, by rw [hnm, ← e]; exact nmS_own hin.inn.nd2 hq, e2⟩
  have hlate : ∀ v, 1 ≤ v → v ≤ sb.n → nm (v + st.n) = ownN sb v ∧ ∃ q ∈ sb.m, q.2 = v ∧ ownN sb v = q.1 := fun v h1 h2 => by
    obtain ⟨q, hq, e, e2⟩ := own_name b1 h1 h2
    have ho : ownN sb v = q.1 := by unfold ownN; rw [e2]; rfl
    refine ⟨?_, q, hq, e, ho⟩
    rw [ho, hnm]
    have hq' : (q.1, q.2 + st.n) ∈ (sb.sh st.n).m := List.mem_map.2 ⟨q, hq, rfl⟩
    have := nmS_late (l := st.m) (l2 := (sb.sh st.n).m) (by
      show (((sb.m.map fun q => (q.1, q.2 + st.n))).map (·.2)).Nodup
      rw [List.map_map]
      exact (nodup_map (g := fun x : Nat => x + st.n) hib.inn.nd2 (fun a _ b _ e => by simpa using e)) |> fun h => by simpa [List.map_map, Function.comp_def] using h) hq' (fun p hp e3 => by have := (hin.inn.lo p hp).2; have := (hib.inn.lo q hq).1; simp only at e3; omega)
    simp only at this
    rw [← e]; exact this
  have hinj : ∀ v w, 1 ≤ v → v ≤ st.n → 1 ≤ w → w ≤ st.n → nm v = nm w → v = w := fun v w h1 h2 h3 h4 e => by
    obtain ⟨q, hq, e1, e2, _⟩ := hown v h1 h2
    obtain ⟨p, hp, e3, e4, _⟩ := hown w h3 h4
    rw [e2, e4] at e
    have : q = p := nodup_inj hin.inn.nd1 hq hp e
    rw [← e1, ← e3, this]
  have hm := match_ref (nm := nm) (d := st.n) (n := st.n) hinj (fun v => 1 ≤ v ∧ v ≤ sb.n) (fun v hv => by
    obtain ⟨h1, q, hq, h2, h3⟩ := hlate v hv.1 hv.2
    rw [h1, h3]; exact readTy_okn hs q hq) (fun v w hv hw e => by
    obtain ⟨h1, q, hq, h2, h3⟩ := hlate v hv.1 hv.2
    obtain ⟨h4, p, hp, h5, h6⟩ := hlate w hw.1 hw.2
    rw [h1, h4, h3, h6] at e
    have : q = p := nodup_inj hib.inn.nd1 hq hp e
    rw [← h2, ← h5, this]) a b [] (List.replicate st.n none) (fun v hv => readTy_has hg hv) (fun v hv => readTy_has hs hv) (fun o ho => by simp [List.mem_replicate] at ho)
    ⟨by simp, fun v h1 h2 => by
      rw [List.lookup_nil]
      have : (List.replicate st.n (none : Option Ty))[v - 1]? = some none := by rw [List.getElem?_replicate, if_pos (by omega)]
      rw [this]; rfl, by simp⟩
  rw [← hnm] at hF
  cases hr : matchR a b (List.replicate st.n none) with
  | none =>
    rw [hr] at hm
    simp only [MatchP] at hm
    simp only
    rw [hF, hm]
  | some got =>
    rw [hr] at hm
    obtain ⟨m, h1, h2, h3, h4⟩ := hm
    simp only
    refine ⟨h2.len, m, by rw [hF, h1], ?_, fun k hk => ?_⟩
    · rw [h2.cnt, ← h2.len]
      congr 1
      rw [List.filter_eq_self]
      intro x hx
      obtain ⟨i, hi, e⟩ := List.getElem_of_mem hx
      have hi2 : i < st.m.length := by have := w1.1; have := h2.len; omega
      have hq := w2 _ (List.getElem_mem hi2)
      rw [w1.2 i hi2] at hq
      obtain ⟨o, ho⟩ := h4 (i + 1) (by omega) (by have := w1.1; omega) (.inr hq)
      rw [Nat.add_sub_cancel, List.getElem?_eq_getElem hi, e] at ho
      injection ho with ho; rw [ho]; rfl
    · have hq := w2 _ (List.getElem_mem hk)
      rw [w1.2 k hk] at hq
      obtain ⟨o, ho⟩ := h4 (k + 1) (by omega) (by have := w1.1; omega) (.inr hq)
      rw [Nat.add_sub_cancel] at ho
      refine ⟨o, ho, ?_⟩
      have hl := h2.look (k + 1) (by omega) (by have := w1.1; omega)
      rw [Nat.add_sub_cancel, ho] at hl
      obtain ⟨q, hq1, hq2, hq3, hq4⟩ := hown (k + 1) (by omega) (by have := w1.1; omega)
      rw [Nat.add_sub_cancel, List.getElem?_eq_getElem hk] at hq4
      injection hq4 with hq4
      rw [hq3, ← hq4] at hl
      rw [hl]
      simp only [Option.join_some, Option.map_some]
      rw [shown_is]
      congr 2
      exact named_congr fun v hv => (hlate v (h3 o (List.mem_of_getElem? ho) v hv).1 (h3 o (List.mem_of_getElem? ho) v hv).2).1
end Go.Proofs.YtabikmkoajdhmaaDoor
