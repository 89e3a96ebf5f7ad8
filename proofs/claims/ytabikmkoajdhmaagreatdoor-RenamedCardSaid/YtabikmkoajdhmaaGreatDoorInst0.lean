/- Instance: the plain answer: by which types for its variables a type becomes another. -/
import Derived.Test.YtabikmkoajdhmaaGreatDoorQ24
import Derived.Test.YtabikmkoajdhmaaGreatDoorQ32
set_option linter.unusedVariables false
set_option linter.unusedSimpArgs false
namespace Go.Proofs.YtabikmkoajdhmaaGreatDoor
open Go.RowKit

/-- A type's text, its variables by their names. -/
def shownT (nm : Nat → Str) (t : Ty) : Str := (showS (fun (s : Unit) v => (nm v, s)) t ()).1
def matchS (nm : Nat → Str) : Ty → Ty → List (Str × Str) → Option (List (Str × Str))
  | .var v, b, m => (match m.lookup (nm v) with
    | some o => if o = shownT nm b then some m else none
    | none => some (m ++ [(nm v, shownT nm b)]))
  | .int, .int, m => some m
  | .bool, .bool, m => some m
  | .list a, .list b, m => matchS nm a b m
  | .pair a a', .pair b b', m => (matchS nm a b m).bind (matchS nm a' b')
  | .fn a a', .fn b b', m => (matchS nm a b m).bind (matchS nm a' b')
  | _, _, _ => none
def nmS (l : Names) (v : Nat) : Str := match l.find? (fun q => q.2 == v) with
  | some q => q.1
  | none => []
/-- infer.Instance. -/
def instF (g s : Str) : Option (Except Flt (List (Str × Str))) :=
  match readTy g 0 with
  | none => none
  | some (.error f) => some (.error f)
  | some (.ok (a, st)) => (match readTy s st.n with
    | none => none
    | some (.error f) => some (.error f)
    | some (.ok (b, st2)) => (match matchS (nmS (st.m ++ st2.m)) a b [] with
      | none => some (.error { what := 11 })
      | some m => some (.ok m)))

theorem want_some {k : TK} {l : List Tok} {x : Str × List Tok} (h : want k l = some (.ok x)) : (hd l).kind = k ∧ x.1 = (hd l).text ∧ x.2 = adv l := by
  unfold want at h
  split at h
  · rename_i hk; injection h with h; injection h with h; subst h; exact ⟨hk, rfl, rfl⟩
  · cases h
theorem Res.bind_ok {α β : Type} {r : Res α} {f : α → Res β} {y : β} (h : r.bind f = some (.ok y)) : ∃ x, r = some (.ok x) ∧ f x = some (.ok y) := by
  unfold Res.bind at h
  split at h
  · cases h
  · cases h
  · rename_i x; exact ⟨x, rfl, h⟩

theorem lookup_none {α : Type} [BEq α] [LawfulBEq α] {β : Type} {k : α} : ∀ {l : List (α × β)}, l.lookup k = none → ∀ p ∈ l, p.1 ≠ k
  | [], _, p, h => by cases h
  | (a, v) :: r, h, p, hp => by
    rw [List.lookup_cons] at h
    split at h
    · cases h
    · rename_i hk
      rcases List.mem_cons.1 hp with rfl | hp
      · intro e; simp only at e; rw [e] at hk; simp at hk
      · exact lookup_none h p hp
/-- What the reading of a type leaves: names once each with one number each, rising; the type's variables among them. -/
structure NmIn (n0 : Nat) (st : TS) : Prop where
  lo : ∀ q ∈ st.m, n0 < q.2 ∧ q.2 ≤ st.n
  le : n0 ≤ st.n
  nd1 : (st.m.map (·.1)).Nodup
  nd2 : (st.m.map (·.2)).Nodup
structure NmUp (n0 : Nat) (st st' : TS) (l l' : List Tok) (t : Ty) : Prop where
  sub : ∀ q ∈ st.m, q ∈ st'.m
  inn : NmIn n0 st → NmIn n0 st'
  has : ∀ N, t.has N = true → ∃ q ∈ st'.m, q.2 = N
  suf : l' <:+ l
  txt : ∀ P : Str → Prop, (∀ u ∈ l, u.kind = .name → P u.text) → (∀ q ∈ st.m, P q.1) → ∀ q ∈ st'.m, P q.1
theorem adv_suf (l : List Tok) : adv l <:+ l := by
  unfold adv
  split
  · exact ⟨[_], rfl⟩
  · exact List.suffix_refl _
theorem NmUp.refl {n0 : Nat} {st : TS} {l l' : List Tok} {t : Ty} (ht : ∀ N, t.has N = false) (hl : l' <:+ l) : NmUp n0 st st l l' t :=
  ⟨fun _ h => h, fun h => h, fun N h => (by rw [ht] at h; cases h), hl, fun _ _ h => h⟩
theorem NmUp.trans {n0 : Nat} {a b c : TS} {l m k : List Tok} {t u v : Ty} (h : NmUp n0 a b l m t) (h2 : NmUp n0 b c m k u) (hv : ∀ N, v.has N = true → t.has N = true ∨ u.has N = true) : NmUp n0 a c l k v :=
  ⟨fun q x => h2.sub q (h.sub q x), fun x => h2.inn (h.inn x), fun N x => by
    rcases hv N x with x | x
    · obtain ⟨q, a, b⟩ := h.has N x; exact ⟨q, h2.sub q a, b⟩
    · exact h2.has N x, h2.suf.trans h.suf, fun P hl ha => h2.txt P (fun u hu => hl u (h.suf.subset hu)) (h.txt P hl ha)⟩
theorem NmUp.suf' {n0 : Nat} {a b : TS} {l l2 m m2 : List Tok} {t v : Ty} (h : NmUp n0 a b l m t) (h1 : l <:+ l2) (h2 : m2 <:+ m) (hv : ∀ N, v.has N = true → t.has N = true) : NmUp n0 a b l2 m2 v :=
  ⟨h.sub, h.inn, fun N x => h.has N (hv N x), (h2.trans h.suf).trans h1, fun P hl ha => h.txt P (fun u hu => hl u (h1.subset hu)) ha⟩
theorem suf_adv {l l' : List Tok} (h : l' = adv l) : l' <:+ l := h ▸ adv_suf l
mutual
theorem qWhole_up (n0 : Nat) : ∀ (k : Nat) (st : TS) (l : List Tok) (t : Ty) (st' : TS) (l' : List Tok), qWhole k st l = some (.ok (t, st', l')) → NmUp n0 st st' l l' t
  | 0, _, _, _, _, _, h => by simp [qWhole] at h
  | k + 1, st, l, t, st', l', h => by
    simp only [qWhole] at h
    obtain ⟨⟨t1, s1, l1⟩, h1, h2⟩ := Res.bind_ok h
    have u1 := qOne_up n0 k _ _ _ _ _ h1
    simp only at h2
    split at h2
    · obtain ⟨⟨t2, s2, l2⟩, h3, h4⟩ := Res.bind_ok h2
      have u2 := qWhole_up n0 k _ _ _ _ _ h3
      simp only [Option.some.injEq, Except.ok.injEq, Prod.mk.injEq] at h4
      obtain ⟨rfl, rfl, rfl⟩ := h4
      exact u1.trans (u2.suf' (adv_suf _) (List.suffix_refl _) (fun _ x => x)) (fun N x => by simpa [Ty.has] using x)
    · simp only [Option.some.injEq, Except.ok.injEq, Prod.mk.injEq] at h2
      obtain ⟨rfl, rfl, rfl⟩ := h2
      exact u1
theorem qOne_up (n0 : Nat) : ∀ (k : Nat) (st : TS) (l : List Tok) (t : Ty) (st' : TS) (l' : List Tok), qOne k st l = some (.ok (t, st', l')) → NmUp n0 st st' l l' t
  | 0, _, _, _, _, _, h => by simp [qOne] at h
  | k + 1, st, l, t, st', l', h => by
    simp only [qOne] at h
    split at h
    · simp only [Option.some.injEq, Except.ok.injEq, Prod.mk.injEq] at h
      obtain ⟨rfl, rfl, rfl⟩ := h
      exact .refl (fun _ => rfl) (adv_suf _)
    · split at h
      · simp only [Option.some.injEq, Except.ok.injEq, Prod.mk.injEq] at h
        obtain ⟨rfl, rfl, rfl⟩ := h
        exact .refl (fun _ => rfl) (adv_suf _)
      · split at h
        · obtain ⟨⟨t1, s1, l1⟩, h1, h2⟩ := Res.bind_ok h
          have u1 := qWhole_up n0 k _ _ _ _ _ h1
          obtain ⟨⟨x, l2⟩, h3, h4⟩ := Res.bind_ok h2
          simp only [Option.some.injEq, Except.ok.injEq, Prod.mk.injEq] at h4
          obtain ⟨rfl, rfl, rfl⟩ := h4
          exact u1.suf' (adv_suf _) (suf_adv (want_some h3).2.2) (fun N x => by simpa [Ty.has] using x)
        · split at h
          · obtain ⟨⟨t1, s1, l1⟩, h1, h2⟩ := Res.bind_ok h
            have u1 := qWhole_up n0 k _ _ _ _ _ h1
            simp only at h2
            split at h2
            · obtain ⟨⟨t2, s2, l2⟩, h3, h4⟩ := Res.bind_ok h2
              have u2 := qWhole_up n0 k _ _ _ _ _ h3
              obtain ⟨⟨x, l3⟩, h5, h6⟩ := Res.bind_ok h4
              simp only [Option.some.injEq, Except.ok.injEq, Prod.mk.injEq] at h6
              obtain ⟨rfl, rfl, rfl⟩ := h6
              exact (u1.suf' (adv_suf _) (List.suffix_refl _) (fun _ x => x)).trans (u2.suf' (adv_suf _) (suf_adv (want_some h5).2.2) (fun _ x => x)) (fun N x => by simpa [Ty.has] using x)
            · obtain ⟨⟨x, l3⟩, h5, h6⟩ := Res.bind_ok h2
              simp only [Option.some.injEq, Except.ok.injEq, Prod.mk.injEq] at h6
              obtain ⟨rfl, rfl, rfl⟩ := h6
              exact u1.suf' (adv_suf _) (suf_adv (want_some h5).2.2) (fun _ x => x)
          · obtain ⟨⟨n, l1⟩, h1, h2⟩ := Res.bind_ok h
            obtain ⟨hk, hn, hl⟩ := want_some h1
            simp only at h2 hn hl
            subst hn; subst hl
            split at h2
            · rename_i v hv
              simp only [Option.some.injEq, Except.ok.injEq, Prod.mk.injEq] at h2
              obtain ⟨rfl, rfl, rfl⟩ := h2
              exact ⟨fun _ x => x, fun x => x, fun N x => ⟨_, lookup_mem hv, by simpa [Ty.has] using x⟩, adv_suf _, fun _ _ x => x⟩
            · rename_i hv
              split at h2
              · simp only [Option.some.injEq, Except.ok.injEq, Prod.mk.injEq] at h2
                obtain ⟨rfl, rfl, rfl⟩ := h2
                refine ⟨fun q x => by simp [x], fun x => ⟨fun q hq => ?_, by have := x.le; simp only; omega, ?_, ?_⟩, fun N x => ⟨_, by simp only [List.mem_append, List.mem_singleton]; exact .inr rfl, by simpa [Ty.has] using x⟩, adv_suf _, fun P hl ha q hq => ?_⟩
                · rcases List.mem_append.1 hq with hq | hq
                  · have := x.lo q hq; simp only; omega
                  · simp only [List.mem_singleton] at hq; subst hq
                    have := x.le; simp only; omega
                · simp only [List.map_append, List.map_cons, List.map_nil]
                  refine List.nodup_append.2 ⟨x.nd1, by simp, ?_⟩
                  intro y hy z hz e
                  obtain ⟨q, hq, rfl⟩ := List.mem_map.1 hy
                  simp only [List.mem_singleton] at hz
                  exact lookup_none hv q hq (e.trans hz)
                · simp only [List.map_append, List.map_cons, List.map_nil]
                  refine List.nodup_append.2 ⟨x.nd2, by simp, ?_⟩
                  intro y hy z hz e
                  obtain ⟨q, hq, rfl⟩ := List.mem_map.1 hy
                  simp only [List.mem_singleton] at hz
                  have := (x.lo q hq).2
                  omega
                · rcases List.mem_append.1 hq with hq | hq
                  · exact ha q hq
                  · simp only [List.mem_singleton] at hq; subst hq
                    refine hl _ ?_ hk
                    cases l with
                    | nil => exact absurd hk (by simp [hd])
                    | cons u r => simp [hd]
              · cases h2
end
theorem lexFrom_name {kw : Str → Bool} {i : Nat} {r : Str} (h : (lexFrom kw i r).1.kind = .name) : (lexFrom kw i r).1.text.length ≤ 8 := by
  unfold lexFrom at h ⊢
  split
  · simp
  · rename_i c r
    simp only at h ⊢
    split at h
    · rename_i hlow
      rw [if_pos hlow]
      split at h
      · cases h
      · rename_i h8
        rw [if_neg h8]
        simp only [List.length_take]; omega
    · split at h
      · split at h <;> cases h
      · split at h
        · cases h
        · split at h <;> cases h
theorem toksN_name {kw : Str → Bool} {s : Str} : ∀ (k i : Nat) (u : Tok), u ∈ toksN kw s k i → u.kind = .name → u.text.length ≤ 8
  | 0, _, _, h, _ => by simp [toksN] at h
  | k + 1, i, u, h, hk => by
    simp only [toksN, List.mem_cons] at h
    rcases h with h | h
    · subst h; exact lexFrom_name hk
    · split at h
      · cases h
      · exact toksN_name k _ u h hk
/-- What is known of a type that was read. -/
structure ReadT (n : Nat) (t : Ty) (st : TS) : Prop where
  inn : NmIn n st
  has : ∀ N, t.has N = true → ∃ q ∈ st.m, q.2 = N
  txt : ∀ q ∈ st.m, q.1.length ≤ 8
theorem readTy_in {s : Str} {n : Nat} {t : Ty} {st : TS} (h : readTy s n = some (.ok (t, st))) : ReadT n t st := by
  unfold readTy at h
  split at h
  · cases h
  · split at h
    · cases h
    · cases h
    · rename_i t1 st1 he
      split at h
      · cases h
      · injection h with h; injection h with h; injection h with h1 h2; subst h1; subst h2
        obtain ⟨⟨t2, st2, l2⟩, h1, h2⟩ := Res.bind_ok he
        obtain ⟨x, h3, h4⟩ := Res.bind_ok h2
        simp only [Option.some.injEq, Except.ok.injEq, Prod.mk.injEq] at h4
        obtain ⟨rfl, rfl⟩ := h4
        have u := qWhole_up n _ _ _ _ _ _ h1
        exact ⟨u.inn ⟨fun q hq => (by cases hq), Nat.le_refl _, by simp, by simp⟩, u.has, u.txt (fun x => x.length ≤ 8) (fun v hv hk => toksN_name _ _ v hv hk) (fun q hq => by cases hq)⟩
/-- What a match leaves: each name once, none long, not more than the type is big. -/
structure MatchUp (m m' : List (Str × Str)) (a : Ty) : Prop where
  nd : (m.map (·.1)).Nodup → (m'.map (·.1)).Nodup
  len : (∀ p ∈ m, p.1.length ≤ 1000) → ∀ p ∈ m', p.1.length ≤ 1000
  sz : m'.length ≤ m.length + a.size
theorem matchS_up {nm : Nat → Str} (hn : ∀ N, (nm N).length ≤ 1000) : ∀ {a b : Ty} {m m' : List (Str × Str)}, matchS nm a b m = some m' → MatchUp m m' a
  | .var v, b, m, m', h => by
    simp only [matchS] at h
    split at h
    · split at h
      · injection h with h; subst h; exact ⟨fun x => x, fun x => x, by omega⟩
      · cases h
    · rename_i hk
      injection h with h; subst h
      refine ⟨fun x => ?_, fun x p hp => ?_, by simp [Ty.size]⟩
      · rw [List.map_append]
        refine List.nodup_append.2 ⟨x, by simp, ?_⟩
        intro y hy z hz e
        obtain ⟨p, hp, rfl⟩ := List.mem_map.1 hy
        simp only [List.map_cons, List.map_nil, List.mem_singleton] at hz
        exact lookup_none hk p hp (e.trans hz)
      · rcases List.mem_append.1 hp with hp | hp
        · exact x p hp
        · simp only [List.mem_singleton] at hp; subst hp; exact hn v
  | .int, b, m, m', h => by
    cases b <;> simp [matchS] at h
    subst h; exact ⟨fun x => x, fun x => x, by omega⟩
  | .bool, b, m, m', h => by
    cases b <;> simp [matchS] at h
    subst h; exact ⟨fun x => x, fun x => x, by omega⟩
  | .list a, b, m, m', h => by
    cases b <;> simp only [matchS] at h <;> try (cases h)
    rename_i b
    have u := matchS_up hn (a := a) (b := b) h
    exact ⟨u.nd, u.len, by have := u.sz; simp only [Ty.size]; omega⟩
  | .pair a a', b, m, m', h => by
    cases b <;> simp only [matchS] at h <;> try (cases h)
    rename_i b b'
    cases h1 : matchS nm a b m with
    | none => rw [h1] at h; cases h
    | some m1 =>
      rw [h1] at h
      have u := matchS_up hn (a := a) (b := b) h1
      have u2 := matchS_up hn (a := a') (b := b') (m := m1) h
      exact ⟨fun x => u2.nd (u.nd x), fun x => u2.len (u.len x), by have := u.sz; have := u2.sz; simp only [Ty.size]; omega⟩
  | .fn a a', b, m, m', h => by
    cases b <;> simp only [matchS] at h <;> try (cases h)
    rename_i b b'
    cases h1 : matchS nm a b m with
    | none => rw [h1] at h; cases h
    | some m1 =>
      rw [h1] at h
      have u := matchS_up hn (a := a) (b := b) h1
      have u2 := matchS_up hn (a := a') (b := b') (m := m1) h
      exact ⟨fun x => u2.nd (u.nd x), fun x => u2.len (u.len x), by have := u.sz; have := u2.sz; simp only [Ty.size]; omega⟩
end Go.Proofs.YtabikmkoajdhmaaGreatDoor
