/- Instance: the plain answer: by which types for its variables a type becomes another. -/
import Derived.Test.YtabikmkoajdhmaaDoorQ27
import Derived.Test.YtabikmkoajdhmaaDoorQ30
import Derived.Test.YtabikmkoajdhmaaDoorQ33
import Derived.Test.YtabikmkoajdhmaaDoorQ22
import Derived.Test.YtabikmkoajdhmaaDoorQ32
import Derived.Laws.StructEq
import Derived.Laws.EntriesVeiled
import Derived.Test.YtabikmkoajdhmaaDoorQ21
import Derived.Test.YtabikmkoajdhmaaDoorQ29
set_option linter.unusedVariables false
set_option linter.unusedSimpArgs false
set_option linter.unnecessarySimpa false
namespace Go.Proofs.YtabikmkoajdhmaaDoor
open Go.RowKit

/-- A type's text, its variables by their names. -/
def shownT (nm : Nat → Str) (t : Ty) : Str := (showS (fun (s : Unit) v => (nm v, s)) t ()).1
def matchS (nm : Nat → Str) : Ty → Ty → List (Str × Str) → Option (List (Str × Str))
  | .var v, b, m => (match m.lookup (nm v) with
    | some o => if o = shownT nm b then some m else none
    | none => some (m ++ [(nm v, shownT nm b)]))
  | .int, .int, m => some m
  | .bool, .bool, m => some m
  | .list a, .list b, m => matchS nm a b m
  | .pair a a', .pair b b', m => (matchS nm a b m).bind (matchS nm a' b')
  | .fn a a', .fn b b', m => (matchS nm a b m).bind (matchS nm a' b')
  | _, _, _ => none
def nmS (l : Names) (v : Nat) : Str := match l.find? (fun q => q.2 == v) with
  | some q => q.1
  | none => []
/-- infer.Instance. -/
def instF (g s : Str) : Option (Except Flt (List (Str × Str))) :=
  match readTy g 0 with
  | none => none
  | some (.error f) => some (.error f)
  | some (.ok (a, st)) => (match readTy s st.n with
    | none => none
    | some (.error f) => some (.error f)
    | some (.ok (b, st2)) => (match matchS (nmS (st.m ++ st2.m)) a b [] with
      | none => some (.error { what := 11 })
      | some m => some (.ok m)))

theorem want_some {k : TK} {l : List Tok} {x : Str × List Tok} (h : want k l = some (.ok x)) : (hd l).kind = k ∧ x.1 = (hd l).text ∧ x.2 = adv l := by
  unfold want at h
  split at h
  · rename_i hk; injection h with h; injection h with h; subst h; exact ⟨hk, rfl, rfl⟩
  · cases h
theorem Res.bind_ok {α β : Type} {r : Res α} {f : α → Res β} {y : β} (h : r.bind f = some (.ok y)) : ∃ x, r = some (.ok x) ∧ f x = some (.ok y) := by
  unfold Res.bind at h
  split at h
  · cases h
  · cases h
  · rename_i x; exact ⟨x, rfl, h⟩

theorem lookup_none {α : Type} [BEq α] [LawfulBEq α] {β : Type} {k : α} : ∀ {l : List (α × β)}, l.lookup k = none → ∀ p ∈ l, p.1 ≠ k
  | [], _, p, h => by cases h
  | (a, v) :: r, h, p, hp => by
    rw [List.lookup_cons] at h
    split at h
    · cases h
    · rename_i hk
      rcases List.mem_cons.1 hp with rfl | hp
      · intro e; simp only at e; rw [e] at hk; simp at hk
      · exact lookup_none h p hp
/-- What the reading of a type leaves: names once each with one number each, rising; the type's variables among them. -/
structure NmIn (n0 : Nat) (st : TS) : Prop where
  lo : ∀ q ∈ st.m, n0 < q.2 ∧ q.2 ≤ st.n
  le : n0 ≤ st.n
  nd1 : (st.m.map (·.1)).Nodup
  nd2 : (st.m.map (·.2)).Nodup
structure NmUp (n0 : Nat) (st st' : TS) (l l' : List Tok) (t : Ty) : Prop where
  sub : ∀ q ∈ st.m, q ∈ st'.m
  inn : NmIn n0 st → NmIn n0 st'
  has : ∀ N, t.has N = true → ∃ q ∈ st'.m, q.2 = N
  suf : l' <:+ l
  txt : ∀ P : Str → Prop, (∀ u ∈ l, u.kind = .name → P u.text) → (∀ q ∈ st.m, P q.1) → ∀ q ∈ st'.m, P q.1
theorem adv_suf (l : List Tok) : adv l <:+ l := by
  unfold adv
  split
  · exact ⟨[_], rfl⟩
  · exact List.suffix_refl _
theorem NmUp.refl {n0 : Nat} {st : TS} {l l' : List Tok} {t : Ty} (ht : ∀ N, t.has N = false) (hl : l' <:+ l) : NmUp n0 st st l l' t :=
  ⟨fun _ h => h, fun h => h, fun N h => (by rw [ht] at h; cases h), hl, fun _ _ h => h⟩
theorem NmUp.trans {n0 : Nat} {a b c : TS} {l m k : List Tok} {t u v : Ty} (h : NmUp n0 a b l m t) (h2 : NmUp n0 b c m k u) (hv : ∀ N, v.has N = true → t.has N = true ∨ u.has N = true) : NmUp n0 a c l k v :=
  ⟨fun q x => h2.sub q (h.sub q x), fun x => h2.inn (h.inn x), fun N x => by
    rcases hv N x with x | x
    · obtain ⟨q, a, b⟩ := h.has N x; exact ⟨q, h2.sub q a, b⟩
    · exact h2.has N x, h2.suf.trans h.suf, fun P hl ha => h2.txt P (fun u hu => hl u (h.suf.subset hu)) (h.txt P hl ha)⟩
theorem NmUp.suf' {n0 : Nat} {a b : TS} {l l2 m m2 : List Tok} {t v : Ty} (h : NmUp n0 a b l m t) (h1 : l <:+ l2) (h2 : m2 <:+ m) (hv : ∀ N, v.has N = true → t.has N = true) : NmUp n0 a b l2 m2 v :=
  ⟨h.sub, h.inn, fun N x => h.has N (hv N x), (h2.trans h.suf).trans h1, fun P hl ha => h.txt P (fun u hu => hl u (h1.subset hu)) ha⟩
theorem suf_adv {l l' : List Tok} (h : l' = adv l) : l' <:+ l := h ▸ adv_suf l
mutual
theorem qWhole_up (n0 : Nat) : ∀ (k : Nat) (st : TS) (l : List Tok) (t : Ty) (st' : TS) (l' : List Tok), qWhole k st l = some (.ok (t, st', l')) → NmUp n0 st st' l l' t
  | 0, _, _, _, _, _, h => by simp [qWhole] at h
  | k + 1, st, l, t, st', l', h => by
    simp only [qWhole] at h
    obtain ⟨⟨t1, s1, l1⟩, h1, h2⟩ := Res.bind_ok h
    have u1 := qOne_up n0 k _ _ _ _ _ h1
    simp only at h2
    split at h2
    · obtain ⟨⟨t2, s2, l2⟩, h3, h4⟩ := Res.bind_ok h2
      have u2 := qWhole_up n0 k _ _ _ _ _ h3
      simp only [Option.some.injEq, Except.ok.injEq, Prod.mk.injEq] at h4
      obtain ⟨rfl, rfl, rfl⟩ := h4
      exact u1.trans (u2.suf' (adv_suf _) (List.suffix_refl _) (fun _ x => x)) (fun N x => by simpa [Ty.has] using x)
    · simp only [Option.some.injEq, Except.ok.injEq, Prod.mk.injEq] at h2
      obtain ⟨rfl, rfl, rfl⟩ := h2
      exact u1
theorem qOne_up (n0 : Nat) : ∀ (k : Nat) (st : TS) (l : List Tok) (t : Ty) (st' : TS) (l' : List Tok), qOne k st l = some (.ok (t, st', l')) → NmUp n0 st st' l l' t
  | 0, _, _, _, _, _, h => by simp [qOne] at h
  | k + 1, st, l, t, st', l', h => by
    simp only [qOne] at h
    split at h
    · simp only [Option.some.injEq, Except.ok.injEq, Prod.mk.injEq] at h
      obtain ⟨rfl, rfl, rfl⟩ := h
      exact .refl (fun _ => rfl) (adv_suf _)
    · split at h
      · simp only [Option.some.injEq, Except.ok.injEq, Prod.mk.injEq] at h
        obtain ⟨rfl, rfl, rfl⟩ := h
        exact .refl (fun _ => rfl) (adv_suf _)
      · split at h
        · obtain ⟨⟨t1, s1, l1⟩, h1, h2⟩ := Res.bind_ok h
          have u1 := qWhole_up n0 k _ _ _ _ _ h1
          obtain ⟨⟨x, l2⟩, h3, h4⟩ := Res.bind_ok h2
          simp only [Option.some.injEq, Except.ok.injEq, Prod.mk.injEq] at h4
          obtain ⟨rfl, rfl, rfl⟩ := h4
          exact u1.suf' (adv_suf _) (suf_adv (want_some h3).2.2) (fun N x => by simpa [Ty.has] using x)
        · split at h
          · obtain ⟨⟨t1, s1, l1⟩, h1, h2⟩ := Res.bind_ok h
            have u1 := qWhole_up n0 k _ _ _ _ _ h1
            simp only at h2
            split at h2
            · obtain ⟨⟨t2, s2, l2⟩, h3, h4⟩ := Res.bind_ok h2
              have u2 := qWhole_up n0 k _ _ _ _ _ h3
              obtain ⟨⟨x, l3⟩, h5, h6⟩ := Res.bind_ok h4
              simp only [Option.some.injEq, Except.ok.injEq, Prod.mk.injEq] at h6
              obtain ⟨rfl, rfl, rfl⟩ := h6
              exact (u1.suf' (adv_suf _) (List.suffix_refl _) (fun _ x => x)).trans (u2.suf' (adv_suf _) (suf_adv (want_some h5).2.2) (fun _ x => x)) (fun N x => by simpa [Ty.has] using x)
            · obtain ⟨⟨x, l3⟩, h5, h6⟩ := Res.bind_ok h2
              simp only [Option.some.injEq, Except.ok.injEq, Prod.mk.injEq] at h6
              obtain ⟨rfl, rfl, rfl⟩ := h6
              exact u1.suf' (adv_suf _) (suf_adv (want_some h5).2.2) (fun _ x => x)
          · obtain ⟨⟨n, l1⟩, h1, h2⟩ := Res.bind_ok h
            obtain ⟨hk, hn, hl⟩ := want_some h1
            simp only at h2 hn hl
            subst hn; subst hl
            split at h2
            · rename_i v hv
              simp only [Option.some.injEq, Except.ok.injEq, Prod.mk.injEq] at h2
              obtain ⟨rfl, rfl, rfl⟩ := h2
              exact ⟨fun _ x => x, fun x => x, fun N x => ⟨_, lookup_mem hv, by simpa [Ty.has] using x⟩, adv_suf _, fun _ _ x => x⟩
            · rename_i hv
              split at h2
              · simp only [Option.some.injEq, Except.ok.injEq, Prod.mk.injEq] at h2
                obtain ⟨rfl, rfl, rfl⟩ := h2
                refine ⟨fun q x => by simp [x], fun x => ⟨fun q hq => ?_, by have := x.le; simp only; omega, ?_, ?_⟩, fun N x => ⟨_, by simp only [List.mem_append, List.mem_singleton]; exact .inr rfl, by simpa [Ty.has] using x⟩, adv_suf _, fun P hl ha q hq => ?_⟩
                · rcases List.mem_append.1 hq with hq | hq
                  · have := x.lo q hq; simp only; omega
                  · simp only [List.mem_singleton] at hq; subst hq
                    have := x.le; simp only; omega
                · simp only [List.map_append, List.map_cons, List.map_nil]
                  refine List.nodup_append.2 ⟨x.nd1, by simp, ?_⟩
                  intro y hy z hz e
                  obtain ⟨q, hq, rfl⟩ := List.mem_map.1 hy
                  simp only [List.mem_singleton] at hz
                  exact lookup_none hv q hq (e.trans hz)
                · simp only [List.map_append, List.map_cons, List.map_nil]
                  refine List.nodup_append.2 ⟨x.nd2, by simp, ?_⟩
                  intro y hy z hz e
                  obtain ⟨q, hq, rfl⟩ := List.mem_map.1 hy
                  simp only [List.mem_singleton] at hz
                  have := (x.lo q hq).2
                  omega
                · rcases List.mem_append.1 hq with hq | hq
                  · exact ha q hq
                  · simp only [List.mem_singleton] at hq; subst hq
                    refine hl _ ?_ hk
                    cases l with
                    | nil => exact absurd hk (by simp [hd])
                    | cons u r => simp [hd]
              · cases h2
end
theorem lexFrom_name {kw : Str → Bool} {i : Nat} {r : Str} (h : (lexFrom kw i r).1.kind = .name) : (lexFrom kw i r).1.text.length ≤ 8 := by
  unfold lexFrom at h ⊢
  split
  · simp
  · rename_i c r
    simp only at h ⊢
    split at h
    · rename_i hlow
      rw [if_pos hlow]
      split at h
      · cases h
      · rename_i h8
        rw [if_neg h8]
        simp only [List.length_take]; omega
    · split at h
      · split at h <;> cases h
      · split at h
        · cases h
        · split at h <;> cases h
theorem toksN_name {kw : Str → Bool} {s : Str} : ∀ (k i : Nat) (u : Tok), u ∈ toksN kw s k i → u.kind = .name → u.text.length ≤ 8
  | 0, _, _, h, _ => by simp [toksN] at h
  | k + 1, i, u, h, hk => by
    simp only [toksN, List.mem_cons] at h
    rcases h with h | h
    · subst h; exact lexFrom_name hk
    · split at h
      · cases h
      · exact toksN_name k _ u h hk
/-- What is known of a type that was read. -/
structure ReadT (n : Nat) (t : Ty) (st : TS) : Prop where
  inn : NmIn n st
  has : ∀ N, t.has N = true → ∃ q ∈ st.m, q.2 = N
  txt : ∀ q ∈ st.m, q.1.length ≤ 8
theorem readTy_in {s : Str} {n : Nat} {t : Ty} {st : TS} (h : readTy s n = some (.ok (t, st))) : ReadT n t st := by
  unfold readTy at h
  split at h
  · cases h
  · split at h
    · cases h
    · cases h
    · rename_i t1 st1 he
      split at h
      · cases h
      · injection h with h; injection h with h; injection h with h1 h2; subst h1; subst h2
        obtain ⟨⟨t2, st2, l2⟩, h1, h2⟩ := Res.bind_ok he
        obtain ⟨x, h3, h4⟩ := Res.bind_ok h2
        simp only [Option.some.injEq, Except.ok.injEq, Prod.mk.injEq] at h4
        obtain ⟨rfl, rfl⟩ := h4
        have u := qWhole_up n _ _ _ _ _ _ h1
        exact ⟨u.inn ⟨fun q hq => (by cases hq), Nat.le_refl _, by simp, by simp⟩, u.has, u.txt (fun x => x.length ≤ 8) (fun v hv hk => toksN_name _ _ v hv hk) (fun q hq => by cases hq)⟩
/-- What a match leaves: each name once, none long, not more than the type is big. -/
structure MatchUp (m m' : List (Str × Str)) (a : Ty) : Prop where
  nd : (m.map (·.1)).Nodup → (m'.map (·.1)).Nodup
  len : (∀ p ∈ m, p.1.length ≤ 1000) → ∀ p ∈ m', p.1.length ≤ 1000
  sz : m'.length ≤ m.length + a.size
theorem matchS_up {nm : Nat → Str} (hn : ∀ N, (nm N).length ≤ 1000) : ∀ {a b : Ty} {m m' : List (Str × Str)}, matchS nm a b m = some m' → MatchUp m m' a
  | .var v, b, m, m', h => by
    simp only [matchS] at h
    split at h
    · split at h
      · injection h with h; subst h; exact ⟨fun x => x, fun x => x, by omega⟩
      · cases h
    · rename_i hk
      injection h with h; subst h
      refine ⟨fun x => ?_, fun x p hp => ?_, by simp [Ty.size]⟩
      · rw [List.map_append]
        refine List.nodup_append.2 ⟨x, by simp, ?_⟩
        intro y hy z hz e
        obtain ⟨p, hp, rfl⟩ := List.mem_map.1 hy
        simp only [List.map_cons, List.map_nil, List.mem_singleton] at hz
        exact lookup_none hk p hp (e.trans hz)
      · rcases List.mem_append.1 hp with hp | hp
        · exact x p hp
        · simp only [List.mem_singleton] at hp; subst hp; exact hn v
  | .int, b, m, m', h => by
    cases b <;> simp [matchS] at h
    subst h; exact ⟨fun x => x, fun x => x, by omega⟩
  | .bool, b, m, m', h => by
    cases b <;> simp [matchS] at h
    subst h; exact ⟨fun x => x, fun x => x, by omega⟩
  | .list a, b, m, m', h => by
    cases b <;> simp only [matchS] at h <;> try (cases h)
    rename_i b
    have u := matchS_up hn (a := a) (b := b) h
    exact ⟨u.nd, u.len, by have := u.sz; simp only [Ty.size]; omega⟩
  | .pair a a', b, m, m', h => by
    cases b <;> simp only [matchS] at h <;> try (cases h)
    rename_i b b'
    cases h1 : matchS nm a b m with
    | none => rw [h1] at h; cases h
    | some m1 =>
      rw [h1] at h
      have u := matchS_up hn (a := a) (b := b) h1
      have u2 := matchS_up hn (a := a') (b := b') (m := m1) h
      exact ⟨fun x => u2.nd (u.nd x), fun x => u2.len (u.len x), by have := u.sz; have := u2.sz; simp only [Ty.size]; omega⟩
  | .fn a a', b, m, m', h => by
    cases b <;> simp only [matchS] at h <;> try (cases h)
    rename_i b b'
    cases h1 : matchS nm a b m with
    | none => rw [h1] at h; cases h
    | some m1 =>
      rw [h1] at h
      have u := matchS_up hn (a := a) (b := b) h1
      have u2 := matchS_up hn (a := a') (b := b') (m := m1) h
      exact ⟨fun x => u2.nd (u.nd x), fun x => u2.len (u.len x), by have := u.sz; have := u2.sz; simp only [Ty.size]; omega⟩
end Go.Proofs.YtabikmkoajdhmaaDoor

/- Instance's closures by contracts: a variable's own name; the match of two types. -/
namespace Go.Proofs.YtabikmkoajdhmaaDoor
open Go.RowKit

theorem FreeA.root {G : GH} {A : GV} {w : World} {v : Value} {t : Ty} (hf : FreeA A w) (h : TR G A w v t) : Root G A w v t := by
  cases h with
  | free a b => exact .var a b
  | link a b c => have := hf _ _ _ a; rw [b] at this; simp [varObj] at this
  | con a b c d => exact .con a b c d
theorem FreeA.keep {A : GV} {w w' : World} {S : Nat → Prop} (hf : FreeA A w) (k : Keep S w w') (hS : ∀ b, isV A b → ¬ S b) : FreeA A w' := fun N b nm e => k.get (hf N b nm e) (hS b ⟨_, _, e⟩)
theorem FreeA.same {S : Nat → Prop} {G : GH} {A : GV} {n : Nat} {w w' : World} (hf : FreeA A w) (s : SameS S G A n w w') : FreeA A w' := fun N b nm e => (s.tr _ _ (.free e (hf N b nm e))).var_free e rfl
def matchL (nm : Nat → Str) : List Ty → List Ty → List (Str × Str) → Option (List (Str × Str))
  | x :: r, y :: s, m => (matchS nm x y m).bind fun m => matchL nm r s m
  | [], [], m => some m
  | _, _, _ => none
theorem match_con {nm : Nat → Str} {x y : Ty} (hx : x.con = true) (hy : y.con = true) (hk : x.kind = y.kind) (m : List (Str × Str)) : matchS nm x y m = matchL nm x.args y.args m := by
  cases x <;> cases y <;> simp_all [Ty.con, Ty.kind, Ty.args, matchS, matchL, INT, BOOL, sList, sPair, sFun] <;> (try (cases matchS nm _ _ m <;> simp_all)) <;> (try (rename_i q; cases matchS nm _ _ q <;> simp_all))
theorem match_kind {nm : Nat → Str} {x y : Ty} (hx : x.con = true) (hy : y.con = true) (hk : x.kind ≠ y.kind) (m : List (Str × Str)) : matchS nm x y m = none := by
  cases x <;> cases y <;> simp_all [Ty.con, Ty.kind, matchS, INT, BOOL, sList, sPair, sFun]
theorem match_mix {nm : Nat → Str} {N : Nat} {x : Ty} (hx : x.con = true) (m : List (Str × Str)) : matchS nm x (.var N) m = none := by
  cases x <;> simp_all [Ty.con, matchS]

theorem own_ok {G : GH} {A : GV} {n : Nat} {nm : Nat → Str} (hlen : ∀ N, (nm N).length ≤ 1000) : NmOk G A n none' (fun N => ∃ b, A N = some (b, nm N)) (fun (s : Unit) v => (nm v, s)) (fun _ _ => True) 57 #[] where
  enter := fun args w => by kernel_rfl
  len := fun _ N => hlen N
  stable := fun _ _ _ _ _ => trivial
  call := fun s w N b name hV _ hi hA hr => by
    obtain ⟨b', hb'⟩ := hV
    rw [hA] at hb'
    injection hb' with hb'; injection hb' with e1 e2; subst e1; subst e2
    have c2 : w.cell? ⟨b, 2, none⟩ = some (.string (bs (nm N))) := cell_of_heap (hr.var_free hA rfl) rfl
    have HI := Lib.hid hi; clear hi hr hA
    go_enter Tryd.func57, Tryd.ntmps57
    go_wp2_with fail
    go_ret
    exact ⟨rfl, trivial, (Same.refl HI.out).s⟩

/-- The blocks of a match: the boxes of own, of the map, of the closure; the map. -/
structure InsB where
  ob : Nat
  gb : Nat
  mb : Nat
  gm : Nat
def InsB.caps (x : InsB) : Array Value := #[.pointer (some ⟨x.ob, 0, none⟩), .pointer (some ⟨x.gb, 0, none⟩), .pointer (some ⟨x.mb, 0, none⟩)]
structure InsR (x : InsB) (G : GH) (A : GV) (m : List (Str × Str)) (w : World) : Prop where
  co : w.heap[x.ob]? = some (.cells #[.func (.func 57) #[] #[]] 134)
  cg : w.heap[x.gb]? = some (.cells #[.map (some x.gm)] 82)
  cm : w.heap[x.mb]? = some (.cells #[.func (.func 58) #[] x.caps] 140)
  mt : w.heap[x.gm]? = some (kmap kStr (envV m))
  priv : ∀ i, (i = x.ob ∨ i = x.gb ∨ i = x.mb ∨ i = x.gm) → G i = none ∧ ¬ isV A i
theorem Ty.has_arg {t a : Ty} {N : Nat} (h : a ∈ t.args) (hn : a.has N = true) : t.has N = true := by
  cases t <;> simp [Ty.args] at h <;> simp [Ty.has]
  · subst h; exact hn
  · rcases h with rfl | rfl
    · exact .inl hn
    · exact .inr hn
  · rcases h with rfl | rfl
    · exact .inl hn
    · exact .inr hn
theorem kind_len2 {x y : Ty} (hx : x.con = true) (hy : y.con = true) (hk : x.kind = y.kind) : x.args.length = y.args.length := by
  cases x <;> cases y <;> simp_all [Ty.con, Ty.kind, Ty.args, INT, BOOL, sList, sPair, sFun]
theorem not_mapI {w : World} {i r : Nat} {c : Array Value} {T : TypeId} {K : Type} {f : K → Value} {l : List (K × Value)} (h : w.heap[i]? = some (.cells c T)) (hr : w.heap[r]? = some (kmap f l)) : i ≠ r := fun e => by rw [e, hr] at h; cases h
theorem SameS.wk {S T : Nat → Prop} {G : GH} {A : GV} {n : Nat} {w w' : World} (h : SameS S G A n w w') (hs : ∀ b, S b → T b) : SameS T G A n w w' := ⟨h.keep.mono (fun i _ x => x.imp id (hs i)), h.inv, h.tr⟩
theorem InsR.mb_ne {x : InsB} {G : GH} {A : GV} {m : List (Str × Str)} {w : World} (h : InsR x G A m w) : x.mb ≠ x.gm :=
  fun e => by have := h.cm; rw [e, h.mt] at this; simp [kmap] at this
theorem InsR.stable {S : Nat → Prop} {x : InsB} {G : GH} {A : GV} {n : Nat} {m : List (Str × Str)} {w w' : World} (h : InsR x G A m w) (k : SameS S G A n w w') (hS : ∀ i, ¬ S i) : InsR x G A m w' := by
  have q : ∀ {i o}, w.heap[i]? = some o → (i = x.ob ∨ i = x.gb ∨ i = x.mb ∨ i = x.gm) → w'.heap[i]? = some o := fun e hi => k.keep.get e (fun hh => by
    rcases hh with hh | hh
    · exact (h.priv _ hi).2 hh
    · exact hS _ hh)
  exact ⟨q h.co (by simp), q h.cg (by simp), q h.cm (by simp), q h.mt (by simp), h.priv⟩
def InsPost (x : InsB) (G : GH) (A : GV) (n : Nat) (w : World) (r : Option (List (Str × Str))) (e : Ending) (w' : World) : Prop :=
  e = .returned (.bool r.isSome) ∧ SameS (one' x.gm) G A n w w' ∧ ∀ m', r = some m' → InsR x G A m' w'
def InsOk (nm : Nat → Str) (k : Nat) : Prop := ∀ (x : InsB) (G : GH) (A : GV) (n : Nat) (vx vy : Value) (w : World) (tx ty : Ty) (m : List (Str × Str)), TInv G A w n → FreeA A w → InsR x G A m w → TR G A w vx tx → TR G A w vy ty → (∀ N, tx.has N = true ∨ ty.has N = true → ∃ b, A N = some (b, nm N)) → tx.size ≤ k → ty.size ≤ 1000000 →
  Calls Tryd.prog 58 (#[vx, vy] ++ x.caps) w (InsPost x G A n w (matchS nm tx ty m))
theorem env_look (k : Str) : ∀ m : List (Str × Str), @List.lookup Str Value instBEqOfDecidableEq k (envV m) = (m.lookup k).map typedV
  | [] => rfl
  | (a, N) :: r => by
    simp only [envV, List.map_cons, List.lookup_cons]
    by_cases h : k = a
    · subst h; simp
    · have h1 : (@BEq.beq Str instBEqOfDecidableEq k a) = false := by simpa using h
      have h2 : (k == a) = false := by simpa using h
      rw [h1, h2]
      exact env_look k r
set_option maxRecDepth 100000 in
set_option maxHeartbeats 4000000 in
theorem ins_step {nm : Nat → Str} (hlen : ∀ N, (nm N).length ≤ 1000) (k : Nat) (ih : InsOk nm k) : InsOk nm (k + 1) := by
  intro x G A n vx vy w tx ty m hi hfa hR hx hy hV hk hk2
  have hr1 := hfa.root hx
  have hr2 := hfa.root hy
  have IH := Lib.hid ih; have HI := Lib.hid hi; have HRR := Lib.hid hR; have HY := Lib.hid hy; have HM := Lib.hid hk; have HM2 := Lib.hid hk2; have HV := Lib.hid hV; have HFA := Lib.hid hfa
  clear ih hi hR hx hk hk2 hV hfa
  simp only [InsB.caps]
  cases hr1 with
  | @var v bv nmv hAv hbv =>
    obtain ⟨Ty', by', rfl⟩ := hy.iface
    have hsh := fun (W : World) (s : Same G A n w W) => show_ok (own_ok (G := G) (A := A) (n := n) hlen) 1000000 (by omega) W _ ty () s.inv (s.tr _ _ HY.out) HM2.out (fun N h => HV.out N (.inr h)) trivial
    obtain ⟨b', hb'⟩ := HV.out v (.inl (by simp [Ty.has]))
    rw [hAv] at hb'
    injection hb' with hb'; injection hb' with e1 e2; subst e1; subst e2
    have HSH := Lib.hid hsh; clear hsh hr2 hy
    simp only [varV]
    have ta := taVarVar
    have q1 : w.cell? ⟨x.ob, 0, none⟩ = some (.func (.func 57) #[] #[]) := cell_of_heap HRR.out.co rfl
    have HBV := Lib.hid hbv; have HAV := Lib.hid hAv
    clear hbv hAv
    go_enter Tryd.func58, Tryd.ntmps58
    go_wp2_with fail
    refine (HSH.out w (Same.refl HI.out)).mono ?_
    rintro e w1 ⟨rfl, _, s1⟩
    have hR1 := HRR.out.stable s1 (fun _ h => h)
    have hfa1 := HFA.out.same s1
    have hb1 := hfa1 v bv (nm v) HAV.out
    clear q1
    have hlk := env_look (nm v) m
    rw [show (showS (fun (s : Unit) v => (nm v, s)) ty ()).1 = shownT nm ty from rfl]
    obtain ⟨sh, hsh⟩ : ∃ sh, sh = shownT nm ty := ⟨_, rfl⟩
    rw [← hsh]
    have HS1 := Lib.hid s1; have HR1 := Lib.hid hR1; have HSHN := Lib.hid hsh; have HB1 := Lib.hid hb1
    clear s1 hfa1 hb1 hsh hR1
    cases hl : m.lookup (nm v) with
    | some o =>
      rw [hl] at hlk
      have hf : ∀ w', Keep none' w1 w' → w'.cell? ⟨x.gb, 0, none⟩ = some (.map (some x.gm)) ∧ w'.cell? ⟨bv, 2, none⟩ = some (.string (bs (nm v))) ∧ (Instr.lookup 82 (.map (some x.gm)) (.string (bs (nm v))) true).run Tryd.prog w' = .ok (.tuple #[.agg #[.string (bs o)], .bool true]) w' := fun w' k =>
        ⟨cell_of_heap (k.get HR1.out.cg (fun x => x)) rfl, cell_of_heap (k.get HB1.out (fun x => x)) rfl, run_look_some (P := Tryd.prog) und_env key_str (k := nm v) (v := typedV o) (k.get HR1.out.mt (fun x => x)) hlk true⟩
      have q5 := str_eq2 o sh
      have hms : matchS nm (.var v) ty m = if o = shownT nm ty then some m else none := by simp only [matchS, hl]
      rw [← HSHN.out] at hms
      have HL := Lib.hid hl; have HMS := Lib.hid hms; have HLK := Lib.hid hlk; have HF := Lib.hid hf
      clear hl hlk hms hf
      go_wp2_with fail
      obtain ⟨w2, hw2⟩ : ∃ w2, w2 = w1.alloc (.cells #[.string (bs sh)] 90) := ⟨_, rfl⟩
      have k2 : Keep none' w1 w2 := by rw [hw2]; exact Keep.alloc _ _ _
      have t2 : w2.heap[w1.heap.size]? = some (.cells #[.string (bs sh)] 90) := by rw [hw2]; exact heap_new _ _
      obtain ⟨tb, htb⟩ : ∃ tb, tb = w1.heap.size := ⟨_, rfl⟩
      rw [← hw2, ← htb]
      rw [← htb] at t2
      have kd : Keep none' w1 w2.drew := k2.trans (Keep.drew _ _)
      have ka : Keep none' w1 (w2.drew.alloc (.cells #[.string ⟨#[]⟩] 90)) := kd.trans (Keep.alloc _ _ _)
      have kz : Keep none' w1 (w2.alloc (.cells #[.string (bs o)] 90)).drew := (k2.trans (Keep.alloc _ _ _)).trans (Keep.drew _ _)
      have hz : (w2.drew.alloc (.cells #[.string ⟨#[]⟩] 90)).heap[w2.heap.size]? = some (.cells #[.string ⟨#[]⟩] 90) := heap_new w2.drew _
      have z0 := cell_of_heap (i := 0) hz rfl
      have zf : ∀ i, (w2.drew.alloc (.cells #[.string ⟨#[]⟩] 90)).frozen? ⟨w2.heap.size, i, none⟩ = false := fun i => free_of_heap hz
      have S0 := HF.out _ kd; have S1 := HF.out _ ka; have S2 := HF.out _ kz
      have HZ := Lib.hid hz; have HKZ := Lib.hid kz; have HT2 := Lib.hid t2; have HTB := Lib.hid htb; have HK2 := Lib.hid k2
      clear hz kz ka kd t2 hw2 htb k2
      refine wp_region_float (fun w' => w'.cell? ⟨x.gb, 0, none⟩ = some (.map (some x.gm)) ∧ w'.cell? ⟨bv, 2, none⟩ = some (.string (bs (nm v))) ∧ (Instr.lookup 82 (.map (some x.gm)) (.string (bs (nm v))) true).run Tryd.prog w' = .ok (.tuple #[.agg #[.string (bs o)], .bool true]) w') [1, 2, 3, 6, 7, 8, 11] [0, 4, 5] (by kernel_rfl) ?_
      (refine floatS (i := 0) (v := ?_) rfl (by kernel_rfl) (by kernel_rfl) (by kernel_rfl) (by kernel_rfl) (fun _ _ _ h => h) (by assumption) (by rfl) ?_ ?_); rotate_left
      (intro wF hF; (try dsimp only at hF); go_simp; try with_reducible rfl)
      (try simp only [Act.put, List.setIfInBounds_toArray, List.set_cons_zero, List.set_cons_succ])
      (refine float0 (i := 1) (v := ?_) rfl (by kernel_rfl) (by kernel_rfl) (by kernel_rfl) (by kernel_rfl) (fun _ _ _ h => h) (by rfl) ?_ ?_); rotate_left
      (intro wF; go_simp; try with_reducible rfl)
      (try simp only [Act.put, List.setIfInBounds_toArray, List.set_cons_zero, List.set_cons_succ])
      (refine float0 (i := 2) (v := ?_) rfl (by kernel_rfl) (by kernel_rfl) (by kernel_rfl) (by kernel_rfl) (fun _ _ _ h => h) (by rfl) ?_ ?_); rotate_left
      (intro wF; go_simp; try with_reducible rfl)
      (try simp only [Act.put, List.setIfInBounds_toArray, List.set_cons_zero, List.set_cons_succ])
      (refine float0 (i := 3) (v := ?_) rfl (by kernel_rfl) (by kernel_rfl) (by kernel_rfl) (by kernel_rfl) (fun _ _ _ h => h) (by rfl) ?_ ?_); rotate_left
      (intro wF; go_simp; try with_reducible rfl)
      (try simp only [Act.put, List.setIfInBounds_toArray, List.set_cons_zero, List.set_cons_succ])
      (refine floatS (i := 4) (v := ?_) rfl (by kernel_rfl) (by kernel_rfl) (by kernel_rfl) (by kernel_rfl) (fun _ _ _ h => h) (by assumption) (by rfl) ?_ ?_); rotate_left
      (intro wF hF; (try dsimp only at hF); go_simp; try with_reducible rfl)
      (try simp only [Act.put, List.setIfInBounds_toArray, List.set_cons_zero, List.set_cons_succ])
      (refine floatS (i := 5) (v := ?_) rfl (by kernel_rfl) (by kernel_rfl) (by kernel_rfl) (by kernel_rfl) (fun _ _ _ h => h) (by assumption) (by rfl) ?_ ?_); rotate_left
      (intro wF hF; (try dsimp only at hF); go_simp; try with_reducible rfl)
      (try simp only [Act.put, List.setIfInBounds_toArray, List.set_cons_zero, List.set_cons_succ])
      (refine float0 (i := 6) (v := ?_) rfl (by kernel_rfl) (by kernel_rfl) (by kernel_rfl) (by kernel_rfl) (fun _ _ _ h => h) (by rfl) ?_ ?_); rotate_left
      (intro wF; go_simp; try with_reducible rfl)
      (try simp only [Act.put, List.setIfInBounds_toArray, List.set_cons_zero, List.set_cons_succ])
      (refine float0 (i := 7) (v := ?_) rfl (by kernel_rfl) (by kernel_rfl) (by kernel_rfl) (by kernel_rfl) (fun _ _ _ h => h) (by rfl) ?_ ?_); rotate_left
      (intro wF; go_simp; try with_reducible rfl)
      (try simp only [Act.put, List.setIfInBounds_toArray, List.set_cons_zero, List.set_cons_succ])
      (refine float0 (i := 8) (v := ?_) rfl (by kernel_rfl) (by kernel_rfl) (by kernel_rfl) (by kernel_rfl) (fun _ _ _ h => h) (by rfl) ?_ ?_); rotate_left
      (intro wF; go_simp; try with_reducible rfl)
      (try simp only [Act.put, List.setIfInBounds_toArray, List.set_cons_zero, List.set_cons_succ])
      (refine floatM (i := 9) rfl (by kernel_rfl) (by kernel_rfl) (fun K hK => ?_)); go_simp
      refine hK.out _ _ (fun _ => S1) ?_
      clear hK K
      (try simp only [Act.put, List.setIfInBounds_toArray, List.set_cons_zero, List.set_cons_succ])
      (refine floatM (i := 10) rfl (by kernel_rfl) (by kernel_rfl) (fun K hK => ?_)); go_simp
      refine hK.out _ _ (fun _ => S2) ?_
      clear hK K
      (try simp only [Act.put, List.setIfInBounds_toArray, List.set_cons_zero, List.set_cons_succ])
      (refine float0 (i := 11) (v := ?_) rfl (by kernel_rfl) (by kernel_rfl) (by kernel_rfl) (by kernel_rfl) (fun _ _ _ h => h) (by rfl) ?_ ?_); rotate_left
      (intro wF; go_simp; try with_reducible rfl)
      (try simp only [Act.put, List.setIfInBounds_toArray, List.set_cons_zero, List.set_cons_succ])
      (refine floatE (by kernel_rfl) ?_)
      clear S0 S1 S2 z0 zf
      obtain ⟨W3, hW3⟩ : ∃ W3, W3 = (w2.alloc (.cells #[.string (bs o)] 90)).drew := ⟨_, rfl⟩
      have o3 : W3.heap[w2.heap.size]? = some (.cells #[.string (bs o)] 90) := by rw [hW3]; exact heap_new w2 _
      have t3 : W3.heap[tb]? = some (.cells #[.string (bs sh)] 90) := by rw [hW3]; exact heap_old (w := w2) HT2.out
      have o4 := cell_of_heap (i := 0) o3 rfl
      have t4 := cell_of_heap (i := 0) t3 rfl
      have HKW : Hid (Keep none' w1 W3) := Lib.hid (by rw [hW3]; exact HKZ.out)
      rw [← hW3]
      clear o3 t3 hW3
      have SS := (HS1.out.wk (T := one' x.gm) (fun _ h => h.elim)).trans (Same.of0 HS1.out.inv HKW.out).s
      have RR := HR1.out.stable (S := none') (Same.of0 HS1.out.inv HKW.out).s (fun _ h => h)
      have HSS := Lib.hid SS; have HRW := Lib.hid RR
      clear SS RR
      by_cases ho : o = sh
      · rw [decide_eq_true ho] at q5
        have HO := Lib.hid ho; clear ho
        go_wp2_with fail
        go_ret
        rw [HMS.out, if_pos HO.out]
        exact ⟨rfl, HSS.out, fun m' e => by injection e with e; subst e; exact HRW.out⟩
      · rw [decide_eq_false ho] at q5
        have HO := Lib.hid ho; clear ho
        go_wp2_with fail
        go_ret
        rw [HMS.out, if_neg HO.out]
        exact ⟨rfl, HSS.out, fun m' e => by cases e⟩
    | none =>
      rw [hl] at hlk
      have hf : ∀ w', Keep none' w1 w' → w'.cell? ⟨x.gb, 0, none⟩ = some (.map (some x.gm)) ∧ w'.cell? ⟨bv, 2, none⟩ = some (.string (bs (nm v))) ∧ (Instr.lookup 82 (.map (some x.gm)) (.string (bs (nm v))) true).run Tryd.prog w' = .ok (.tuple #[.agg #[.string (bs [])], .bool false]) w' := fun w' k =>
        ⟨cell_of_heap (k.get HR1.out.cg (fun x => x)) rfl, cell_of_heap (k.get HB1.out (fun x => x)) rfl, run_look_none (P := Tryd.prog) und_env key_str zero_typed (k := nm v) (k.get HR1.out.mt (fun x => x)) hlk true⟩
      have hms : matchS nm (.var v) ty m = some (m ++ [(nm v, shownT nm ty)]) := by simp only [matchS, hl]
      rw [← HSHN.out] at hms
      have HL := Lib.hid hl; have HMS := Lib.hid hms; have HLK := Lib.hid hlk; have HF := Lib.hid hf
      clear hl hlk hms hf
      go_wp2_with fail
      obtain ⟨w2, hw2⟩ : ∃ w2, w2 = w1.alloc (.cells #[.string (bs sh)] 90) := ⟨_, rfl⟩
      have k2 : Keep none' w1 w2 := by rw [hw2]; exact Keep.alloc _ _ _
      have t2 : w2.heap[w1.heap.size]? = some (.cells #[.string (bs sh)] 90) := by rw [hw2]; exact heap_new _ _
      obtain ⟨tb, htb⟩ : ∃ tb, tb = w1.heap.size := ⟨_, rfl⟩
      rw [← hw2, ← htb]
      rw [← htb] at t2
      have kd : Keep none' w1 w2.drew := k2.trans (Keep.drew _ _)
      have ka : Keep none' w1 (w2.drew.alloc (.cells #[.string ⟨#[]⟩] 90)) := kd.trans (Keep.alloc _ _ _)
      have kz : Keep none' w1 (w2.alloc (.cells #[.string (bs [])] 90)).drew := (k2.trans (Keep.alloc _ _ _)).trans (Keep.drew _ _)
      have hz : (w2.drew.alloc (.cells #[.string ⟨#[]⟩] 90)).heap[w2.heap.size]? = some (.cells #[.string ⟨#[]⟩] 90) := heap_new w2.drew _
      have z0 := cell_of_heap (i := 0) hz rfl
      have zf : ∀ i, (w2.drew.alloc (.cells #[.string ⟨#[]⟩] 90)).frozen? ⟨w2.heap.size, i, none⟩ = false := fun i => free_of_heap hz
      have S0 := HF.out _ kd; have S1 := HF.out _ ka; have S2 := HF.out _ kz
      have HZ := Lib.hid hz; have HKZ := Lib.hid kz; have HT2 := Lib.hid t2; have HTB := Lib.hid htb; have HK2 := Lib.hid k2
      clear hz kz ka kd t2 hw2 htb k2
      refine wp_region_float (fun w' => w'.cell? ⟨x.gb, 0, none⟩ = some (.map (some x.gm)) ∧ w'.cell? ⟨bv, 2, none⟩ = some (.string (bs (nm v))) ∧ (Instr.lookup 82 (.map (some x.gm)) (.string (bs (nm v))) true).run Tryd.prog w' = .ok (.tuple #[.agg #[.string (bs [])], .bool false]) w') [1, 2, 3, 6, 7, 8, 11] [0, 4, 5] (by kernel_rfl) ?_
      (refine floatS (i := 0) (v := ?_) rfl (by kernel_rfl) (by kernel_rfl) (by kernel_rfl) (by kernel_rfl) (fun _ _ _ h => h) (by assumption) (by rfl) ?_ ?_); rotate_left
      (intro wF hF; (try dsimp only at hF); go_simp; try with_reducible rfl)
      (try simp only [Act.put, List.setIfInBounds_toArray, List.set_cons_zero, List.set_cons_succ])
      (refine float0 (i := 1) (v := ?_) rfl (by kernel_rfl) (by kernel_rfl) (by kernel_rfl) (by kernel_rfl) (fun _ _ _ h => h) (by rfl) ?_ ?_); rotate_left
      (intro wF; go_simp; try with_reducible rfl)
      (try simp only [Act.put, List.setIfInBounds_toArray, List.set_cons_zero, List.set_cons_succ])
      (refine float0 (i := 2) (v := ?_) rfl (by kernel_rfl) (by kernel_rfl) (by kernel_rfl) (by kernel_rfl) (fun _ _ _ h => h) (by rfl) ?_ ?_); rotate_left
      (intro wF; go_simp; try with_reducible rfl)
      (try simp only [Act.put, List.setIfInBounds_toArray, List.set_cons_zero, List.set_cons_succ])
      (refine float0 (i := 3) (v := ?_) rfl (by kernel_rfl) (by kernel_rfl) (by kernel_rfl) (by kernel_rfl) (fun _ _ _ h => h) (by rfl) ?_ ?_); rotate_left
      (intro wF; go_simp; try with_reducible rfl)
      (try simp only [Act.put, List.setIfInBounds_toArray, List.set_cons_zero, List.set_cons_succ])
      (refine floatS (i := 4) (v := ?_) rfl (by kernel_rfl) (by kernel_rfl) (by kernel_rfl) (by kernel_rfl) (fun _ _ _ h => h) (by assumption) (by rfl) ?_ ?_); rotate_left
      (intro wF hF; (try dsimp only at hF); go_simp; try with_reducible rfl)
      (try simp only [Act.put, List.setIfInBounds_toArray, List.set_cons_zero, List.set_cons_succ])
      (refine floatS (i := 5) (v := ?_) rfl (by kernel_rfl) (by kernel_rfl) (by kernel_rfl) (by kernel_rfl) (fun _ _ _ h => h) (by assumption) (by rfl) ?_ ?_); rotate_left
      (intro wF hF; (try dsimp only at hF); go_simp; try with_reducible rfl)
      (try simp only [Act.put, List.setIfInBounds_toArray, List.set_cons_zero, List.set_cons_succ])
      (refine float0 (i := 6) (v := ?_) rfl (by kernel_rfl) (by kernel_rfl) (by kernel_rfl) (by kernel_rfl) (fun _ _ _ h => h) (by rfl) ?_ ?_); rotate_left
      (intro wF; go_simp; try with_reducible rfl)
      (try simp only [Act.put, List.setIfInBounds_toArray, List.set_cons_zero, List.set_cons_succ])
      (refine float0 (i := 7) (v := ?_) rfl (by kernel_rfl) (by kernel_rfl) (by kernel_rfl) (by kernel_rfl) (fun _ _ _ h => h) (by rfl) ?_ ?_); rotate_left
      (intro wF; go_simp; try with_reducible rfl)
      (try simp only [Act.put, List.setIfInBounds_toArray, List.set_cons_zero, List.set_cons_succ])
      (refine float0 (i := 8) (v := ?_) rfl (by kernel_rfl) (by kernel_rfl) (by kernel_rfl) (by kernel_rfl) (fun _ _ _ h => h) (by rfl) ?_ ?_); rotate_left
      (intro wF; go_simp; try with_reducible rfl)
      (try simp only [Act.put, List.setIfInBounds_toArray, List.set_cons_zero, List.set_cons_succ])
      (refine floatM (i := 9) rfl (by kernel_rfl) (by kernel_rfl) (fun K hK => ?_)); go_simp
      refine hK.out _ _ (fun _ => S1) ?_
      clear hK K
      (try simp only [Act.put, List.setIfInBounds_toArray, List.set_cons_zero, List.set_cons_succ])
      (refine floatM (i := 10) rfl (by kernel_rfl) (by kernel_rfl) (fun K hK => ?_)); go_simp
      refine hK.out _ _ (fun _ => S2) ?_
      clear hK K
      (try simp only [Act.put, List.setIfInBounds_toArray, List.set_cons_zero, List.set_cons_succ])
      (refine float0 (i := 11) (v := ?_) rfl (by kernel_rfl) (by kernel_rfl) (by kernel_rfl) (by kernel_rfl) (fun _ _ _ h => h) (by rfl) ?_ ?_); rotate_left
      (intro wF; go_simp; try with_reducible rfl)
      (try simp only [Act.put, List.setIfInBounds_toArray, List.set_cons_zero, List.set_cons_succ])
      (refine floatE (by kernel_rfl) ?_)
      clear S0 S1 S2 z0 zf
      obtain ⟨W3, hW3⟩ : ∃ W3, W3 = (w2.alloc (.cells #[.string (bs [])] 90)).drew := ⟨_, rfl⟩
      have t3 : W3.heap[tb]? = some (.cells #[.string (bs sh)] 90) := by rw [hW3]; exact heap_old (w := w2) HT2.out
      have kw : Keep none' w1 W3 := by rw [hW3]; exact HKZ.out
      have HKW := Lib.hid kw
      have S3 := HF.out _ (kw.trans (Keep.drew _ _))
      have S0 : W3.drew.cell? ⟨x.gb, 0, none⟩ = some (.map (some x.gm)) ∧ W3.drew.cell? ⟨bv, 2, none⟩ = some (.string (bs (nm v))) ∧ W3.drew.cell? ⟨tb, 0, none⟩ = some (.string (bs sh)) := ⟨S3.1, S3.2.1, cell_of_heap (w := W3) t3 rfl⟩
      have m3 := kw.get HR1.out.mt (fun x => x)
      have up := run_upd_new (P := Tryd.prog) und_env key_str (k := nm v) (v := typedV sh) (w := W3.drew) (show W3.drew.heap[x.gm]? = _ from m3) HLK.out
      obtain ⟨W5, hW5⟩ : ∃ W5, W5 = World.lay W3.drew x.gm (kmap kStr (envV m ++ [(nm v, typedV sh)])) := ⟨_, rfl⟩
      rw [← hW5] at up
      unfold kStr typedV at up
      have k5 : Keep (one' x.gm) W3 W5 := by rw [hW5]; exact (Keep.drew (one' x.gm) W3).trans (lay_keep _ _ _)
      have m5 : W5.heap[x.gm]? = some (kmap kStr (envV (m ++ [(nm v, sh)]))) := by
        rw [hW5, show envV (m ++ [(nm v, sh)]) = envV m ++ [(nm v, typedV sh)] by simp [envV]]
        exact lay_same (lt_of_heap (w := W3.drew) m3)
      have R3 := HR1.out.stable (S := none') (Same.of0 HS1.out.inv kw).s (fun _ h => h)
      have pg := R3.priv x.gm (by simp)
      have SS := ((HS1.out.wk (T := one' x.gm) (fun _ h => h.elim)).trans (Same.of0 HS1.out.inv kw).s).trans (SameS.of_keep (Same.of0 HS1.out.inv kw).inv k5 (off_one pg.1) (fun b hb (e : b = x.gm) => pg.2 (e ▸ hb)))
      have q : ∀ {i : Nat} {c : Array Value} {T : TypeId}, W3.heap[i]? = some (Obj.cells c T) → W5.heap[i]? = some (Obj.cells c T) := fun hi => k5.get hi (fun e => not_mapI hi m3 e)
      have R5 : InsR x G A (m ++ [(nm v, sh)]) W5 := ⟨q R3.co, q R3.cg, q R3.cm, m5, R3.priv⟩
      have b3 : W3.heap[bv]? = some (varObj v .nilIface (nm v)) := kw.get HB1.out (fun x => x)
      have S5 : W5.cell? ⟨x.gb, 0, none⟩ = some (.map (some x.gm)) ∧ W5.cell? ⟨bv, 2, none⟩ = some (.string (bs (nm v))) ∧ W5.cell? ⟨tb, 0, none⟩ = some (.string (bs sh)) := ⟨cell_of_heap R5.cg rfl, cell_of_heap (q b3) rfl, cell_of_heap (q t3) rfl⟩
      have HSS := Lib.hid SS; have HR5 := Lib.hid R5
      rw [← hW3]
      clear b3
      clear t3 hW3 S3 kw m3 hW5 k5 m5 R3 pg SS q R5
      go_wp2_with fail
      refine wp_region_float (fun w' => w'.cell? ⟨x.gb, 0, none⟩ = some (.map (some x.gm)) ∧ w'.cell? ⟨bv, 2, none⟩ = some (.string (bs (nm v))) ∧ w'.cell? ⟨tb, 0, none⟩ = some (.string (bs sh))) [1, 2, 3] [0, 4, 5] (by kernel_rfl) ?_
      (refine floatS (i := 0) (v := ?_) rfl (by kernel_rfl) (by kernel_rfl) (by kernel_rfl) (by kernel_rfl) (fun _ _ _ h => h) (by assumption) (by rfl) ?_ ?_); rotate_left
      (intro wF hF; (try dsimp only at hF); go_simp; try with_reducible rfl)
      (try simp only [Act.put, List.setIfInBounds_toArray, List.set_cons_zero, List.set_cons_succ])
      (refine float0 (i := 1) (v := ?_) rfl (by kernel_rfl) (by kernel_rfl) (by kernel_rfl) (by kernel_rfl) (fun _ _ _ h => h) (by rfl) ?_ ?_); rotate_left
      (intro wF; go_simp; try with_reducible rfl)
      (try simp only [Act.put, List.setIfInBounds_toArray, List.set_cons_zero, List.set_cons_succ])
      (refine float0 (i := 2) (v := ?_) rfl (by kernel_rfl) (by kernel_rfl) (by kernel_rfl) (by kernel_rfl) (fun _ _ _ h => h) (by rfl) ?_ ?_); rotate_left
      (intro wF; go_simp; try with_reducible rfl)
      (try simp only [Act.put, List.setIfInBounds_toArray, List.set_cons_zero, List.set_cons_succ])
      (refine float0 (i := 3) (v := ?_) rfl (by kernel_rfl) (by kernel_rfl) (by kernel_rfl) (by kernel_rfl) (fun _ _ _ h => h) (by rfl) ?_ ?_); rotate_left
      (intro wF; go_simp; try with_reducible rfl)
      (try simp only [Act.put, List.setIfInBounds_toArray, List.set_cons_zero, List.set_cons_succ])
      (refine floatS (i := 4) (v := ?_) rfl (by kernel_rfl) (by kernel_rfl) (by kernel_rfl) (by kernel_rfl) (fun _ _ _ h => h) (by assumption) (by rfl) ?_ ?_); rotate_left
      (intro wF hF; (try dsimp only at hF); go_simp; try with_reducible rfl)
      (try simp only [Act.put, List.setIfInBounds_toArray, List.set_cons_zero, List.set_cons_succ])
      (refine floatS (i := 5) (v := ?_) rfl (by kernel_rfl) (by kernel_rfl) (by kernel_rfl) (by kernel_rfl) (fun _ _ _ h => h) (by assumption) (by rfl) ?_ ?_); rotate_left
      (intro wF hF; (try dsimp only at hF); go_simp; try with_reducible rfl)
      (try simp only [Act.put, List.setIfInBounds_toArray, List.set_cons_zero, List.set_cons_succ])
      (refine floatM (i := 6) rfl (by kernel_rfl) (by kernel_rfl) (fun K hK => ?_)); go_simp
      refine hK.out _ _ (fun _ => S5) ?_
      clear hK K
      (try simp only [Act.put, List.setIfInBounds_toArray, List.set_cons_zero, List.set_cons_succ])
      (refine floatE (by kernel_rfl) ?_)
      clear S0 S5
      go_wp2_with fail
      go_ret
      rw [HMS.out]
      exact ⟨rfl, HSS.out, fun m' e => by injection e with e; subst e; exact HR5.out⟩
  | @con b1 lv vs _ hcn hg hl hts =>
    cases hr2 with
    | @var u bu nmu hAu hbu =>
      have ta := taConVar
      have tb := tbConCon
      have tc := taVarCon
      have hms : matchS nm tx (.var u) m = none := match_mix hcn m
      have HMS := Lib.hid hms; clear hms
      simp only [varV, conV]
      go_enter Tryd.func58, Tryd.ntmps58
      go_wp2_with fail
      go_quiet (fail)
      go_wp2_with fail
      go_ret
      rw [HMS.out]
      exact ⟨rfl, (Same.of0 HI.out (Keep.drewN _ _ _)).s, fun m' e => by cases e⟩
    | @con b2 lv2 vs2 _ hcn2 hg2 hl2 hts2 =>
      have ta := taConVar
      have tb := tbConCon
      have tc := taConCon
      have c1 : w.cell? ⟨b1, 0, none⟩ = some (.string (bs tx.kind)) := cell_of_heap (HI.out.holds _ _ hg) rfl
      have c2 : w.cell? ⟨b2, 0, none⟩ = some (.string (bs ty.kind)) := cell_of_heap (HI.out.holds _ _ hg2) rfl
      simp only [conV]
      by_cases hkk : tx.kind = ty.kind
      · have q : ((bs tx.kind).toList == (bs ty.kind).toList) = true := by rw [str_eq2]; simp [hkk]
        have hms := match_con (nm := nm) hcn hcn2 hkk m
        have hle := kind_len2 hcn hcn2 hkk
        have c3 : w.cell? ⟨b1, 1, none⟩ = some lv := cell_of_heap (HI.out.holds _ _ hg) rfl
        have hL2 : ∀ w', Holds G w' → w'.cell? ⟨b1, 1, none⟩ = some lv ∧ w'.cell? ⟨b2, 1, none⟩ = some lv2 := fun w' h => ⟨cell_of_heap (h _ _ hg) rfl, cell_of_heap (h _ _ hg2) rfl⟩
        obtain ⟨a1, cap1, rfl, hcells1⟩ := hl.shp
        obtain ⟨a2, cap2, rfl, hcells2⟩ := hl2.shp
        have HMS := Lib.hid hms; have HLE := Lib.hid hle; have HC1 := Lib.hid hcells1; have HC2 := Lib.hid hcells2; have HT1 := Lib.hid hts; have HT2 := Lib.hid hts2; have HKK := Lib.hid hkk; have HL2 := Lib.hid hL2
        have HHX : Hid (∀ i (h : i < tx.args.length) N, tx.args[i].has N = true → tx.has N = true) := Lib.hid (fun i h N hn => Ty.has_arg (List.getElem_mem h) hn)
        have HHY : Hid (∀ i (h : i < ty.args.length) N, ty.args[i].has N = true → ty.has N = true) := Lib.hid (fun i h N hn => Ty.has_arg (List.getElem_mem h) hn)
        have HLen1 : Hid (vs.length = tx.args.length) := Lib.hid hts.len
        have HLen2 : Hid (vs2.length = ty.args.length) := Lib.hid hts2.len
        have hvl : vs.length ≤ 2 := by have := HLen1.out; have := Ty.args_len (t := tx); omega
        have hv12 : vs2.length = vs.length := by rw [HLen1.out, HLen2.out, hle]
        clear hms hle hcells1 hcells2 hts hts2 hg hg2 hl hl2 hkk hL2 hy hcn hcn2
        go_enter Tryd.func58, Tryd.ntmps58
        go_wp2_with fail
        go_quiet (fail)
        go_wp2_with fail
        obtain ⟨w3, hw3⟩ : ∃ w3, w3 = w.drewN nq := ⟨_, rfl⟩
        rw [← hw3]
        have kd3 : Keep none' w w3 := by rw [hw3]; exact Keep.drewN _ _ _
        have HS3 : Hid (Same G A n w w3) := Lib.hid (Same.of0 HI.out kd3)
        have HR3 := Lib.hid (HRR.out.stable (S := none') HS3.out.s (fun _ h => h))
        have HF3 := Lib.hid (HFA.out.same (S := none') HS3.out.s)
        have HT3 : Hid (TRs G A w3 vs tx.args) := Lib.hid (HS3.out.trs HT1.out)
        have HT4 : Hid (TRs G A w3 vs2 ty.args) := Lib.hid (HS3.out.trs HT2.out)
        clear hw3 kd3 c1 c2 c3
        go_loopg [70] vs.length (fun gn s wr => ∃ (j : Nat) (mj : List (Str × Str)), j ≤ vs.length ∧ Hid (gn = vs.length - j) ∧ s = .int .i64 j ∧ Hid (SameS (one' x.gm) G A n w wr) ∧ Hid (InsR x G A mj wr) ∧ Hid (TRs G A wr vs tx.args) ∧ Hid (TRs G A wr vs2 ty.args) ∧ Hid (matchL nm (tx.args.drop j) (ty.args.drop j) mj = matchS nm tx ty m))
        case atStart => exact ⟨0, m, by omega, Lib.hid rfl, rfl, Lib.hid HS3.out.s, HR3, HT3, HT4, Lib.hid HMS.out.symm⟩
        case round =>
          obtain ⟨j, mj, hj, HMM, rfl, HSJ, HRJ, HTJ, HTK, HALJ⟩ := hrel
          have hjj : (0 : Int) ≤ (j : Int) := by omega
          by_cases hlt : j < vs.length
          · have hltx : j < tx.args.length := by have := HLen1.out; omega
            have hlt2 : j < vs2.length := by omega
            have hlty : j < ty.args.length := by have := HLen2.out; omega
            obtain ⟨p1, rfl, _⟩ := HC1.out wr HSJ.out.inv.holds j vs[j] (by simp [hlt])
            obtain ⟨p2, rfl, _⟩ := HC2.out wr HSJ.out.inv.holds j vs2[j] (by simp [hlt2])
            have hxj := HTJ.out.get j hlt hltx
            have hyj := HTK.out.get j hlt2 hlty
            obtain ⟨T1', r1, e1⟩ := hxj.iface
            obtain ⟨T2', r2, e2⟩ := hyj.iface
            have hst : ∀ w', Holds G w' → w'.heap[x.mb]? = some (.cells #[.func (.func 58) #[] x.caps] 140) → w'.cell? ⟨x.mb, 0, none⟩ = some (.func (.func 58) #[] #[.pointer (some ⟨x.ob, 0, none⟩), .pointer (some ⟨x.gb, 0, none⟩), .pointer (some ⟨x.mb, 0, none⟩)]) ∧ w'.cell? ⟨b1, 1, none⟩ = some (.slice (some ⟨p1, 0, none⟩) vs.length cap1) ∧ w'.cell? ⟨b2, 1, none⟩ = some (.slice (some ⟨p2, 0, none⟩) vs2.length cap2) ∧ w'.cell? ⟨p1, j, none⟩ = some (.iface T1' (.pointer (some ⟨r1, 0, none⟩))) ∧ w'.cell? ⟨p2, j, none⟩ = some (.iface T2' (.pointer (some ⟨r2, 0, none⟩))) := fun w' h hm =>
              ⟨cell_of_heap hm rfl, (HL2.out w' h).1, (HL2.out w' h).2, by
                obtain ⟨q, eq, c⟩ := HC1.out w' h j vs[j] (by simp [hlt])
                injection eq with eq; injection eq with eq; subst eq; rw [← e1]; exact c, by
                obtain ⟨q, eq, c⟩ := HC2.out w' h j vs2[j] (by simp [hlt2])
                injection eq with eq; injection eq with eq; subst eq; rw [← e2]; exact c⟩
            rw [e1] at hxj
            rw [e2] at hyj
            have hsd : Same G A n wr wr.drew := Same.of0 HSJ.out.inv (Keep.drew _ _)
            have hcall := IH.out x G A n _ _ wr.drew (tx.args[j]) (ty.args[j]) mj hsd.inv ((HFA.out.same HSJ.out).same (S := none') hsd.s) (HRJ.out.stable (S := none') hsd.s (fun _ h => h)) (hsd.tr _ _ hxj) (hsd.tr _ _ hyj) (fun N h => HV.out N (h.imp (HHX.out j hltx N) (HHY.out j hlty N))) (by have := Ty.arg_sz (List.getElem_mem hltx); have := HM.out; omega) (by have := Ty.arg_sz (List.getElem_mem hlty); have := HM2.out; omega)
            have hdj : matchS nm tx ty m = (matchS nm (tx.args[j]) (ty.args[j]) mj).bind fun m => matchL nm (tx.args.drop (j + 1)) (ty.args.drop (j + 1)) m := by
              rw [← HALJ.out, drop_cons hltx, drop_cons hlty]; rfl
            have S0 := hst wr.drew hsd.inv.holds HRJ.out.cm
            have HCALL := Lib.hid hcall; have HST := Lib.hid hst; have HDJ := Lib.hid hdj; have HSD := Lib.hid hsd
            clear hcall hst hdj e1 e2 hxj hyj hsd
            have hji : ((j : Int) < (vs.length : Int)) := by omega
            have hji2 : ((j : Int) < (vs2.length : Int)) := by omega
            go_wp2_with fail
            refine wp_region_float (fun w' => w'.cell? ⟨x.mb, 0, none⟩ = some (.func (.func 58) #[] #[.pointer (some ⟨x.ob, 0, none⟩), .pointer (some ⟨x.gb, 0, none⟩), .pointer (some ⟨x.mb, 0, none⟩)]) ∧ w'.cell? ⟨b1, 1, none⟩ = some (.slice (some ⟨p1, 0, none⟩) vs.length cap1) ∧ w'.cell? ⟨b2, 1, none⟩ = some (.slice (some ⟨p2, 0, none⟩) vs2.length cap2) ∧ w'.cell? ⟨p1, j, none⟩ = some (.iface T1' (.pointer (some ⟨r1, 0, none⟩))) ∧ w'.cell? ⟨p2, j, none⟩ = some (.iface T2' (.pointer (some ⟨r2, 0, none⟩)))) [1, 2, 3, 5, 6, 8, 9, 10, 12, 13, 16] [0, 4, 7, 11, 14] (by kernel_rfl) ?_
            (refine floatS (i := 0) (v := ?_) rfl (by kernel_rfl) (by kernel_rfl) (by kernel_rfl) (by kernel_rfl) (fun _ _ _ h => h) (by assumption) (by rfl) ?_ ?_); rotate_left
            (intro wF hF; (try dsimp only at hF); go_simp; try with_reducible rfl)
            (try simp only [Act.put, List.setIfInBounds_toArray, List.set_cons_zero, List.set_cons_succ])
            (refine float0 (i := 1) (v := ?_) rfl (by kernel_rfl) (by kernel_rfl) (by kernel_rfl) (by kernel_rfl) (fun _ _ _ h => h) (by rfl) ?_ ?_); rotate_left
            (intro wF; go_simp; try with_reducible rfl)
            (try simp only [Act.put, List.setIfInBounds_toArray, List.set_cons_zero, List.set_cons_succ])
            (refine float0 (i := 2) (v := ?_) rfl (by kernel_rfl) (by kernel_rfl) (by kernel_rfl) (by kernel_rfl) (fun _ _ _ h => h) (by rfl) ?_ ?_); rotate_left
            (intro wF; go_simp; try with_reducible rfl)
            (try simp only [Act.put, List.setIfInBounds_toArray, List.set_cons_zero, List.set_cons_succ])
            (refine float0 (i := 3) (v := ?_) rfl (by kernel_rfl) (by kernel_rfl) (by kernel_rfl) (by kernel_rfl) (fun _ _ _ h => h) (by rfl) ?_ ?_); rotate_left
            (intro wF; go_simp; try with_reducible rfl)
            (try simp only [Act.put, List.setIfInBounds_toArray, List.set_cons_zero, List.set_cons_succ])
            (refine floatS (i := 4) (v := ?_) rfl (by kernel_rfl) (by kernel_rfl) (by kernel_rfl) (by kernel_rfl) (fun _ _ _ h => h) (by assumption) (by rfl) ?_ ?_); rotate_left
            (intro wF hF; (try dsimp only at hF); go_simp; try with_reducible rfl)
            (try simp only [Act.put, List.setIfInBounds_toArray, List.set_cons_zero, List.set_cons_succ])
            (refine float0 (i := 5) (v := ?_) rfl (by kernel_rfl) (by kernel_rfl) (by kernel_rfl) (by kernel_rfl) (fun _ _ _ h => h) (by rfl) ?_ ?_); rotate_left
            (intro wF; go_simp; try with_reducible rfl)
            (try simp only [Act.put, List.setIfInBounds_toArray, List.set_cons_zero, List.set_cons_succ])
            (refine float0 (i := 6) (v := ?_) rfl (by kernel_rfl) (by kernel_rfl) (by kernel_rfl) (by kernel_rfl) (fun _ _ _ h => h) (by rfl) ?_ ?_); rotate_left
            (intro wF; go_simp; try with_reducible rfl)
            (try simp only [Act.put, List.setIfInBounds_toArray, List.set_cons_zero, List.set_cons_succ])
            (refine floatS (i := 7) (v := ?_) rfl (by kernel_rfl) (by kernel_rfl) (by kernel_rfl) (by kernel_rfl) (fun _ _ _ h => h) (by assumption) (by rfl) ?_ ?_); rotate_left
            (intro wF hF; (try dsimp only at hF); go_simp; try with_reducible rfl)
            (try simp only [Act.put, List.setIfInBounds_toArray, List.set_cons_zero, List.set_cons_succ])
            (refine float0 (i := 8) (v := ?_) rfl (by kernel_rfl) (by kernel_rfl) (by kernel_rfl) (by kernel_rfl) (fun _ _ _ h => h) (by rfl) ?_ ?_); rotate_left
            (intro wF; go_simp; try with_reducible rfl)
            (try simp only [Act.put, List.setIfInBounds_toArray, List.set_cons_zero, List.set_cons_succ])
            (refine float0 (i := 9) (v := ?_) rfl (by kernel_rfl) (by kernel_rfl) (by kernel_rfl) (by kernel_rfl) (fun _ _ _ h => h) (by rfl) ?_ ?_); rotate_left
            (intro wF; go_simp; try with_reducible rfl)
            (try simp only [Act.put, List.setIfInBounds_toArray, List.set_cons_zero, List.set_cons_succ])
            (refine float0 (i := 10) (v := ?_) rfl (by kernel_rfl) (by kernel_rfl) (by kernel_rfl) (by kernel_rfl) (fun _ _ _ h => h) (by rfl) ?_ ?_); rotate_left
            (intro wF; go_simp; try with_reducible rfl)
            (try simp only [Act.put, List.setIfInBounds_toArray, List.set_cons_zero, List.set_cons_succ])
            (refine floatS (i := 11) (v := ?_) rfl (by kernel_rfl) (by kernel_rfl) (by kernel_rfl) (by kernel_rfl) (fun _ _ _ h => h) (by assumption) (by rfl) ?_ ?_); rotate_left
            (intro wF hF; (try dsimp only at hF); go_simp; try with_reducible rfl)
            (try simp only [Act.put, List.setIfInBounds_toArray, List.set_cons_zero, List.set_cons_succ])
            (refine float0 (i := 12) (v := ?_) rfl (by kernel_rfl) (by kernel_rfl) (by kernel_rfl) (by kernel_rfl) (fun _ _ _ h => h) (by rfl) ?_ ?_); rotate_left
            (intro wF; go_simp; try with_reducible rfl)
            (try simp only [Act.put, List.setIfInBounds_toArray, List.set_cons_zero, List.set_cons_succ])
            (refine float0 (i := 13) (v := ?_) rfl (by kernel_rfl) (by kernel_rfl) (by kernel_rfl) (by kernel_rfl) (fun _ _ _ h => h) (by rfl) ?_ ?_); rotate_left
            (intro wF; go_simp; try with_reducible rfl)
            (try simp only [Act.put, List.setIfInBounds_toArray, List.set_cons_zero, List.set_cons_succ])
            (refine floatS (i := 14) (v := ?_) rfl (by kernel_rfl) (by kernel_rfl) (by kernel_rfl) (by kernel_rfl) (fun _ _ _ h => h) (by assumption) (by rfl) ?_ ?_); rotate_left
            (intro wF hF; (try dsimp only at hF); go_simp; try with_reducible rfl)
            (try simp only [Act.put, List.setIfInBounds_toArray, List.set_cons_zero, List.set_cons_succ])
            cases hcr : matchS nm (tx.args[j]) (ty.args[j]) mj with
            | none =>
              rw [hcr] at HCALL HDJ
              (refine floatM (i := 15) rfl (by kernel_rfl) (by kernel_rfl) (fun K hK => ?_)); go_simp
              refine HCALL.out.mono ?_
              rintro e w5 ⟨rfl, s5, _⟩
              have HS5 := Lib.hid (HSJ.out.trans (HSD.out.s.trans s5))
              have S5 := HST.out w5 s5.inv.holds (by
                refine s5.keep.get (show wr.drew.heap[x.mb]? = _ from HRJ.out.cm) (fun e => ?_)
                rcases e with e | e
                · exact (HRJ.out.priv _ (by simp)).2 e
                · exact HRJ.out.mb_ne e)
              clear s5 S0
              go_wp2_with fail
              refine hK.out _ _ (fun _ => S5) ?_
              clear hK K
              (try simp only [Act.put, List.setIfInBounds_toArray, List.set_cons_zero, List.set_cons_succ])
              (refine float0 (i := 16) (v := ?_) rfl (by kernel_rfl) (by kernel_rfl) (by kernel_rfl) (by kernel_rfl) (fun _ _ _ h => h) (by rfl) ?_ ?_); rotate_left
              (intro wF; go_simp; try with_reducible rfl)
              (try simp only [Act.put, List.setIfInBounds_toArray, List.set_cons_zero, List.set_cons_succ])
              (refine floatE (by kernel_rfl) ?_)
              go_wp2_with fail
              go_ret
              rw [HDJ.out]
              exact ⟨rfl, HS5.out, fun m' e => by cases e⟩
            | some m2 =>
              rw [hcr] at HCALL HDJ
              (refine floatM (i := 15) rfl (by kernel_rfl) (by kernel_rfl) (fun K hK => ?_)); go_simp
              refine HCALL.out.mono ?_
              rintro e w5 ⟨rfl, s5, r5⟩
              have HR5 := Lib.hid (r5 m2 rfl)
              have SS := HSD.out.s.trans s5
              have HS5 := Lib.hid (HSJ.out.trans SS)
              have HT5 := Lib.hid (SS.trs HTJ.out)
              have HT6 := Lib.hid (SS.trs HTK.out)
              have S5 := HST.out w5 s5.inv.holds HR5.out.cm
              clear s5 S0 r5 SS
              go_wp2_with fail
              refine hK.out _ _ (fun _ => S5) ?_
              clear hK K
              (try simp only [Act.put, List.setIfInBounds_toArray, List.set_cons_zero, List.set_cons_succ])
              (refine float0 (i := 16) (v := ?_) rfl (by kernel_rfl) (by kernel_rfl) (by kernel_rfl) (by kernel_rfl) (fun _ _ _ h => h) (by rfl) ?_ ?_); rotate_left
              (intro wF; go_simp; try with_reducible rfl)
              (try simp only [Act.put, List.setIfInBounds_toArray, List.set_cons_zero, List.set_cons_succ])
              (refine floatE (by kernel_rfl) ?_)
              go_wp2_with fail
              go_roundg (vs.length - (j + 1))
              case measure => have := HMM.out; omega
              case rel => exact ⟨j + 1, m2, by omega, Lib.hid rfl, by go_num, HS5, HR5, HT5, HT6, Lib.hid (by rw [HDJ.out]; rfl)⟩
          · have hje : j = vs.length := by omega
            subst hje
            have ha := HALJ.out
            rw [List.drop_of_length_le (by have := HLen1.out; omega), List.drop_of_length_le (by have := HLen2.out; omega)] at ha
            have HA := Lib.hid ha; clear ha
            go_wp2_with fail
            go_ret
            rw [← HA.out]
            exact ⟨rfl, HSJ.out, fun m' e => by injection e with e; subst e; exact HRJ.out⟩
      · have q : ((bs tx.kind).toList == (bs ty.kind).toList) = false := by rw [str_eq2]; simp [hkk]
        have hms := match_kind (nm := nm) hcn hcn2 hkk m
        have HMS := Lib.hid hms; clear hms hkk
        go_enter Tryd.func58, Tryd.ntmps58
        go_wp2_with fail
        go_quiet (fail)
        go_wp2_with fail
        go_ret
        rw [HMS.out]
        exact ⟨rfl, (Same.of0 HI.out (Keep.drewN _ _ _)).s, fun m' e => by cases e⟩
end Go.Proofs.YtabikmkoajdhmaaDoor

/- infer.Instance by a contract: by which types for its variables a type becomes another, or what is wrong. -/
namespace Go.Proofs.YtabikmkoajdhmaaDoor
open Go.RowKit

theorem ins_ok {nm : Nat → Str} (hlen : ∀ N, (nm N).length ≤ 1000) : ∀ k, InsOk nm k
  | 0 => fun x G A n vx vy w tx ty m _ _ _ _ _ _ hk => by have := tx.size_pos; omega
  | k + 1 => ins_step hlen k (ins_ok hlen k)
theorem nmS_len {l : Names} (h : ∀ q ∈ l, q.1.length ≤ 8) (N : Nat) : (nmS l N).length ≤ 1000 := by
  unfold nmS
  split
  · rename_i q hq; have := h q (List.mem_of_find?_eq_some hq); omega
  · simp
theorem nmS_eq {A : GV} {l : Names} (h : ∀ q ∈ l, ∃ b, A q.2 = some (b, q.1)) {N : Nat} (hN : ∃ q ∈ l, q.2 = N) : ∃ b, A N = some (b, nmS l N) := by
  unfold nmS
  split
  · rename_i q hq
    obtain ⟨b, hb⟩ := h q (List.mem_of_find?_eq_some hq)
    have := List.find?_some hq
    simp only [beq_iff_eq] at this
    exact ⟨b, by rw [← this]; exact hb⟩
  · rename_i hq
    obtain ⟨q, hq1, hq2⟩ := hN
    have := List.find?_eq_none.1 hq q hq1
    simp [hq2] at this
def IInstPost (p : Nat → Addr) (w : World) (r : Option (Except Flt (List (Str × Str)))) (e : Ending) (w' : World) : Prop :=
  Keep none' w w' ∧ match r with
    | some (.ok m) => ∃ mb, e = .returned (.tuple #[.map (some mb), .nilIface]) ∧ w.heap.size ≤ mb ∧ w'.heap[mb]? = some (kmap kStr (envV m))
    | some (.error f) => ∃ v G', e = .returned (.tuple #[.map none, v]) ∧ Holds G' w' ∧ ErrR G' p v f
    | none => False

set_option maxRecDepth 100000 in
set_option maxHeartbeats 4000000 in
theorem infer_inst (p : Nat → Addr) (S T : ByteArray) (w : World) (hs : Sents p w) (hm : S.size ≤ 9223372036854775807) (hm2 : T.size ≤ 9223372036854775807) {r : Option (Except Flt (List (Str × Str)))} (hr : instF (bytes S) (bytes T) = r) (hne : r ≠ none) : Calls Tryd.prog 32 #[.string S, .string T] w (IInstPost p w r) := by
  have ei := EI.start w
  have k0 : Keep none' w (w.alloc (cntObj 0)) := Keep.alloc _ _ _
  have hb0 : ∀ i, touch w.heap.size noA i → w.heap.size ≤ i := fun i hi => by
    rcases hi with rfl | hi
    · exact Nat.le_refl _
    · exact absurd hi (noA_isV i)
  unfold instF at hr
  cases hr1 : readTy (bytes S) 0 with
  | none => rw [hr1] at hr; exact absurd hr.symm hne
  | some r1 =>
    rw [hr1] at hr
    have hc := tread_any w.heap.size noG noA p S (w.alloc (cntObj 0)) 0 ei (hs.keep0 k0) (hs.off_new hb0) hm hr1 (by simp)
    have HC := Lib.hid hc; have HR := Lib.hid hr; have HB0 := Lib.hid hb0; have HK0 := Lib.hid k0; have HS := Lib.hid hs; have HR1 := Lib.hid hr1; have HM2 := Lib.hid hm2; have HNE := Lib.hid hne
    clear hc hr hs hb0 k0 ei hr1 hm hm2 hne
    unfold cntObj at HC
    go_enter Tryd.func32, Tryd.ntmps32
    go_wp2_with fail
    refine HC.out.mono ?_
    cases r1 with
    | error f =>
      rintro e w1 ⟨u, u2, v, G1, rfl, k1, g1, hG1, hx⟩
      obtain ⟨T1, b, rfl⟩ := hx.iface
      have hr := HR.out; simp only at hr; subst hr
      have HX := Lib.hid hx; have HG := Lib.hid hG1
      have HK1 : Hid (Keep none' w w1) := Lib.hid (HK0.out.behind k1 HB0.out)
      clear hx k1 hG1 g1
      go_wp2_with fail
      refine bodyPost_ret (v := .tuple #[.map none, .iface T1 (.pointer (some b))]) (by simp [results, Tryd.results32, go_sem]) rfl ⟨HK1.out, _, G1, rfl, HG.out, HX.out⟩
    | ok ts =>
      obtain ⟨t, st⟩ := ts
      rintro e w1 ⟨v, m, G1, A1, rfl, x1, ei1, y1, hnm1, hfr1⟩
      obtain ⟨T1, b1, rfl⟩ := y1.iface
      have hb1 := GrewV.behind (by simp) x1.a HB0.out
      have hk1 := HK0.out.behind x1.keep HB0.out
      have hfa : FreeA A1 w1 := hfr1 (fun N b nm e => by cases e)
      have hr := HR.out; simp only at hr
      cases hr2 : readTy (bytes T) st.n with
      | none => rw [hr2] at hr; exact absurd hr.symm HNE.out
      | some r2 =>
        rw [hr2] at hr
        have hc2 := tread_any w.heap.size G1 A1 p T w1 st.n ei1 (HS.out.keep0 hk1) (HS.out.off_new hb1) HM2.out hr2 (by simp)
        have HC2 := Lib.hid hc2; have HRR := Lib.hid hr; have HEI := Lib.hid ei1; have HY := Lib.hid y1; have HB1 := Lib.hid hb1; have HK1 := Lib.hid hk1; have HFA := Lib.hid hfa; have HNM1 := Lib.hid hnm1; have HR2 := Lib.hid hr2
        clear hc2 hr ei1 y1 x1 hb1 hk1 hfa hnm1 hfr1 hr2 HR HC
        go_wp2_with fail
        refine HC2.out.mono ?_
        cases r2 with
        | error f =>
          rintro e w2 ⟨u, u2, v, G2, rfl, k2, g2, hG2, hx⟩
          obtain ⟨T2, b, rfl⟩ := hx.iface
          have hr := HRR.out; simp only at hr; subst hr
          have HX := Lib.hid hx; have HG := Lib.hid hG2
          have HK2 : Hid (Keep none' w w2) := Lib.hid (HK1.out.behind k2 HB1.out)
          clear hx k2 hG2 g2
          go_wp2_with fail
          refine bodyPost_ret (v := .tuple #[.map none, .iface T2 (.pointer (some b))]) (by simp [results, Tryd.results32, go_sem]) rfl ⟨HK2.out, _, G2, rfl, HG.out, HX.out⟩
        | ok ts2 =>
          obtain ⟨t2, st2⟩ := ts2
          rintro e w2 ⟨v2, m2, G2, A2, rfl, x2, ei2, y2, hnm2, hfr2⟩
          obtain ⟨T2, b2, rfl⟩ := y2.iface
          have hin1 := readTy_in HR1.out
          have hin2 := readTy_in HR2.out
          have hsz2 := readTy_size HR2.out
          have hsz1 := readTy_size HR1.out
          have hb2 := GrewV.behind HK1.out.size x2.a HB1.out
          have hk2 := HK1.out.behind x2.keep HB1.out
          have hfa2 := hfr2 HFA.out
          have y1' := x2.tr _ _ HY.out
          obtain ⟨nl, hnl⟩ : ∃ nl, nl = st.m ++ st2.m := ⟨_, rfl⟩
          have hall : ∀ q ∈ nl, ∃ b, A2 q.2 = some (b, q.1) := fun q hq => by
            rw [hnl] at hq
            rcases List.mem_append.1 hq with hq | hq
            · obtain ⟨b, hb⟩ := HNM1.out q hq; exact ⟨b, x2.a.sub _ _ hb⟩
            · exact hnm2 q hq
          have hlen : ∀ N, (nmS nl N).length ≤ 1000 := nmS_len (fun q hq => by
            rw [hnl] at hq
            rcases List.mem_append.1 hq with hq | hq
            · exact hin1.txt q hq
            · exact hin2.txt q hq)
          have hV : ∀ N, t.has N = true ∨ t2.has N = true → ∃ b, A2 N = some (b, nmS nl N) := fun N h => nmS_eq hall (by
            rw [hnl]
            rcases h with h | h
            · obtain ⟨q, h1, h2⟩ := hin1.has N h; exact ⟨q, List.mem_append.2 (.inl h1), h2⟩
            · obtain ⟨q, h1, h2⟩ := hin2.has N h; exact ⟨q, List.mem_append.2 (.inr h1), h2⟩)
          have hr := HRR.out; simp only at hr
          rw [← hnl] at hr
          have hmkm := run_mkenv
          have hmf : ∀ (fn : Fn) (first cap : Array Value) (w : World), (Instr.makeFunc fn first cap).run Tryd.prog w = .ok (.func fn first cap) w := fun _ _ _ _ => rfl
          have hef : ∀ args w, (callFunc 58 args).run Tryd.prog w = .ok (.enter 58 args) w := fun args w => by kernel_rfl
          have HEI2 := Lib.hid ei2; have HY1 := Lib.hid y1'; have HY2 := Lib.hid y2; have HB2 := Lib.hid hb2; have HK2 := Lib.hid hk2; have HFA2 := Lib.hid hfa2; have HLEN := Lib.hid hlen; have HV := Lib.hid hV; have HRM := Lib.hid hr; have HSZ1 := Lib.hid hsz1; have HSZ2 := Lib.hid hsz2
          clear ei2 y1' y2 hb2 hk2 hfa2 hlen hV hr hsz1 hsz2 hin1 hin2 hall hnm2 hfr2 x2 hnl HRR HC2
          go_wp2_with fail
          obtain ⟨s0, hs0⟩ : ∃ s0, s0 = w2.heap.size := ⟨_, rfl⟩
          obtain ⟨x, hx⟩ : ∃ x : InsB, x = ⟨w2.heap.size, w2.heap.size + 1 + 1, w2.heap.size + 1 + 1 + 1, w2.heap.size + 1⟩ := ⟨_, rfl⟩
          obtain ⟨w7, hw7⟩ : ∃ w7, w7 = ((((w2.alloc (.cells #[.func (.func 57) #[] #[]] 134)).alloc (kmap kStr [])).alloc (.cells #[.map (some (w2.heap.size + 1))] 82)).alloc (.cells #[.func (.func 58) #[] #[.pointer (some ⟨w2.heap.size, 0, none⟩), .pointer (some ⟨w2.heap.size + 1 + 1, 0, none⟩), .pointer (some ⟨w2.heap.size + 1 + 1 + 1, 0, none⟩)]] 140)) := ⟨_, rfl⟩
          have z1 : (w2.alloc (.cells #[.func (.func 57) #[] #[]] 134)).heap.size = w2.heap.size + 1 := by simp
          have z2 : ((w2.alloc (.cells #[.func (.func 57) #[] #[]] 134)).alloc (kmap kStr [])).heap.size = w2.heap.size + 1 + 1 := by simp
          have z3 : (((w2.alloc (.cells #[.func (.func 57) #[] #[]] 134)).alloc (kmap kStr [])).alloc (.cells #[.map (some (w2.heap.size + 1))] 82)).heap.size = w2.heap.size + 1 + 1 + 1 := by simp
          have c0 : w7.heap[w2.heap.size]? = some (.cells #[.func (.func 57) #[] #[]] 134) := by rw [hw7]; exact heap_old (heap_old (heap_old (heap_new _ _)))
          have c1 : w7.heap[w2.heap.size + 1]? = some (kmap kStr []) := by rw [hw7, ← z1]; exact heap_old (heap_old (heap_new _ _))
          have c2 : w7.heap[w2.heap.size + 1 + 1]? = some (.cells #[.map (some (w2.heap.size + 1))] 82) := by rw [hw7, ← z2]; exact heap_old (heap_new _ _)
          have c3 : w7.heap[w2.heap.size + 1 + 1 + 1]? = some (.cells #[.func (.func 58) #[] #[.pointer (some ⟨w2.heap.size, 0, none⟩), .pointer (some ⟨w2.heap.size + 1 + 1, 0, none⟩), .pointer (some ⟨w2.heap.size + 1 + 1 + 1, 0, none⟩)]] 140) := by rw [hw7, ← z3]; exact heap_new _ _
          have kW : Keep none' w2 w7 := by rw [hw7]; exact (((Keep.alloc _ _ _).trans (Keep.alloc _ _ _)).trans (Keep.alloc _ _ _)).trans (Keep.alloc _ _ _)
          have S7 := Same.of0 HEI2.out.inv kW
          have hR : InsR x G2 A2 [] w7 := by
            rw [hx]
            exact ⟨c0, c2, c3, c1, fun i hi => by
              have : w2.heap.size ≤ i := by (try simp only at hi); omega
              exact ⟨HEI2.out.inv.holds.fresh this, fun h => by have := HEI2.out.inv.old h; omega⟩⟩
          have hc := ins_ok HLEN.out t.size x G2 A2 st2.n _ _ w7 t t2 [] S7.inv (HFA2.out.same (S := none') S7.s) hR (S7.tr _ _ HY1.out) (S7.tr _ _ HY2.out) HV.out (Nat.le_refl _) (by have := HSZ2.out; omega)
          have hbb : ∀ i, isV A2 i ∨ one' x.gm i → w.heap.size ≤ i := fun i hi => by
            rcases hi with hi | hi
            · exact HB2.out i (.inr hi)
            · have e : i = w2.heap.size + 1 := by rw [hx] at hi; exact hi
              have := HK2.out.size; omega
          have hkb : ∀ w8, SameS (one' x.gm) G2 A2 st2.n w7 w8 → Keep none' w w8 := fun w8 s => (HK2.out.trans kW).behind s.keep hbb
          have hgb : x.gb = w2.heap.size + 1 + 1 ∧ x.gm = w2.heap.size + 1 := by rw [hx]; exact ⟨rfl, rfl⟩
          have hcaps : (#[.iface T1 (.pointer (some ⟨b1, 0, none⟩)), .iface T2 (.pointer (some ⟨b2, 0, none⟩))] ++ x.caps : Array Value) = #[.iface T1 (.pointer (some ⟨b1, 0, none⟩)), .iface T2 (.pointer (some ⟨b2, 0, none⟩)), .pointer (some ⟨w2.heap.size, 0, none⟩), .pointer (some ⟨w2.heap.size + 1 + 1, 0, none⟩), .pointer (some ⟨w2.heap.size + 1 + 1 + 1, 0, none⟩)] := by rw [hx]; rfl
          rw [hcaps] at hc
          have hszw := HK2.out.size
          have HC := Lib.hid hc; have HKB := Lib.hid hkb; have HGB := Lib.hid hgb
          rw [← hw7]
          clear hc hR S7 kW c0 c1 c2 c3 z1 z2 z3 hw7 hbb hkb hcaps hx hgb
          refine HC.out.mono ?_
          cases hms : matchS (nmS nl) t t2 [] with
          | none =>
            rintro e w8 ⟨rfl, s8, _⟩
            have k8 := HKB.out w8 s8
            have g7 := (HS.out.keep0 k8).glob 7 (by omega)
            simp only [gno, sen] at g7
            have hr := HRM.out; rw [hms] at hr; simp only at hr; subst hr
            have HK8 := Lib.hid k8
            have HG8 := Lib.hid s8.inv.holds
            clear s8 k8 hms HRM
            go_wp2_with fail
            go_quiet (fail)
            go_wp2_with fail
            refine bodyPost_ret (v := .tuple #[.map none, .iface 264 (.pointer (some (p 7)))]) (by simp [results, Tryd.results32, go_sem]) rfl ⟨HK8.out.trans (Keep.drewN _ _ _), _, G2, rfl, HG8.out.keep0 (Keep.drewN _ _ _), ErrR.sen (j := 7) (by omega)⟩
          | some mm =>
            rintro e w8 ⟨rfl, s8, r8⟩
            have r8' := r8 mm rfl
            have k8 := HKB.out w8 s8
            have cg := cell_of_heap (i := 0) r8'.cg rfl
            rw [HGB.out.1, HGB.out.2] at cg
            have hr := HRM.out; rw [hms] at hr; simp only at hr; subst hr
            have hmt := r8'.mt
            rw [HGB.out.2] at hmt
            have HK8 := Lib.hid k8; have HMT := Lib.hid hmt
            clear s8 k8 hms HRM r8 r8' hmt
            go_wp2_with fail
            refine bodyPost_ret (v := .tuple #[.map (some (w2.heap.size + 1)), .nilIface]) (by simp [results, Tryd.results32, go_sem]) rfl ⟨HK8.out, _, rfl, by omega, HMT.out⟩
end Go.Proofs.YtabikmkoajdhmaaDoor

/- plain.Instance by a contract: the names, rising; by each the type that it stands for. -/
namespace Go.Proofs.YtabikmkoajdhmaaDoor
open Go.RowKit

def strsV (l : List Str) : List Value := l.map fun n => .string (bs n)
def instN (m : List (Str × Str)) : List Str := sortS (m.map (·.1))
def instT (m : List (Str × Str)) : List Str := (instN m).map fun n => (m.lookup n).getD []
theorem inst_m {g s : Str} {m : List (Str × Str)} (h : instF g s = some (.ok m)) : (m.map (·.1)).Nodup ∧ (∀ p ∈ m, p.1.length ≤ 1000) ∧ m.length ≤ 120 := by
  unfold instF at h
  split at h
  · cases h
  · cases h
  · rename_i a st h1
    split at h
    · cases h
    · cases h
    · rename_i b st2 h2
      split at h
      · cases h
      · rename_i m' hm
        injection h with h; injection h with h; subst h
        have i1 := readTy_in h1
        have i2 := readTy_in h2
        have u := matchS_up (nmS_len (l := st.m ++ st2.m) (fun q hq => by
          rcases List.mem_append.1 hq with hq | hq
          · exact i1.txt q hq
          · exact i2.txt q hq)) hm
        have hs := readTy_size h1
        exact ⟨u.nd (by simp), u.len (fun p hp => by cases hp), by have := u.sz; simp at this; omega⟩

def mOf : Except Flt (List (Str × Str)) → List (Str × Str)
  | .ok m => m
  | .error _ => []
def fOf : Except Flt (List (Str × Str)) → Flt
  | .ok _ => { what := 0 }
  | .error f => f
def isE : Except Flt (List (Str × Str)) → Bool
  | .ok _ => false
  | .error _ => true
theorem sorted_any {mo : Option Nat} {L : List (Str × Str)} (W : World) (h : match mo with | none => L = [] | some mb => W.heap[mb]? = some (kmap kStr (envV L))) (hn : (L.map (·.1)).Nodup) (hs : ∀ q ∈ L, q.1.length ≤ 1000) (hl : L.length ≤ 120) :
    Calls Tryd.prog 33 #[.func (.func 61) #[] #[.pointer (some ⟨W.heap.size, 0, none⟩)]] (W.alloc (.cells #[.map mo] 82)) fun e w' => ∃ v, e = .returned v ∧
      w'.ownsRow W.heap.size 9 1 v (instN L).length (strsV (instN L)) ∧ Keep none' W w' := by
  have hm : (envV L).map (·.1) = L.map (·.1) := by simp [envV, Function.comp_def]
  cases mo with
  | none =>
    simp only at h
    subst h
    refine (sorted_nil W).mono ?_
    rintro e w' ⟨rfl, k⟩
    have e : instN [] = [] := by unfold instN sortS; simp
    rw [e]
    exact ⟨_, rfl, World.ownsRow_nil _ _ _ _, (Keep.alloc _ _ _).trans k⟩
  | some mb =>
    simp only at h
    refine (sorted_call W h (by rw [hm]; exact hn) (fun q hq => by
      obtain ⟨q', hq', rfl⟩ := List.mem_map.1 hq
      have := hs q' hq'; simp only; omega) (by unfold envV; rw [List.length_map]; omega)).mono ?_
    rintro e w' ⟨v, rfl, hr, k⟩
    refine ⟨v, rfl, ?_, (Keep.alloc _ _ _).trans k⟩
    rw [hm] at hr
    have e1 : (envV L).length = (instN L).length := by unfold instN sortS envV; simp
    rw [e1] at hr
    exact ⟨hr.1, by
      rcases hr.2 with hz | ⟨g, cap, cur, h1, hb, rest⟩
      · exact .inl hz
      · exact .inr ⟨g, cap, cur, h1, by omega, rest⟩⟩
def PInstPost (w : World) (r : Except Flt (List (Str × Str))) (e : Ending) (w' : World) : Prop :=
  ∃ nv tv, e = .returned (.tuple #[nv, tv, .bool (isE r), fltV (fOf r)]) ∧ Keep none' w w' ∧ w'.ownsRow w.heap.size 9 1 nv (instN (mOf r)).length (strsV (instN (mOf r))) ∧ w'.ownsRow w.heap.size 9 1 tv (instN (mOf r)).length (strsV (instT (mOf r)))

theorem look_m (nm : Str) : ∀ m : List (Str × Str), nm ∈ m.map (·.1) → @List.lookup Str Value instBEqOfDecidableEq nm (envV m) = some (typedV ((m.lookup nm).getD []))
  | [], h => by cases h
  | (a, t) :: r, h => by
    simp only [envV, List.map_cons, List.lookup_cons]
    by_cases e : nm = a
    · subst e; simp
    · rw [show (nm == a) = false by simpa using e]
      simp only [List.map_cons, List.mem_cons, e, false_or] at h
      have := look_m nm r h
      simp only [envV] at this
      rw [show @BEq.beq Str instBEqOfDecidableEq nm a = false by simpa using e]
      exact this
theorem fld_typed (s : ByteArray) (w : World) : (Instr.field 90 (.agg #[.string s]) 0).run Tryd.prog w = .ok (.string s) w := by kernel_rfl

theorem own_base {w : World} {a b : Nat} {e : TypeId} {size : Nat} {v : Value} {n : Nat} {xs : List Value} (h : w.ownsRow b e size v n xs) (hb : a ≤ b) : w.ownsRow a e size v n xs := by
  refine ⟨h.1, ?_⟩
  rcases h.2 with hz | ⟨g, cap, cur, rfl, hg, rest⟩
  · exact .inl hz
  · exact .inr ⟨g, cap, cur, rfl, by omega, rest⟩
theorem keep1o (a : World) (x i : Nat) (u : Value) : Keep (one' x) a (a.setCell ⟨x, i, none⟩ u) := Keep.setCell _ _ (fun _ => rfl)
theorem keep5o (a : World) (x : Nat) (u0 u1 u2 u3 u4 : Value) : Keep (one' x) a (((((a.setCell ⟨x, 0, none⟩ u0).setCell ⟨x, 1, none⟩ u1).setCell ⟨x, 2, none⟩ u2).setCell ⟨x, 3, none⟩ u3).setCell ⟨x, 4, none⟩ u4) :=
  ((((keep1o _ x 0 u0).trans (keep1o _ x 1 u1)).trans (keep1o _ x 2 u2)).trans (keep1o _ x 3 u3)).trans (keep1o _ x 4 u4)
theorem own_set5 {w : World} {x b : Nat} {e : TypeId} {v : Value} {n : Nat} {xs : List Value} (h : w.ownsRow b e 1 v n xs) (hb : x < b) (u0 u1 u2 u3 u4 : Value) : (((((w.setCell ⟨x, 0, none⟩ u0).setCell ⟨x, 1, none⟩ u1).setCell ⟨x, 2, none⟩ u2).setCell ⟨x, 3, none⟩ u3).setCell ⟨x, 4, none⟩ u4).ownsRow x e 1 v n xs :=
  own_base (own_keep h (keep5o w x u0 u1 u2 u3 u4) (fun g hg (e : g = x) => by have := (h.lt g hg).1; omega)) (by omega)
theorem eql_none (w : World) : (binOp .eql 82 (.map none) (.map none)).run Tryd.prog w = .ok (.bool true) w := by kernel_rfl
theorem eql_some (mb : Nat) (w : World) : (binOp .eql 82 (.map (some mb)) (.map none)).run Tryd.prog w = .ok (.bool false) w := by kernel_rfl

set_option maxRecDepth 100000 in
set_option maxHeartbeats 4000000 in
theorem plain_inst (p : Nat → Addr) (S T : ByteArray) (w : World) (hs : Sents p w) (hm : S.size ≤ 9223372036854775807) (hm2 : T.size ≤ 9223372036854775807) {r : Except Flt (List (Str × Str))} (hr : instF (bytes S) (bytes T) = some r) :
    Calls Tryd.prog 15 #[.string S, .string T] w (PInstPost w r) := by
  obtain ⟨is, his, zs0, zs1, zs2⟩ := info_parts info_str
  have k0 : Keep none' w (w.alloc (.cells fz 28)) := Keep.alloc _ _ _
  have hc := infer_inst p S T (w.alloc (.cells fz 28)) (hs.keep0 k0) hm hm2 hr (by simp)
  have hND : ((mOf r).map (·.1)).Nodup := by cases r with | ok m => exact (inst_m hr).1 | error f => simp [mOf]
  have hLN : ∀ q ∈ mOf r, q.1.length ≤ 1000 := by cases r with | ok m => exact (inst_m hr).2.1 | error f => simp [mOf]
  have hLL : (mOf r).length ≤ 120 := by cases r with | ok m => exact (inst_m hr).2.2 | error f => simp [mOf]
  have x0 : (w.alloc (.cells fz 28)).heap[w.heap.size]? = some (.cells fz 28) := heap_new _ _
  have hc2 : Calls Tryd.prog 32 #[.string S, .string T] (w.alloc (.cells fz 28)) (fun e w1 => ∃ mo ev, e = .returned (.tuple #[.map mo, ev]) ∧ Keep none' (w.alloc (.cells fz 28)) w1 ∧ (∀ W, Keep none' w1 W → Calls Tryd.prog 22 #[ev] W fun e w' => e = .returned (fltV (fOf r)) ∧ Keep none' W w') ∧ decide (mo = none) = isE r ∧ (∀ W, Keep none' w1 W → match mo with | none => mOf r = [] | some mb => W.heap[mb]? = some (kmap kStr (envV (mOf r))))) := by
    refine hc.mono ?_
    rintro e w1 ⟨k1, h1⟩
    cases r with
    | ok m =>
      obtain ⟨mb, rfl, hmb, hh⟩ := h1
      exact ⟨some mb, .nilIface, rfl, k1, fun W _ => fault_nil W, rfl, fun W k => k.get hh (fun x => x)⟩
    | error f =>
      obtain ⟨v, G', rfl, hG, hv⟩ := h1
      exact ⟨none, v, rfl, k1, fun W k => (fault_any hv W (hG.keep0 k) (hs.keep0 ((k0.trans k1).trans k))).mono fun e w' h => h, rfl, fun W k => rfl⟩
  have HC := Lib.hid hc2; have HX0 := Lib.hid x0; have HK0 := Lib.hid k0; have HND := Lib.hid hND; have HLN := Lib.hid hLN; have HLL := Lib.hid hLL
  clear hc hc2 x0 k0 hs hND hLN hLL hr
  go_enter Tryd.func15, Tryd.ntmps15
  go_wp2_with fail
  refine HC.out.mono ?_
  rintro e w1 ⟨mo, ev, rfl, k1, hft, hmo, hmap⟩
  have HX1 := Lib.hid (k1.get HX0.out (fun x => x)); have HK1 := Lib.hid (HK0.out.trans k1)
  have HFT := Lib.hid hft; have HMO := Lib.hid hmo; have HMAP := Lib.hid hmap
  have HKEY := Lib.hid (keys_call mo w1)
  have HSRT := Lib.hid (sorted_any (mo := mo) w1 (hmap w1 (Keep.refl _ _)) HND.out HLN.out HLL.out)
  clear hft hmo hmap k1
  go_wp2_with fail
  refine HKEY.out.mono ?_
  rintro e w2 ⟨rfl, rfl⟩
  go_wp2_with fail
  refine HSRT.out.mono ?_
  rintro e w3 ⟨sv, rfl, hrow, k3⟩
  obtain ⟨NS, hNS⟩ : ∃ NS, NS = instN (mOf r) := ⟨_, rfl⟩
  rw [← hNS] at hrow
  obtain ⟨sa, sc, rfl, hcells⟩ := own_shape hrow
  have hnl : NS.length ≤ 120 := by rw [hNS]; unfold instN sortS; simp; exact HLL.out
  have hmem : ∀ nm ∈ NS, nm ∈ (mOf r).map (·.1) := fun nm h => by rw [hNS] at h; exact List.mem_mergeSort.1 h
  have HROW := Lib.hid hrow; have HK3 := Lib.hid k3; have HNL := Lib.hid hnl; have HMEM := Lib.hid hmem; have HNS := Lib.hid hNS
  clear hrow hnl hmem hNS k3 hcells HSRT HKEY
  go_wp2_with fail
  go_loopg [4, 5, 22] NS.length (fun gn s4 s5 s22 wr => ∃ j : Nat, j ≤ NS.length ∧ Hid (gn = NS.length - j) ∧ s22 = .int .i64 j ∧ Hid (wr.ownsRow w3.heap.size 9 1 s4 j (strsV (NS.take j))) ∧ Hid (wr.ownsRow w3.heap.size 9 1 s5 j (strsV ((NS.take j).map fun n => ((mOf r).lookup n).getD []))) ∧ Hid (∀ g, s4.ownBlock = some g → ¬ s5.ownBlock = some g) ∧ Hid (Keep none' w3 wr))
  case atStart => exact ⟨0, by omega, Lib.hid rfl, rfl, Lib.hid (World.ownsRow_nil _ _ _ _), Lib.hid (World.ownsRow_nil _ _ _ _), Lib.hid (fun g h => by cases h), Lib.hid (Keep.refl _ _)⟩
  case round =>
    obtain ⟨j, hj, HM, rfl, HO, HO2, HD, HK2⟩ := hrel
    have hjj : (0 : Int) ≤ (j : Int) := by omega
    have hrw := own_keep HROW.out HK2.out (fun _ _ x => x)
    have hnl := HNL.out
    by_cases hlt : j < NS.length
    · have hji : ((j : Int) < (NS.length : Int)) := by omega
      obtain ⟨g, cp, hv, _, _, hcl⟩ := own_cells hrw (by omega)
      cases hv
      have cj := hcl j (.string (bs NS[j])) (by simp [strsV, hlt])
      obtain ⟨ao, cap, rfl, _⟩ := own_shape HO.out
      obtain ⟨ao2, cap2, rfl, _⟩ := own_shape HO2.out
      have hmem := HMEM.out _ (List.getElem_mem hlt)
      have ht1 : strsV (NS.take (j + 1)) = strsV (NS.take j) ++ [.string (bs NS[j])] := by rw [List.take_succ_eq_append_getElem hlt]; unfold strsV; simp only [List.map_append, List.map_cons, List.map_nil]
      have ht2 : strsV ((NS.take (j + 1)).map fun n => ((mOf r).lookup n).getD []) = strsV ((NS.take j).map fun n => ((mOf r).lookup n).getD []) ++ [.string (bs (((mOf r).lookup NS[j]).getD []))] := by rw [List.take_succ_eq_append_getElem hlt]; unfold strsV; simp only [List.map_append, List.map_cons, List.map_nil]
      obtain ⟨nm, hnm⟩ : ∃ nm, nm = NS[j] := ⟨_, rfl⟩
      rw [← hnm] at cj hmem ht1 ht2
      obtain ⟨ty, hty⟩ : ∃ ty, ty = ((mOf r).lookup nm).getD [] := ⟨_, rfl⟩
      have hlk := look_m nm (mOf r) hmem
      rw [← hty] at ht2 hlk
      obtain ⟨mb, rfl⟩ : ∃ mb, mo = some mb := by
        cases mo with
        | none => have := HMAP.out w1 (Keep.refl _ _); simp only at this; rw [this] at hmem; cases hmem
        | some mb => exact ⟨mb, rfl⟩
      have k1r : Keep none' w1 wr := HK3.out.trans HK2.out
      have lkk : ∀ W, Keep none' w1 W → (Instr.lookup 82 (.map (some mb)) (.string (bs nm)) false).run Tryd.prog W = .ok (.agg #[.string (bs ty)]) W := fun W k => by
        have lk := run_look_some (P := Tryd.prog) und_env key_str (k := nm) (HMAP.out W k) hlk false
        simp only [Bool.false_eq_true, if_false, kStr, typedV] at lk
        exact lk
      have ft := fld_typed
      have HLKK := Lib.hid lkk; have HT1 := Lib.hid ht1; have HT2 := Lib.hid ht2; have HK1R := Lib.hid k1r
      have hszr := HK2.out.size; have hsz3 := HK3.out.size
      clear hcl hrw hmem ht1 ht2 hlk lkk k1r hnm hty
      go_wp2_with (first | (at_builtin; refine wpList_append_own_at _ rfl _ _ 39 rfl w3.heap.size 9 is (.string ByteArray.empty) 1 16 und_strs his zs0 zs1 zs2 rfl (by decide) (.slice ao j cap) j _ rfl (HO.out.alloc _) ⟨wr.heap.size, 0, none⟩ 1 1 [.string (bs nm)] rfl rfl (cell_one_new _ _ _) (fun x hx => by simp at hx; subst hx; rfl) (by unfold maxLen; omega) (by omega) (by simp; omega) ?_; intro v4 w4 own4 g4 _ at4; have k4 : Keep none' w1 w4 := Keep.grown0 (HK1R.out.trans (Keep.alloc _ _ _)) g4 (fun b e => by have := (HO.out.lt b e).1; omega); have own24 := own_keep (HO2.out.alloc (.cells #[.string (bs nm)] 9)) (Keep.grown (S := fun b => (Value.slice ao j cap).ownBlock = some b) g4 (fun b e _ => e)) (fun g hg hh => HD.out g hh hg); have lk4 := HLKK.out w4 k4; have hs4 : w3.heap.size ≤ w4.heap.size := (Keep.grown0 (HK2.out.trans (Keep.alloc none' wr _)) g4 (fun b e => (HO.out.lt b e).1)).size; obtain ⟨ao4, cap4, rfl, _⟩ := own_shape own4; have HO4 := Lib.hid own4; have HO24 := Lib.hid own24; have HK4 := Lib.hid k4; have HG4 := Lib.hid g4; have HA4 := Lib.hid at4; clear own4 own24 k4 g4 at4) | (at_builtin; refine wpList_append_own_at _ rfl _ _ 39 rfl w3.heap.size 9 is (.string ByteArray.empty) 1 16 und_strs his zs0 zs1 zs2 rfl (by decide) (.slice ao2 j cap2) j _ rfl (HO24.out.alloc _) ⟨w4.heap.size, 0, none⟩ 1 1 [.string (bs ty)] rfl rfl (cell_one_new _ _ _) (fun x hx => by simp at hx; subst hx; rfl) (by unfold maxLen; omega) (by omega) (by simp; omega) ?_; intro v6 w6 own6 g6 _ at6; obtain ⟨ao6, cap6, rfl, _⟩ := own_shape own6))
      have hb4 : (Value.slice ao4 (j + 1) cap4).ownBlock = (Value.slice ao j cap).ownBlock ∨ (Value.slice ao4 (j + 1) cap4).ownBlock = some (wr.heap.size + 1) := by have := HA4.out; simpa using this
      have kg : Keep (fun b => (Value.slice ao2 j cap2).ownBlock = some b) w4 w6 := (Keep.alloc _ _ _).trans (Keep.grown (S := fun b => (Value.slice ao2 j cap2).ownBlock = some b) g6 (fun b e _ => e))
      have hd1 : ∀ g, (Value.slice ao4 (j + 1) cap4).ownBlock = some g → ¬ (Value.slice ao2 j cap2).ownBlock = some g := fun g hg hh => by
        rcases hb4 with h | h
        · exact HD.out g (by rw [← h]; exact hg) hh
        · rw [h] at hg; injection hg with hg
          have := (HO2.out.lt g hh).2; omega
      have ho46 := own_keep HO4.out kg hd1
      have hd2 : ∀ g, (Value.slice ao4 (j + 1) cap4).ownBlock = some g → ¬ (Value.slice ao6 (j + 1) cap6).ownBlock = some g := fun g hg hh => by
        rcases at6 with h | h
        · exact hd1 g hg (by rw [← h]; exact hh)
        · rw [h] at hh; injection hh with hh
          have := (HO4.out.lt g hg).2; simp at hh; omega
      have k36 : Keep none' w3 w6 := by
        have k34 : Keep none' w3 w4 := Keep.grown0 (HK2.out.trans (Keep.alloc none' wr _)) HG4.out (fun b e => by have := (HO.out.lt b e).1; omega)
        exact k34.trans' kg (fun _ _ x => x) (fun b hb e => by have := (HO2.out.lt b e).1; omega)
      have o1 : w6.ownsRow w3.heap.size 9 1 (.slice ao4 (j + 1) cap4) (j + 1) (strsV (NS.take (j + 1))) := by rw [HT1.out]; exact ho46
      have o2 : w6.ownsRow w3.heap.size 9 1 (.slice ao6 (j + 1) cap6) (j + 1) (strsV ((NS.take (j + 1)).map fun n => ((mOf r).lookup n).getD [])) := by rw [HT2.out]; exact own6
      have HO1 := Lib.hid o1; have HO2' := Lib.hid o2; have HD2 := Lib.hid hd2; have HK36 := Lib.hid k36
      clear o1 o2 hd2 k36 ho46 hd1 kg hb4 own6 g6 at6
      go_roundg (NS.length - (j + 1))
      case measure => have := HM.out; omega
      case rel => exact ⟨j + 1, by omega, Lib.hid rfl, by go_num, HO1, HO2', HD2, HK36⟩
    · have hje : j = NS.length := by omega
      subst hje
      have hft := HFT.out wr (HK3.out.trans HK2.out)
      have K3 := HK1.out.trans (HK3.out.trans HK2.out)
      have X3 := (HK3.out.trans HK2.out).get HX1.out (fun x => x)
      have hmo := HMO.out
      have ho := HO.out; have ho2 := HO2.out
      rw [List.take_length] at ho ho2
      have hbase : w.heap.size < w3.heap.size := by have := lt_of_heap HX1.out; have := HK3.out.size; omega
      have HFT2 := Lib.hid hft; have HKK := Lib.hid K3; have HXX := Lib.hid X3; have HMO2 := Lib.hid hmo; have HOO := Lib.hid ho; have HOO2 := Lib.hid ho2; have HB := Lib.hid hbase
      clear hft K3 X3 hmo ho ho2 hbase hrw hnl hjj hlt hj HO HO2 HFT HMO
      cases mo with
      | none =>
        have hq := eql_none
        go_wp2_with fail
        refine HFT2.out.mono ?_
        rintro e w4 ⟨rfl, k4⟩
        have x4 := k4.get HXX.out (fun x => x)
        have K4 := HKK.out.trans k4
        obtain ⟨hz, f0⟩ := fz_cells x4
        have d0 := hz 0 _ rfl; have d1 := hz 1 _ rfl; have d2 := hz 2 _ rfl; have d3 := hz 3 _ rfl; have d4 := hz 4 _ rfl
        have KP := Lib.hid (fun u0 u1 u2 u3 u4 => keep5 K4 (Nat.le_refl _) u0 u1 u2 u3 u4)
        have o1 := own_keep HOO.out k4 (fun _ _ x => x)
        have o2 := own_keep HOO2.out k4 (fun _ _ x => x)
        have HO1 := Lib.hid o1; have HO2 := Lib.hid o2
        clear hz x4 K4 k4 o1 o2
        unfold fltV faultV
        go_wp2_with fail
        have hie : isE r = true := by rw [← HMO2.out]; simp
        have ho1 := own_set5 HO1.out HB.out (.int .i64 (fOf r).what) (.int .i64 (fOf r).pos) (.string (bs (fOf r).s)) (.int .i64 (fOf r).inner) (.int .i64 (fOf r).innerAt)
        have ho2 := own_set5 HO2.out HB.out (.int .i64 (fOf r).what) (.int .i64 (fOf r).pos) (.string (bs (fOf r).s)) (.int .i64 (fOf r).inner) (.int .i64 (fOf r).innerAt)
        have hns := HNS.out
        subst hns
        refine bodyPost_ret (v := .tuple #[u4, u5, .bool true, faultV (fOf r).what (fOf r).pos (bs (fOf r).s) (fOf r).inner (fOf r).innerAt]) (by simp [results, Tryd.results15, go_sem, faultV, d0, d1, d2, d3, d4]) rfl ⟨u4, u5, by rw [hie]; rfl, KP.out _ _ _ _ _, ho1, ho2⟩
      | some mb =>
        have hq := eql_some mb
        go_wp2_with fail
        refine HFT2.out.mono ?_
        rintro e w4 ⟨rfl, k4⟩
        have x4 := k4.get HXX.out (fun x => x)
        have K4 := HKK.out.trans k4
        obtain ⟨hz, f0⟩ := fz_cells x4
        have d0 := hz 0 _ rfl; have d1 := hz 1 _ rfl; have d2 := hz 2 _ rfl; have d3 := hz 3 _ rfl; have d4 := hz 4 _ rfl
        have KP := Lib.hid (fun u0 u1 u2 u3 u4 => keep5 K4 (Nat.le_refl _) u0 u1 u2 u3 u4)
        have o1 := own_keep HOO.out k4 (fun _ _ x => x)
        have o2 := own_keep HOO2.out k4 (fun _ _ x => x)
        have HO1 := Lib.hid o1; have HO2 := Lib.hid o2
        clear hz x4 K4 k4 o1 o2
        unfold fltV faultV
        go_wp2_with fail
        have hie : isE r = false := by rw [← HMO2.out]; simp
        have ho1 := own_set5 HO1.out HB.out (.int .i64 (fOf r).what) (.int .i64 (fOf r).pos) (.string (bs (fOf r).s)) (.int .i64 (fOf r).inner) (.int .i64 (fOf r).innerAt)
        have ho2 := own_set5 HO2.out HB.out (.int .i64 (fOf r).what) (.int .i64 (fOf r).pos) (.string (bs (fOf r).s)) (.int .i64 (fOf r).inner) (.int .i64 (fOf r).innerAt)
        have hns := HNS.out
        subst hns
        refine bodyPost_ret (v := .tuple #[u4, u5, .bool false, faultV (fOf r).what (fOf r).pos (bs (fOf r).s) (fOf r).inner (fOf r).innerAt]) (by simp [results, Tryd.results15, go_sem, faultV, d0, d1, d2, d3, d4]) rfl ⟨u4, u5, by rw [hie]; rfl, KP.out _ _ _ _ _, ho1, ho2⟩
end Go.Proofs.YtabikmkoajdhmaaDoor

/- A type's text is read back: types over names, their text, their tokens; the reader's numbers. -/
namespace Go.Proofs.YtabikmkoajdhmaaDoor
open Go.RowKit

/-- A type whose variables are names. -/
inductive NT where
  | var (n : Str)
  | int
  | bool
  | list (a : NT)
  | pair (a b : NT)
  | fn (a b : NT)
def NT.isFn : NT → Bool
  | .fn _ _ => true
  | _ => false
def NT.show : NT → Str
  | .var n => n
  | .int => INT
  | .bool => BOOL
  | .list a => LB ++ a.show ++ RB
  | .pair a b => LP ++ a.show ++ [44, 32] ++ b.show ++ RP
  | .fn a b => (if a.isFn then LP ++ a.show ++ RP else a.show) ++ [32, 45, 62, 32] ++ b.show
abbrev KT := TK × Str
def NT.toks : NT → List KT
  | .var n => [(.name, n)]
  | .int => [(.kw INT, INT)]
  | .bool => [(.kw BOOL, BOOL)]
  | .list a => (.kw LB, LB) :: (a.toks ++ [(.kw RB, RB)])
  | .pair a b => (.kw LP, LP) :: (a.toks ++ ((.kw COMMA, COMMA) :: (b.toks ++ [(.kw RP, RP)])))
  | .fn a b => (if a.isFn then (.kw LP, LP) :: (a.toks ++ [(.kw RP, RP)]) else a.toks) ++ ((.kw ARROW, ARROW) :: b.toks)
/-- A name that the reader takes. -/
structure OkN (n : Str) : Prop where
  head : ∃ c r, n = c :: r ∧ low c = true
  all : ∀ c ∈ n, lowfig c = true
  len : n.length ≤ 8
  kw : kindsB n = false
def NT.ok : NT → Prop
  | .var n => OkN n
  | .int | .bool => True
  | .list a => a.ok
  | .pair a b | .fn a b => a.ok ∧ b.ok

/-- Tokens without places, of what is left of a text. -/
def lexR (kw : Str → Bool) : Nat → Str → List KT
  | 0, _ => []
  | k + 1, r =>
    let q := lexFrom kw 0 (r.drop (spanN blank r))
    (q.1.kind, q.1.text) :: (if q.1.stop then [] else lexR kw k ((r.drop (spanN blank r)).drop q.2))
theorem lexFrom_at (kw : Str → Bool) (i : Nat) (r : Str) : (lexFrom kw i r).1.kind = (lexFrom kw 0 r).1.kind ∧ (lexFrom kw i r).1.text = (lexFrom kw 0 r).1.text ∧ (lexFrom kw i r).2 = i + (lexFrom kw 0 r).2 := by
  unfold lexFrom
  cases r with
  | nil => simp
  | cons c r =>
    simp only
    split
    · split <;> simp
    · split
      · split <;> simp
      · split
        · simp
        · split <;> simp
theorem toksN_R (kw : Str → Bool) (s : Str) : ∀ (k i : Nat), (toksN kw s k i).map (fun t => (t.kind, t.text)) = lexR kw k (s.drop i)
  | 0, _ => rfl
  | k + 1, i => by
    have hd : s.drop (i + spanN blank (s.drop i)) = (s.drop i).drop (spanN blank (s.drop i)) := by rw [List.drop_drop]
    obtain ⟨h1, h2, h3⟩ := lexFrom_at kw (i + spanN blank (s.drop i)) ((s.drop i).drop (spanN blank (s.drop i)))
    simp only [toksN, lexR, lexAt, List.map_cons, hd]
    rw [h1, h2]
    have hst : (lexFrom kw (i + spanN blank (s.drop i)) ((s.drop i).drop (spanN blank (s.drop i)))).1.stop = (lexFrom kw 0 ((s.drop i).drop (spanN blank (s.drop i)))).1.stop := by
      unfold Tok.stop; rw [h1]
    rw [hst]
    congr 1
    split
    · rfl
    · rw [toksN_R kw s k, h3]
      congr 1
      rw [List.drop_drop, List.drop_drop, Nat.add_assoc]
/-- Where a name ends. -/
def stopc : Str → Bool
  | [] => true
  | c :: _ => !lowfig c
theorem span_app {p : UInt8 → Bool} : ∀ {a r : Str}, (∀ c ∈ a, p c = true) → (match r with | [] => true | c :: _ => !p c) = true → spanN p (a ++ r) = a.length
  | [], [], _, _ => rfl
  | [], c :: r, _, h => by simp at h; simp [spanN, h]
  | c :: a, r, ha, h => by
    have := span_app (a := a) (r := r) (fun d hd => ha d (by simp [hd])) h
    simp only [List.cons_append, spanN, ha c (by simp), if_true, this, List.length_cons]
theorem low_not_blank {c : UInt8} (h : low c = true) : blank c = false := by
  simp only [low, blank, Bool.and_eq_true, decide_eq_true_eq] at *
  simp; omega
theorem lexR_name {kw : Str → Bool} {n r : Str} (h : OkN n) (hk : kw = kindsB) (hr : stopc r = true) (k : Nat) : lexR kw (k + 1) (n ++ r) = (.name, n) :: lexR kw k r := by
  subst hk
  obtain ⟨c, m, rfl, hc⟩ := h.head
  have hb := low_not_blank hc
  have hs : spanN lowfig ((c :: m) ++ r) = (c :: m).length := span_app h.all (by cases r <;> simpa [stopc] using hr)
  have h0 : spanN blank ((c :: m) ++ r) = 0 := by simp [spanN, hb]
  have hl := h.len
  simp only [lexR, h0, List.drop_zero]
  have e : lexFrom kindsB 0 ((c :: m) ++ r) = (⟨.name, c :: m, 0⟩, (c :: m).length) := by
    simp only [List.cons_append] at hs ⊢
    simp only [lexFrom, hc, if_true, hs]
    rw [if_neg (by omega)]
    have ht : (c :: (m ++ r)).take (c :: m).length = c :: m := by
      rw [← List.cons_append, List.take_left']
      rfl
    simp only [ht, h.kw]
    simp
  rw [e]
  simp [Tok.stop]
theorem lexR_word {w r : Str} (h : OkN w ∨ (w = INT ∨ w = BOOL)) (hr : stopc r = true) (k : Nat) (hw : w = INT ∨ w = BOOL) : lexR kindsB (k + 1) (w ++ r) = (.kw w, w) :: lexR kindsB k r := by
  have ha : ∀ c ∈ w, lowfig c = true := by rcases hw with rfl | rfl <;> decide
  obtain ⟨c, m, hcm, hc⟩ : ∃ c m, w = c :: m ∧ low c = true := by rcases hw with rfl | rfl <;> exact ⟨_, _, rfl, by decide⟩
  have hb := low_not_blank hc
  have hs : spanN lowfig (w ++ r) = w.length := span_app ha (by cases r <;> simpa [stopc] using hr)
  have hl : w.length ≤ 8 := by rcases hw with rfl | rfl <;> decide
  have hk : kindsB w = true := by rcases hw with rfl | rfl <;> decide
  have h0 : spanN blank (w ++ r) = 0 := by rw [hcm]; simp [spanN, hb]
  simp only [lexR, h0, List.drop_zero]
  have e : lexFrom kindsB 0 (w ++ r) = (⟨.kw w, w, 0⟩, w.length) := by
    have ht : (w ++ r).take w.length = w := List.take_left' rfl
    rw [hcm] at hs ht hl hk ⊢
    simp only [List.cons_append] at hs ht ⊢
    simp only [lexFrom, hc, if_true, hs]
    rw [if_neg (by omega)]
    simp only [ht, hk]
    simp
  rw [e]
  simp [Tok.stop]
theorem lexR_sign {c : UInt8} {r : Str} (hc : c = 40 ∨ c = 41 ∨ c = 44 ∨ c = 91 ∨ c = 93) (kw : Str → Bool) (k : Nat) : lexR kw (k + 1) (c :: r) = (.kw [c], [c]) :: lexR kw k r := by
  rcases hc with rfl | rfl | rfl | rfl | rfl <;> simp [lexR, spanN, blank, lexFrom, low, fig, sign, Tok.stop]
theorem lexR_arrow {r : Str} (kw : Str → Bool) (k : Nat) : lexR kw (k + 1) (32 :: 45 :: 62 :: r) = (.kw ARROW, ARROW) :: lexR kw k r := by
  simp [lexR, spanN, blank, lexFrom, low, fig, Tok.stop, ARROW]
theorem lexR_sp {r : Str} (kw : Str → Bool) (k : Nat) : lexR kw k (32 :: r) = lexR kw k r := by
  cases k with
  | zero => rfl
  | succ k => simp [lexR, spanN, blank]
theorem NT.lex : ∀ (t : NT), t.ok → ∀ (r : Str) (k : Nat), stopc r = true → lexR kindsB (t.toks.length + k) (t.show ++ r) = t.toks ++ lexR kindsB k r
  | .var n, h, r, k, hr => by
    simp only [NT.toks, NT.show, List.length_singleton, Nat.add_comm 1 k]
    exact lexR_name h rfl hr k
  | .int, _, r, k, hr => by
    simp only [NT.toks, NT.show, List.length_singleton, Nat.add_comm 1 k]
    exact lexR_word (.inr (.inl rfl)) hr k (.inl rfl)
  | .bool, _, r, k, hr => by
    simp only [NT.toks, NT.show, List.length_singleton, Nat.add_comm 1 k]
    exact lexR_word (.inr (.inr rfl)) hr k (.inr rfl)
  | .list a, h, r, k, hr => by
    have h1 := NT.lex a h (RB ++ r) (k + 1) rfl
    simp only [NT.toks, NT.show, List.length_cons, List.length_append, List.length_nil, List.append_assoc]
    rw [show a.toks.length + (0 + 1) + 1 + k = (a.toks.length + (k + 1)) + 1 by omega]
    rw [show LB ++ (a.show ++ (RB ++ r)) = 91 :: (a.show ++ (RB ++ r)) from rfl, lexR_sign (by simp) kindsB, h1]
    rw [show RB ++ r = 93 :: r from rfl, lexR_sign (by simp) kindsB]
    simp [LB, RB]
  | .pair a b, h, r, k, hr => by
    have h1 := NT.lex a h.1 ([44, 32] ++ (b.show ++ (RP ++ r))) (b.toks.length + (k + 1) + 1) rfl
    have h2 := NT.lex b h.2 (RP ++ r) (k + 1) rfl
    simp only [NT.toks, NT.show, List.length_cons, List.length_append, List.length_nil, List.append_assoc]
    rw [show a.toks.length + (b.toks.length + (0 + 1) + 1) + 1 + k = (a.toks.length + (b.toks.length + (k + 1) + 1)) + 1 by omega]
    rw [show LP ++ (a.show ++ ([44, 32] ++ (b.show ++ (RP ++ r)))) = 40 :: (a.show ++ ([44, 32] ++ (b.show ++ (RP ++ r)))) from rfl, lexR_sign (by simp) kindsB, h1]
    rw [show ([44, 32] : Str) ++ (b.show ++ (RP ++ r)) = 44 :: 32 :: (b.show ++ (RP ++ r)) from rfl, lexR_sign (by simp) kindsB, lexR_sp, h2]
    rw [show RP ++ r = 41 :: r from rfl, lexR_sign (by simp) kindsB]
    simp [LP, RP, COMMA]
  | .fn a b, h, r, k, hr => by
    have h2 := NT.lex b h.2 r k hr
    simp only [NT.toks, NT.show]
    split
    · have h1 := NT.lex a h.1 (RP ++ ([32, 45, 62, 32] ++ (b.show ++ r))) (b.toks.length + k + 1 + 1) rfl
      simp only [List.length_cons, List.length_append, List.length_nil, List.append_assoc]
      rw [show a.toks.length + (0 + 1) + 1 + (b.toks.length + 1) + k = (a.toks.length + (b.toks.length + k + 1 + 1)) + 1 by omega]
      rw [show LP ++ (a.show ++ (RP ++ ([32, 45, 62, 32] ++ (b.show ++ r)))) = 40 :: (a.show ++ (RP ++ ([32, 45, 62, 32] ++ (b.show ++ r)))) from rfl, lexR_sign (by simp) kindsB, h1]
      rw [show RP ++ ([32, 45, 62, 32] ++ (b.show ++ r)) = 41 :: 32 :: 45 :: 62 :: 32 :: (b.show ++ r) from rfl, lexR_sign (by simp) kindsB, lexR_arrow, lexR_sp, h2]
      simp [LP, RP]
    · have h1 := NT.lex a h.1 ([32, 45, 62, 32] ++ (b.show ++ r)) (b.toks.length + k + 1) rfl
      simp only [List.length_cons, List.length_append, List.append_assoc]
      rw [show a.toks.length + (b.toks.length + 1) + k = a.toks.length + (b.toks.length + k + 1) by omega]
      rw [h1, show ([32, 45, 62, 32] : Str) ++ (b.show ++ r) = 32 :: 45 :: 62 :: 32 :: (b.show ++ r) from rfl, lexR_arrow, lexR_sp, h2]
      simp

/-- The reader's numbers. -/
def NT.num : NT → TS → Ty × TS
  | .var n, st => (match st.m.lookup n with
    | some v => (.var v, st)
    | none => (.var (st.n + 1), ⟨st.m ++ [(n, st.n + 1)], st.n + 1⟩))
  | .int, st => (.int, st)
  | .bool, st => (.bool, st)
  | .list a, st => (.list (a.num st).1, (a.num st).2)
  | .pair a b, st => (.pair (a.num st).1 (b.num (a.num st).2).1, (b.num (a.num st).2).2)
  | .fn a b, st => (.fn (a.num st).1 (b.num (a.num st).2).1, (b.num (a.num st).2).2)
theorem NT.num_le : ∀ (t : NT) (st : TS), (t.num st).2.n ≤ st.n + t.toks.length
  | .var n, st => by
    simp only [NT.num, NT.toks]
    split <;> simp
  | .int, st => by simp [NT.num]
  | .bool, st => by simp [NT.num]
  | .list a, st => by have := a.num_le st; simp [NT.num, NT.toks]; omega
  | .pair a b, st => by have := a.num_le st; have := b.num_le (a.num st).2; simp [NT.num, NT.toks]; omega
  | .fn a b, st => by
    have := a.num_le st; have := b.num_le (a.num st).2
    simp only [NT.num, NT.toks]
    split <;> simp <;> omega
abbrev kt (t : Tok) : KT := (t.kind, t.text)
theorem adv_cons {x : Tok} {M : List Tok} (h : M ≠ []) : adv (x :: M) = M := by
  cases M with
  | nil => exact absurd rfl h
  | cons u r => rfl
theorem want_cons {k : TK} {x : Tok} {M : List Tok} (hk : x.kind = k) (h : M ≠ []) : want k (x :: M) = some (.ok (x.text, M)) := by
  unfold want
  rw [if_pos (by simpa [hd] using hk), adv_cons h]
  rfl
theorem NT.toks_pos : ∀ t : NT, 0 < t.toks.length
  | .var _ => by simp [NT.toks]
  | .int => by simp [NT.toks]
  | .bool => by simp [NT.toks]
  | .list _ => by simp [NT.toks]
  | .pair _ _ => by simp [NT.toks]
  | .fn a b => by simp only [NT.toks, List.length_append, List.length_cons]; omega
theorem map_cons_split {α β : Type} {f : α → β} {L : List α} {y : β} {ys : List β} (h : L.map f = y :: ys) : ∃ x r, L = x :: r ∧ f x = y ∧ r.map f = ys := by
  cases L with
  | nil => cases h
  | cons x r => simp only [List.map_cons, List.cons.injEq] at h; exact ⟨x, r, rfl, h.1, h.2⟩
theorem map_app_split {α β : Type} {f : α → β} {L : List α} {ys zs : List β} (h : L.map f = ys ++ zs) : ∃ a b, L = a ++ b ∧ a.map f = ys ∧ b.map f = zs := by
  obtain ⟨a, b, rfl, h1, h2⟩ := List.map_eq_append_iff.1 h
  exact ⟨a, b, rfl, h1, h2⟩
structure ParseOk (t : NT) : Prop where
  whole : ∀ (k : Nat) (st : TS) (L M : List Tok), 2 * t.toks.length ≤ k → L.map kt = t.toks → M ≠ [] → (hd M).kind ≠ .kw ARROW → st.n + t.toks.length ≤ 1000000 → qWhole k st (L ++ M) = some (.ok ((t.num st).1, (t.num st).2, M))
  one : t.isFn = false → ∀ (k : Nat) (st : TS) (L M : List Tok), 2 * t.toks.length - 1 ≤ k → L.map kt = t.toks → M ≠ [] → st.n + t.toks.length ≤ 1000000 → qOne k st (L ++ M) = some (.ok ((t.num st).1, (t.num st).2, M))
theorem parse_whole {t : NT} (hf : t.isFn = false) (h1 : ∀ (k : Nat) (st : TS) (L M : List Tok), 2 * t.toks.length - 1 ≤ k → L.map kt = t.toks → M ≠ [] → st.n + t.toks.length ≤ 1000000 → qOne k st (L ++ M) = some (.ok ((t.num st).1, (t.num st).2, M))) : ParseOk t :=
  ⟨fun k st L M hk hL hM ha hn => by
    have hp := t.toks_pos
    obtain ⟨k, rfl⟩ : ∃ j, k = j + 1 := ⟨k - 1, by omega⟩
    simp only [qWhole, h1 k st L M (by omega) hL hM hn, Res.bind]
    rw [if_neg ha], fun _ => h1⟩
theorem paren_one {t : NT} (h : ParseOk t) (k : Nat) (st : TS) (L M : List Tok) (hk : 2 * t.toks.length + 1 ≤ k) (hL : L.map kt = (.kw LP, LP) :: (t.toks ++ [(.kw RP, RP)])) (hM : M ≠ []) (hn : st.n + t.toks.length ≤ 1000000) :
    qOne k st (L ++ M) = some (.ok ((t.num st).1, (t.num st).2, M)) := by
  obtain ⟨k, rfl⟩ : ∃ j, k = j + 1 := ⟨k - 1, by omega⟩
  obtain ⟨x, r, rfl, hx, hr⟩ := map_cons_split hL
  obtain ⟨a, b, rfl, ha, hb⟩ := map_app_split hr
  obtain ⟨y, z, rfl, hy, hz⟩ := map_cons_split hb
  obtain rfl : z = [] := by simpa using hz
  simp only [kt, Prod.mk.injEq] at hx hy
  have e : (x :: (a ++ [y])) ++ M = x :: (a ++ (y :: M)) := by simp
  rw [e]
  have hw := h.whole k st a (y :: M) (by omega) ha (by simp) (by simp [hd, hy.1, RP, ARROW]) hn
  have hne : a ++ y :: M ≠ [] := by simp
  simp only [qOne, hd, List.headD_cons, hx.1]
  rw [if_neg (by simp [LP, INT]), if_neg (by simp [LP, BOOL]), if_neg (by simp [LP, LB]), if_pos trivial, adv_cons hne, hw]
  simp only [Res.bind, List.headD_cons, hy.1]
  rw [if_neg (by simp [RP, COMMA]), want_cons hy.1 hM]
theorem NT.parse : ∀ t : NT, ParseOk t
  | .var n => parse_whole rfl (fun k st L M hk hL hM hn => by
    obtain ⟨k, rfl⟩ : ∃ j, k = j + 1 := ⟨k - 1, by simp [NT.toks] at hk; omega⟩
    obtain ⟨x, r, rfl, hx, hr⟩ := map_cons_split hL
    obtain rfl : r = [] := by simpa using hr
    simp only [kt, Prod.mk.injEq] at hx
    simp only [NT.toks, List.length_singleton] at hn
    simp only [qOne, List.cons_append, List.nil_append, hd, List.headD_cons, hx.1]
    rw [if_neg (by simp), if_neg (by simp), if_neg (by simp), if_neg (by simp), want_cons hx.1 hM]
    simp only [Res.bind, hx.2, NT.num]
    cases st.m.lookup n with
    | some v => rfl
    | none => simp only; rw [if_pos (by omega)])
  | .int => parse_whole rfl (fun k st L M hk hL hM hn => by
    obtain ⟨k, rfl⟩ : ∃ j, k = j + 1 := ⟨k - 1, by simp [NT.toks] at hk; omega⟩
    obtain ⟨x, r, rfl, hx, hr⟩ := map_cons_split hL
    obtain rfl : r = [] := by simpa using hr
    simp only [kt, Prod.mk.injEq] at hx
    simp only [qOne, List.cons_append, List.nil_append, hd, List.headD_cons, hx.1]
    rw [if_pos trivial, adv_cons hM]; rfl)
  | .bool => parse_whole rfl (fun k st L M hk hL hM hn => by
    obtain ⟨k, rfl⟩ : ∃ j, k = j + 1 := ⟨k - 1, by simp [NT.toks] at hk; omega⟩
    obtain ⟨x, r, rfl, hx, hr⟩ := map_cons_split hL
    obtain rfl : r = [] := by simpa using hr
    simp only [kt, Prod.mk.injEq] at hx
    simp only [qOne, List.cons_append, List.nil_append, hd, List.headD_cons, hx.1]
    rw [if_neg (by simp [BOOL, INT]), if_pos trivial, adv_cons hM]; rfl)
  | .list t => parse_whole rfl (fun k st L M hk hL hM hn => by
    have h := NT.parse t
    simp only [NT.toks, List.length_cons, List.length_append, List.length_nil] at hk hn
    obtain ⟨k, rfl⟩ : ∃ j, k = j + 1 := ⟨k - 1, by omega⟩
    obtain ⟨x, r, rfl, hx, hr⟩ := map_cons_split hL
    obtain ⟨a, b, rfl, ha, hb⟩ := map_app_split hr
    obtain ⟨y, z, rfl, hy, hz⟩ := map_cons_split hb
    obtain rfl : z = [] := by simpa using hz
    simp only [kt, Prod.mk.injEq] at hx hy
    have e : (x :: (a ++ [y])) ++ M = x :: (a ++ (y :: M)) := by simp
    rw [e]
    have hw := h.whole k st a (y :: M) (by omega) ha (by simp) (by simp [hd, hy.1, RB, ARROW]) (by omega)
    have hne : a ++ y :: M ≠ [] := by simp
    simp only [qOne, hd, List.headD_cons, hx.1]
    rw [if_neg (by simp [LB, INT]), if_neg (by simp [LB, BOOL]), if_pos trivial, adv_cons hne, hw]
    simp only [Res.bind]
    rw [want_cons hy.1 hM]
    rfl)
  | .pair t u => parse_whole rfl (fun k st L M hk hL hM hn => by
    have h := NT.parse t
    have h' := NT.parse u
    simp only [NT.toks, List.length_cons, List.length_append, List.length_nil] at hk hn
    obtain ⟨k, rfl⟩ : ∃ j, k = j + 1 := ⟨k - 1, by omega⟩
    obtain ⟨x, r, rfl, hx, hr⟩ := map_cons_split hL
    obtain ⟨a, b, rfl, ha, hb⟩ := map_app_split hr
    obtain ⟨y, z, rfl, hy, hz⟩ := map_cons_split hb
    obtain ⟨c, d, rfl, hc, hd'⟩ := map_app_split hz
    obtain ⟨v, z, rfl, hv, hz⟩ := map_cons_split hd'
    obtain rfl : z = [] := by simpa using hz
    simp only [kt, Prod.mk.injEq] at hx hy hv
    have e : (x :: (a ++ y :: (c ++ [v]))) ++ M = x :: (a ++ (y :: (c ++ (v :: M)))) := by simp
    rw [e]
    have hle := t.num_le st
    have hw := h.whole k st a (y :: (c ++ (v :: M))) (by omega) ha (by simp) (by simp [hd, hy.1, COMMA, ARROW]) (by omega)
    have hw2 := h'.whole k (t.num st).2 c (v :: M) (by omega) hc (by simp) (by simp [hd, hv.1, RP, ARROW]) (by omega)
    have hne : a ++ y :: (c ++ v :: M) ≠ [] := by simp
    have hne2 : c ++ v :: M ≠ [] := by simp
    simp only [qOne, hd, List.headD_cons, hx.1]
    rw [if_neg (by simp [LP, INT]), if_neg (by simp [LP, BOOL]), if_neg (by simp [LP, LB]), if_pos trivial, adv_cons hne, hw]
    simp only [Res.bind, List.headD_cons, hy.1]
    rw [if_pos trivial, adv_cons hne2, hw2]
    simp only
    rw [want_cons hv.1 hM]
    rfl)
  | .fn t u => ⟨fun k st L M hk hL hM ha hn => by
    have h := NT.parse t
    have h' := NT.parse u
    have hle := t.num_le st
    simp only [NT.toks] at hk hL hn
    rw [List.length_append, List.length_cons] at hk hn
    have hp := t.toks_pos; have hp' := u.toks_pos
    obtain ⟨k, rfl⟩ : ∃ j, k = j + 1 := ⟨k - 1, by omega⟩
    obtain ⟨a, b, rfl, ha', hb⟩ := map_app_split hL
    obtain ⟨y, c, rfl, hy, hc⟩ := map_cons_split hb
    simp only [kt, Prod.mk.injEq] at hy
    have e : (a ++ y :: c) ++ M = a ++ (y :: (c ++ M)) := by simp
    rw [e]
    have hne : c ++ M ≠ [] := by simp [hM]
    have h1 : qOne k st (a ++ (y :: (c ++ M))) = some (.ok ((t.num st).1, (t.num st).2, y :: (c ++ M))) := by
      cases hf : t.isFn with
      | true =>
        simp only [hf, if_true, List.length_cons, List.length_append, List.length_nil] at ha' hk hn
        exact paren_one h k st a _ (by omega) ha' (by simp) (by omega)
      | false =>
        simp only [hf, Bool.false_eq_true, if_false] at ha' hk hn
        exact h.one hf k st a _ (by omega) ha' (by simp) (by omega)
    have hlt : t.toks.length ≤ (if t.isFn = true then (.kw LP, LP) :: (t.toks ++ [(.kw RP, RP)]) else t.toks : List KT).length := by split <;> simp <;> omega
    have hw2 := h'.whole k (t.num st).2 c M (by omega) hc hM ha (by omega)
    simp only [qWhole, h1, Res.bind, hd, List.headD_cons, hy.1]
    rw [if_pos trivial, adv_cons hne]
    have hw2' := hw2
    rw [hw2']
    rfl, fun hf => by cases hf⟩
end Go.Proofs.YtabikmkoajdhmaaDoor

/- A type's one text is its own, and an instance of it as it is of that: plain. -/
namespace Go.Proofs.YtabikmkoajdhmaaDoor
open Go.RowKit

def Ty.mapv (g : Nat → Nat) : Ty → Ty
  | .var v => .var (g v)
  | .int => .int
  | .bool => .bool
  | .list a => .list (a.mapv g)
  | .pair a b => .pair (a.mapv g) (b.mapv g)
  | .fn a b => .fn (a.mapv g) (b.mapv g)
def Ty.named (nm : Nat → Str) : Ty → NT
  | .var v => .var (nm v)
  | .int => .int
  | .bool => .bool
  | .list a => .list (a.named nm)
  | .pair a b => .pair (a.named nm) (b.named nm)
  | .fn a b => .fn (a.named nm) (b.named nm)
theorem Ty.mapv_size (g : Nat → Nat) : ∀ t : Ty, (t.mapv g).size = t.size
  | .var _ => rfl
  | .int => rfl
  | .bool => rfl
  | .list a => by simp [Ty.mapv, Ty.size, a.mapv_size g]
  | .pair a b => by simp [Ty.mapv, Ty.size, a.mapv_size g, b.mapv_size g]
  | .fn a b => by simp [Ty.mapv, Ty.size, a.mapv_size g, b.mapv_size g]
theorem Ty.mapv_id : ∀ t : Ty, t.mapv id = t
  | .var _ => rfl
  | .int => rfl
  | .bool => rfl
  | .list a => by simp [Ty.mapv, a.mapv_id]
  | .pair a b => by simp [Ty.mapv, a.mapv_id, b.mapv_id]
  | .fn a b => by simp [Ty.mapv, a.mapv_id, b.mapv_id]
theorem Ty.named_mapv (f : Nat → Str) (g : Nat → Nat) : ∀ t : Ty, (t.mapv g).named f = t.named (fun v => f (g v))
  | .var _ => rfl
  | .int => rfl
  | .bool => rfl
  | .list a => by simp [Ty.mapv, Ty.named, a.named_mapv f g]
  | .pair a b => by simp [Ty.mapv, Ty.named, a.named_mapv f g, b.named_mapv f g]
  | .fn a b => by simp [Ty.mapv, Ty.named, a.named_mapv f g, b.named_mapv f g]
theorem Ty.named_isFn (nm : Nat → Str) (t : Ty) : (t.named nm).isFn = (match t with | .fn _ _ => true | _ => false) := by cases t <;> rfl
theorem shown_named (nm : Nat → Str) : ∀ t : Ty, showS (fun (s : Unit) v => (nm v, s)) t () = ((t.named nm).show, ())
  | .var _ => rfl
  | .int => rfl
  | .bool => rfl
  | .list a => by simp [showS, Ty.named, NT.show, shown_named nm a]
  | .pair a b => by simp [showS, Ty.named, NT.show, shown_named nm a, shown_named nm b]
  | .fn a b => by
    simp only [showS, Ty.named, NT.show, shown_named nm a, shown_named nm b, Ty.named_isFn]
    cases a <;> simp
/-- The variables in the order in which they are met. -/
def firsts : Ty → List Nat → List Nat
  | .var v, s => if v ∈ s then s else s ++ [v]
  | .int, s => s
  | .bool, s => s
  | .list a, s => firsts a s
  | .pair a b, s => firsts b (firsts a s)
  | .fn a b, s => firsts b (firsts a s)
theorem firsts_pre : ∀ (t : Ty) (s : List Nat), s <+: firsts t s
  | .var v, s => by
    simp only [firsts]
    split
    · exact List.prefix_refl _
    · exact List.prefix_append _ _
  | .int, s => List.prefix_refl _
  | .bool, s => List.prefix_refl _
  | .list a, s => firsts_pre a s
  | .pair a b, s => (firsts_pre a s).trans (firsts_pre b _)
  | .fn a b, s => (firsts_pre a s).trans (firsts_pre b _)
theorem firsts_nodup : ∀ (t : Ty) (s : List Nat), s.Nodup → (firsts t s).Nodup
  | .var v, s, h => by
    simp only [firsts]
    split
    · exact h
    · rename_i hv
      refine List.nodup_append.2 ⟨h, by simp, ?_⟩
      intro a ha b hb e
      simp only [List.mem_singleton] at hb
      subst hb; subst e; exact hv ha
  | .int, s, h => h
  | .bool, s, h => h
  | .list a, s, h => firsts_nodup a s h
  | .pair a b, s, h => firsts_nodup b _ (firsts_nodup a s h)
  | .fn a b, s, h => firsts_nodup b _ (firsts_nodup a s h)
theorem firsts_len : ∀ (t : Ty) (s : List Nat), (firsts t s).length ≤ s.length + t.size
  | .var v, s => by simp only [firsts]; split <;> simp [Ty.size]
  | .int, s => by simp [firsts]
  | .bool, s => by simp [firsts]
  | .list a, s => by have := firsts_len a s; simp [firsts, Ty.size]; omega
  | .pair a b, s => by have := firsts_len a s; have := firsts_len b (firsts a s); simp [firsts, Ty.size]; omega
  | .fn a b, s => by have := firsts_len a s; have := firsts_len b (firsts a s); simp [firsts, Ty.size]; omega
theorem firsts_has : ∀ (t : Ty) (s : List Nat) (v : Nat), v ∈ firsts t s ↔ (v ∈ s ∨ t.has v = true)
  | .var n, s, v => by
    simp only [firsts, Ty.has]
    split
    · rename_i h
      constructor
      · exact .inl
      · rintro (h' | h')
        · exact h'
        · simp at h'; subst h'; exact h
    · simp [eq_comm]
  | .int, s, v => by simp [firsts, Ty.has]
  | .bool, s, v => by simp [firsts, Ty.has]
  | .list a, s, v => firsts_has a s v
  | .pair a b, s, v => by simp only [firsts, firsts_has b, firsts_has a, Ty.has, Bool.or_eq_true, or_assoc]
  | .fn a b, s, v => by simp only [firsts, firsts_has b, firsts_has a, Ty.has, Bool.or_eq_true, or_assoc]
theorem idx_pre {s F : List Nat} {v : Nat} (h : s <+: F) (hv : v ∈ s) : F.idxOf v = s.idxOf v := by
  obtain ⟨r, rfl⟩ := h
  rw [List.idxOf_append, if_pos hv]
theorem idx_new {s F : List Nat} {v : Nat} (h : s ++ [v] <+: F) (hv : v ∉ s) : F.idxOf v = s.length := by
  rw [idx_pre h (by simp), List.idxOf_append, if_neg hv]
  simp
theorem idx_inj {F : List Nat} {v w : Nat} (hv : v ∈ F) (hw : w ∈ F) (h : F.idxOf v = F.idxOf w) : v = w := by
  have h1 := List.getElem_idxOf (List.idxOf_lt_length_of_mem hv)
  have h2 := List.getElem_idxOf (List.idxOf_lt_length_of_mem hw)
  rw [← h1, ← h2]
  simp only [h]
def nmF (F : List Nat) (v : Nat) : Str := letters (F.idxOf v)
theorem idxOf?_eq {s : List Nat} {v : Nat} : s.idxOf? v = if v ∈ s then some (s.idxOf v) else none := by
  induction s with
  | nil => simp
  | cons a r ih =>
    rw [List.idxOf?_cons, List.idxOf_cons, ih]
    by_cases h : a = v
    · subst h; simp
    · have h1 : (a == v) = false := by simpa using h
      have h2 : ¬ v = a := fun e => h e.symm
      simp only [h1, Bool.false_eq_true, if_false, cond_false, List.mem_cons, h2, false_or]
      split <;> simp
theorem canon_named (F : List Nat) : ∀ (t : Ty) (s : List Nat), firsts t s <+: F → showS namer t s = ((t.named (nmF F)).show, firsts t s)
  | .var v, s, h => by
    simp only [showS, namer, Ty.named, NT.show, firsts, nmF, idxOf?_eq] at *
    by_cases hv : v ∈ s
    · rw [if_pos hv] at h
      rw [if_pos hv, if_pos hv, idx_pre h hv]
    · rw [if_neg hv] at h
      rw [if_neg hv, if_neg hv, idx_new h hv]
  | .int, s, h => rfl
  | .bool, s, h => rfl
  | .list a, s, h => by simp [showS, Ty.named, NT.show, firsts, canon_named F a s h]
  | .pair a b, s, h => by
    have ha := canon_named F a s ((firsts_pre b _).trans h)
    have hb := canon_named F b _ h
    simp [showS, Ty.named, NT.show, firsts, ha, hb]
  | .fn a b, s, h => by
    have ha := canon_named F a s ((firsts_pre b _).trans h)
    have hb := canon_named F b _ h
    simp only [showS, Ty.named, NT.show, firsts, ha, hb, Ty.named_isFn]
    cases a <;> simp
/-- Numbers in the order of the meeting. -/
def gF (F : List Nat) (n : Nat) (v : Nat) : Nat := n + 1 + F.idxOf v
theorem gF_inj {F : List Nat} {n v w : Nat} (hv : v ∈ F) (hw : w ∈ F) (h : gF F n v = gF F n w) : v = w := idx_inj hv hw (by unfold gF at h; omega)
theorem look_map {nm : Nat → Str} {g : Nat → Nat} {v : Nat} : ∀ {V : List Nat}, (∀ w ∈ V, nm v = nm w → v = w) → (V.map fun v => (nm v, g v)).lookup (nm v) = if v ∈ V then some (g v) else none
  | [], _ => rfl
  | w :: V, h => by
    simp only [List.map_cons, List.lookup_cons]
    by_cases e : nm v = nm w
    · have := h w (by simp) e; subst this; simp
    · have h1 : (nm v == nm w) = false := by simpa using e
      have h2 : ¬ v = w := fun x => e (by rw [x])
      rw [h1, look_map (V := V) (fun u hu => h u (by simp [hu]))]
      simp [h2]
theorem num_named {nm : Nat → Str} {F : List Nat} {n : Nat} (hinj : ∀ v ∈ F, ∀ w ∈ F, nm v = nm w → v = w) : ∀ (t : Ty) (V : List Nat), firsts t V <+: F →
    (t.named nm).num ⟨V.map fun v => (nm v, gF F n v), n + V.length⟩ = (t.mapv (gF F n), ⟨(firsts t V).map fun v => (nm v, gF F n v), n + (firsts t V).length⟩)
  | .var v, V, h => by
    have hvF : v ∈ F := h.subset ((firsts_has _ _ _).2 (.inr (by simp [Ty.has])))
    have hl := look_map (nm := nm) (g := gF F n) (v := v) (V := V) (fun w hw => hinj v hvF w (((firsts_pre _ _).trans h).subset hw))
    simp only [Ty.named, NT.num, Ty.mapv, hl, firsts] at *
    by_cases hv : v ∈ V
    · simp only [hv, if_true]
    · rw [if_neg hv] at h
      have hg : gF F n v = n + V.length + 1 := by unfold gF; rw [idx_new h hv]; omega
      simp only [if_neg hv, hg]
      simp [hg]; omega
  | .int, V, h => rfl
  | .bool, V, h => rfl
  | .list a, V, h => by simp [Ty.named, NT.num, Ty.mapv, firsts, num_named hinj a V h]
  | .pair a b, V, h => by
    have ha := num_named hinj (n := n) a V ((firsts_pre b _).trans h)
    have hb := num_named hinj (n := n) b _ h
    simp [Ty.named, NT.num, Ty.mapv, firsts, ha, hb]
  | .fn a b, V, h => by
    have ha := num_named hinj (n := n) a V ((firsts_pre b _).trans h)
    have hb := num_named hinj (n := n) b _ h
    simp [Ty.named, NT.num, Ty.mapv, firsts, ha, hb]
theorem look_map2 {f h : Nat → Str} {v : Nat} : ∀ {V : List Nat}, (∀ w ∈ V, f v = f w → v = w) → (V.map fun v => (f v, h v)).lookup (f v) = if v ∈ V then some (h v) else none
  | [], _ => rfl
  | w :: V, hh => by
    simp only [List.map_cons, List.lookup_cons]
    by_cases e : f v = f w
    · have := hh w (by simp) e; subst this; simp
    · have h1 : (f v == f w) = false := by simpa using e
      have h2 : ¬ v = w := fun x => e (by rw [x])
      rw [h1, look_map2 (V := V) (fun u hu => hh u (by simp [hu]))]
      simp [h2]
theorem match_map {nm : Nat → Str} {f g : Nat → Nat} {F : List Nat} (hinj : ∀ v ∈ F, ∀ w ∈ F, nm (f v) = nm (f w) → v = w) : ∀ (t : Ty) (V : List Nat), firsts t V <+: F →
    matchS nm (t.mapv f) (t.mapv g) (V.map fun v => (nm (f v), nm (g v))) = some ((firsts t V).map fun v => (nm (f v), nm (g v)))
  | .var v, V, h => by
    have hvF : v ∈ F := h.subset ((firsts_has _ _ _).2 (.inr (by simp [Ty.has])))
    have hl : (V.map fun v => (nm (f v), nm (g v))).lookup (nm (f v)) = if v ∈ V then some (nm (g v)) else none := by
      exact look_map2 (f := fun v => nm (f v)) (h := fun v => nm (g v)) (fun w hw => hinj v hvF w (((firsts_pre _ _).trans h).subset hw))
    simp only [Ty.mapv, matchS, hl, firsts] at *
    by_cases hv : v ∈ V
    · simp [hv, shownT, showS]
    · simp [hv, shownT, showS]
  | .int, V, h => rfl
  | .bool, V, h => rfl
  | .list a, V, h => by simp only [Ty.mapv, matchS, firsts]; exact match_map hinj a V h
  | .pair a b, V, h => by
    have ha := match_map hinj (g := g) a V ((firsts_pre b _).trans h)
    have hb := match_map hinj (g := g) b _ h
    simp only [Ty.mapv, matchS, firsts, ha, Option.bind_some, hb]
  | .fn a b, V, h => by
    have ha := match_map hinj (g := g) a V ((firsts_pre b _).trans h)
    have hb := match_map hinj (g := g) b _ h
    simp only [Ty.mapv, matchS, firsts, ha, Option.bind_some, hb]

/-! ### the text is read -/
theorem NT.toks_le : ∀ {t : NT}, t.ok → t.toks.length ≤ t.show.length
  | .var n, h => by
    obtain ⟨c, r, rfl, _⟩ := h.head
    simp [NT.toks, NT.show]
  | .int, _ => by simp [NT.toks, NT.show, INT]
  | .bool, _ => by simp [NT.toks, NT.show, BOOL]
  | .list a, h => by
    have := NT.toks_le (t := a) h
    simp [NT.toks, NT.show, LB, RB]; omega
  | .pair a b, h => by
    have := NT.toks_le h.1; have := NT.toks_le h.2
    simp [NT.toks, NT.show, LP, RP]; omega
  | .fn a b, h => by
    have := NT.toks_le h.1; have := NT.toks_le h.2
    simp only [NT.toks, NT.show]
    split <;> simp [LP, RP] <;> omega
theorem toks_show {t : NT} (h : t.ok) : ∃ L u, toks kindsB t.show 0 = L ++ [u] ∧ L.map kt = t.toks ∧ u.kind = .fin := by
  have hl := NT.toks_le h
  obtain ⟨k, hk⟩ : ∃ k, t.show.length + 1 - 0 = t.toks.length + (k + 1) := ⟨t.show.length - t.toks.length, by omega⟩
  have h1 := toksN_R kindsB t.show (t.show.length + 1 - 0) 0
  have h2 := NT.lex t h [] (k + 1) rfl
  rw [List.append_nil] at h2
  rw [List.drop_zero, hk, h2] at h1
  have h3 : lexR kindsB (k + 1) [] = [(.fin, [])] := by simp [lexR, spanN, lexFrom, Tok.stop]
  rw [h3] at h1
  unfold toks
  rw [hk]
  obtain ⟨a, b, e, ha, hb⟩ := map_app_split h1
  obtain ⟨u, z, rfl, hu, hz⟩ := map_cons_split hb
  obtain rfl : z = [] := by simpa using hz
  exact ⟨a, u, e, ha, by simpa using (Prod.mk.injEq _ _ _ _ ▸ hu : _ ∧ _).1⟩
theorem readTy_show {t : NT} (h : t.ok) (hl : t.show.length ≤ 300) (n : Nat) (hn : n ≤ 100000) : readTy t.show n = if (t.num ⟨[], n⟩).1.size > 120 then some (.error { what := 8 }) else some (.ok (t.num ⟨[], n⟩)) := by
  obtain ⟨L, u, e, hL, hu⟩ := toks_show h
  have hle := NT.toks_le h
  have hp := (NT.parse t).whole readFuel ⟨[], n⟩ L [u] (by unfold readFuel; omega) hL (by simp) (by simp [hd, hu]) (by simp only; omega)
  unfold readTy
  rw [if_neg (by omega), e, hp]
  simp only [Res.bind, want, hd, List.headD_cons, hu, if_true]
/-- A type that was read: its names are its own. -/
theorem letters_okn {n : Nat} (h : n < 130) : OkN (letters n) := by
  have hall : (List.range 130).all (fun n => (match letters n with | c :: _ => low c | [] => false) && (letters n).all lowfig && decide ((letters n).length ≤ 8) && !kindsB (letters n)) = true := by decide +kernel
  have := List.all_eq_true.1 hall n (by simpa using h)
  simp only [Bool.and_eq_true, decide_eq_true_eq, Bool.not_eq_true'] at this
  obtain ⟨⟨⟨h1, h2⟩, h3⟩, h4⟩ := this
  refine ⟨?_, fun c hc => List.all_eq_true.1 h2 c hc, h3, h4⟩
  split at h1
  · rename_i c r e; exact ⟨c, r, e, h1⟩
  · cases h1
theorem letters_inj {a b : Nat} (ha : a < 130) (hb : b < 130) (h : letters a = letters b) : a = b := by
  have hnd : ((List.range 130).map letters).Nodup := by decide +kernel
  have h1 : ((List.range 130).map letters)[a]'(by simpa using ha) = ((List.range 130).map letters)[b]'(by simpa using hb) := by simpa using h
  exact (List.getElem_inj hnd).1 h1
theorem named_ok {nm : Nat → Str} : ∀ {t : Ty}, (∀ v, t.has v = true → OkN (nm v)) → (t.named nm).ok
  | .var v, h => h v (by simp [Ty.has])
  | .int, _ => trivial
  | .bool, _ => trivial
  | .list a, h => named_ok (t := a) h
  | .pair a b, h => ⟨named_ok (t := a) fun v hv => h v (by simp [Ty.has, hv]), named_ok (t := b) fun v hv => h v (by simp [Ty.has, hv])⟩
  | .fn a b, h => ⟨named_ok (t := a) fun v hv => h v (by simp [Ty.has, hv]), named_ok (t := b) fun v hv => h v (by simp [Ty.has, hv])⟩
end Go.Proofs.YtabikmkoajdhmaaDoor
