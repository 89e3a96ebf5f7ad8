/- A type's text is read back: types over names, their text, their tokens; the reader's numbers. -/
import Derived.Test.YtabikmkoajdhmaaGreatDoorInst0
set_option linter.unusedVariables false
set_option linter.unusedSimpArgs false
set_option linter.unnecessarySimpa false
namespace Go.Proofs.YtabikmkoajdhmaaGreatDoor
open Go.RowKit

/-- A type whose variables are names. -/
inductive NT where
  | var (n : Str)
  | int
  | bool
  | list (a : NT)
  | pair (a b : NT)
  | fn (a b : NT)
def NT.isFn : NT → Bool
  | .fn _ _ => true
  | _ => false
def NT.show : NT → Str
  | .var n => n
  | .int => INT
  | .bool => BOOL
  | .list a => LB ++ a.show ++ RB
  | .pair a b => LP ++ a.show ++ [44, 32] ++ b.show ++ RP
  | .fn a b => (if a.isFn then LP ++ a.show ++ RP else a.show) ++ [32, 45, 62, 32] ++ b.show
abbrev KT := TK × Str
def NT.toks : NT → List KT
  | .var n => [(.name, n)]
  | .int => [(.kw INT, INT)]
  | .bool => [(.kw BOOL, BOOL)]
  | .list a => (.kw LB, LB) :: (a.toks ++ [(.kw RB, RB)])
  | .pair a b => (.kw LP, LP) :: (a.toks ++ ((.kw COMMA, COMMA) :: (b.toks ++ [(.kw RP, RP)])))
  | .fn a b => (if a.isFn then (.kw LP, LP) :: (a.toks ++ [(.kw RP, RP)]) else a.toks) ++ ((.kw ARROW, ARROW) :: b.toks)
/-- A name that the reader takes. -/
structure OkN (n : Str) : Prop where
  head : ∃ c r, n = c :: r ∧ low c = true
  all : ∀ c ∈ n, lowfig c = true
  len : n.length ≤ 8
  kw : kindsB n = false
def NT.ok : NT → Prop
  | .var n => OkN n
  | .int | .bool => True
  | .list a => a.ok
  | .pair a b | .fn a b => a.ok ∧ b.ok

/-- Tokens without places, of what is left of a text. -/
def lexR (kw : Str → Bool) : Nat → Str → List KT
  | 0, _ => []
  | k + 1, r =>
    let q := lexFrom kw 0 (r.drop (spanN blank r))
    (q.1.kind, q.1.text) :: (if q.1.stop then [] else lexR kw k ((r.drop (spanN blank r)).drop q.2))
theorem lexFrom_at (kw : Str → Bool) (i : Nat) (r : Str) : (lexFrom kw i r).1.kind = (lexFrom kw 0 r).1.kind ∧ (lexFrom kw i r).1.text = (lexFrom kw 0 r).1.text ∧ (lexFrom kw i r).2 = i + (lexFrom kw 0 r).2 := by
  unfold lexFrom
  cases r with
  | nil => simp
  | cons c r =>
    simp only
    split
    · split <;> simp
    · split
      · split <;> simp
      · split
        · simp
        · split <;> simp
theorem toksN_R (kw : Str → Bool) (s : Str) : ∀ (k i : Nat), (toksN kw s k i).map (fun t => (t.kind, t.text)) = lexR kw k (s.drop i)
  | 0, _ => rfl
  | k + 1, i => by
    have hd : s.drop (i + spanN blank (s.drop i)) = (s.drop i).drop (spanN blank (s.drop i)) := by rw [List.drop_drop]
    obtain ⟨h1, h2, h3⟩ := lexFrom_at kw (i + spanN blank (s.drop i)) ((s.drop i).drop (spanN blank (s.drop i)))
    simp only [toksN, lexR, lexAt, List.map_cons, hd]
    rw [h1, h2]
    have hst : (lexFrom kw (i + spanN blank (s.drop i)) ((s.drop i).drop (spanN blank (s.drop i)))).1.stop = (lexFrom kw 0 ((s.drop i).drop (spanN blank (s.drop i)))).1.stop := by
      unfold Tok.stop; rw [h1]
    rw [hst]
    congr 1
    split
    · rfl
    · rw [toksN_R kw s k, h3]
      congr 1
      rw [List.drop_drop, List.drop_drop, Nat.add_assoc]
/-- Where a name ends. -/
def stopc : Str → Bool
  | [] => true
  | c :: _ => !lowfig c
theorem span_app {p : UInt8 → Bool} : ∀ {a r : Str}, (∀ c ∈ a, p c = true) → (match r with | [] => true | c :: _ => !p c) = true → spanN p (a ++ r) = a.length
  | [], [], _, _ => rfl
  | [], c :: r, _, h => by simp at h; simp [spanN, h]
  | c :: a, r, ha, h => by
    have := span_app (a := a) (r := r) (fun d hd => ha d (by simp [hd])) h
    simp only [List.cons_append, spanN, ha c (by simp), if_true, this, List.length_cons]
theorem low_not_blank {c : UInt8} (h : low c = true) : blank c = false := by
  simp only [low, blank, Bool.and_eq_true, decide_eq_true_eq] at *
  simp; omega
theorem lexR_name {kw : Str → Bool} {n r : Str} (h : OkN n) (hk : kw = kindsB) (hr : stopc r = true) (k : Nat) : lexR kw (k + 1) (n ++ r) = (.name, n) :: lexR kw k r := by
  subst hk
  obtain ⟨c, m, rfl, hc⟩ := h.head
  have hb := low_not_blank hc
  have hs : spanN lowfig ((c :: m) ++ r) = (c :: m).length := span_app h.all (by cases r <;> simpa [stopc] using hr)
  have h0 : spanN blank ((c :: m) ++ r) = 0 := by simp [spanN, hb]
  have hl := h.len
  simp only [lexR, h0, List.drop_zero]
  have e : lexFrom kindsB 0 ((c :: m) ++ r) = (⟨.name, c :: m, 0⟩, (c :: m).length) := by
    simp only [List.cons_append] at hs ⊢
    simp only [lexFrom, hc, if_true, hs]
    rw [if_neg (by omega)]
    have ht : (c :: (m ++ r)).take (c :: m).length = c :: m := by
      rw [← List.cons_append, List.take_left']
      rfl
    simp only [ht, h.kw]
    simp
  rw [e]
  simp [Tok.stop]
theorem lexR_word {w r : Str} (h : OkN w ∨ (w = INT ∨ w = BOOL)) (hr : stopc r = true) (k : Nat) (hw : w = INT ∨ w = BOOL) : lexR kindsB (k + 1) (w ++ r) = (.kw w, w) :: lexR kindsB k r := by
  have ha : ∀ c ∈ w, lowfig c = true := by rcases hw with rfl | rfl <;> decide
  obtain ⟨c, m, hcm, hc⟩ : ∃ c m, w = c :: m ∧ low c = true := by rcases hw with rfl | rfl <;> exact ⟨_, _, rfl, by decide⟩
  have hb := low_not_blank hc
  have hs : spanN lowfig (w ++ r) = w.length := span_app ha (by cases r <;> simpa [stopc] using hr)
  have hl : w.length ≤ 8 := by rcases hw with rfl | rfl <;> decide
  have hk : kindsB w = true := by rcases hw with rfl | rfl <;> decide
  have h0 : spanN blank (w ++ r) = 0 := by rw [hcm]; simp [spanN, hb]
  simp only [lexR, h0, List.drop_zero]
  have e : lexFrom kindsB 0 (w ++ r) = (⟨.kw w, w, 0⟩, w.length) := by
    have ht : (w ++ r).take w.length = w := List.take_left' rfl
    rw [hcm] at hs ht hl hk ⊢
    simp only [List.cons_append] at hs ht ⊢
    simp only [lexFrom, hc, if_true, hs]
    rw [if_neg (by omega)]
    simp only [ht, hk]
    simp
  rw [e]
  simp [Tok.stop]
theorem lexR_sign {c : UInt8} {r : Str} (hc : c = 40 ∨ c = 41 ∨ c = 44 ∨ c = 91 ∨ c = 93) (kw : Str → Bool) (k : Nat) : lexR kw (k + 1) (c :: r) = (.kw [c], [c]) :: lexR kw k r := by
  rcases hc with rfl | rfl | rfl | rfl | rfl <;> simp [lexR, spanN, blank, lexFrom, low, fig, sign, Tok.stop]
theorem lexR_arrow {r : Str} (kw : Str → Bool) (k : Nat) : lexR kw (k + 1) (32 :: 45 :: 62 :: r) = (.kw ARROW, ARROW) :: lexR kw k r := by
  simp [lexR, spanN, blank, lexFrom, low, fig, Tok.stop, ARROW]
theorem lexR_sp {r : Str} (kw : Str → Bool) (k : Nat) : lexR kw k (32 :: r) = lexR kw k r := by
  cases k with
  | zero => rfl
  | succ k => simp [lexR, spanN, blank]
theorem NT.lex : ∀ (t : NT), t.ok → ∀ (r : Str) (k : Nat), stopc r = true → lexR kindsB (t.toks.length + k) (t.show ++ r) = t.toks ++ lexR kindsB k r
  | .var n, h, r, k, hr => by
    simp only [NT.toks, NT.show, List.length_singleton, Nat.add_comm 1 k]
    exact lexR_name h rfl hr k
  | .int, _, r, k, hr => by
    simp only [NT.toks, NT.show, List.length_singleton, Nat.add_comm 1 k]
    exact lexR_word (.inr (.inl rfl)) hr k (.inl rfl)
  | .bool, _, r, k, hr => by
    simp only [NT.toks, NT.show, List.length_singleton, Nat.add_comm 1 k]
    exact lexR_word (.inr (.inr rfl)) hr k (.inr rfl)
  | .list a, h, r, k, hr => by
    have h1 := NT.lex a h (RB ++ r) (k + 1) rfl
    simp only [NT.toks, NT.show, List.length_cons, List.length_append, List.length_nil, List.append_assoc]
    rw [show a.toks.length + (0 + 1) + 1 + k = (a.toks.length + (k + 1)) + 1 by omega]
    rw [show LB ++ (a.show ++ (RB ++ r)) = 91 :: (a.show ++ (RB ++ r)) from rfl, lexR_sign (by simp) kindsB, h1]
    rw [show RB ++ r = 93 :: r from rfl, lexR_sign (by simp) kindsB]
    simp [LB, RB]
  | .pair a b, h, r, k, hr => by
    have h1 := NT.lex a h.1 ([44, 32] ++ (b.show ++ (RP ++ r))) (b.toks.length + (k + 1) + 1) rfl
    have h2 := NT.lex b h.2 (RP ++ r) (k + 1) rfl
    simp only [NT.toks, NT.show, List.length_cons, List.length_append, List.length_nil, List.append_assoc]
    rw [show a.toks.length + (b.toks.length + (0 + 1) + 1) + 1 + k = (a.toks.length + (b.toks.length + (k + 1) + 1)) + 1 by omega]
    rw [show LP ++ (a.show ++ ([44, 32] ++ (b.show ++ (RP ++ r)))) = 40 :: (a.show ++ ([44, 32] ++ (b.show ++ (RP ++ r)))) from rfl, lexR_sign (by simp) kindsB, h1]
    rw [show ([44, 32] : Str) ++ (b.show ++ (RP ++ r)) = 44 :: 32 :: (b.show ++ (RP ++ r)) from rfl, lexR_sign (by simp) kindsB, lexR_sp, h2]
    rw [show RP ++ r = 41 :: r from rfl, lexR_sign (by simp) kindsB]
    simp [LP, RP, COMMA]
  | .fn a b, h, r, k, hr => by
    have h2 := NT.lex b h.2 r k hr
    simp only [NT.toks, NT.show]
    split
    · have h1 := NT.lex a h.1 (RP ++ ([32, 45, 62, 32] ++ (b.show ++ r))) (b.toks.length + k + 1 + 1) rfl
      simp only [List.length_cons, List.length_append, List.length_nil, List.append_assoc]
      rw [show a.toks.length + (0 + 1) + 1 + (b.toks.length + 1) + k = (a.toks.length + (b.toks.length + k + 1 + 1)) + 1 by omega]
      rw [show LP ++ (a.show ++ (RP ++ ([32, 45, 62, 32] ++ (b.show ++ r)))) = 40 :: (a.show ++ (RP ++ ([32, 45, 62, 32] ++ (b.show ++ r)))) from rfl, lexR_sign (by simp) kindsB, h1]
      rw [show RP ++ ([32, 45, 62, 32] ++ (b.show ++ r)) = 41 :: 32 :: 45 :: 62 :: 32 :: (b.show ++ r) from rfl, lexR_sign (by simp) kindsB, lexR_arrow, lexR_sp, h2]
      simp [LP, RP]
    · have h1 := NT.lex a h.1 ([32, 45, 62, 32] ++ (b.show ++ r)) (b.toks.length + k + 1) rfl
      simp only [List.length_cons, List.length_append, List.append_assoc]
      rw [show a.toks.length + (b.toks.length + 1) + k = a.toks.length + (b.toks.length + k + 1) by omega]
      rw [h1, show ([32, 45, 62, 32] : Str) ++ (b.show ++ r) = 32 :: 45 :: 62 :: 32 :: (b.show ++ r) from rfl, lexR_arrow, lexR_sp, h2]
      simp

/-- The reader's numbers. -/
def NT.num : NT → TS → Ty × TS
  | .var n, st => (match st.m.lookup n with
    | some v => (.var v, st)
    | none => (.var (st.n + 1), ⟨st.m ++ [(n, st.n + 1)], st.n + 1⟩))
  | .int, st => (.int, st)
  | .bool, st => (.bool, st)
  | .list a, st => (.list (a.num st).1, (a.num st).2)
  | .pair a b, st => (.pair (a.num st).1 (b.num (a.num st).2).1, (b.num (a.num st).2).2)
  | .fn a b, st => (.fn (a.num st).1 (b.num (a.num st).2).1, (b.num (a.num st).2).2)
theorem NT.num_le : ∀ (t : NT) (st : TS), (t.num st).2.n ≤ st.n + t.toks.length
  | .var n, st => by
    simp only [NT.num, NT.toks]
    split <;> simp
  | .int, st => by simp [NT.num]
  | .bool, st => by simp [NT.num]
  | .list a, st => by have := a.num_le st; simp [NT.num, NT.toks]; omega
  | .pair a b, st => by have := a.num_le st; have := b.num_le (a.num st).2; simp [NT.num, NT.toks]; omega
  | .fn a b, st => by
    have := a.num_le st; have := b.num_le (a.num st).2
    simp only [NT.num, NT.toks]
    split <;> simp <;> omega
abbrev kt (t : Tok) : KT := (t.kind, t.text)
theorem adv_cons {x : Tok} {M : List Tok} (h : M ≠ []) : adv (x :: M) = M := by
  cases M with
  | nil => exact absurd rfl h
  | cons u r => rfl
theorem want_cons {k : TK} {x : Tok} {M : List Tok} (hk : x.kind = k) (h : M ≠ []) : want k (x :: M) = some (.ok (x.text, M)) := by
  unfold want
  rw [if_pos (by simpa [hd] using hk), adv_cons h]
  rfl
theorem NT.toks_pos : ∀ t : NT, 0 < t.toks.length
  | .var _ => by simp [NT.toks]
  | .int => by simp [NT.toks]
  | .bool => by simp [NT.toks]
  | .list _ => by simp [NT.toks]
  | .pair _ _ => by simp [NT.toks]
  | .fn a b => by simp only [NT.toks, List.length_append, List.length_cons]; omega
theorem map_cons_split {α β : Type} {f : α → β} {L : List α} {y : β} {ys : List β} (h : L.map f = y :: ys) : ∃ x r, L = x :: r ∧ f x = y ∧ r.map f = ys := by
  cases L with
  | nil => cases h
  | cons x r => simp only [List.map_cons, List.cons.injEq] at h; exact ⟨x, r, rfl, h.1, h.2⟩
theorem map_app_split {α β : Type} {f : α → β} {L : List α} {ys zs : List β} (h : L.map f = ys ++ zs) : ∃ a b, L = a ++ b ∧ a.map f = ys ∧ b.map f = zs := by
  obtain ⟨a, b, rfl, h1, h2⟩ := List.map_eq_append_iff.1 h
  exact ⟨a, b, rfl, h1, h2⟩
structure ParseOk (t : NT) : Prop where
  whole : ∀ (k : Nat) (st : TS) (L M : List Tok), 2 * t.toks.length ≤ k → L.map kt = t.toks → M ≠ [] → (hd M).kind ≠ .kw ARROW → st.n + t.toks.length ≤ 1000000 → qWhole k st (L ++ M) = some (.ok ((t.num st).1, (t.num st).2, M))
  one : t.isFn = false → ∀ (k : Nat) (st : TS) (L M : List Tok), 2 * t.toks.length - 1 ≤ k → L.map kt = t.toks → M ≠ [] → st.n + t.toks.length ≤ 1000000 → qOne k st (L ++ M) = some (.ok ((t.num st).1, (t.num st).2, M))
theorem parse_whole {t : NT} (hf : t.isFn = false) (h1 : ∀ (k : Nat) (st : TS) (L M : List Tok), 2 * t.toks.length - 1 ≤ k → L.map kt = t.toks → M ≠ [] → st.n + t.toks.length ≤ 1000000 → qOne k st (L ++ M) = some (.ok ((t.num st).1, (t.num st).2, M))) : ParseOk t :=
  ⟨fun k st L M hk hL hM ha hn => by
    have hp := t.toks_pos
    obtain ⟨k, rfl⟩ : ∃ j, k = j + 1 := ⟨k - 1, by omega⟩
    simp only [qWhole, h1 k st L M (by omega) hL hM hn, Res.bind]
    rw [if_neg ha], fun _ => h1⟩
theorem paren_one {t : NT} (h : ParseOk t) (k : Nat) (st : TS) (L M : List Tok) (hk : 2 * t.toks.length + 1 ≤ k) (hL : L.map kt = (.kw LP, LP) :: (t.toks ++ [(.kw RP, RP)])) (hM : M ≠ []) (hn : st.n + t.toks.length ≤ 1000000) :
    qOne k st (L ++ M) = some (.ok ((t.num st).1, (t.num st).2, M)) := by
  obtain ⟨k, rfl⟩ : ∃ j, k = j + 1 := ⟨k - 1, by omega⟩
  obtain ⟨x, r, rfl, hx, hr⟩ := map_cons_split hL
  obtain ⟨a, b, rfl, ha, hb⟩ := map_app_split hr
  obtain ⟨y, z, rfl, hy, hz⟩ := map_cons_split hb
  obtain rfl : z = [] := by simpa using hz
  simp only [kt, Prod.mk.injEq] at hx hy
  have e : (x :: (a ++ [y])) ++ M = x :: (a ++ (y :: M)) := by simp
  rw [e]
  have hw := h.whole k st a (y :: M) (by omega) ha (by simp) (by simp [hd, hy.1, RP, ARROW]) hn
  have hne : a ++ y :: M ≠ [] := by simp
  simp only [qOne, hd, List.headD_cons, hx.1]
  rw [if_neg (by simp [LP, INT]), if_neg (by simp [LP, BOOL]), if_neg (by simp [LP, LB]), if_pos trivial, adv_cons hne, hw]
  simp only [Res.bind, List.headD_cons, hy.1]
  rw [if_neg (by simp [RP, COMMA]), want_cons hy.1 hM]
theorem NT.parse : ∀ t : NT, ParseOk t
  | .var n => parse_whole rfl (fun k st L M hk hL hM hn => by
    obtain ⟨k, rfl⟩ : ∃ j, k = j + 1 := ⟨k - 1, by simp [NT.toks] at hk; omega⟩
    obtain ⟨x, r, rfl, hx, hr⟩ := map_cons_split hL
    obtain rfl : r = [] := by simpa using hr
    simp only [kt, Prod.mk.injEq] at hx
    simp only [NT.toks, List.length_singleton] at hn
    simp only [qOne, List.cons_append, List.nil_append, hd, List.headD_cons, hx.1]
    rw [if_neg (by simp), if_neg (by simp), if_neg (by simp), if_neg (by simp), want_cons hx.1 hM]
    simp only [Res.bind, hx.2, NT.num]
    cases st.m.lookup n with
    | some v => rfl
    | none => simp only; rw [if_pos (by omega)])
  | .int => parse_whole rfl (fun k st L M hk hL hM hn => by
    obtain ⟨k, rfl⟩ : ∃ j, k = j + 1 := ⟨k - 1, by simp [NT.toks] at hk; omega⟩
    obtain ⟨x, r, rfl, hx, hr⟩ := map_cons_split hL
    obtain rfl : r = [] := by simpa using hr
    simp only [kt, Prod.mk.injEq] at hx
    simp only [qOne, List.cons_append, List.nil_append, hd, List.headD_cons, hx.1]
    rw [if_pos trivial, adv_cons hM]; rfl)
  | .bool => parse_whole rfl (fun k st L M hk hL hM hn => by
    obtain ⟨k, rfl⟩ : ∃ j, k = j + 1 := ⟨k - 1, by simp [NT.toks] at hk; omega⟩
    obtain ⟨x, r, rfl, hx, hr⟩ := map_cons_split hL
    obtain rfl : r = [] := by simpa using hr
    simp only [kt, Prod.mk.injEq] at hx
    simp only [qOne, List.cons_append, List.nil_append, hd, List.headD_cons, hx.1]
    rw [if_neg (by simp [BOOL, INT]), if_pos trivial, adv_cons hM]; rfl)
  | .list t => parse_whole rfl (fun k st L M hk hL hM hn => by
    have h := NT.parse t
    simp only [NT.toks, List.length_cons, List.length_append, List.length_nil] at hk hn
    obtain ⟨k, rfl⟩ : ∃ j, k = j + 1 := ⟨k - 1, by omega⟩
    obtain ⟨x, r, rfl, hx, hr⟩ := map_cons_split hL
    obtain ⟨a, b, rfl, ha, hb⟩ := map_app_split hr
    obtain ⟨y, z, rfl, hy, hz⟩ := map_cons_split hb
    obtain rfl : z = [] := by simpa using hz
    simp only [kt, Prod.mk.injEq] at hx hy
    have e : (x :: (a ++ [y])) ++ M = x :: (a ++ (y :: M)) := by simp
    rw [e]
    have hw := h.whole k st a (y :: M) (by omega) ha (by simp) (by simp [hd, hy.1, RB, ARROW]) (by omega)
    have hne : a ++ y :: M ≠ [] := by simp
    simp only [qOne, hd, List.headD_cons, hx.1]
    rw [if_neg (by simp [LB, INT]), if_neg (by simp [LB, BOOL]), if_pos trivial, adv_cons hne, hw]
    simp only [Res.bind]
    rw [want_cons hy.1 hM]
    rfl)
  | .pair t u => parse_whole rfl (fun k st L M hk hL hM hn => by
    have h := NT.parse t
    have h' := NT.parse u
    simp only [NT.toks, List.length_cons, List.length_append, List.length_nil] at hk hn
    obtain ⟨k, rfl⟩ : ∃ j, k = j + 1 := ⟨k - 1, by omega⟩
    obtain ⟨x, r, rfl, hx, hr⟩ := map_cons_split hL
    obtain ⟨a, b, rfl, ha, hb⟩ := map_app_split hr
    obtain ⟨y, z, rfl, hy, hz⟩ := map_cons_split hb
    obtain ⟨c, d, rfl, hc, hd'⟩ := map_app_split hz
    obtain ⟨v, z, rfl, hv, hz⟩ := map_cons_split hd'
    obtain rfl : z = [] := by simpa using hz
    simp only [kt, Prod.mk.injEq] at hx hy hv
    have e : (x :: (a ++ y :: (c ++ [v]))) ++ M = x :: (a ++ (y :: (c ++ (v :: M)))) := by simp
    rw [e]
    have hle := t.num_le st
    have hw := h.whole k st a (y :: (c ++ (v :: M))) (by omega) ha (by simp) (by simp [hd, hy.1, COMMA, ARROW]) (by omega)
    have hw2 := h'.whole k (t.num st).2 c (v :: M) (by omega) hc (by simp) (by simp [hd, hv.1, RP, ARROW]) (by omega)
    have hne : a ++ y :: (c ++ v :: M) ≠ [] := by simp
    have hne2 : c ++ v :: M ≠ [] := by simp
    simp only [qOne, hd, List.headD_cons, hx.1]
    rw [if_neg (by simp [LP, INT]), if_neg (by simp [LP, BOOL]), if_neg (by simp [LP, LB]), if_pos trivial, adv_cons hne, hw]
    simp only [Res.bind, List.headD_cons, hy.1]
    rw [if_pos trivial, adv_cons hne2, hw2]
    simp only
    rw [want_cons hv.1 hM]
    rfl)
  | .fn t u => ⟨fun k st L M hk hL hM ha hn => by
    have h := NT.parse t
    have h' := NT.parse u
    have hle := t.num_le st
    simp only [NT.toks] at hk hL hn
    rw [List.length_append, List.length_cons] at hk hn
    have hp := t.toks_pos; have hp' := u.toks_pos
    obtain ⟨k, rfl⟩ : ∃ j, k = j + 1 := ⟨k - 1, by omega⟩
    obtain ⟨a, b, rfl, ha', hb⟩ := map_app_split hL
    obtain ⟨y, c, rfl, hy, hc⟩ := map_cons_split hb
    simp only [kt, Prod.mk.injEq] at hy
    have e : (a ++ y :: c) ++ M = a ++ (y :: (c ++ M)) := by simp
    rw [e]
    have hne : c ++ M ≠ [] := by simp [hM]
    have h1 : qOne k st (a ++ (y :: (c ++ M))) = some (.ok ((t.num st).1, (t.num st).2, y :: (c ++ M))) := by
      cases hf : t.isFn with
      | true =>
        simp only [hf, if_true, List.length_cons, List.length_append, List.length_nil] at ha' hk hn
        exact paren_one h k st a _ (by omega) ha' (by simp) (by omega)
      | false =>
        simp only [hf, Bool.false_eq_true, if_false] at ha' hk hn
        exact h.one hf k st a _ (by omega) ha' (by simp) (by omega)
    have hlt : t.toks.length ≤ (if t.isFn = true then (.kw LP, LP) :: (t.toks ++ [(.kw RP, RP)]) else t.toks : List KT).length := by split <;> simp <;> omega
    have hw2 := h'.whole k (t.num st).2 c M (by omega) hc hM ha (by omega)
    simp only [qWhole, h1, Res.bind, hd, List.headD_cons, hy.1]
    rw [if_pos trivial, adv_cons hne]
    have hw2' := hw2
    rw [hw2']
    rfl, fun hf => by cases hf⟩
end Go.Proofs.YtabikmkoajdhmaaGreatDoor
