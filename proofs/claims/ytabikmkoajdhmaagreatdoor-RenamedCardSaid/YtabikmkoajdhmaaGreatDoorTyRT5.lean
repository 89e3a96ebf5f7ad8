/- Renamed's plain answers: the text p -> (q, [p]) with two types put in; whether -> stands outside of all brackets. -/
import Derived.Test.YtabikmkoajdhmaaGreatDoorTyRT4
import Derived.Test.YtabikmkoajdhmaaGreatDoorArrow
set_option linter.unusedVariables false
set_option linter.unusedSimpArgs false
set_option linter.unnecessarySimpa false
namespace Go.Proofs.YtabikmkoajdhmaaGreatDoor
open Go.RowKit

theorem num_back {nm : Nat → Str} : ∀ (t : NT) (st : TS) (m : Names), (∀ q ∈ (t.num st).2.m, q ∈ m) → (∀ q ∈ m, nm q.2 = q.1) → ((t.num st).1).named nm = t ∧ ∀ q ∈ st.m, q ∈ m
  | .var n, st, m, h, hn => by
    simp only [NT.num] at h ⊢
    cases hl : st.m.lookup n with
    | some v =>
      simp only [hl] at h ⊢
      exact ⟨by simp only [Ty.named]; rw [hn (n, v) (h _ (lookup_mem hl))], h⟩
    | none =>
      simp only [hl] at h ⊢
      exact ⟨by simp only [Ty.named]; rw [hn (n, st.n + 1) (h _ (by simp))], fun q hq => h q (by simp [hq])⟩
  | .int, st, m, h, hn => ⟨rfl, h⟩
  | .bool, st, m, h, hn => ⟨rfl, h⟩
  | .list a, st, m, h, hn => by
    have ha := num_back (nm := nm) a st m h hn
    exact ⟨by simp only [NT.num, Ty.named]; rw [ha.1], ha.2⟩
  | .pair a b, st, m, h, hn => by
    have hb := num_back (nm := nm) b (a.num st).2 m h hn
    have ha := num_back (nm := nm) a st m hb.2 hn
    exact ⟨by simp only [NT.num, Ty.named]; rw [ha.1, hb.1], ha.2⟩
  | .fn a b, st, m, h, hn => by
    have hb := num_back (nm := nm) b (a.num st).2 m h hn
    have ha := num_back (nm := nm) a st m hb.2 hn
    exact ⟨by simp only [NT.num, Ty.named]; rw [ha.1, hb.1], ha.2⟩
/-- p -> (q, [p]). -/
def pqp : Str := [112, 32, 45, 62, 32, 40, 113, 44, 32, 91, 112, 93, 41]
def pqT : Ty := .fn (.var 1) (.pair (.var 2) (.list (.var 1)))
def pqS : TS := ⟨[([112], 1), ([113], 2)], 2⟩
def pqB : Bool := match readTy pqp 0 with
  | some (.ok (t, st)) => decide (t = pqT) && decide (st.m = pqS.m) && decide (st.n = 2)
  | _ => false
theorem pq_read : readTy pqp 0 = some (.ok (pqT, pqS)) := by
  have h : pqB = true := by decide +kernel
  unfold pqB at h
  split at h
  · rename_i t st e
    simp only [Bool.and_eq_true, decide_eq_true_eq] at h
    rw [e, h.1.1]
    obtain ⟨m, n⟩ := st
    simp only at h
    rw [h.1.2, h.2]; rfl
  · cases h
/-- Two types put in: in brackets the first where it is a function. -/
def putNT (x y : NT) : NT := .fn x (.pair y (.list x))
theorem inst_put {x y : NT} (hx : x.ok) (hy : y.ok) : (∃ f, instF pqp (putNT x y).show = some (.error f) ∧ (f.what = 1 ∨ f.what = 8)) ∨ instF pqp (putNT x y).show = some (.ok [([112], x.show), ([113], y.show)]) := by
  have hok : (putNT x y).ok := ⟨hx, hy, hx⟩
  unfold instF
  simp only [pq_read, show pqS.n = 2 from rfl]
  by_cases hl : (putNT x y).show.length ≤ 300
  · rw [readTy_show hok hl 2 (by omega)]
    by_cases hs : ((putNT x y).num ⟨[], 2⟩).1.size > 120
    · rw [if_pos hs]; exact .inl ⟨_, rfl, .inr rfl⟩
    · rw [if_neg hs]
      refine .inr ?_
      have hr : readTy (putNT x y).show 2 = some (.ok ((putNT x y).num ⟨[], 2⟩)) := by rw [readTy_show hok hl 2 (by omega), if_neg hs]
      have hb0 := fun nm m => num_back (nm := nm) (putNT x y) ⟨[], 2⟩ m
      have he : ∃ A B A' s2, (putNT x y).num ⟨[], 2⟩ = (.fn A (.pair B (.list A')), s2) := ⟨_, _, _, _, rfl⟩
      obtain ⟨A, B, A', s2, he⟩ := he
      rw [he] at hr hb0 ⊢
      have hin := readTy_in hr
      have hnm : ∀ q ∈ s2.m, nmS (pqS.m ++ s2.m) q.2 = q.1 := fun q hq => nmS_late hin.inn.nd2 hq (fun p hp => by
        have := (hin.inn.lo q hq).1
        simp only [pqS, List.mem_cons, List.mem_nil_iff, or_false] at hp
        rcases hp with rfl | rfl <;> simp only <;> omega)
      have hb := (hb0 (nmS (pqS.m ++ s2.m)) s2.m (fun q hq => hq) hnm).1
      have h1 : nmS (pqS.m ++ s2.m) 1 = [112] := nmS_own (l := pqS.m) (by decide) (q := ([112], 1)) (by decide)
      have h2 : nmS (pqS.m ++ s2.m) 2 = [113] := nmS_own (l := pqS.m) (by decide) (q := ([113], 2)) (by decide)
      simp only
      obtain ⟨nm, hnme⟩ : ∃ nm, nm = nmS (pqS.m ++ s2.m) := ⟨_, rfl⟩
      rw [← hnme] at hb h1 h2 ⊢
      simp only [putNT, Ty.named, NT.fn.injEq, NT.pair.injEq, NT.list.injEq] at hb
      have sh : ∀ t : Ty, shownT nm t = (t.named nm).show := fun t => by unfold shownT; rw [shown_named]
      simp only [pqT, matchS, List.lookup_nil, h1, h2, sh, hb.1, hb.2.1, hb.2.2, List.nil_append, Option.bind_some, List.lookup_cons]
      simp
  · have : readTy (putNT x y).show 2 = some (.error { what := 1 }) := readTy_long (by omega)
    rw [this]; exact .inl ⟨_, rfl, .inl rfl⟩

def arrF (o : Int) : Str → Bool
  | [] => false
  | c :: r =>
    if c.toNat = 40 ∨ c.toNat = 91 then arrF (o + 1) r
    else if c.toNat = 41 ∨ c.toNat = 93 then arrF (o - 1) r
    else if c.toNat = 45 then (if o = 0 then true else arrF o r)
    else arrF o r
theorem arrS_F : ∀ (o : Int) (s : Str), (∀ c, s.getLast? = some c → c.toNat ≠ 45) → arrS o s = arrF o s
  | _, [], _ => rfl
  | o, [c], h => by
    have := h c rfl
    simp [arrS, arrF, this]
  | o, c :: d :: r, h => by
    have h' : ∀ x, (d :: r).getLast? = some x → x.toNat ≠ 45 := fun x hx => h x (by rw [List.getLast?_cons_cons]; exact hx)
    simp only [arrS]
    conv => rhs; unfold arrF
    rw [arrS_F (o + 1) (d :: r) h', arrS_F (o - 1) (d :: r) h', arrS_F o (d :: r) h']
theorem arrF_low {o : Int} : ∀ {n r : Str}, (∀ c ∈ n, lowfig c = true) → arrF o (n ++ r) = arrF o r
  | [], _, _ => rfl
  | c :: n, r, h => by
    have hc := h c (by simp)
    have : ¬ (c.toNat = 40 ∨ c.toNat = 91) ∧ ¬ (c.toNat = 41 ∨ c.toNat = 93) ∧ ¬ c.toNat = 45 := by
      simp only [lowfig, low, fig, Bool.or_eq_true, Bool.and_eq_true, decide_eq_true_eq] at hc
      omega
    simp only [List.cons_append, arrF]
    rw [if_neg this.1, if_neg this.2.1, if_neg this.2.2]
    exact arrF_low (fun d hd => h d (by simp [hd]))
theorem arrF_show : ∀ (t : NT), t.ok → ∀ (o : Int) (r : Str), 0 ≤ o → (1 ≤ o ∨ t.isFn = false) → arrF o (t.show ++ r) = arrF o r
  | .var n, h, o, r, _, _ => arrF_low h.all
  | .int, _, o, r, _, _ => arrF_low (n := INT) (by decide)
  | .bool, _, o, r, _, _ => arrF_low (n := BOOL) (by decide)
  | .list a, h, o, r, h0, _ => by
    have h1 := arrF_show a h (o + 1) (RB ++ r) (by omega) (.inl (by omega))
    simp only [NT.show, List.append_assoc]
    show arrF o (91 :: (a.show ++ (RB ++ r))) = _
    simp only [arrF]
    rw [if_pos (by decide), h1]
    show arrF (o + 1) (93 :: r) = _
    simp only [arrF]
    rw [if_neg (by decide), if_pos (by decide), Int.add_sub_cancel]
  | .pair a b, h, o, r, h0, _ => by
    have h1 := arrF_show a h.1 (o + 1) ([44, 32] ++ (b.show ++ (RP ++ r))) (by omega) (.inl (by omega))
    have h2 := arrF_show b h.2 (o + 1) (RP ++ r) (by omega) (.inl (by omega))
    simp only [NT.show, List.append_assoc]
    show arrF o (40 :: (a.show ++ ([44, 32] ++ (b.show ++ (RP ++ r))))) = _
    simp only [arrF]
    rw [if_pos (by decide), h1]
    show arrF (o + 1) (44 :: 32 :: (b.show ++ (RP ++ r))) = _
    simp only [arrF]
    rw [if_neg (by decide), if_neg (by decide), if_neg (by decide), if_neg (by decide), if_neg (by decide), if_neg (by decide), h2]
    show arrF (o + 1) (41 :: r) = _
    simp only [arrF]
    rw [if_neg (by decide), if_pos (by decide), Int.add_sub_cancel]
  | .fn a b, h, o, r, h0, h1 => by
    have ho : 1 ≤ o := by rcases h1 with h1 | h1; exact h1; cases h1
    have hr : ∀ s, arrF o ([32, 45, 62, 32] ++ s) = arrF o s := fun s => by
      show arrF o (32 :: 45 :: 62 :: 32 :: s) = _
      simp only [arrF]
      rw [if_neg (by decide), if_neg (by decide), if_neg (by decide), if_neg (by decide), if_neg (by decide), if_pos (by decide), if_neg (by omega), if_neg (by decide), if_neg (by decide), if_neg (by decide), if_neg (by decide), if_neg (by decide), if_neg (by decide)]
    have h2 := arrF_show b h.2 o r h0 (.inl ho)
    simp only [NT.show, List.append_assoc]
    split
    · have ha := arrF_show a h.1 (o + 1) (RP ++ ([32, 45, 62, 32] ++ (b.show ++ r))) (by omega) (.inl (by omega))
      simp only [List.append_assoc]
      show arrF o (40 :: (a.show ++ (RP ++ ([32, 45, 62, 32] ++ (b.show ++ r))))) = _
      simp only [arrF]
      rw [if_pos (by decide), ha]
      show arrF (o + 1) (41 :: ([32, 45, 62, 32] ++ (b.show ++ r))) = _
      simp only [arrF]
      rw [if_neg (by decide), if_pos (by decide), Int.add_sub_cancel, hr, h2]
    · rw [arrF_show a h.1 o _ h0 (.inl ho), hr, h2]
theorem arrF_fn {a b : NT} (h : (NT.fn a b).ok) : arrF 0 (NT.fn a b).show = true := by
  have hr : ∀ s, arrF 0 ([32, 45, 62, 32] ++ s) = true := fun s => by
    show arrF 0 (32 :: 45 :: 62 :: 32 :: s) = _
    simp only [arrF]
    rw [if_neg (by decide), if_neg (by decide), if_neg (by decide), if_neg (by decide), if_neg (by decide), if_pos (by decide), if_pos trivial]
  simp only [NT.show]
  cases hf : a.isFn with
  | true =>
    have ha := arrF_show a h.1 1 (RP ++ ([32, 45, 62, 32] ++ b.show)) (by omega) (.inl (by omega))
    simp only [if_true, List.append_assoc]
    show arrF 0 (40 :: (a.show ++ (RP ++ ([32, 45, 62, 32] ++ b.show)))) = _
    simp only [arrF]
    rw [if_pos (by decide), show (0 : Int) + 1 = 1 from rfl, ha]
    show arrF 1 (41 :: ([32, 45, 62, 32] ++ b.show)) = _
    simp only [arrF]
    rw [if_neg (by decide), if_pos (by decide), show (1 : Int) - 1 = 0 from rfl]
    exact hr _
  | false =>
    simp only [Bool.false_eq_true, if_false, List.append_assoc]
    rw [arrF_show a h.1 0 _ (by omega) (.inr hf)]
    exact hr _
theorem show_last : ∀ (t : NT), t.ok → ∀ c, t.show.getLast? = some c → c.toNat ≠ 45
  | .var n, h, c, hc => by
    have hm := List.mem_of_getLast? hc
    have := h.all c hm
    simp only [lowfig, low, fig, Bool.or_eq_true, Bool.and_eq_true, decide_eq_true_eq] at this
    omega
  | .int, _, c, hc => by simp [NT.show, INT] at hc; subst hc; decide
  | .bool, _, c, hc => by simp [NT.show, BOOL] at hc; subst hc; decide
  | .list a, _, c, hc => by simp [NT.show, RB] at hc; subst hc; decide
  | .pair a b, _, c, hc => by
    have e : (NT.pair a b).show = (LP ++ a.show ++ [44, 32] ++ b.show) ++ [41] := rfl
    rw [e, List.getLast?_concat] at hc
    injection hc with hc; subst hc; decide
  | .fn a b, h, c, hc => by
    have hb := NT.toks_le h.2
    have hp := b.toks_pos
    have hne : b.show ≠ [] := fun e => by rw [e] at hb; simp only [List.length_nil] at hb; omega
    simp only [NT.show] at hc
    rw [List.getLast?_append] at hc
    cases e : b.show.getLast? with
    | none => exact absurd (List.getLast?_eq_none_iff.1 e) hne
    | some d =>
      rw [e] at hc
      simp only [Option.some_or, Option.some.injEq] at hc
      subst hc
      exact show_last b h.2 _ e
theorem arr_show {t : NT} (h : t.ok) : arrS 0 t.show = t.isFn := by
  rw [arrS_F 0 t.show (show_last t h)]
  cases hf : t.isFn with
  | true =>
    cases t <;> simp [NT.isFn] at hf
    exact arrF_fn h
  | false =>
    have := arrF_show t h 0 [] (by omega) (.inr hf)
    rw [List.append_nil] at this
    rw [this]; rfl
end Go.Proofs.YtabikmkoajdhmaaGreatDoor
