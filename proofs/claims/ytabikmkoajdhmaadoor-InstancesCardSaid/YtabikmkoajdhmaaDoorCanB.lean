/- typerref's Canon, as plain functions that go the way of the code; that its text is the program's. No program in sight. -/
import Derived.Test.YtabikmkoajdhmaaDoorCanA
import Derived.Test.YtabikmkoajdhmaaDoorQ31
import Derived.Test.YtabikmkoajdhmaaDoorQ28
import Derived.Laws.OwnMore
set_option linter.unusedVariables false
set_option linter.unusedSimpArgs false
set_option linter.unnecessarySimpa false
namespace Go.Proofs.YtabikmkoajdhmaaDoor

/-- The variables of a type, each once, in the order in which they stand (numbers as the reference has them: one less). -/
def varsQ : Ty → List Nat → List Nat
  | .var v, l => if v - 1 ∈ l then l else l ++ [v - 1]
  | .int, l => l
  | .bool, l => l
  | .list a, l => varsQ a l
  | .pair a b, l => varsQ b (varsQ a l)
  | .fn a b, l => varsQ b (varsQ a l)
def mxQ (m v : Nat) : Nat := if m ≤ v then v + 1 else m
def mostQ (l : List Nat) : Nat := l.foldl mxQ 0
def namesI (l : List Nat) (i : Nat) : List Str := (List.range i).foldl (fun acc k => acc.set (l.getD k 0) (letters k)) (List.replicate (mostQ l) [])
def canonQ (t : Ty) : Str := shownT (fun v => (namesI (varsQ t []) (varsQ t []).length).getD (v - 1) []) t

theorem mxQ_le (m v : Nat) : m ≤ mxQ m v ∧ v < mxQ m v := by unfold mxQ; split <;> omega
theorem mxQ_lt {m v B : Nat} (h : m ≤ B) (h2 : v < B) : mxQ m v ≤ B := by unfold mxQ; split <;> omega
theorem mostQ_take {l : List Nat} {i : Nat} (h : i < l.length) : mostQ (l.take (i + 1)) = mxQ (mostQ (l.take i)) l[i] := by
  unfold mostQ
  rw [List.take_succ_eq_append_getElem h, List.foldl_append]; rfl
theorem foldl_most (l : List Nat) : ∀ m, m ≤ l.foldl mxQ m ∧ ∀ v ∈ l, v < l.foldl mxQ m := by
  induction l with
  | nil => intro m; exact ⟨Nat.le_refl _, fun _ h => by cases h⟩
  | cons x r ih =>
    intro m
    obtain ⟨h1, h2⟩ := ih (mxQ m x)
    obtain ⟨h3, h4⟩ := mxQ_le m x
    simp only [List.foldl_cons]
    exact ⟨Nat.le_trans h3 h1, fun v hv => by
      rcases List.mem_cons.1 hv with rfl | hv
      · exact Nat.lt_of_lt_of_le h4 h1
      · exact h2 v hv⟩
theorem lt_mostQ {l : List Nat} {v : Nat} (h : v ∈ l) : v < mostQ l := (foldl_most l 0).2 v h
theorem mostQ_le {B : Nat} {l : List Nat} : (∀ v ∈ l, v < B) → mostQ l ≤ B := by
  have : ∀ (l : List Nat) (m : Nat), m ≤ B → (∀ v ∈ l, v < B) → l.foldl mxQ m ≤ B := by
    intro l
    induction l with
    | nil => intro m h _; exact h
    | cons x r ih => exact fun m h hv => ih _ (mxQ_lt h (hv x (by simp))) (fun v h => hv v (by simp [h]))
  exact this l 0 (Nat.zero_le _)
theorem namesI_succ (l : List Nat) (i : Nat) : namesI l (i + 1) = (namesI l i).set (l.getD i 0) (letters i) := by
  simp [namesI, List.range_succ, List.foldl_append]
theorem namesI_len (l : List Nat) : ∀ i, (namesI l i).length = mostQ l
  | 0 => by simp [namesI]
  | i + 1 => by rw [namesI_succ, List.length_set, namesI_len l i]
theorem namesI_at {l : List Nat} (hn : l.Nodup) : ∀ i, i ≤ l.length → ∀ k (hk : k < l.length), k < i → (namesI l i).getD l[k] [] = letters k
  | 0, _, _, _, h => by omega
  | i + 1, hi, k, hk, hki => by
    have hg : l.getD i 0 = l[i] := by simp [List.getD_eq_getElem?_getD, show i < l.length by omega]
    rw [namesI_succ, hg]
    have hm : l[k] < mostQ l := lt_mostQ (List.getElem_mem hk)
    have hlen : l[k] < (namesI l i).length := by rw [namesI_len]; exact hm
    rcases Nat.lt_or_ge k i with h | h
    · have hne : l[i] ≠ l[k] := fun e => by
        have := (List.getElem_inj hn).1 e
        omega
      have ih := namesI_at hn i (by omega) k hk h
      simp only [List.getD_eq_getElem?_getD] at ih ⊢
      rw [List.getElem?_set_ne hne, ih]
    · obtain rfl : k = i := by omega
      simp [List.getD_eq_getElem?_getD, hlen]
theorem varsQ_nodup : ∀ (t : Ty) (l : List Nat), l.Nodup → (varsQ t l).Nodup
  | .var v, l, h => by
    simp only [varsQ]
    split
    · exact h
    · rename_i h2
      rw [List.nodup_append]
      exact ⟨h, by simp, fun a ha b hb => by simp at hb; subst hb; exact fun e => h2 (e ▸ ha)⟩
  | .int, l, h => h
  | .bool, l, h => h
  | .list a, l, h => varsQ_nodup a l h
  | .pair a b, l, h => varsQ_nodup b _ (varsQ_nodup a l h)
  | .fn a b, l, h => varsQ_nodup b _ (varsQ_nodup a l h)
theorem varsQ_len : ∀ (t : Ty) (l : List Nat), (varsQ t l).length ≤ l.length + t.size
  | .var v, l => by simp only [varsQ, Ty.size]; split <;> simp
  | .int, l => by simp [varsQ]
  | .bool, l => by simp [varsQ]
  | .list a, l => by have := varsQ_len a l; simp only [varsQ, Ty.size]; omega
  | .pair a b, l => by have := varsQ_len a l; have := varsQ_len b (varsQ a l); simp only [varsQ, Ty.size]; omega
  | .fn a b, l => by have := varsQ_len a l; have := varsQ_len b (varsQ a l); simp only [varsQ, Ty.size]; omega
theorem varsQ_pre : ∀ (t : Ty) (l : List Nat), l <+: varsQ t l
  | .var v, l => by simp only [varsQ]; split <;> simp
  | .int, l => List.prefix_rfl
  | .bool, l => List.prefix_rfl
  | .list a, l => varsQ_pre a l
  | .pair a b, l => (varsQ_pre a l).trans (varsQ_pre b _)
  | .fn a b, l => (varsQ_pre a l).trans (varsQ_pre b _)
theorem varsQ_mem {w : Nat} : ∀ (t : Ty) (l : List Nat), w ∈ varsQ t l → w ∈ l ∨ ∃ v, t.has v = true ∧ w = v - 1
  | .var v, l, h => by
    simp only [varsQ] at h
    split at h
    · exact .inl h
    · rcases List.mem_append.1 h with h | h
      · exact .inl h
      · exact .inr ⟨v, by simp [Ty.has], by simpa using h⟩
  | .int, l, h => .inl h
  | .bool, l, h => .inl h
  | .list a, l, h => (varsQ_mem a l h).imp_right fun ⟨v, h1, h2⟩ => ⟨v, by simpa [Ty.has] using h1, h2⟩
  | .pair a b, l, h => by
    rcases varsQ_mem b _ h with h | ⟨v, h1, h2⟩
    · exact (varsQ_mem a l h).imp_right fun ⟨v, h1, h2⟩ => ⟨v, by simp [Ty.has, h1], h2⟩
    · exact .inr ⟨v, by simp [Ty.has, h1], h2⟩
  | .fn a b, l, h => by
    rcases varsQ_mem b _ h with h | ⟨v, h1, h2⟩
    · exact (varsQ_mem a l h).imp_right fun ⟨v, h1, h2⟩ => ⟨v, by simp [Ty.has, h1], h2⟩
    · exact .inr ⟨v, by simp [Ty.has, h1], h2⟩
theorem varsQ_own : ∀ (t : Ty) (l : List Nat) (v : Nat), t.has v = true → v - 1 ∈ varsQ t l
  | .var n, l, v, h => by
    have : n = v := by simpa [Ty.has] using h
    subst this
    simp only [varsQ]; split
    · assumption
    · simp
  | .int, l, v, h => by cases h
  | .bool, l, v, h => by cases h
  | .list a, l, v, h => varsQ_own a l v h
  | .pair a b, l, v, h => by
    simp only [Ty.has, Bool.or_eq_true] at h
    rcases h with h | h
    · exact (varsQ_pre b _).subset (varsQ_own a l v h)
    · exact varsQ_own b _ v h
  | .fn a b, l, v, h => by
    simp only [Ty.has, Bool.or_eq_true] at h
    rcases h with h | h
    · exact (varsQ_pre b _).subset (varsQ_own a l v h)
    · exact varsQ_own b _ v h
/-- The way of the program's names against the reference's. -/
theorem namer_vars (L : List Nat) (f : Nat → Str) (hf : ∀ k (h : k < L.length), f (L[k] + 1) = letters k) : ∀ (t : Ty) (s : List Nat), (∀ v, t.has v = true → 1 ≤ v) → (∀ v ∈ s, 1 ≤ v) → varsQ t (s.map (· - 1)) <+: L →
    ∃ s', showS namer t s = (shownT f t, s') ∧ s'.map (· - 1) = varsQ t (s.map (· - 1)) ∧ ∀ v ∈ s', 1 ≤ v
  | .var v, s, hp, hs, hl => by
    have hv : 1 ≤ v := hp v (by simp [Ty.has])
    have hmem : (v - 1 ∈ s.map (· - 1)) ↔ v ∈ s := by
      constructor
      · intro h
        obtain ⟨u, hu, e⟩ := List.mem_map.1 h
        have := hs u hu
        have : u = v := by omega
        exact this ▸ hu
      · exact fun h => List.mem_map.2 ⟨v, h, rfl⟩
    have key : ∀ k, (varsQ (.var v) (s.map (· - 1)))[k]? = some (v - 1) → letters k = f v := by
      intro k e
      obtain ⟨r, hr⟩ := hl
      have e2 : L[k]? = some (v - 1) := by
        rw [← hr]
        obtain ⟨h1, _⟩ := List.getElem?_eq_some_iff.1 e
        rw [List.getElem?_append_left h1]; exact e
      obtain ⟨hk, e3⟩ := List.getElem?_eq_some_iff.1 e2
      have h2 := hf k hk
      rw [← h2, e3]; congr 1; omega
    cases hi : s.idxOf? v with
    | some k =>
      rw [List.idxOf?_eq_some_iff] at hi
      obtain ⟨h1, h2, _⟩ := hi
      have h2 : s[k] = v := by simpa using h2
      have hv2 : v ∈ s := h2 ▸ List.getElem_mem h1
      have e : varsQ (.var v) (s.map (· - 1)) = s.map (· - 1) := by simp only [varsQ]; rw [if_pos (hmem.2 hv2)]
      rw [e] at key ⊢
      have hk := key k (by simp [h1, h2])
      exact ⟨s, by simp only [showS, namer, shownT, List.idxOf?_eq_some_iff.2 ⟨h1, by simpa using h2, by assumption⟩, hk], rfl, hs⟩
    | none =>
      have hv2 : v ∉ s := by simpa [List.idxOf?_eq_none_iff] using hi
      have e : varsQ (.var v) (s.map (· - 1)) = s.map (· - 1) ++ [v - 1] := by simp only [varsQ]; rw [if_neg (fun h => hv2 (hmem.1 h))]
      rw [e] at key ⊢
      have hk := key s.length (by simp)
      exact ⟨s ++ [v], by simp only [showS, namer, shownT, hi, hk], by simp, fun u hu => by
        rcases List.mem_append.1 hu with h | h
        · exact hs u h
        · have : u = v := by simpa using h
          omega⟩
  | .int, s, _, hs, _ => ⟨s, rfl, rfl, hs⟩
  | .bool, s, _, hs, _ => ⟨s, rfl, rfl, hs⟩
  | .list a, s, hp, hs, hl => by
    obtain ⟨s', h1, h2, h3⟩ := namer_vars L f hf a s (fun v h => hp v (by simpa [Ty.has] using h)) hs hl
    exact ⟨s', by simp only [showS, shownT, h1], h2, h3⟩
  | .pair a b, s, hp, hs, hl => by
    obtain ⟨s', h1, h2, h3⟩ := namer_vars L f hf a s (fun v h => hp v (by simp [Ty.has, h])) hs ((varsQ_pre b _).trans hl)
    obtain ⟨s2, h4, h5, h6⟩ := namer_vars L f hf b s' (fun v h => hp v (by simp [Ty.has, h])) h3 (by rw [h2]; exact hl)
    exact ⟨s2, by simp only [showS, shownT, h1, h4], by rw [h5, h2]; rfl, h6⟩
  | .fn a b, s, hp, hs, hl => by
    obtain ⟨s', h1, h2, h3⟩ := namer_vars L f hf a s (fun v h => hp v (by simp [Ty.has, h])) hs ((varsQ_pre b _).trans hl)
    obtain ⟨s2, h4, h5, h6⟩ := namer_vars L f hf b s' (fun v h => hp v (by simp [Ty.has, h])) h3 (by rw [h2]; exact hl)
    exact ⟨s2, by simp only [showS, shownT, h1, h4], by rw [h5, h2]; rfl, h6⟩
theorem canon_q {t : Ty} (h : ∀ v, t.has v = true → 1 ≤ v) : canonT t = canonQ t := by
  obtain ⟨s', h1, _⟩ := namer_vars (varsQ t []) (fun v => (namesI (varsQ t []) (varsQ t []).length).getD (v - 1) []) (fun k hk => by
    have := namesI_at (varsQ_nodup t [] (by simp)) (varsQ t []).length (Nat.le_refl _) k hk hk
    simpa using this) t [] h (fun _ h => by cases h) List.prefix_rfl
  simp only [canonT, canonQ, h1]
end Go.Proofs.YtabikmkoajdhmaaDoor

set_option linter.unusedVariables false
set_option linter.unusedSimpArgs false
set_option linter.unnecessarySimpa false
namespace Go.Proofs.YtabikmkoajdhmaaDoor
open Go.RowKit

def intsV (l : List Nat) : List Value := l.map fun v : Nat => .int .i64 (v : Int)
theorem und_ints : Tryd.prog.underlying 22 = some (.slice 3) := by kernel_rfl
theorem info_int : (Tryd.prog.info? 3).map (fun i => (i.zero, i.size, i.bytes)) = some (some (.int .i64 0), 1, 8) := by kernel_rfl
set_option maxRecDepth 100000 in
set_option maxHeartbeats 4000000 in
/-- Is a number in a list? -/
theorem tr_in {w : World} {base n : Nat} {lv : Value} {l : List Nat} (h : w.ownsRow base 3 1 lv l.length (intsV l)) (hl : l.length ≤ 1000000) : Calls Tryd.prog 55 #[lv, .int .i64 n] w fun e w' => e = .returned (.bool (decide (n ∈ l))) ∧ w' = w := by
  obtain ⟨ao, cap, rfl, hc⟩ := own_shape h
  have HC := Lib.hid hc
  clear hc h
  go_enter Tryd.func55, Tryd.ntmps55
  go_wp2_with fail
  go_loopg [9] l.length (fun gn s9 wr => ∃ i : Nat, i ≤ l.length ∧ Hid (gn = l.length - i) ∧ s9 = .int .i64 i ∧ wr = w ∧ Hid (n ∉ l.take i))
  case atStart => exact ⟨0, by omega, Lib.hid rfl, rfl, rfl, Lib.hid (by simp)⟩
  case round =>
    obtain ⟨i, hi, HM, rfl, rfl, HN⟩ := hrel
    have h0i : (0 : Int) ≤ (i : Int) := by omega
    by_cases hlt : i < l.length
    · have hii : (i : Int) < (l.length : Int) := by omega
      obtain ⟨g, rfl, hc⟩ := HC.out (by omega)
      have cm : wr.cell? ⟨g, i, none⟩ = some (.int .i64 (l[i] : Nat)) := hc i _ (by simp [intsV, hlt])
      obtain ⟨li, hli⟩ : ∃ li, li = l[i] := ⟨_, rfl⟩
      rw [← hli] at cm
      have HL := Lib.hid hli
      clear hc hli
      by_cases hq : li = n
      · have q1 : decide ((li : Int) = (n : Int)) = true := by simp [hq]
        have hm : decide (n ∈ l) = true := by
          rw [decide_eq_true_eq, ← hq, HL.out]; exact List.getElem_mem hlt
        have HMM := Lib.hid hm
        clear hm
        subst hq
        go_wp2_with fail
        go_ret
        exact ⟨show Ending.returned (Value.bool true) = _ by rw [HMM.out], rfl⟩
      · have q1 : ¬ ((li : Int) = (n : Int)) := by omega
        have HQ := Lib.hid hq
        clear hq
        go_wp2_with fail
        go_roundg (l.length - (i + 1))
        case measure => have := HM.out; omega
        case rel => exact ⟨i + 1, by omega, Lib.hid rfl, by go_num, rfl, Lib.hid (by rw [List.take_succ_eq_append_getElem hlt, List.mem_append, List.mem_singleton, ← HL.out]; rintro (e | e); exact HN.out e; exact HQ.out e.symm)⟩
    · have hie : i = l.length := by omega
      subst hie
      have hn := HN.out
      rw [List.take_length] at hn
      have hm : decide (n ∈ l) = false := by simpa using hn
      have HMM := Lib.hid hm
      clear hn hm HN
      go_wp2_with fail
      go_ret
      exact ⟨show Ending.returned (Value.bool false) = _ by rw [HMM.out], rfl⟩
theorem varsQ_fold {t : Ty} (h : ¬ ∃ v, t = .var v) (l : List Nat) : varsQ t l = t.rl.foldl (fun l a => varsQ a l) l := by
  cases t with
  | var v => exact absurd ⟨v, rfl⟩ h
  | _ => rfl
theorem vars_take {ts : List Ty} {l : List Nat} {i : Nat} (h : i < ts.length) : (ts.take (i + 1)).foldl (fun l a => varsQ a l) l = varsQ ts[i] ((ts.take i).foldl (fun l a => varsQ a l) l) := by
  rw [List.take_succ_eq_append_getElem h, List.foldl_append]; rfl
theorem vars_len2 : ∀ (ts : List Ty) (l : List Nat), (ts.foldl (fun l a => varsQ a l) l).length ≤ l.length + sumL (ts.map Ty.size)
  | [], l => by simp [sumL]
  | t :: r, l => by
    have h1 := varsQ_len t l
    have h2 := vars_len2 r (varsQ t l)
    have h3 : sumL ((t :: r).map Ty.size) = t.size + sumL (r.map Ty.size) := by
      simp only [List.map_cons, sumL, List.foldl_cons]
      rw [foldl_sum]; omega
    simp only [List.foldl_cons]
    omega
def above (base : Nat) : Nat → Prop := fun b => base ≤ b
theorem above_holds {G : GH} {base : Nat} {w w' : World} (hG : ∀ b o, G b = some o → b < base) (h : Holds G w) (k : Keep (above base) w w') : Holds G w' :=
  h.keep k (fun b o hb (e : base ≤ b) => by have := hG b o hb; omega)
set_option maxRecDepth 100000 in
set_option maxHeartbeats 4000000 in
theorem tr_vars {G : GH} {b base : Nat} {t : Ty} (hG : ∀ b o, G b = some o → b < base) (h : RTy G b t) : ∀ (l : List Nat), l.length + t.size ≤ 1000000 → ∀ (w : World) (lv : Value), Holds G w → base ≤ w.heap.size → w.ownsRow base 3 1 lv l.length (intsV l) →
    Calls Tryd.prog 30 #[.pointer (some ⟨b, 0, none⟩), lv] w fun e w' => ∃ v, e = .returned v ∧ w'.ownsRow base 3 1 v (varsQ t l).length (intsV (varsQ t l)) ∧ Keep (above base) w w' := by
  obtain ⟨is, his, zs0, zs1, zs2⟩ := info_parts info_int
  induction h with
  | @mk b t lvv ks h1 h2 h3 h4 ih =>
    intro l hl w lv hw hb ho
    by_cases hv : ∃ v, t = .var v
    · obtain ⟨v, rfl⟩ := hv
      have c0 : w.cell? ⟨b, 0, none⟩ = some (.string (bs [])) := cell_of_heap (hw _ _ h1) rfl
      have c1 : w.cell? ⟨b, 1, none⟩ = some (.int .i64 ((v - 1 : Nat) : Int)) := cell_of_heap (hw _ _ h1) rfl
      have q2 : ((bs []).toList == []) = true := (str_c _ _).trans (by decide)
      obtain ⟨vv, hvv⟩ : ∃ vv, vv = v - 1 := ⟨_, rfl⟩
      rw [← hvv] at c1
      have hin := tr_in (n := vv) ho (by omega)
      simp only [varsQ]
      rw [← hvv]
      have HIN := Lib.hid hin; have HO := Lib.hid ho
      obtain ⟨ao, cp, rfl, hcl⟩ := own_shape ho
      clear hin h1 h2 h3 h4 ih hw ho hcl hvv
      by_cases hm : vv ∈ l
      · rw [if_pos hm]
        rw [decide_eq_true hm] at HIN
        go_enter Tryd.func30, Tryd.ntmps30
        go_wp2_with fail
        refine HIN.out.mono ?_
        rintro e w1 ⟨rfl, rfl⟩
        go_wp2_with fail
        go_ret
        exact ⟨_, rfl, HO.out, Keep.refl _ _⟩
      · rw [if_neg hm]
        rw [decide_eq_false hm] at HIN
        go_enter Tryd.func30, Tryd.ntmps30
        go_wp2_with fail
        refine HIN.out.mono ?_
        rintro e w1 ⟨rfl, rfl⟩
        have own5 := HO.out
        go_wp2_with (first | (at_builtin; refine wpList_append_own_at _ rfl _ _ 22 rfl base 3 is (.int .i64 0) 1 8 und_ints his zs0 zs1 zs2 rfl (by decide) (.slice ao l.length cp) l.length _ rfl (own5.alloc _) ⟨w1.heap.size, 0, none⟩ 1 1 [.int .i64 vv] rfl rfl (cell_one_new _ _ _) (fun x hx => by simp at hx; subst hx; rfl) (by unfold maxLen; omega) (by omega) (by simp; omega) ?_; intro v4 w4 own4 g4 _ at4))
        go_ret
        refine ⟨v4, rfl, by simpa [intsV] using own4, ?_⟩
        exact ((Keep.alloc _ w1 _).trans (Keep.grown g4 (fun k e _ => e))).mono fun c _ hc => (HO.out.lt c hc).1
    · have hcon : t.rk ≠ [] := by
        cases t with
        | var v => exact absurd ⟨v, rfl⟩ hv
        | _ => simp [Ty.rk, INT, BOOL, rLIST, rPAIR, FUN]
      have hfold := varsQ_fold hv l
      have hkn : ks.length ≤ 2 := by have := rl_len t; omega
      have hpos : 0 < t.size := by cases t <;> simp [Ty.size]
      obtain ⟨ao, cap, rfl, hc⟩ := slr_shp h2
      have c0 : w.cell? ⟨b, 0, none⟩ = some (.string (bs t.rk)) := cell_of_heap (hw _ _ h1) rfl
      have c2 : w.cell? ⟨b, 2, none⟩ = some (.slice ao ks.length cap) := by have := cell_of_heap (i := 2) (hw _ _ h1) rfl; simpa using this
      have q2 : ((bs t.rk).toList == []) = false := by rw [str_c, decide_eq_false hcon]
      obtain ⟨kk, hkk⟩ : ∃ kk, kk = t.rk := ⟨_, rfl⟩
      rw [← hkk] at c0 q2
      have HW := Lib.hid hw; have HC := Lib.hid hc; have H3 := Lib.hid h3; have IH := Lib.hid ih; have HF := Lib.hid hfold; have HO := Lib.hid ho; have HL := Lib.hid hl; have HG := Lib.hid hG
      obtain ⟨aol, cpl, rfl, hcl⟩ := own_shape ho
      clear hw hc h1 h2 h3 h4 ih hfold ho hl hv hcon hkk hcl hG
      go_enter Tryd.func30, Tryd.ntmps30
      go_wp2_with fail
      go_loopg [1, 31] ks.length (fun gn s1 s31 wr => ∃ i : Nat, i ≤ ks.length ∧ Hid (gn = ks.length - i) ∧ s31 = .int .i64 i ∧ Hid (wr.ownsRow base 3 1 s1 ((t.rl.take i).foldl (fun l a => varsQ a l) l).length (intsV ((t.rl.take i).foldl (fun l a => varsQ a l) l))) ∧ Hid (Keep (above base) w wr))
      case atStart => exact ⟨0, by omega, Lib.hid rfl, rfl, Lib.hid HO.out, Lib.hid (Keep.refl _ _)⟩
      case round =>
        obtain ⟨i, hi, HM, rfl, HR, HK⟩ := hrel
        have h0i : (0 : Int) ≤ (i : Int) := by omega
        by_cases hlt : i < ks.length
        · have hii : (i : Int) < (ks.length : Int) := by omega
          have hlk : i < t.rl.length := by rw [← H3.out]; exact hlt
          have hwr := above_holds HG.out HW.out HK.out
          obtain ⟨lb, rfl, hcl⟩ := HC.out i (by simpa using hlt)
          have cm : wr.cell? ⟨lb, i, none⟩ = some (.pointer (some ⟨ks[i], 0, none⟩)) := by rw [hcl wr hwr]; simp [ptr]
          have hz : ((t.rl.take i).foldl (fun l a => varsQ a l) l).length + t.rl[i].size ≤ 1000000 := by
            have h1 := vars_len2 (t.rl.take i) l
            have h2 := sumL_take (l := t.rl.map Ty.size) (i := i) (by simpa using hlk)
            have h3 := sumL_take_le (t.rl.map Ty.size) (i + 1)
            have h4 := rsize_kids t
            have h5 := HL.out
            simp only [List.getElem_map, List.map_take] at h2 h1
            omega
          obtain ⟨T1, b1, e1⟩ := own_shape HR.out
          have hcall := IH.out i hlt hlk _ hz wr _ hwr (by have := HK.out.size; omega) HR.out
          obtain ⟨ki, hki⟩ : ∃ ki, ki = ks[i] := ⟨_, rfl⟩
          rw [← hki] at cm hcall
          obtain ⟨rfl, _⟩ := e1
          have HCALL := Lib.hid hcall
          clear hcall hki hcl hz hwr
          go_wp2_with fail
          refine HCALL.out.mono ?_
          rintro e w2 ⟨v2, rfl, own2, k2⟩
          obtain ⟨T2, b2, rfl, _⟩ := own_shape own2
          have HR2 := Lib.hid own2; have HK2 := Lib.hid (HK.out.trans k2)
          clear own2 k2
          go_wp2_with fail
          go_roundg (ks.length - (i + 1))
          case measure => have := HM.out; omega
          case rel => exact ⟨i + 1, by omega, Lib.hid rfl, by go_num, Lib.hid (by rw [vars_take hlk]; exact HR2.out), HK2⟩
        · have hie : i = ks.length := by omega
          subst hie
          have hl2 : t.rl.take ks.length = t.rl := by rw [H3.out, List.take_length]
          have hr := HR.out
          rw [hl2, ← HF.out] at hr
          obtain ⟨T2, b2, rfl, _⟩ := own_shape HR.out
          have HR2 := Lib.hid hr
          clear hr HR
          go_wp2_with fail
          go_ret
          exact ⟨_, rfl, HR2.out, HK.out⟩
end Go.Proofs.YtabikmkoajdhmaaDoor

set_option linter.unusedVariables false
set_option linter.unusedSimpArgs false
set_option linter.unnecessarySimpa false
namespace Go.Proofs.YtabikmkoajdhmaaDoor
open Go.RowKit

def ShQ (k : Nat) (nv : Value) (s : Str) (w : World) : Prop := Calls Tryd.prog 17 #[.pointer (some ⟨k, 0, none⟩), nv] w fun e w' => e = .returned (.string (bs s)) ∧ ∃ m, w' = w.drewN m
theorem ShQ.quiet {k : Nat} {nv : Value} {s : Str} {w : World} {n : Nat} (h : ShQ k nv s (w.drewN n)) : Calls Tryd.prog 17 #[.pointer (some ⟨k, 0, none⟩), nv] (w.drewN n) fun e w'' => e = .returned (.string (bs s)) ∧ ∃ m, w'' = w.drewN m :=
  h.mono fun _ _ ⟨he, m, hm⟩ => ⟨he, n + m, by rw [hm, World.drewN_drewN]⟩
set_option maxRecDepth 100000 in
set_option maxHeartbeats 4000000 in
theorem shown_var {G : GH} {b v : Nat} {nv lv : Value} {l : List Str} {x : Str} (h1 : G b = some (tO [] v lv)) (hn : SlR G nv (l.map fun n => .string (bs n))) (hv : v < l.length) (hx : l[v] = x) (hlen : l.length ≤ 1000000) (w : World) (hw : Holds G w) : ShQ b nv x w := by
  obtain ⟨N, hN⟩ : ∃ N, N = l.length - 1 := ⟨_, rfl⟩
  obtain ⟨nb, cap, rfl, hc⟩ := slr_at (n := N) hn (by rw [List.length_map]; omega)
  have c0 : w.cell? ⟨b, 0, none⟩ = some (.string (bs [])) := cell_of_heap (hw _ _ h1) rfl
  have c1 : w.cell? ⟨b, 1, none⟩ = some (.int .i64 v) := cell_of_heap (hw _ _ h1) rfl
  have n0 : w.cell? ⟨nb, v, none⟩ = some (.string (bs x)) := by rw [hc v (by simpa using hv) w hw, ← hx]; simp
  have q2 : ((bs []).toList == []) = true := (str_c _ _).trans (by decide)
  have h0 : (0 : Int) ≤ (v : Int) := by omega
  have h0i : (v : Int) < ((N + 1 : Nat) : Int) := by omega
  have hN2 : N + 1 ≤ 1000000 := by omega
  unfold ShQ
  clear h1 hn hc hw hx hv hN hlen
  go_enter Tryd.func17, Tryd.ntmps17
  go_wp2_with fail
  go_ret
  exact ⟨rfl, 0, rfl⟩
set_option maxRecDepth 100000 in
set_option maxHeartbeats 4000000 in
theorem shown_leaf {G : GH} {b v : Nat} {nv lv : Value} {k : Str} (h1 : G b = some (tO k v lv)) (hk : k = INT ∨ k = BOOL) (w : World) (hw : Holds G w) : ShQ b nv k w := by
  have c0 : w.cell? ⟨b, 0, none⟩ = some (.string (bs k)) := cell_of_heap (hw _ _ h1) rfl
  have q2 : ((bs k).toList == []) = false := (str_c _ _).trans (by rcases hk with rfl | rfl <;> decide)
  have q3 : ((bs k).toList == [108, 105, 115, 116]) = false := (str_c _ _).trans (by rcases hk with rfl | rfl <;> decide)
  have q4 : ((bs k).toList == [112, 97, 105, 114]) = false := (str_c _ _).trans (by rcases hk with rfl | rfl <;> decide)
  have q5 : ((bs k).toList == [102, 117, 110]) = false := (str_c _ _).trans (by rcases hk with rfl | rfl <;> decide)
  unfold ShQ
  clear h1 hk hw
  go_enter Tryd.func17, Tryd.ntmps17
  go_wp2_with fail
  go_ret
  exact ⟨rfl, 0, rfl⟩
set_option maxRecDepth 100000 in
set_option maxHeartbeats 4000000 in
theorem shown_list {G : GH} {b v k0 : Nat} {nv lv : Value} {x : Str} (h1 : G b = some (tO rLIST v lv)) (h3 : SlR G lv [ptr k0]) (hx : ∀ w, Holds G w → ShQ k0 nv x w) (hs : x.length ≤ 1000000000000) (w : World) (hw : Holds G w) : ShQ b nv (LB ++ x ++ RB) w := by
  obtain ⟨lb, cap2, rfl, hc2⟩ := slr_at h3 rfl
  have c0 : w.cell? ⟨b, 0, none⟩ = some (.string (bs rLIST)) := cell_of_heap (hw _ _ h1) rfl
  have c2 : w.cell? ⟨b, 2, none⟩ = some (.slice (some ⟨lb, 0, none⟩) (0 + 1) cap2) := cell_of_heap (hw _ _ h1) rfl
  have l0 : w.cell? ⟨lb, 0, none⟩ = some (.pointer (some ⟨k0, 0, none⟩)) := hc2 0 (by simp) w hw
  have q2 : ((bs rLIST).toList == []) = false := (str_c _ _).trans (by decide)
  have q3 : ((bs rLIST).toList == [108, 105, 115, 116]) = true := (str_c _ _).trans (by decide)
  have z1 : (bs x).size = x.length := bs_size _
  have s1 : ¬ 9223372036854775807 < 1 + (bs x).size := by omega
  have s2 : ¬ 9223372036854775807 < 1 + (bs x).size + 1 := by omega
  have hx0 := hx w hw
  have HX0 := Lib.hid hx0
  unfold ShQ
  clear h1 h3 hx hc2 hw hx0 z1 hs
  go_enter Tryd.func17, Tryd.ntmps17
  go_wp2_with fail
  refine HX0.out.mono ?_
  rintro e w1 ⟨rfl, m, rfl⟩
  go_wp2_with fail
  go_ret
  refine ⟨congrArg (fun s => Ending.returned (Value.string s)) ?_, _, rfl⟩
  show bs [91] ++ bs x ++ bs [93] = _
  rw [bs_append, bs_append]; rfl
set_option maxRecDepth 100000 in
set_option maxHeartbeats 4000000 in
theorem shown_pair {G : GH} {b v k0 k1 : Nat} {nv lv : Value} {x y : Str} (h1 : G b = some (tO rPAIR v lv)) (h3 : SlR G lv [ptr k0, ptr k1]) (hx : ∀ w, Holds G w → ShQ k0 nv x w) (hy : ∀ w, Holds G w → ShQ k1 nv y w) (hs : x.length + y.length ≤ 1000000000000) (w : World) (hw : Holds G w) : ShQ b nv (LP ++ x ++ [44, 32] ++ y ++ RP) w := by
  obtain ⟨lb, cap2, rfl, hc2⟩ := slr_at h3 rfl
  have c0 : w.cell? ⟨b, 0, none⟩ = some (.string (bs rPAIR)) := cell_of_heap (hw _ _ h1) rfl
  have c2 : w.cell? ⟨b, 2, none⟩ = some (.slice (some ⟨lb, 0, none⟩) (1 + 1) cap2) := cell_of_heap (hw _ _ h1) rfl
  have l0 : w.cell? ⟨lb, 0, none⟩ = some (.pointer (some ⟨k0, 0, none⟩)) := hc2 0 (by simp) w hw
  have l1 : w.cell? ⟨lb, 1, none⟩ = some (.pointer (some ⟨k1, 0, none⟩)) := hc2 1 (by simp) w hw
  have q2 : ((bs rPAIR).toList == []) = false := (str_c _ _).trans (by decide)
  have q3 : ((bs rPAIR).toList == [108, 105, 115, 116]) = false := (str_c _ _).trans (by decide)
  have q4 : ((bs rPAIR).toList == [112, 97, 105, 114]) = true := (str_c _ _).trans (by decide)
  have z1 : (bs x).size = x.length := bs_size _
  have z2 : (bs y).size = y.length := bs_size _
  have s1 : ¬ 9223372036854775807 < 1 + (bs x).size := by omega
  have s2 : ¬ 9223372036854775807 < 1 + (bs x).size + 2 := by omega
  have s3 : ¬ 9223372036854775807 < 1 + (bs x).size + 2 + (bs y).size := by omega
  have s4 : ¬ 9223372036854775807 < 1 + (bs x).size + 2 + (bs y).size + 1 := by omega
  have hk0 : ∀ n, ShQ k0 nv x (w.drewN n) := fun n => hx _ (hw.keep0 (Keep.drewN _ _ _))
  have hk1 : ∀ n, ShQ k1 nv y (w.drewN n) := fun n => hy _ (hw.keep0 (Keep.drewN _ _ _))
  have HK0 := Lib.hid hk0; have HK1 := Lib.hid hk1
  unfold ShQ
  clear h1 h3 hx hy hc2 hw hk0 hk1 z1 z2 hs
  go_enter Tryd.func17, Tryd.ntmps17
  go_wp2_with fail
  go_quiet (first | with_reducible exact (HK0.out _).quiet | with_reducible exact (HK1.out _).quiet)
  go_wp2_with fail
  go_ret
  refine ⟨congrArg (fun s => Ending.returned (Value.string s)) ?_, _, rfl⟩
  show bs [40] ++ bs x ++ bs [44, 32] ++ bs y ++ bs [41] = _
  rw [bs_append, bs_append, bs_append, bs_append]; rfl
set_option maxRecDepth 100000 in
set_option maxHeartbeats 4000000 in
theorem shown_fn {G : GH} {b v k0 k1 v0 : Nat} {nv lv lv0 : Value} {x y kk : Str} (h1 : G b = some (tO FUN v lv)) (h3 : SlR G lv [ptr k0, ptr k1]) (h0 : G k0 = some (tO kk v0 lv0)) (hx : ∀ w, Holds G w → ShQ k0 nv x w) (hy : ∀ w, Holds G w → ShQ k1 nv y w) (hs : x.length + y.length ≤ 1000000000000) (w : World) (hw : Holds G w) : ShQ b nv ((if kk = FUN then LP ++ x ++ RP else x) ++ [32, 45, 62, 32] ++ y) w := by
  obtain ⟨lb, cap2, rfl, hc2⟩ := slr_at h3 rfl
  have hcs : ∀ n, (w.drewN n).cell? ⟨b, 0, none⟩ = some (.string (bs FUN)) ∧ (w.drewN n).cell? ⟨b, 2, none⟩ = some (.slice (some ⟨lb, 0, none⟩) (1 + 1) cap2) ∧ (w.drewN n).cell? ⟨lb, 0, none⟩ = some (.pointer (some ⟨k0, 0, none⟩)) ∧ (w.drewN n).cell? ⟨lb, 1, none⟩ = some (.pointer (some ⟨k1, 0, none⟩)) ∧ (w.drewN n).cell? ⟨k0, 0, none⟩ = some (.string (bs kk)) := fun n => by
    have hwn : Holds G (w.drewN n) := hw.keep0 (Keep.drewN _ _ _)
    exact ⟨cell_of_heap (hwn _ _ h1) rfl, cell_of_heap (hwn _ _ h1) rfl, hc2 0 (by simp) _ hwn, hc2 1 (by simp) _ hwn, cell_of_heap (hwn _ _ h0) rfl⟩
  have c0 : w.cell? ⟨b, 0, none⟩ = some (.string (bs FUN)) := (hcs 0).1
  have c2 : w.cell? ⟨b, 2, none⟩ = some (.slice (some ⟨lb, 0, none⟩) (1 + 1) cap2) := (hcs 0).2.1
  have l0 : w.cell? ⟨lb, 0, none⟩ = some (.pointer (some ⟨k0, 0, none⟩)) := (hcs 0).2.2.1
  have q2 : ((bs FUN).toList == []) = false := (str_c _ _).trans (by decide)
  have q3 : ((bs FUN).toList == [108, 105, 115, 116]) = false := (str_c _ _).trans (by decide)
  have q4 : ((bs FUN).toList == [112, 97, 105, 114]) = false := (str_c _ _).trans (by decide)
  have q5 : ((bs FUN).toList == [102, 117, 110]) = true := (str_c _ _).trans (by decide)
  have q6 : ((bs kk).toList == [102, 117, 110]) = decide (kk = FUN) := str_c _ _
  have z1 : (bs x).size = x.length := bs_size _
  have z2 : (bs y).size = y.length := bs_size _
  have s1 : ¬ 9223372036854775807 < 1 + (bs x).size := by omega
  have s2 : ¬ 9223372036854775807 < 1 + (bs x).size + 1 := by omega
  have hx0 := hx w hw
  have hy0 : ∀ n, ShQ k1 nv y (w.drewN n) := fun n => hy _ (hw.keep0 (Keep.drewN _ _ _))
  obtain ⟨xx, hxx⟩ : ∃ xx, xx = (if kk = FUN then LP ++ x ++ RP else x) := ⟨_, rfl⟩
  have s3 : ¬ 9223372036854775807 < 1 + (bs x).size + 1 + 4 := by omega
  have s4 : ¬ 9223372036854775807 < 1 + (bs x).size + 1 + 4 + (bs y).size := by omega
  have s5 : ¬ 9223372036854775807 < (bs x).size + 4 := by omega
  have s6 : ¬ 9223372036854775807 < (bs x).size + 4 + (bs y).size := by omega
  rw [← hxx]
  have HX0 := Lib.hid hx0; have HY := Lib.hid hy0; have HC := Lib.hid hcs; have HXX := Lib.hid hxx
  unfold ShQ
  clear h1 h3 h0 hx hy hc2 hw hx0 hy0 z1 z2 hs hcs hxx
  by_cases hq : kk = FUN
  all_goals
    first | rw [decide_eq_true hq] at q6 | rw [decide_eq_false hq] at q6
    have he := HXX.out
    first | rw [if_pos hq] at he | rw [if_neg hq] at he
    have HE := Lib.hid he
    clear hq he
    go_enter Tryd.func17, Tryd.ntmps17
    go_wp2_with fail
    refine HX0.out.mono ?_
    rintro e w1 ⟨rfl, m, rfl⟩
    obtain ⟨d0, d2, m0, m1, kk0⟩ := HC.out m
    go_wp2_with fail
    refine (HY.out m).mono ?_
    rintro e w2 ⟨rfl, m2, rfl⟩
    go_wp2_with fail
    go_ret
    refine ⟨congrArg (fun s => Ending.returned (Value.string s)) ?_, _, rfl⟩
    rw [HE.out]
    first
      | (show bs [40] ++ bs x ++ bs [41] ++ bs [32, 45, 62, 32] ++ bs y = _
         rw [bs_append, bs_append, bs_append, bs_append]; rfl)
      | (show bs x ++ bs [32, 45, 62, 32] ++ bs y = _
         rw [bs_append, bs_append])
/-- The names of a type's variables lie in a list. -/
def NmsOk (l : List Str) (t : Ty) : Prop := ∀ v, t.has v = true → v - 1 < l.length
def nmG (l : List Str) (v : Nat) : Str := l.getD (v - 1) []
theorem shownT_list (f : Nat → Str) (a : Ty) : shownT f (.list a) = LB ++ shownT f a ++ RB := rfl
theorem shownT_pair (f : Nat → Str) (a b : Ty) : shownT f (.pair a b) = LP ++ shownT f a ++ [44, 32] ++ shownT f b ++ RP := rfl
theorem shownT_fn (f : Nat → Str) (a b : Ty) : shownT f (.fn a b) = (if a.rk = FUN then LP ++ shownT f a ++ RP else shownT f a) ++ [32, 45, 62, 32] ++ shownT f b := by
  cases a <;> simp [Ty.rk, FUN, INT, BOOL, rLIST, rPAIR, shownT, showS]
theorem len_two {α : Type} : ∀ {l : List α}, l.length = 2 → ∃ a b, l = [a, b]
  | [a, b], _ => ⟨a, b, rfl⟩
theorem shownT_len (l : List Str) (B : Nat) (hB : ∀ x ∈ l, x.length ≤ B) : ∀ t : Ty, (shownT (nmG l) t).length ≤ (B + 10) * t.size
  | .var v => by
    have : (nmG l v).length ≤ B := by
      unfold nmG
      rw [List.getD_eq_getElem?_getD]
      cases h : l[v - 1]? with
      | none => simp
      | some x => exact hB x (List.mem_of_getElem? h)
    simp only [shownT, showS, Ty.size]; omega
  | .int => by simp [shownT, showS, Ty.size, INT]
  | .bool => by simp [shownT, showS, Ty.size, BOOL]
  | .list a => by
    have := shownT_len l B hB a
    rw [shownT_list]
    simp only [Ty.size, List.length_append, LB, RB, List.length_cons, List.length_nil, Nat.mul_add] at *
    omega
  | .pair a b => by
    have := shownT_len l B hB a
    have := shownT_len l B hB b
    rw [shownT_pair]
    simp only [Ty.size, List.length_append, LP, RP, List.length_cons, List.length_nil, Nat.mul_add] at *
    omega
  | .fn a b => by
    have h1 := shownT_len l B hB a
    have h2 := shownT_len l B hB b
    rw [shownT_fn]
    have h3 : (if a.rk = FUN then LP ++ shownT (nmG l) a ++ RP else shownT (nmG l) a).length ≤ (shownT (nmG l) a).length + 2 := by
      split
      · simp [LP, RP]
      · omega
    simp only [Ty.size, List.length_append, List.length_cons, List.length_nil, Nat.mul_add] at *
    omega
theorem tr_shown {G : GH} {b : Nat} {t : Ty} {nv : Value} {l : List Str} (h : RTy G b t) (hn : SlR G nv (l.map fun n => .string (bs n))) (hlen : l.length ≤ 1000000) (hB : ∀ x ∈ l, x.length ≤ 1000) : NmsOk l t → t.size ≤ 1000000 → ∀ w : World, Holds G w → ShQ b nv (shownT (nmG l) t) w := by
  induction h with
  | @mk b t lv ks h1 h2 h3 h4 ih =>
    intro hv hz w hw
    have hzl := shownT_len l 1000 hB
    cases t with
    | var v =>
      have hvl := hv v (by simp [Ty.has])
      exact shown_var (v := v - 1) h1 hn hvl (by simp [shownT, showS, nmG, List.getD_eq_getElem?_getD, hvl]) hlen w hw
    | int => exact shown_leaf h1 (.inl rfl) w hw
    | bool => exact shown_leaf h1 (.inr rfl) w hw
    | list a =>
      obtain ⟨k0, rfl⟩ : ∃ k0, ks = [k0] := List.length_eq_one_iff.1 h3
      have hza := hzl a
      simp only [Ty.size] at hz
      have := ih 0 (by simp) (by simp [Ty.rl]) (fun u hu => hv u hu) (by simp only [Ty.rl, List.getElem_cons_zero]; omega)
      rw [shownT_list]
      exact shown_list (x := shownT (nmG l) a) h1 h2 (fun W hW => this W hW) (by omega) w hw
    | pair a c =>
      obtain ⟨k0, k1, rfl⟩ : ∃ k0 k1, ks = [k0, k1] := len_two h3
      have hza := hzl a; have hzc := hzl c
      simp only [Ty.size] at hz
      have i0 := ih 0 (by simp) (by simp [Ty.rl]) (fun u hu => hv u (by simp only [Ty.rl, List.getElem_cons_zero] at hu; simp [Ty.has, hu])) (by simp only [Ty.rl, List.getElem_cons_zero]; omega)
      have i1 := ih 1 (by simp) (by simp [Ty.rl]) (fun u hu => hv u (by simp only [Ty.rl, List.getElem_cons_succ, List.getElem_cons_zero] at hu; simp [Ty.has, hu])) (by simp only [Ty.rl, List.getElem_cons_succ, List.getElem_cons_zero]; omega)
      rw [shownT_pair]
      exact shown_pair (x := shownT (nmG l) a) (y := shownT (nmG l) c) h1 h2 (fun W hW => i0 W hW) (fun W hW => i1 W hW) (by omega) w hw
    | fn a c =>
      obtain ⟨k0, k1, rfl⟩ : ∃ k0 k1, ks = [k0, k1] := len_two h3
      have hza := hzl a; have hzc := hzl c
      simp only [Ty.size] at hz
      have i0 := ih 0 (by simp) (by simp [Ty.rl]) (fun u hu => hv u (by simp only [Ty.rl, List.getElem_cons_zero] at hu; simp [Ty.has, hu])) (by simp only [Ty.rl, List.getElem_cons_zero]; omega)
      have i1 := ih 1 (by simp) (by simp [Ty.rl]) (fun u hu => hv u (by simp only [Ty.rl, List.getElem_cons_succ, List.getElem_cons_zero] at hu; simp [Ty.has, hu])) (by simp only [Ty.rl, List.getElem_cons_succ, List.getElem_cons_zero]; omega)
      have h40 := h4 0 (by simp) (by simp [Ty.rl])
      simp only [List.getElem_cons_zero, Ty.rl] at h40
      have key : ∃ v0 lv0, G k0 = some (tO a.rk v0 lv0) := by
        cases h40 with
        | mk g1 _ _ _ => exact ⟨_, _, g1⟩
      obtain ⟨v0, lv0, g0⟩ := key
      have := shown_fn (x := shownT (nmG l) a) (y := shownT (nmG l) c) h1 h2 g0 (fun W hW => i0 W hW) (fun W hW => i1 W hW) (by omega) w hw
      rw [shownT_fn]; exact this
end Go.Proofs.YtabikmkoajdhmaaDoor

set_option linter.unusedVariables false
set_option linter.unusedSimpArgs false
set_option linter.unnecessarySimpa false
namespace Go.Proofs.YtabikmkoajdhmaaDoor
open Go.RowKit

theorem fig_conv (n : Nat) (h : n < 10) (w : World) : (convert 123 9 (.slice (some ⟨w.heap.size, 0, none⟩) 1 1)).run Tryd.prog (w.alloc (.cells #[.int .u8 (48 + (n : Int))] 5)) = .ok (.string ⟨#[UInt8.ofNat (48 + n)]⟩) (w.alloc (.cells #[.int .u8 (48 + (n : Int))] 5)) := by
  refine run_convert_bytes_back _ _ _ 5 ⟨w.heap.size, 0, none⟩ 1 [UInt8.ofNat (48 + n)] und_bytes und_u8 und_str ?_
  intro j hj
  have : j = 0 := by simpa using hj
  subst this
  have e : ((UInt8.ofNat (48 + n)).toNat : Int) = 48 + (n : Int) := by
    rw [UInt8.toNat_ofNat']
    omega
  have : (⟨w.heap.size, 0, none⟩ : Addr).add 0 = ⟨w.heap.size, 0, none⟩ := by simp [Addr.add]
  rw [this]
  simp only [List.getElem_cons_zero, e]
  exact cell_of_heap (heap_new _ _) rfl
set_option maxRecDepth 100000 in
set_option maxHeartbeats 1000000 in
theorem tr_figures (n : Nat) (h : n < 10) (w : World) : Calls Tryd.prog 56 #[.int .i64 n] w (fun e w' => e = .returned (.string (bs (digits n))) ∧ Keep none' w w') := by
  have h0 : (0 : Int) ≤ (n : Int) := by omega
  have h1 : (n : Int) < 10 := by omega
  have hcv := fig_conv n h w
  go_enter Tryd.func56, Tryd.ntmps56
  go_wp2_with fail
  go_ret
  refine ⟨?_, Keep.alloc _ _ _⟩
  simp [digits, h, bs]
set_option maxRecDepth 100000 in
set_option maxHeartbeats 1000000 in
theorem tr_letter (n : Nat) (h : n < 260) (w : World) : Calls Tryd.prog 31 #[.int .i64 n] w (fun e w' => e = .returned (.string (bs (letters n))) ∧ Keep none' w w') := by
  have h0 : (0 : Int) ≤ (n : Int) := by omega
  have hcv := letter_conv n w
  have hit := tr_figures (n / 26) (by omega)
  have HIT := Lib.hid hit; clear hit
  by_cases hn : n < 26
  · have hn' : ¬ (25 : Int) < (n : Int) := by omega
    go_enter Tryd.func31, Tryd.ntmps31
    go_wp2_with fail
    go_ret
    refine ⟨?_, Keep.alloc _ _ _⟩
    simp [letters, hn, bs]
  · have hn' : (25 : Int) < (n : Int) := by omega
    go_enter Tryd.func31, Tryd.ntmps31
    go_wp2_with fail
    rw [show ((n : Int) / 26) = ((n / 26 : Nat) : Int) by omega]
    refine (HIT.out _).mono ?_
    rintro e w1 ⟨rfl, k1⟩
    obtain ⟨dd, hdd⟩ : ∃ dd, dd = digits (n / 26) := ⟨_, rfl⟩
    have hl : dd.length ≤ 2 := by rw [hdd]; unfold digits; split <;> simp
    rw [← hdd]
    have HD := Lib.hid hdd; have HK := Lib.hid k1; clear hdd k1
    have hz : (bs dd).size = dd.length := bs_size _
    have q1 : ¬ 9223372036854775807 < 1 + (bs dd).size := by omega
    clear hz hl
    go_wp2_with fail
    go_ret
    refine ⟨?_, (Keep.alloc _ _ _).trans HK.out⟩
    have hd := HD.out
    subst hd
    have e : letters n = [UInt8.ofNat (97 + n % 26)] ++ digits (n / 26) := by simp [letters, hn]
    rw [e, ← bs_append]
    congr 1
    congr 1
    simp [bs]
end Go.Proofs.YtabikmkoajdhmaaDoor

set_option linter.unusedVariables false
set_option linter.unusedSimpArgs false
set_option linter.unnecessarySimpa false
namespace Go.Proofs.YtabikmkoajdhmaaDoor
open Go.RowKit

/-- A row of strings. -/
def rowS (l : List Str) : Array Value := (l.map fun s => Value.string (bs s)).toArray
theorem make_names (M : Nat) (h : M ≤ 1000) (W : World) : (Instr.makeSlice 39 (.int .i64 (M : Int)) (.int .i64 (M : Int))).run Tryd.prog W = .ok (.slice (some ⟨W.heap.size, 0, none⟩) M M) (W.alloc (.cells (rowS (List.replicate M [])) 9)) := by
  obtain ⟨is, his, zs0, zs1, zs2⟩ := info_parts info_str
  have := run_make (P := Tryd.prog) W 39 9 is (.string ByteArray.empty) und_strs his zs0 .i64 .i64 (M : Int) (M : Int) (by omega) (Int.le_refl _) (by rw [zs2]; omega) (by omega)
  rw [this, zs1]
  have e : madeCells (Value.string ByteArray.empty).cells (((M : Int).toNat) * 1) = rowS (List.replicate M []) := by
    apply Array.ext'
    have h1 : (Value.string ByteArray.empty).cells = #[.string ByteArray.empty] := rfl
    rw [h1, toList_madeCells_one]
    simp [rowS, bs]
    exact .inr rfl
  rw [e, Int.toNat_natCast]
theorem rowS_set (l : List Str) (i : Nat) (x : Str) : (rowS l).setIfInBounds i (.string (bs x)) = rowS (l.set i x) := by
  simp [rowS, List.setIfInBounds_toArray, List.map_set]
theorem namesI_small {L : List Nat} : ∀ {i : Nat} {x : Str}, x ∈ namesI L i → x.length ≤ 1000
  | 0, x, h => by
    have : x = [] := by simpa [namesI] using (List.mem_replicate.1 (by simpa [namesI] using h)).2
    subst this; simp
  | i + 1, x, h => by
    rw [namesI_succ] at h
    rcases List.mem_or_eq_of_mem_set h with h | rfl
    · exact namesI_small h
    · have := letters_len i; omega
set_option maxRecDepth 100000 in
set_option maxHeartbeats 4000000 in
theorem tr_canon {G : GH} {b : Nat} {t : Ty} (h : RTy G b t) (hz : t.size ≤ 120) (hb : ∀ v, t.has v = true → v ≤ 400) (w : World) (hw : Holds G w) : Calls Tryd.prog 14 #[.pointer (some ⟨b, 0, none⟩)] w fun e w' => e = .returned (.string (bs (canonQ t))) ∧ Keep none' w w' := by
  have hG : ∀ b o, G b = some o → b < w.heap.size := fun b o hb => lt_of_heap (hw _ _ hb)
  have hc := tr_vars hG h [] (by simp; omega) w (.slice none 0 0) hw (Nat.le_refl _) (World.ownsRow_nil _ _ _ _)
  have hvl := varsQ_len t []
  have hnd := varsQ_nodup t [] (by simp)
  have hvm : ∀ v ∈ varsQ t [], v < 401 := fun v hv => by
    rcases varsQ_mem t [] hv with h | ⟨u, hu, rfl⟩
    · cases h
    · have := hb u hu; omega
  have hmost : mostQ (varsQ t []) ≤ 401 := mostQ_le hvm
  have hnok : NmsOk (namesI (varsQ t []) (varsQ t []).length) t := fun v hv => by
    rw [namesI_len]; exact lt_mostQ (varsQ_own t [] v hv)
  simp only [List.length_nil, Nat.zero_add] at hvl
  obtain ⟨L, hL⟩ : ∃ L, L = varsQ t [] := ⟨_, rfl⟩
  have hcan : canonQ t = shownT (nmG (namesI L L.length)) t := by rw [hL]; rfl
  rw [← hL] at hc hvl hnd hvm hmost hnok
  rw [hcan]
  have HC := Lib.hid hc; have HW := Lib.hid hw; have HH := Lib.hid h; have HND := Lib.hid hnd; have HVM := Lib.hid hvm; have HNOK := Lib.hid hnok; have HMOST := Lib.hid hmost; have HG := Lib.hid hG
  clear hc hw h hnd hvm hnok hL hcan hmost hG
  go_enter Tryd.func14, Tryd.ntmps14
  go_wp2_with fail
  refine HC.out.mono ?_
  rintro e w1 ⟨lv, rfl, own1, k1⟩
  obtain ⟨ao, cp, rfl, hcl⟩ := own_shape own1
  have HO := Lib.hid own1; have HCL := Lib.hid hcl; have HK1 := Lib.hid k1
  clear own1 hcl k1
  go_wp2_with fail
  go_loopg [4, 14] L.length (fun gn s4 s14 wr => ∃ i : Nat, i ≤ L.length ∧ Hid (gn = L.length - i) ∧ s14 = .int .i64 i ∧ s4 = .int .i64 (mostQ (L.take i) : Nat) ∧ wr = w1)
  case atStart => exact ⟨0, by omega, Lib.hid rfl, rfl, rfl, rfl⟩
  case round =>
    obtain ⟨i, hi, HM, rfl, rfl, hwr⟩ := hrel
    subst wr
    have h0i : (0 : Int) ≤ (i : Int) := by omega
    by_cases hlt : i < L.length
    · have hii : (i : Int) < (L.length : Int) := by omega
      obtain ⟨g, rfl, hc⟩ := HCL.out (by omega)
      have cm : w1.cell? ⟨g, i, none⟩ = some (.int .i64 (L[i] : Nat)) := hc i _ (by simp [intsV, hlt])
      have hv := HVM.out _ (List.getElem_mem hlt)
      have hmt := mostQ_take hlt
      have hml : mostQ (L.take i) ≤ 401 := mostQ_le fun v hv => HVM.out v (List.mem_of_mem_take hv)
      obtain ⟨li, hli⟩ : ∃ li, li = L[i] := ⟨_, rfl⟩
      obtain ⟨mi, hmi⟩ : ∃ mi, mi = mostQ (L.take i) := ⟨_, rfl⟩
      rw [← hli] at cm hv hmt
      rw [← hmi] at hmt hml ⊢
      have HMT := Lib.hid hmt
      clear hc hli hmi hmt
      by_cases hq : mi ≤ li
      · have q1 : (mi : Int) ≤ (li : Int) := by omega
        have HQ : Hid (mxQ mi li = li + 1) := Lib.hid (by unfold mxQ; rw [if_pos hq])
        clear hq
        go_wp2_with fail
        go_roundg (L.length - (i + 1))
        case measure => have := HM.out; omega
        case rel => exact ⟨i + 1, by omega, Lib.hid rfl, by go_num, by rw [HMT.out, HQ.out]; go_num, rfl⟩
      · have q1 : ¬ (mi : Int) ≤ (li : Int) := by omega
        have HQ : Hid (mxQ mi li = mi) := Lib.hid (by unfold mxQ; rw [if_neg hq])
        clear hq
        go_wp2_with fail
        go_roundg (L.length - (i + 1))
        case measure => have := HM.out; omega
        case rel => exact ⟨i + 1, by omega, Lib.hid rfl, by go_num, by rw [HMT.out, HQ.out], rfl⟩
    · have hie : i = L.length := by omega
      subst hie
      rw [List.take_length]
      obtain ⟨M, hM⟩ : ∃ M, M = mostQ L := ⟨_, rfl⟩
      have hMl : M ≤ 401 := by rw [hM]; exact HMOST.out
      rw [← hM]
      have HMM := Lib.hid hM
      have hmk := make_names M (by omega)
      clear hM
      go_wp2_with fail
      have x2 : (w1.alloc (.cells (rowS (List.replicate M [])) 9)).heap[w1.heap.size]? = some (.cells (rowS (List.replicate M [])) 9) := heap_new _ _
      have k2 : Keep none' w1 (w1.alloc (.cells (rowS (List.replicate M [])) 9)) := Keep.alloc _ _ _
      obtain ⟨nb, hnb⟩ : ∃ nb, nb = w1.heap.size := ⟨_, rfl⟩
      obtain ⟨W2, hW2⟩ : ∃ W2, W2 = w1.alloc (.cells (rowS (List.replicate M [])) 9) := ⟨_, rfl⟩
      rw [← hW2] at x2 k2 ⊢
      rw [← hnb] at x2 ⊢
      have HX2 := Lib.hid x2; have HK2 := Lib.hid k2; have HNB := Lib.hid hnb
      clear x2 k2 hW2 hmk hnb
      go_wp2_with fail
      go_loopg [28] L.length (fun gn s28 wr => ∃ i : Nat, i ≤ L.length ∧ Hid (gn = L.length - i) ∧ s28 = .int .i64 i ∧ Hid (wr.heap[nb]? = some (.cells (rowS (namesI L i)) 9)) ∧ Hid (Keep (one' nb) W2 wr))
      case atStart => exact ⟨0, by omega, Lib.hid rfl, rfl, Lib.hid (by rw [HX2.out, HMM.out]; rfl), Lib.hid (Keep.refl _ _)⟩
      case round =>
        obtain ⟨i, hi, HM2, rfl, HX, HKQ⟩ := hrel
        have h0i : (0 : Int) ≤ (i : Int) := by omega
        by_cases hlt : i < L.length
        · have hii : (i : Int) < (L.length : Int) := by omega
          obtain ⟨g, rfl, hc⟩ := HCL.out (by omega)
          have cm0 : w1.cell? ⟨g, i, none⟩ = some (.int .i64 (L[i] : Nat)) := hc i _ (by simp [intsV, hlt])
          have hgn : g < w1.heap.size := lt_of_cell cm0
          have cm : wr.cell? ⟨g, i, none⟩ = some (.int .i64 (L[i] : Nat)) := HKQ.out.cell_some (HK2.out.cell_some cm0 (fun x => x)) (fun (e : g = nb) => by have := HNB.out; omega)
          have hlm : L[i] < M := by rw [HMM.out]; exact lt_mostQ (List.getElem_mem hlt)
          have hsucc := namesI_succ L i
          have hgd : L.getD i 0 = L[i] := by simp [List.getD_eq_getElem?_getD, hlt]
          rw [hgd] at hsucc
          obtain ⟨li, hli⟩ : ∃ li, li = L[i] := ⟨_, rfl⟩
          rw [← hli] at cm hlm hsucc
          have hl0 : (0 : Int) ≤ (li : Int) := by omega
          have hl1 : (li : Int) < (M : Int) := by omega
          have hlet := tr_letter i (by omega) wr
          have HLET := Lib.hid hlet; have HS := Lib.hid hsucc
          clear hlet hsucc hgd hli hc cm0 hgn hlm
          go_wp2_with fail
          refine HLET.out.mono ?_
          rintro e w3 ⟨rfl, k3⟩
          have x3 := k3.get HX.out (fun x => x)
          have cn : ∃ u, w3.cell? ⟨nb, li, none⟩ = some u := by
            have hlen : li < (namesI L i).length := by rw [namesI_len, ← HMM.out]; omega
            exact ⟨_, cell_of_heap (i := li) (v := .string (bs (namesI L i)[li])) x3 (by simp [rowS, hlen])⟩
          obtain ⟨u3, cn⟩ := cn
          have fn : w3.frozen? ⟨nb, li, none⟩ = false := free_of_heap x3
          have HX3 := Lib.hid x3; have HK3 := Lib.hid k3
          clear x3 k3
          go_wp2_with fail
          go_roundg (L.length - (i + 1))
          case measure => have := HM2.out; omega
          case rel =>
            refine ⟨i + 1, by omega, Lib.hid rfl, by go_num, Lib.hid ?_, Lib.hid ((HKQ.out.trans (HK3.out.mono fun _ _ e => e.elim)).trans (Keep.setCell _ _ (fun _ => rfl)))⟩
            rw [HS.out, ← rowS_set]
            exact heap_set_same (i := li) HX3.out
        · have hie : i = L.length := by omega
          subst hie
          have hw1 := above_holds HG.out HW.out HK1.out
          have hgn : G nb = none := by
            cases hg : G nb with
            | none => rfl
            | some o => have := HG.out nb o hg; have := HK1.out.size; have := HNB.out; omega
          have hwq : Holds G wr := (hw1.keep0 HK2.out).keep HKQ.out (fun b o hb (e : b = nb) => by rw [e, hgn] at hb; cases hb)
          have hlen : (namesI L L.length).length = M := by rw [namesI_len]; exact HMM.out.symm
          have hwp : Holds (G.put nb (.cells (rowS (namesI L L.length)) 9)) wr := hwq.put HX.out
          have hsl : SlR (G.put nb (.cells (rowS (namesI L L.length)) 9)) (.slice (some ⟨nb, 0, none⟩) M M) ((namesI L L.length).map fun n => .string (bs n)) :=
            .inr ⟨nb, rowS (namesI L L.length), 9, M, by rw [List.length_map, hlen], GH.put_same _ _ _, fun i hi => by simp only [List.length_map] at hi; simp [rowS, hi]⟩
          have hsh := tr_shown (HH.out.sub (GH.sub_put hgn)) hsl (by rw [hlen]; omega) (fun x hx => namesI_small hx) HNOK.out (by omega) wr hwp
          have HSH := Lib.hid hsh
          have hkk : Keep none' w wr := (HK1.out.trans' HK2.out (fun _ _ x => x) (fun _ _ e => e.elim)).trans' HKQ.out (fun b hb e => by have : w.heap.size ≤ b := e; omega) (fun b hb (e : b = nb) => by have := HK1.out.size; have := HNB.out; omega)
          have HKK := Lib.hid hkk
          clear hw1 hgn hwq hlen hwp hsl hsh hkk
          unfold ShQ at HSH
          go_wp2_with fail
          refine HSH.out.mono ?_
          rintro e w4 ⟨rfl, m, rfl⟩
          go_wp2_with fail
          go_ret
          exact ⟨rfl, HKK.out.trans (Keep.drewN _ _ _)⟩
end Go.Proofs.YtabikmkoajdhmaaDoor
