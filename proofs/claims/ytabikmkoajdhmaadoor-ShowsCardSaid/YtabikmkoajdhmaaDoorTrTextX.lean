/- typerref's Text by a contract, every expression. -/
import Derived.Test.YtabikmkoajdhmaaDoorTrTextP
import Derived.Test.YtabikmkoajdhmaaDoorTrTextI
import Derived.Test.YtabikmkoajdhmaaDoorTrTextA
import Derived.Test.YtabikmkoajdhmaaDoorTrTextL
set_option linter.unusedVariables false
set_option linter.unusedSimpArgs false
set_option linter.unnecessarySimpa false
namespace Go.Proofs.YtabikmkoajdhmaaDoor
open Go.RowKit

def bsL : Bs → List (Str × Str)
  | .nil => []
  | .cons n x r => (n, x.show) :: bsL r
theorem bndS_bs : ∀ bd : Bs, bndS (bsL bd) = bd.show
  | .nil => rfl
  | .cons n x .nil => by simp [bsL, bndS, Bs.show]
  | .cons n x (.cons m y r) => by
    have := bndS_bs (.cons m y r)
    simp only [bsL] at this
    simp only [bsL, bndS, Bs.show] at this ⊢
    rw [this]
theorem bndL_S (pre : Str) : ∀ (l : List (Str × Str)) (k : Nat), bndL pre l k = pre ++ (if 0 < k ∧ l ≠ [] then [32, 97, 110, 100, 32] else []) ++ bndS l
  | [], k => by simp [bndL, bndS]
  | (n, s) :: r, k => by
    rw [bndL, bndL_S _ r (k + 1)]
    cases r with
    | nil => by_cases hk : 0 < k <;> simp [hk, bndS]
    | cons a r => by_cases hk : 0 < k <;> simp [hk, bndS]
theorem bsL_len : ∀ bd : Bs, (bsL bd).length = bd.exprs.length
  | .nil => rfl
  | .cons n x r => by simp [bsL, Bs.exprs, bsL_len r]
theorem bsL_names : ∀ bd : Bs, (bsL bd).map (·.1) = bd.names
  | .nil => rfl
  | .cons n x r => by simp [bsL, Bs.names, bsL_names r]
theorem bsL_at : ∀ (bd : Bs) (i : Nat) (h : i < (bsL bd).length) (h2 : i < bd.exprs.length), (bsL bd)[i].2 = bd.exprs[i].show
  | .cons n x r, 0, _, _ => rfl
  | .cons n x r, i + 1, h, h2 => by
    simp only [bsL, Bs.exprs, List.getElem_cons_succ]
    exact bsL_at r i _ _
theorem bsL_le : ∀ (bd : Bs), ∀ a ∈ bsL bd, a.1.length + a.2.length ≤ bd.show.length
  | .nil, a, h => by cases h
  | .cons n x .nil, a, h => by
    simp only [bsL, List.mem_singleton] at h; subst h; simp [Bs.show]; omega
  | .cons n x (.cons m y r), a, h => by
    have ih := bsL_le (.cons m y r) a
    simp only [bsL, List.mem_cons] at h ih
    simp only [Bs.show, List.length_append] at ih ⊢
    rcases h with rfl | h
    · simp only; omega
    · have := ih h; omega
theorem app_par (f a : Ex) : (Ex.app f a).show = parS (parF f.rop) f.show ++ [32] ++ parS (parA a.rop) a.show := by
  have h1 : (if isApp f = true then f.show else if isFlat f = true then f.show else LP ++ f.show ++ RP) = parS (parF f.rop) f.show := by
    cases f <;> simp [isApp, isFlat, parS, parF, Ex.rop, rNAME, rNUM, FUN, IF, LET, REC, rAPP, rPAIR]
  have h2 : (if isFlat a = true then a.show else LP ++ a.show ++ RP) = parS (parA a.rop) a.show := by
    cases a <;> simp [isFlat, parS, parA, Ex.rop, rNAME, rNUM, FUN, IF, LET, REC, rAPP, rPAIR]
  simp only [Ex.show]
  rw [h1, h2]
theorem XR.node {G : GH} {b : Nat} {x : Ex} (h : XR G b x) : ∃ nv lv at', G b = some (xO x.rop nv lv at') := by
  cases h with
  | mk h1 => exact ⟨_, _, _, h1⟩
theorem len2 {α : Type} : ∀ {l : List α}, l.length = 2 → ∃ a b, l = [a, b]
  | [a, b], _ => ⟨a, b, rfl⟩
theorem len3 {α : Type} : ∀ {l : List α}, l.length = 3 → ∃ a b c, l = [a, b, c]
  | [a, b, c], _ => ⟨a, b, c, rfl⟩
theorem snoc_of {α : Type} : ∀ {l : List α} {n : Nat}, l.length = n + 1 → ∃ a b, l = a ++ [b]
  | [x], _, _ => ⟨[], x, rfl⟩
  | x :: y :: r, n, h => by
    obtain ⟨a, b, e⟩ := snoc_of (l := y :: r) (n := r.length) rfl
    exact ⟨x :: a, b, by rw [e]; rfl⟩
theorem tr_text {G : GH} {b : Nat} {x : Ex} (h : XR G b x) : x.show.length ≤ 900000 → ∀ w : World, Holds G w → TextQ b x.show w := by
  induction h with
  | @mk b x nv lv at' ks h1 h2 h3 h4 h5 ih =>
    intro hs w hw
    have hk : ∀ i (h : i < ks.length) (h2 : i < x.rkids.length), ∀ w, Holds G w → TextQ ks[i] x.rkids[i].show w := fun i h h2 => ih i h h2 (Nat.le_trans (kid_show x _ (List.getElem_mem h2)) hs)
    cases x with
    | name p n => exact text_leaf h1 h2 (.inl rfl) w hw
    | num t => exact text_leaf h1 h2 (.inr rfl) w hw
    | fn n y =>
      obtain ⟨k0, rfl⟩ := List.length_eq_one_iff.1 (show ks.length = 1 from h4)
      simp only [Ex.show, List.length_append] at hs
      exact text_fn (y := y.show) h1 h2 h3 (hk 0 (by simp) (by simp [Ex.rkids])) (by omega) w hw
    | pair y z =>
      obtain ⟨k0, k1, rfl⟩ := len2 (show ks.length = 2 from h4)
      simp only [Ex.show, List.length_append] at hs
      exact text_pair (x := y.show) (y := z.show) h1 h3 (hk 0 (by simp) (by simp [Ex.rkids])) (hk 1 (by simp) (by simp [Ex.rkids])) (by omega) w hw
    | ite y z u =>
      obtain ⟨k0, k1, k2, rfl⟩ := len3 (show ks.length = 3 from h4)
      simp only [Ex.show, List.length_append] at hs
      exact text_ite (x := y.show) (y := z.show) (z := u.show) h1 h3 (hk 0 (by simp) (by simp [Ex.rkids])) (hk 1 (by simp) (by simp [Ex.rkids])) (hk 2 (by simp) (by simp [Ex.rkids])) (by omega) w hw
    | app y z =>
      obtain ⟨k0, k1, rfl⟩ := len2 (show ks.length = 2 from h4)
      obtain ⟨_, _, _, e0⟩ := (h5 0 (by simp) (by simp [Ex.rkids])).node
      obtain ⟨_, _, _, e1⟩ := (h5 1 (by simp) (by simp [Ex.rkids])).node
      have s1 := kid_show (.app y z) y (by simp [Ex.rkids])
      have s2 := kid_show (.app y z) z (by simp [Ex.rkids])
      rw [app_par]
      exact text_app (x := y.show) (y := z.show) h1 h3 e0 e1 (hk 0 (by simp) (by simp [Ex.rkids])) (hk 1 (by simp) (by simp [Ex.rkids])) (by omega) w hw
    | lt n y z =>
      obtain ⟨k0, k1, rfl⟩ := len2 (show ks.length = 2 from h4)
      have s1 := kid_show (.lt n y z) y (by simp [Ex.rkids])
      have s2 := kid_show (.lt n y z) z (by simp [Ex.rkids])
      have hs3 := hs
      simp only [Ex.show, List.length_append] at hs3
      have := text_let (l := [(n, y.show)]) (ks := [k0]) (ke := k1) (e := z.show) h1 (.inl rfl) h2 h3 rfl (by simp) (fun a ha => by simp only [List.mem_singleton] at ha; subst ha; simp only; omega) (by omega) (fun i h h2 => by
        have : i = 0 := by simp at h; omega
        subst this
        exact hk 0 (by simp) (by simp [Ex.rkids])) (hk 1 (by simp) (by simp [Ex.rkids])) w hw
      exact this
    | rc bd e =>
      have hlen : ks.length = bd.exprs.length + 1 := by simpa [Ex.rkids] using h4
      obtain ⟨ks', ke, rfl⟩ : ∃ ks' ke, ks = ks' ++ [ke] := snoc_of hlen
      have hkl : ks'.length = bd.exprs.length := by simpa using hlen
      have hs3 := hs
      simp only [Ex.show, List.length_append] at hs3
      have hbl := bs_len_show bd
      have := text_let (l := bsL bd) (ks := ks') (ke := ke) (e := e.show) h1 (.inr rfl) (by rw [show ((bsL bd).map fun a => Value.string (bs a.1)) = (bd.names.map fun n => Value.string (bs n)) by rw [← bsL_names, List.map_map]; rfl]; exact h2) h3 (by rw [bsL_len]; exact hkl) (by rw [bsL_len]; omega) (fun a ha => by have := bsL_le bd a ha; omega) (by omega) (fun i h h2' => by
        have h6 : i < bd.exprs.length := by omega
        have := hk i (by simp; omega) (by simp [Ex.rkids]; omega)
        rw [List.getElem_append_left h] at this
        rw [bsL_at bd i h2' h6]
        have e9 : (Ex.rc bd e).rkids[i]'(by simp [Ex.rkids]; omega) = bd.exprs[i] := by simp only [Ex.rkids]; rw [List.getElem_append_left h6]
        rw [e9] at this
        exact this) (by
        have := hk ks'.length (by simp) (by simp [Ex.rkids]; omega)
        rw [List.getElem_append_right (Nat.le_refl _)] at this
        simp only [Nat.sub_self, List.getElem_singleton] at this
        have e9 : (Ex.rc bd e).rkids[ks'.length]'(by simp [Ex.rkids]; omega) = e := by simp only [Ex.rkids]; rw [List.getElem_append_right (by omega)]; simp [hkl]
        rw [e9] at this
        exact this) w hw
      rw [bndL_S, bndS_bs] at this
      simp only [Ex.show]
      have e8 : preL REC = LET ++ [32] ++ REC ++ [32] := by decide
      simpa [Ex.rop, e8] using this
end Go.Proofs.YtabikmkoajdhmaaDoor
