/- ast.depth by a contract. -/
import Derived.Test.YtabikmkoajdhmaaDoorQ23
set_option linter.unusedVariables false
set_option linter.unusedSimpArgs false
namespace Go.Proofs.YtabikmkoajdhmaaDoor
open Go.RowKit

theorem below_any (G : GH) (w : World) (v : Value) (x : Ex) (hG : Holds G w) (hx : ExR G v x) : Calls Tryd.prog 87 #[v] w (BelowPost G w x) := by
  cases hx with
  | name h => exact below_name G w _ _ _ hG
  | num h => exact below_num G w _ _ hG
  | fn h a => exact below_fn G w _ _ _ _ _ hG h a
  | app h a b => exact below_app G w _ _ _ _ _ _ hG h a b
  | pair h a b => exact below_pair G w _ _ _ _ _ _ hG h a b
  | lt h a b => exact below_lt G w _ _ _ _ _ _ _ hG h a b
  | ite h a b c => exact below_ite G w _ _ _ _ _ _ _ _ hG h a b c
  | rc h n l b q e => exact below_rc G w _ _ _ _ _ _ _ _ hG h l b q e

def dmax : List Ex → Nat
  | [] => 0
  | x :: r => max x.depth (dmax r)
theorem dmax_snoc (x : Ex) : ∀ l, dmax (l ++ [x]) = max (dmax l) x.depth
  | [] => by simp [dmax]
  | y :: l => by simp only [List.cons_append, dmax, dmax_snoc x l]; omega
theorem dmax_bs : ∀ b : Bs, dmax b.exprs = b.depth
  | .nil => rfl
  | .cons _ x r => by simp only [Bs.exprs, dmax, Bs.depth, dmax_bs r]
theorem depth_kids : ∀ x : Ex, x.depth = dmax x.kids + 1
  | .name _ _ => rfl
  | .num _ => rfl
  | .fn _ b => by simp [Ex.kids, Ex.depth, dmax]
  | .app f a => by simp [Ex.kids, Ex.depth, dmax]
  | .pair a b => by simp [Ex.kids, Ex.depth, dmax]
  | .lt _ a b => by simp [Ex.kids, Ex.depth, dmax]
  | .rc bs e => by simp only [Ex.kids, Ex.depth, dmax_snoc, dmax_bs]
  | .ite c a b => by simp only [Ex.kids, Ex.depth, dmax]; omega
theorem dmax_le (l : List Ex) (x : Ex) (h : x ∈ l) : x.depth ≤ dmax l := by
  induction l with
  | nil => cases h
  | cons y l ih =>
    simp only [dmax]
    rcases List.mem_cons.1 h with rfl | h
    · omega
    · have := ih h; omega
theorem dmax_take (l : List Ex) (j : Nat) (hj : j < l.length) : dmax (l.take (j + 1)) = max (dmax (l.take j)) l[j].depth := by
  rw [List.take_succ_eq_append_getElem hj, dmax_snoc]
theorem dmax_take_le (l : List Ex) (j : Nat) : dmax (l.take j) ≤ dmax l := by
  induction l generalizing j with
  | nil => simp [dmax]
  | cons y l ih =>
    cases j with
    | zero => simp [dmax]
    | succ j => simp only [List.take_succ_cons, dmax]; have := ih j; omega

theorem ExR.kids_len {G : GH} {v : Value} {x : Ex} (h : ExR G v x) : x.kids.length ≤ 1000000001 := by
  cases h with
  | rc h n l b q e =>
    have := b.list.1
    simp only [Ex.kids, List.length_append, List.length_cons, List.length_nil]
    omega
  | _ => simp [Ex.kids]
def DepthOk (n : Nat) : Prop := ∀ (G : GH) (w : World) (v : Value) (x : Ex), Holds G w → ExR G v x → x.depth ≤ n → Calls Tryd.prog 70 #[v] w fun e w' => e = .returned (.int .i64 x.depth) ∧ Keep none' w w'

/-- A slice value that reads as a list: its two forms. -/
theorem SlR.shape {G : GH} {v : Value} {xs : List Value} (h : SlR G v xs) : ∃ a cap, v = .slice a xs.length cap ∧ ∀ w, Holds G w → ∀ j u, xs[j]? = some u → ∃ b, a = some ⟨b, 0, none⟩ ∧ w.cell? ⟨b, j, none⟩ = some u := by
  rcases h with ⟨rfl, rfl⟩ | ⟨b, arr, T, cap, rfl, hb, hx⟩
  · exact ⟨none, 0, rfl, fun w _ j u hj => by simp at hj⟩
  · refine ⟨some ⟨b, 0, none⟩, cap, rfl, fun w hG j u hj => ⟨b, rfl, ?_⟩⟩
    obtain ⟨hlt, rfl⟩ := List.getElem?_eq_some_iff.1 hj
    exact cell_of_heap (hG _ _ hb) (hx j hlt)

set_option maxRecDepth 100000 in
set_option maxHeartbeats 2000000 in
theorem depth_step (n : Nat) (hn : n + 1 ≤ 1000000000) (ih : DepthOk n) : DepthOk (n + 1) := by
  intro G w v x hG hx hd
  obtain ⟨Tv, bv, rfl⟩ := hx.shape
  have hk : dmax x.kids ≤ n := by have := depth_kids x; omega
  have IH := Lib.hid ih; have HD := Lib.hid (depth_kids x); have HB := Lib.hid (below_any G w _ x hG hx); have HKL := Lib.hid hx.kids_len
  clear ih hd
  go_enter Tryd.func70, Tryd.ntmps70
  go_wp2_with fail
  refine HB.out.mono ?_
  rintro e w1 ⟨u, vs, G1, rfl, k1, g1, hG1, hsl, hxs⟩
  obtain ⟨a, cap, rfl, hc⟩ := hsl.shape
  have HC := Lib.hid hc; have HX := Lib.hid hxs; have HK := Lib.hid k1; have HG1 := Lib.hid hG1; have HLen : Hid (vs.length = x.kids.length) := Lib.hid hxs.1
  clear hc hxs k1 hG1 hsl HB hG hx g1
  have hvl : vs.length ≤ 9223372036854775807 := by have := HKL.out; have := HLen.out; omega
  go_wp2_with fail
  go_loopg [3, 9] vs.length (fun m s3 s9 wr => ∃ j d : Nat, j ≤ vs.length ∧ d ≤ n ∧ Hid (m = vs.length - j) ∧ s9 = .int .i64 j ∧ s3 = .int .i64 d ∧ Hid (d = dmax (x.kids.take j)) ∧ Hid (Keep none' w1 wr))
  case atStart => exact ⟨0, 0, by omega, by omega, Lib.hid rfl, rfl, rfl, Lib.hid (by simp [dmax]), Lib.hid (Keep.refl _ _)⟩
  case round =>
    obtain ⟨j, d, hj, hdn, HM, rfl, rfl, HDM, HK2⟩ := hrel
    have hjj : (0 : Int) ≤ (j : Int) := by omega
    by_cases hlt : j < vs.length
    · have hltx : j < x.kids.length := by have := HLen.out; omega
      obtain ⟨b, rfl, cj⟩ := HC.out wr (HG1.out.keep0 HK2.out) j vs[j] (by simp [hlt])
      have hxj := HX.out.2 j vs[j] (x.kids[j]) (by simp [hlt]) (by simp [hltx])
      obtain ⟨T, b', e⟩ := hxj.shape
      rw [e] at cj hxj
      have HXJ := Lib.hid hxj; clear hxj
      have hji : ((j : Int) < (vs.length : Int)) := by omega
      have hdj : (x.kids[j]).depth ≤ n := Nat.le_trans (dmax_le _ _ (List.getElem_mem hltx)) hk
      clear e
      go_wp2_with fail
      refine (IH.out G1 wr _ _ (HG1.out.keep0 HK2.out) HXJ.out hdj).mono ?_
      rintro e w2 ⟨rfl, k2⟩
      have HK3 := Lib.hid (HK2.out.trans k2)
      clear k2
      go_wp2_with fail
      · go_roundg (vs.length - (j + 1))
        case measure => have := HM.out; omega
        case rel => exact ⟨j + 1, (x.kids[j]).depth, by omega, hdj, Lib.hid rfl, by go_num, rfl, Lib.hid (by rw [dmax_take _ _ hltx]; have := HDM.out; omega), HK3⟩
      · go_roundg (vs.length - (j + 1))
        case measure => have := HM.out; omega
        case rel => exact ⟨j + 1, d, by omega, hdn, Lib.hid rfl, by go_num, rfl, Lib.hid (by rw [dmax_take _ _ hltx]; have := HDM.out; omega), HK3⟩
    · have hje : j = vs.length := by omega
      subst hje
      go_wp2_with fail
      go_ret
      have e1 : dmax (x.kids.take vs.length) = dmax x.kids := by rw [HLen.out, List.take_length]
      refine ⟨?_, HK.out.trans HK2.out⟩
      rw [HD.out, ← e1, ← HDM.out]
      rfl

theorem depth_ok : ∀ n, n ≤ 1000000000 → DepthOk n
  | 0, _ => fun G w v x hG hx hd => by have := depth_kids x; omega
  | n + 1, h => depth_step n h (depth_ok n (by omega))
end Go.Proofs.YtabikmkoajdhmaaDoor
