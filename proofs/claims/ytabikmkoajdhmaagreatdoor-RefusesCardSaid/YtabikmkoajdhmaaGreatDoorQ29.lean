/- ast.Unbound by a contract: the closures that say which names stand for something. -/
import Derived.Test.YtabikmkoajdhmaaGreatDoorQ26
import Derived.Test.YtabikmkoajdhmaaGreatDoorQ05
import Derived.Test.YtabikmkoajdhmaaGreatDoorQ21
set_option linter.unusedVariables false
set_option linter.unusedSimpArgs false
namespace Go.Proofs.YtabikmkoajdhmaaGreatDoor
open Go.RowKit

def withS (l : List Str) (S : Str → Bool) : Str → Bool := fun n => l.contains n || S n
def firstS (f : Ex → Option (Nat × Str)) : List Ex → Option (Nat × Str)
  | [] => none
  | x :: r => match f x with | some p => some p | none => firstS f r
/-- The first name, in the order of the text, that stands for nothing: its place, itself. -/
def unbK : Nat → (Str → Bool) → Ex → Option (Nat × Str)
  | 0, _, _ => none
  | k + 1, S, .name p n => if S n then none else some (p, n)
  | k + 1, S, .fn n b => unbK k (withS [n] S) b
  | k + 1, S, .lt n a b => match unbK k S a with | some p => some p | none => unbK k (withS [n] S) b
  | k + 1, S, .rc bd e => firstS (unbK k (withS bd.names S)) (bd.exprs ++ [e])
  | k + 1, S, x => firstS (unbK k S) x.kids

/-- A closure that says which names stand for something, and touches nothing. -/
def ScF (G : GH) (f : Value) (S : Str → Bool) : Prop := ∃ fn caps, f = .func (.func fn) #[] caps ∧ (∀ args w, (callFunc fn args).run Tryz.prog w = .ok (.enter fn args) w) ∧
  ∀ w, Holds G w → ∀ n : Str, Calls Tryz.prog fn (#[.string (bs n)] ++ caps) w fun e w' => e = .returned (.bool (S n)) ∧ Keep none' w w'
theorem ScF.sub {G G' : GH} (hs : G.sub G') {f : Value} {S : Str → Bool} (h : ScF G f S) : ScF G' f S := by
  obtain ⟨fn, caps, a, b, c⟩ := h
  exact ⟨fn, caps, a, b, fun w hG n => c w (fun i o e => hG i o (hs i o e)) n⟩

set_option maxRecDepth 100000 in
set_option maxHeartbeats 2000000 in
theorem unb11 {G : GH} {nb sb : Nat} {nv f : Value} {names : List Str} {S : Str → Bool} (hn : G nb = some (.cells #[nv] 34)) (hs : SlR G nv (names.map fun n => .string (bs n))) (hsb : G sb = some (.cells #[f] 38)) (hf : ScF G f S) (hlen : names.length ≤ 1000000000) (w : World) (hG : Holds G w) (n : Str) :
    Calls Tryz.prog 127 #[.string (bs n), .pointer (some ⟨nb, 0, none⟩), .pointer (some ⟨sb, 0, none⟩)] w fun e w' => e = .returned (.bool (withS names S n)) ∧ Keep none' w w' := by
  obtain ⟨fn, caps, rfl, hent, hcl⟩ := hf
  obtain ⟨a, cap, rfl, hc⟩ := hs.shape
  have c0 : w.cell? ⟨nb, 0, none⟩ = some (.slice a (names.map fun n => Value.string (bs n)).length cap) := cell_of_heap (hG _ _ hn) rfl
  have HC := Lib.hid hc; have HG := Lib.hid hG; have HCL := Lib.hid hcl; have HSB := Lib.hid hsb
  clear hc hG hcl hn hs hsb
  simp only [List.length_map] at c0
  go_enter Tryz.func127, Tryz.ntmps127
  go_wp2_with fail
  go_loopg [9] names.length (fun gn s9 wr => ∃ j : Nat, j ≤ names.length ∧ Hid (gn = names.length - j) ∧ s9 = .int .i64 j ∧ wr = w ∧ Hid (withS (names.drop j) S n = withS names S n))
  case atStart => exact ⟨0, by omega, Lib.hid rfl, rfl, rfl, Lib.hid rfl⟩
  case round =>
    obtain ⟨j, hj, HM, rfl, rfl, HD⟩ := hrel
    have hjj : (0 : Int) ≤ (j : Int) := by omega
    by_cases hlt : j < names.length
    · obtain ⟨q, rfl, cj⟩ := HC.out wr HG.out j (.string (bs names[j])) (by simp [hlt])
      have hji : ((j : Int) < (names.length : Int)) := by omega
      have hd : withS (names.drop j) S n = (n == names[j] || withS (names.drop (j + 1)) S n) := by
        rw [List.drop_eq_getElem_cons hlt]
        simp only [withS, List.contains_cons, Bool.or_assoc]
      by_cases hn : names[j] = n
      · have q : ((bs names[j]).toList == (bs n).toList) = true := by rw [str_eq2]; simp [hn]
        have hr : withS names S n = true := by rw [← HD.out, hd, hn]; simp
        have HR := Lib.hid hr; clear hd hr hn
        go_wp2_with fail
        go_ret
        rw [HR.out]
        exact ⟨rfl, Keep.refl _ _⟩
      · have q : ((bs names[j]).toList == (bs n).toList) = false := by rw [str_eq2]; simp [hn]
        have hr : withS (names.drop (j + 1)) S n = withS names S n := by
          rw [← HD.out, hd]
          have : (n == names[j]) = false := by simpa using fun e => hn e.symm
          rw [this]; rfl
        have HR := Lib.hid hr; clear hd hr hn
        go_wp2_with fail
        go_roundg (names.length - (j + 1))
        case measure => have := HM.out; omega
        case rel => exact ⟨j + 1, by omega, Lib.hid rfl, by go_num, rfl, HR⟩
    · have hje : j = names.length := by omega
      subst hje
      have c1 : wr.cell? ⟨sb, 0, none⟩ = some (.func (.func fn) #[] caps) := cell_of_heap (HG.out _ _ HSB.out) rfl
      have hr := HD.out
      rw [List.drop_length] at hr
      have HR := Lib.hid hr; clear hr
      have HQ := Lib.hid (HCL.out wr HG.out n)
      go_wp2_with fail
      refine HQ.out.mono ?_
      rintro e2 w2 ⟨rfl, k2⟩
      have HK := Lib.hid k2; clear k2
      go_wp2_with fail
      go_ret
      rw [← HR.out]
      exact ⟨by simp [withS], HK.out⟩
theorem scf_with {G : GH} {nb sb : Nat} {nv f : Value} {names : List Str} {S : Str → Bool} (hn : G nb = some (.cells #[nv] 34)) (hs : SlR G nv (names.map fun n => .string (bs n))) (hsb : G sb = some (.cells #[f] 38)) (hf : ScF G f S) (hlen : names.length ≤ 1000000000) :
    ScF G (.func (.func 127) #[] #[.pointer (some ⟨nb, 0, none⟩), .pointer (some ⟨sb, 0, none⟩)]) (withS names S) :=
  ⟨_, _, rfl, fun args w => by kernel_rfl, fun w hG n => unb11 hn hs hsb hf hlen w hG n⟩
/-- The closure with. -/
theorem with1_ok (sb : Nat) (a : Option Addr) (m c : Nat) (w : World) : Calls Tryz.prog 126 #[.slice a m c, .pointer (some ⟨sb, 0, none⟩)] w fun e w' => e = .returned (.func (.func 127) #[] #[.pointer (some ⟨w.heap.size, 0, none⟩), .pointer (some ⟨sb, 0, none⟩)]) ∧ w' = w.alloc (.cells #[.slice a m c] 34) := by
  have hmf : ∀ (fn : Fn) (first cap : Array Value) (w : World), (Instr.makeFunc fn first cap).run Tryz.prog w = .ok (.func fn first cap) w := fun _ _ _ _ => rfl
  go_enter Tryz.func126, Tryz.ntmps126
  go_wp2_with fail
  go_ret
  exact ⟨rfl, rfl⟩

def UnbPost (G : GH) (w : World) (r : Option (Nat × Str)) (e : Ending) (w' : World) : Prop :=
  ∃ G', Keep none' w w' ∧ Grew G w G' ∧ Holds G' w' ∧ match r with
    | none => e = .returned .nilIface
    | some (p, n) => ∃ b, e = .returned (.iface 133 (.pointer (some ⟨b, 0, none⟩))) ∧ G' b = some (.cells #[.int .i64 (p : Int), .string (bs n)] 146)
def UnbOk (k : Nat) : Prop := ∀ (G : GH) (w : World) (v f : Value) (x : Ex) (S : Str → Bool), Holds G w → ExR G v x → ScF G f S → x.depth ≤ k → Calls Tryz.prog 82 #[v, f] w (UnbPost G w (unbK k S x))

set_option maxRecDepth 100000 in
set_option maxHeartbeats 2000000 in
theorem first_ok (k : Nat) (ih : UnbOk k) (G : GH) (w : World) (lv f : Value) (vs : List Value) (xs : List Ex) (S : Str → Bool) (hG : Holds G w) (hl : SlR G lv vs) (hx : ExRs G vs xs) (hf : ScF G f S) (hd : ∀ x ∈ xs, x.depth ≤ k) (hb : vs.length ≤ 1000000001) :
    Calls Tryz.prog 128 #[lv, f] w (UnbPost G w (firstS (unbK k S) xs)) := by
  obtain ⟨a, cap, rfl, hc⟩ := hl.shape
  obtain ⟨fn, caps, hfv, _⟩ := id hf
  have HC := Lib.hid hc; have HX := Lib.hid hx; have HG := Lib.hid hG; have HF := Lib.hid hf; have HD := Lib.hid hd; have IH := Lib.hid ih
  have HLen : Hid (vs.length = xs.length) := Lib.hid hx.1
  rw [hfv]
  have HFV := Lib.hid hfv
  clear hc hx hG hf hd ih hl hfv
  go_enter Tryz.func128, Tryz.ntmps128
  go_wp2_with fail
  go_loopg [10] vs.length (fun gn s10 wr => ∃ j : Nat, j ≤ vs.length ∧ Hid (gn = vs.length - j) ∧ s10 = .int .i64 j ∧ Hid (Keep none' w wr) ∧ Hid (firstS (unbK k S) (xs.drop j) = firstS (unbK k S) xs))
  case atStart => exact ⟨0, by omega, Lib.hid rfl, rfl, Lib.hid (Keep.refl _ _), Lib.hid rfl⟩
  case round =>
    obtain ⟨j, hj, HM, rfl, HK, HFR⟩ := hrel
    have hjj : (0 : Int) ≤ (j : Int) := by omega
    by_cases hlt : j < vs.length
    · have hltx : j < xs.length := by have := HLen.out; omega
      obtain ⟨b, rfl, cj⟩ := HC.out wr (HG.out.keep0 HK.out) j vs[j] (by simp [hlt])
      have hxj := HX.out.2 j vs[j] (xs[j]) (by simp [hlt]) (by simp [hltx])
      obtain ⟨T, b', e⟩ := hxj.shape
      rw [e] at cj hxj
      have hfx : firstS (unbK k S) (xs.drop j) = (match unbK k S xs[j] with | some p => some p | none => firstS (unbK k S) (xs.drop (j + 1))) := by
        rw [List.drop_eq_getElem_cons hltx]; rfl
      have hcall := IH.out G wr _ f (xs[j]) S (HG.out.keep0 HK.out) hxj HF.out (HD.out _ (List.getElem_mem hltx))
      rw [HFV.out] at hcall
      have HCALL := Lib.hid hcall; have HFX := Lib.hid hfx
      clear hcall hfx hxj e
      have hji : ((j : Int) < (vs.length : Int)) := by omega
      cases hu : unbK k S xs[j] with
      | none =>
        rw [hu] at HCALL HFX
        go_wp2_with fail
        refine HCALL.out.mono ?_
        rintro e2 w2 ⟨G2, k2, _, _, rfl⟩
        have HK2 := Lib.hid (HK.out.trans k2); clear k2
        go_wp2_with fail
        go_roundg (vs.length - (j + 1))
        case measure => have := HM.out; omega
        case rel => exact ⟨j + 1, by omega, Lib.hid rfl, by go_num, HK2, Lib.hid (by rw [← HFR.out, HFX.out])⟩
      | some p =>
        rw [hu] at HCALL HFX
        go_wp2_with fail
        refine HCALL.out.mono ?_
        obtain ⟨p, n⟩ := p
        rintro e2 w2 ⟨G2, k2, g2, h2, b2, rfl, hb2⟩
        have HK2 := Lib.hid (HK.out.trans k2); have HG2 := Lib.hid (Grew.keep HK.out g2); have HH2 := Lib.hid h2; have HB2 := Lib.hid hb2; clear k2 g2 h2 hb2
        go_wp2_with fail
        go_ret
        rw [← HFR.out, HFX.out]
        exact ⟨G2, HK2.out, HG2.out, HH2.out, b2, rfl, HB2.out⟩
    · have hje : j = vs.length := by omega
      subst hje
      have hr := HFR.out
      rw [List.drop_of_length_le (by have := HLen.out; omega)] at hr
      have HR := Lib.hid hr; clear hr
      go_wp2_with fail
      go_ret
      rw [← HR.out]
      exact ⟨G, HK.out, Grew.refl _ _, HG.out.keep0 HK.out, rfl⟩

theorem at_ok (p : Nat) (w : World) : Calls Tryz.prog 129 #[.int .i64 (p : Int)] w fun e w' => e = .returned (.int .i64 (p : Int)) ∧ w' = w := by
  go_enter Tryz.func129, Tryz.ntmps129
  go_wp2_with fail
  go_ret
  exact ⟨rfl, rfl⟩
theorem UnbPost.up {G G1 : GH} {w w1 : World} {r : Option (Nat × Str)} {e : Ending} {w' : World} (k : Keep none' w w1) (g : Grew G w G1) (h : UnbPost G1 w1 r e w') : UnbPost G w r e w' := by
  obtain ⟨G', k', g', h', hm⟩ := h
  refine ⟨G', k.trans k', ⟨g.sub.trans g'.sub, fun b hb => (g'.eq b (Nat.lt_of_lt_of_le hb k.size)).trans (g.eq b hb)⟩, h', hm⟩
theorem UnbPost.val {G : GH} {w : World} {r : Option (Nat × Str)} {e : Ending} {w' : World} (h : UnbPost G w r e w') : ∃ v, e = .returned v ∧ (v = .nilIface ∨ ∃ b, v = .iface 133 (.pointer (some ⟨b, 0, none⟩))) := by
  obtain ⟨G', _, _, _, hm⟩ := h
  cases r with
  | none => exact ⟨_, hm, .inl rfl⟩
  | some p => obtain ⟨b, hb, _⟩ := hm; exact ⟨_, hb, .inr ⟨b, rfl⟩⟩
theorem with_new {G : GH} {W : World} {N : Nat} {f : Value} {S : Str → Bool} (hG : Holds G W) (hb : G N = some (.cells #[f] 38)) (hf : ScF G f S) (n : Str) :
    ∃ G2, Grew G W G2 ∧ Keep none' W ((W.alloc (.cells #[.string (bs n)] 9)).alloc (.cells #[.slice (some ⟨W.heap.size, 0, none⟩) 1 1] 34)).drew ∧ Holds G2 ((W.alloc (.cells #[.string (bs n)] 9)).alloc (.cells #[.slice (some ⟨W.heap.size, 0, none⟩) 1 1] 34)).drew ∧ ScF G2 (.func (.func 127) #[] #[.pointer (some ⟨W.heap.size + 1, 0, none⟩), .pointer (some ⟨N, 0, none⟩)]) (withS [n] S) := by
  have h0 : G W.heap.size = none := hG.fresh (Nat.le_refl _)
  have h1 : G (W.heap.size + 1) = none := hG.fresh (by omega)
  have z : (W.alloc (.cells #[.string (bs n)] 9)).heap.size = W.heap.size + 1 := by simp
  have hG1 := (hG.keep0 (Keep.alloc none' W (.cells #[.string (bs n)] 9))).put (heap_new W _)
  have h1' : (G.put W.heap.size (.cells #[.string (bs n)] 9)) (W.heap.size + 1) = none := by rw [GH.put_other _ _ (by omega)]; exact h1
  have hG2 := (hG1.keep0 (Keep.alloc none' (W.alloc (.cells #[.string (bs n)] 9)) (.cells #[.slice (some ⟨W.heap.size, 0, none⟩) 1 1] 34))).put (heap_new _ _)
  rw [z] at hG2
  have sub : G.sub ((G.put W.heap.size (.cells #[.string (bs n)] 9)).put (W.heap.size + 1) (.cells #[.slice (some ⟨W.heap.size, 0, none⟩) 1 1] 34)) := (GH.sub_put h0).trans (GH.sub_put h1')
  refine ⟨_, ⟨sub, fun b hb => by rw [GH.put_other _ _ (by omega), GH.put_other _ _ (by omega)]⟩, ((Keep.alloc _ _ _).trans (Keep.alloc _ _ _)).trans (Keep.drew _ _), hG2.keep0 (Keep.drew _ _), ?_⟩
  refine scf_with (nv := .slice (some ⟨W.heap.size, 0, none⟩) 1 1) (names := [n]) (GH.put_same _ _ _) (.inr ⟨W.heap.size, #[.string (bs n)], 9, 1, rfl, by rw [GH.put_other _ _ (by omega)]; exact GH.put_same _ _ _, fun i hi => ?_⟩) (sub _ _ hb) (hf.sub sub) (by simp)
  have : i = 0 := by simpa using hi
  subst this
  rfl

set_option maxRecDepth 100000 in
set_option maxHeartbeats 4000000 in
theorem unb_step (k : Nat) (ih : UnbOk k) : UnbOk (k + 1) := by
  intro G w v f x S hG hx hf hd
  have hmf : ∀ (fn : Fn) (first cap : Array Value) (w : World), (Instr.makeFunc fn first cap).run Tryz.prog w = .ok (.func fn first cap) w := fun _ _ _ _ => rfl
  have hcf1 : ∀ args w, (callFunc 126 args).run Tryz.prog w = .ok (.enter 126 args) w := fun args w => by kernel_rfl
  have hcf2 : ∀ args w, (callFunc 128 args).run Tryz.prog w = .ok (.enter 128 args) w := fun args w => by kernel_rfl
  obtain ⟨fn, caps, hfv, hent, hcl⟩ := id hf
  -- the box of scope
  obtain ⟨N, hN⟩ : ∃ N, N = w.heap.size := ⟨_, rfl⟩
  have kA : Keep none' w (w.alloc (.cells #[f] 38)) := Keep.alloc _ _ _
  have hf0 : G N = none := hG.fresh (by omega)
  obtain ⟨G1, hG1⟩ : ∃ G1, G1 = G.put N (.cells #[f] 38) := ⟨_, rfl⟩
  have gA : Grew G w G1 := by rw [hG1]; exact ⟨GH.sub_put hf0, fun b hb => GH.put_other _ _ (by omega)⟩
  have hH1 : Holds G1 (w.alloc (.cells #[f] 38)) := by rw [hG1]; exact (hG.keep0 kA).put (by rw [hN]; exact heap_new _ _)
  have hb1 : G1 N = some (.cells #[f] 38) := by rw [hG1]; exact GH.put_same _ _ _
  obtain ⟨w1, hw1⟩ : ∃ w1, w1 = w.alloc (.cells #[f] 38) := ⟨_, rfl⟩
  rw [← hw1] at hH1 kA
  have hs1 : w1.heap.size = N + 1 := by rw [hw1, hN]; simp
  have HK := Lib.hid kA; have HGA := Lib.hid gA; have HH := Lib.hid hH1; have HB := Lib.hid hb1; have HF := Lib.hid (hf.sub gA.sub); have HX := Lib.hid (hx.sub gA.sub); have IH := Lib.hid ih; have HD := Lib.hid hd; have HFV := Lib.hid hfv; have HS1 := Lib.hid hs1; have HN := Lib.hid hN; have HW1 := Lib.hid hw1
  clear kA gA hH1 hb1 hf ih hd hf0 hG1 hw1 hs1 hG hcl hN
  rw [hfv] at HW1
  cases hx with
  | @name b p n hg =>
    have hgb := HGA.out.sub _ _ hg
    have d0 : w1.cell? ⟨b, 0, none⟩ = some (.int .i64 p) := cell_of_heap (HH.out _ _ hgb) rfl
    have d1 : w1.cell? ⟨b, 1, none⟩ = some (.string (bs n)) := cell_of_heap (HH.out _ _ hgb) rfl
    have d2 : w1.cell? ⟨N, 0, none⟩ = some (.func (.func fn) #[] caps) := by rw [← hfv]; exact cell_of_heap (HH.out _ _ HB.out) rfl
    obtain ⟨fn', caps', hfv', hent', hcl'⟩ := HF.out
    rw [hfv] at hfv'
    injection hfv' with h1 h2 h3
    injection h1 with h1
    subst h1; subst h3
    have HCL := Lib.hid (fun (w' : World) (k : Keep none' w1 w') => hcl' w' (HH.out.keep0 k) n)
    have HDD := Lib.hid (fun (w' : World) (k : Keep none' w1 w') => (show w'.cell? ⟨N, 0, none⟩ = some (.func (.func fn) #[] caps) ∧ w'.cell? ⟨b, 1, none⟩ = some (.string (bs n)) ∧ w'.cell? ⟨b, 0, none⟩ = some (.int .i64 p) from ⟨by rw [← hfv]; exact cell_of_heap ((HH.out.keep0 k) _ _ HB.out) rfl, cell_of_heap ((HH.out.keep0 k) _ _ hgb) rfl, cell_of_heap ((HH.out.keep0 k) _ _ hgb) rfl⟩))
    rw [hfv]
    clear hfv HFV hcl' hent' HF HB hg hgb d0 d1 d2
    have S0 := HDD.out w1.drew (Keep.drew _ _)
    have ta := taNameName
    go_enter Tryz.func82, Tryz.ntmps82
    go_wp2_with fail
    rw [← HW1.out, ← HN.out]
    refine wp_region_float (fun w' => w'.cell? ⟨N, 0, none⟩ = some (.func (.func fn) #[] caps) ∧ w'.cell? ⟨b, 1, none⟩ = some (.string (bs n)) ∧ w'.cell? ⟨b, 0, none⟩ = some (.int .i64 p)) [1, 2, 3, 6] [0, 4] (by kernel_rfl) ?_
    (refine floatS (i := 0) (v := ?_) rfl (by kernel_rfl) (by kernel_rfl) (by kernel_rfl) (by kernel_rfl) (fun _ _ _ h => h) (by assumption) (by rfl) ?_ ?_); rotate_left
    (intro wF hF; (try dsimp only at hF); go_simp; try with_reducible rfl)
    (try simp only [Act.put, List.setIfInBounds_toArray, List.set_cons_zero, List.set_cons_succ])
    (refine float0 (i := 1) (v := ?_) rfl (by kernel_rfl) (by kernel_rfl) (by kernel_rfl) (by kernel_rfl) (fun _ _ _ h => h) (by rfl) ?_ ?_); rotate_left
    (intro wF; go_simp; try with_reducible rfl)
    (try simp only [Act.put, List.setIfInBounds_toArray, List.set_cons_zero, List.set_cons_succ])
    (refine float0 (i := 2) (v := ?_) rfl (by kernel_rfl) (by kernel_rfl) (by kernel_rfl) (by kernel_rfl) (fun _ _ _ h => h) (by rfl) ?_ ?_); rotate_left
    (intro wF; go_simp; try with_reducible rfl)
    (try simp only [Act.put, List.setIfInBounds_toArray, List.set_cons_zero, List.set_cons_succ])
    (refine float0 (i := 3) (v := ?_) rfl (by kernel_rfl) (by kernel_rfl) (by kernel_rfl) (by kernel_rfl) (fun _ _ _ h => h) (by rfl) ?_ ?_); rotate_left
    (intro wF; go_simp; try with_reducible rfl)
    (try simp only [Act.put, List.setIfInBounds_toArray, List.set_cons_zero, List.set_cons_succ])
    (refine floatS (i := 4) (v := ?_) rfl (by kernel_rfl) (by kernel_rfl) (by kernel_rfl) (by kernel_rfl) (fun _ _ _ h => h) (by assumption) (by rfl) ?_ ?_); rotate_left
    (intro wF hF; (try dsimp only at hF); go_simp; try with_reducible rfl)
    (try simp only [Act.put, List.setIfInBounds_toArray, List.set_cons_zero, List.set_cons_succ])
    (refine floatM (i := 5) rfl (by kernel_rfl) (by kernel_rfl) (fun K hK => ?_)); go_simp
    refine (HCL.out _ (Keep.drew _ _)).mono ?_
    rintro e2 w2 ⟨rfl, k2⟩
    have HK2 := Lib.hid ((Keep.drew none' w1).trans k2)
    have S2 := HDD.out w2 HK2.out
    clear k2 S0
    cases hs : S n with
    | true =>
      have hu : unbK (k + 1) S (.name p n) = none := by simp [unbK, hs]
      have HU := Lib.hid hu; clear hu hs
      go_wp2_with fail
      refine hK.out _ _ (fun _ => S2) ?_
      clear hK K
      (try simp only [Act.put, List.setIfInBounds_toArray, List.set_cons_zero, List.set_cons_succ])
      (refine float0 (i := 6) (v := ?_) rfl (by kernel_rfl) (by kernel_rfl) (by kernel_rfl) (by kernel_rfl) (fun _ _ _ h => h) (by rfl) ?_ ?_); rotate_left
      (intro wF; go_simp; try with_reducible rfl)
      (try simp only [Act.put, List.setIfInBounds_toArray, List.set_cons_zero, List.set_cons_succ])
      (refine floatE (by kernel_rfl) ?_)
      go_wp2_with fail
      go_ret
      rw [HU.out]
      exact ⟨G1, HK.out.trans HK2.out, HGA.out, HH.out.keep0 HK2.out, rfl⟩
    | false =>
      have hu : unbK (k + 1) S (.name p n) = some (p, n) := by simp [unbK, hs]
      have HU := Lib.hid hu; clear hu hs
      go_wp2_with fail
      refine hK.out _ _ (fun _ => S2) ?_
      clear hK K
      (try simp only [Act.put, List.setIfInBounds_toArray, List.set_cons_zero, List.set_cons_succ])
      (refine float0 (i := 6) (v := ?_) rfl (by kernel_rfl) (by kernel_rfl) (by kernel_rfl) (by kernel_rfl) (fun _ _ _ h => h) (by rfl) ?_ ?_); rotate_left
      (intro wF; go_simp; try with_reducible rfl)
      (try simp only [Act.put, List.setIfInBounds_toArray, List.set_cons_zero, List.set_cons_succ])
      (refine floatE (by kernel_rfl) ?_)
      have S3 := HDD.out w2.drew (HK2.out.trans (Keep.drew _ _))
      have kE : Keep none' w1 (w2.alloc (.cells #[.int .i64 (p : Int), .string (bs n)] 146)).drew := (HK2.out.trans (Keep.alloc _ _ _)).trans (Keep.drew _ _)
      have S4 := HDD.out _ kE
      have HKE := Lib.hid kE
      clear S2 kE
      go_wp2_with fail
      refine wp_region_float (fun w' => w'.cell? ⟨N, 0, none⟩ = some (.func (.func fn) #[] caps) ∧ w'.cell? ⟨b, 1, none⟩ = some (.string (bs n)) ∧ w'.cell? ⟨b, 0, none⟩ = some (.int .i64 p)) [0, 1, 2, 5, 6, 7, 9, 11, 12] [3, 8] (by kernel_rfl) ?_
      (refine float0 (i := 0) (v := ?_) rfl (by kernel_rfl) (by kernel_rfl) (by kernel_rfl) (by kernel_rfl) (fun _ _ _ h => h) (by rfl) ?_ ?_); rotate_left
      (intro wF; go_simp; try with_reducible rfl)
      (try simp only [Act.put, List.setIfInBounds_toArray, List.set_cons_zero, List.set_cons_succ])
      (refine float0 (i := 1) (v := ?_) rfl (by kernel_rfl) (by kernel_rfl) (by kernel_rfl) (by kernel_rfl) (fun _ _ _ h => h) (by rfl) ?_ ?_); rotate_left
      (intro wF; go_simp; try with_reducible rfl)
      (try simp only [Act.put, List.setIfInBounds_toArray, List.set_cons_zero, List.set_cons_succ])
      (refine float0 (i := 2) (v := ?_) rfl (by kernel_rfl) (by kernel_rfl) (by kernel_rfl) (by kernel_rfl) (fun _ _ _ h => h) (by rfl) ?_ ?_); rotate_left
      (intro wF; go_simp; try with_reducible rfl)
      (try simp only [Act.put, List.setIfInBounds_toArray, List.set_cons_zero, List.set_cons_succ])
      (refine floatS (i := 3) (v := ?_) rfl (by kernel_rfl) (by kernel_rfl) (by kernel_rfl) (by kernel_rfl) (fun _ _ _ h => h) (by assumption) (by rfl) ?_ ?_); rotate_left
      (intro wF hF; (try dsimp only at hF); go_simp; try with_reducible rfl)
      (try simp only [Act.put, List.setIfInBounds_toArray, List.set_cons_zero, List.set_cons_succ])
      (refine float0 (i := 5) (v := ?_) rfl (by kernel_rfl) (by kernel_rfl) (by kernel_rfl) (by kernel_rfl) (fun _ _ _ h => h) (by rfl) ?_ ?_); rotate_left
      (intro wF; go_simp; try with_reducible rfl)
      (try simp only [Act.put, List.setIfInBounds_toArray, List.set_cons_zero, List.set_cons_succ])
      (refine float0 (i := 6) (v := ?_) rfl (by kernel_rfl) (by kernel_rfl) (by kernel_rfl) (by kernel_rfl) (fun _ _ _ h => h) (by rfl) ?_ ?_); rotate_left
      (intro wF; go_simp; try with_reducible rfl)
      (try simp only [Act.put, List.setIfInBounds_toArray, List.set_cons_zero, List.set_cons_succ])
      (refine float0 (i := 7) (v := ?_) rfl (by kernel_rfl) (by kernel_rfl) (by kernel_rfl) (by kernel_rfl) (fun _ _ _ h => h) (by rfl) ?_ ?_); rotate_left
      (intro wF; go_simp; try with_reducible rfl)
      (try simp only [Act.put, List.setIfInBounds_toArray, List.set_cons_zero, List.set_cons_succ])
      (refine floatS (i := 8) (v := ?_) rfl (by kernel_rfl) (by kernel_rfl) (by kernel_rfl) (by kernel_rfl) (fun _ _ _ h => h) (by assumption) (by rfl) ?_ ?_); rotate_left
      (intro wF hF; (try dsimp only at hF); go_simp; try with_reducible rfl)
      (try simp only [Act.put, List.setIfInBounds_toArray, List.set_cons_zero, List.set_cons_succ])
      (refine floatM (i := 4) rfl (by kernel_rfl) (by kernel_rfl) (fun K hK => ?_)); go_simp
      refine (at_ok p _).mono ?_
      rintro e3 w3 ⟨rfl, rfl⟩
      go_wp2_with fail
      refine hK.out _ _ (fun _ => S3) ?_
      clear hK K
      (try simp only [Act.put, List.setIfInBounds_toArray, List.set_cons_zero, List.set_cons_succ])
      (refine float0 (i := 9) (v := ?_) rfl (by kernel_rfl) (by kernel_rfl) (by kernel_rfl) (by kernel_rfl) (fun _ _ _ h => h) (by rfl) ?_ ?_); rotate_left
      (intro wF; go_simp; try with_reducible rfl)
      (try simp only [Act.put, List.setIfInBounds_toArray, List.set_cons_zero, List.set_cons_succ])
      (refine floatM (i := 10) rfl (by kernel_rfl) (by kernel_rfl) (fun K hK => ?_)); go_simp
      refine hK.out _ _ (fun _ => S4) ?_
      clear hK K
      (try simp only [Act.put, List.setIfInBounds_toArray, List.set_cons_zero, List.set_cons_succ])
      (refine float0 (i := 11) (v := ?_) rfl (by kernel_rfl) (by kernel_rfl) (by kernel_rfl) (by kernel_rfl) (fun _ _ _ h => h) (by rfl) ?_ ?_); rotate_left
      (intro wF; go_simp; try with_reducible rfl)
      (try simp only [Act.put, List.setIfInBounds_toArray, List.set_cons_zero, List.set_cons_succ])
      (refine float0 (i := 12) (v := ?_) rfl (by kernel_rfl) (by kernel_rfl) (by kernel_rfl) (by kernel_rfl) (fun _ _ _ h => h) (by rfl) ?_ ?_); rotate_left
      (intro wF; go_simp; try with_reducible rfl)
      (try simp only [Act.put, List.setIfInBounds_toArray, List.set_cons_zero, List.set_cons_succ])
      (refine floatE (by kernel_rfl) ?_)
      go_wp2_with fail
      go_ret
      rw [HU.out]
      have hfr : G1 w2.heap.size = none := HH.out.fresh (HK2.out.size)
      refine ⟨G1.put w2.heap.size (.cells #[.int .i64 (p : Int), .string (bs n)] 146), HK.out.trans HKE.out, ⟨HGA.out.sub.trans (GH.sub_put hfr), fun i hi => (GH.put_other _ _ (by have := HK2.out.size; have := HK.out.size; omega)).trans (HGA.out.eq i hi)⟩, (HH.out.keep0 HKE.out).put (heap_new w2 _), w2.heap.size, rfl, GH.put_same _ _ _⟩
  | @num b p t hg =>
    have hkd : ∀ q ∈ (Ex.kids (.num t)), q.depth ≤ k := fun q hy => by
      have h1 := dmax_le _ q hy
      have h2 := depth_kids (.num t)
      have h3 := HD.out
      omega
    have hbl := fun (W : World) (hW : Holds G1 W) => below_any G1 W _ (.num t) hW (.num (HGA.out.sub _ _ hg))
    have hS : ∀ (G' : GH) (W : World), G1.sub G' → Holds G' W → W.cell? ⟨N, 0, none⟩ = some (.func (.func fn) #[] caps) := fun G' W h hW => by rw [← hfv]; exact cell_of_heap (hW _ _ (h _ _ HB.out)) rfl
    have hur : unbK (k + 1) S (.num t) = firstS (unbK k S) (Ex.kids (.num t)) := rfl
    rw [hur]
    rw [hfv] at HF ⊢
    have HBL := Lib.hid hbl; have HKD := Lib.hid hkd; have HS := Lib.hid hS
    clear hbl hkd hS hfv HFV HX HB hur
    have aNumName := taNumName
    have aNumFun := taNumFun
    have aNumLet := taNumLet
    have aNumRec := taNumRec
    go_enter Tryz.func82, Tryz.ntmps82
    go_wp2_with fail
    rw [← HW1.out, ← HN.out]
    have S0 := HS.out G1 w1.drew (GH.sub.refl _) (HH.out.keep0 (Keep.drew _ _))
    refine wp_region_float (fun w' => w'.cell? ⟨N, 0, none⟩ = some (.func (.func fn) #[] caps)) [0, 1, 5] [3] (by kernel_rfl) ?_
    (refine float0 (i := 0) (v := ?_) rfl (by kernel_rfl) (by kernel_rfl) (by kernel_rfl) (by kernel_rfl) (fun _ _ _ h => h) (by rfl) ?_ ?_); rotate_left
    (intro wF; go_simp; try with_reducible rfl)
    (try simp only [Act.put, List.setIfInBounds_toArray, List.set_cons_zero, List.set_cons_succ])
    (refine float0 (i := 1) (v := ?_) rfl (by kernel_rfl) (by kernel_rfl) (by kernel_rfl) (by kernel_rfl) (fun _ _ _ h => h) (by rfl) ?_ ?_); rotate_left
    (intro wF; go_simp; try with_reducible rfl)
    (try simp only [Act.put, List.setIfInBounds_toArray, List.set_cons_zero, List.set_cons_succ])
    (refine floatS (i := 3) (v := ?_) rfl (by kernel_rfl) (by kernel_rfl) (by kernel_rfl) (by kernel_rfl) (fun _ _ _ h => h) (by assumption) (by rfl) ?_ ?_); rotate_left
    (intro wF hF; (try dsimp only at hF); go_simp; try with_reducible rfl)
    (try simp only [Act.put, List.setIfInBounds_toArray, List.set_cons_zero, List.set_cons_succ])
    (refine floatM (i := 2) rfl (by kernel_rfl) (by kernel_rfl) (fun K hK => ?_)); go_simp
    refine (HBL.out _ (HH.out.keep0 (Keep.drew _ _))).mono ?_
    rintro e2 w2 ⟨uv, vs, G2, rfl, k2, g2, h2, sl2, ex2⟩
    have hlen : vs.length ≤ 1000000001 := by rw [ex2.1]; simp [Ex.kids]
    have hfi := first_ok k IH.out G2 w2 uv _ vs _ S h2 sl2 ex2 (HF.out.sub g2.sub) HKD.out hlen
    obtain ⟨aa, cc, rfl, _⟩ := sl2.shape
    have S2 := HS.out G2 w2 g2.sub h2
    have HFI := Lib.hid hfi
    have HUP := Lib.hid (fun r e w' => UnbPost.up (r := r) (e := e) (w' := w') (HK.out.trans ((Keep.drew none' w1).trans k2)) (HGA.out.trans HK.out ⟨g2.sub, g2.eq⟩))
    have HS2 := Lib.hid (fun W (k : Keep none' w2 W) => HS.out G2 W g2.sub (h2.keep0 k))
    clear hfi k2 g2 h2 sl2 ex2 hlen S0
    go_wp2_with fail
    refine hK.out _ _ (fun _ => S2) ?_
    clear hK K
    (try simp only [Act.put, List.setIfInBounds_toArray, List.set_cons_zero, List.set_cons_succ])
    (refine floatM (i := 4) rfl (by kernel_rfl) (by kernel_rfl) (fun K hK => ?_)); go_simp
    refine HFI.out.mono ?_
    rintro e3 w3 hp
    obtain ⟨v3, rfl, hv3⟩ := hp.val
    have S3 := HS2.out w3 (let ⟨_, k3, _⟩ := hp; k3)
    have HP := Lib.hid (HUP.out _ _ _ hp)
    clear hp S2
    rcases hv3 with rfl | ⟨b3, rfl⟩
    all_goals
      go_wp2_with fail
      refine hK.out _ _ (fun _ => S3) ?_
      clear hK K
      (try simp only [Act.put, List.setIfInBounds_toArray, List.set_cons_zero, List.set_cons_succ])
      (refine float0 (i := 5) (v := ?_) rfl (by kernel_rfl) (by kernel_rfl) (by kernel_rfl) (by kernel_rfl) (fun _ _ _ h => h) (by rfl) ?_ ?_); rotate_left
      (intro wF; go_simp; try with_reducible rfl)
      (try simp only [Act.put, List.setIfInBounds_toArray, List.set_cons_zero, List.set_cons_succ])
      (refine floatE (by kernel_rfl) ?_)
      go_wp2_with fail
      go_ret
      exact HP.out
  | @fn b p n v y hg a =>
    have hgb := HGA.out.sub _ _ hg
    obtain ⟨Tv, bv, rfl⟩ := a.shape
    have hS : ∀ (G' : GH) (W : World), G1.sub G' → Holds G' W → W.cell? ⟨b, 2, none⟩ = some (.iface Tv (.pointer (some ⟨bv, 0, none⟩))) ∧ W.cell? ⟨b, 1, none⟩ = some (.string (bs n)) := fun G' W h hW => ⟨cell_of_heap (hW _ _ (h _ _ hgb)) rfl, cell_of_heap (hW _ _ (h _ _ hgb)) rfl⟩
    have hur : unbK (k + 1) S (.fn n y) = unbK k (withS [n] S) y := rfl
    rw [hur, hfv]
    obtain ⟨G2, g2, k2, h2, f2⟩ := with_new HH.out HB.out HF.out n
    obtain ⟨W2, hW2⟩ : ∃ W2, W2 = ((w1.alloc (.cells #[.string (bs n)] 9)).alloc (.cells #[.slice (some ⟨w1.heap.size, 0, none⟩) 1 1] 34)).drew := ⟨_, rfl⟩
    rw [← hW2] at k2 h2
    have hcall := IH.out G2 W2 _ _ y _ h2 ((a.sub HGA.out.sub).sub g2.sub) f2 (by have := HD.out; simp only [Ex.depth] at this; omega)
    have HS := Lib.hid hS; have HCALL := Lib.hid hcall
    have HUP := Lib.hid (fun r e w' => UnbPost.up (r := r) (e := e) (w' := w') (HK.out.trans k2) (HGA.out.trans HK.out g2))
    have HS2 := Lib.hid (fun W (k : Keep none' W2 W) => hS G2 W g2.sub (h2.keep0 k))
    have S9 := HS2.out _ (Keep.refl _ _)
    have S8 : (w1.alloc (.cells #[.string (bs n)] 9)).drew.cell? ⟨b, 2, none⟩ = some (.iface Tv (.pointer (some ⟨bv, 0, none⟩))) ∧ (w1.alloc (.cells #[.string (bs n)] 9)).drew.cell? ⟨b, 1, none⟩ = some (.string (bs n)) := HS.out G1 _ (GH.sub.refl _) ((HH.out.keep0 (Keep.alloc none' w1 _)).keep0 (Keep.drew _ _))
    have HW2 := Lib.hid hW2
    clear hcall hS hfv HFV HX HB hur hg hgb a g2 k2 h2 f2 HF hW2
    have aFunName := taFunName
    have aFunFun := taFunFun
    go_enter Tryz.func82, Tryz.ntmps82
    go_wp2_with fail
    rw [← HW1.out, ← HN.out]
    have S0 := HS.out G1 w1.drew (GH.sub.refl _) (HH.out.keep0 (Keep.drew _ _))
    refine wp_region_float (fun w' => w'.cell? ⟨b, 2, none⟩ = some (.iface Tv (.pointer (some ⟨bv, 0, none⟩))) ∧ w'.cell? ⟨b, 1, none⟩ = some (.string (bs n))) [0, 1, 2, 4, 5, 6, 7, 12] [3, 8] (by kernel_rfl) ?_
    (refine float0 (i := 0) (v := ?_) rfl (by kernel_rfl) (by kernel_rfl) (by kernel_rfl) (by kernel_rfl) (fun _ _ _ h => h) (by rfl) ?_ ?_); rotate_left
    (intro wF; go_simp; try with_reducible rfl)
    (try simp only [Act.put, List.setIfInBounds_toArray, List.set_cons_zero, List.set_cons_succ])
    (refine float0 (i := 1) (v := ?_) rfl (by kernel_rfl) (by kernel_rfl) (by kernel_rfl) (by kernel_rfl) (fun _ _ _ h => h) (by rfl) ?_ ?_); rotate_left
    (intro wF; go_simp; try with_reducible rfl)
    (try simp only [Act.put, List.setIfInBounds_toArray, List.set_cons_zero, List.set_cons_succ])
    (refine float0 (i := 2) (v := ?_) rfl (by kernel_rfl) (by kernel_rfl) (by kernel_rfl) (by kernel_rfl) (fun _ _ _ h => h) (by rfl) ?_ ?_); rotate_left
    (intro wF; go_simp; try with_reducible rfl)
    (try simp only [Act.put, List.setIfInBounds_toArray, List.set_cons_zero, List.set_cons_succ])
    (refine floatS (i := 3) (v := ?_) rfl (by kernel_rfl) (by kernel_rfl) (by kernel_rfl) (by kernel_rfl) (fun _ _ _ h => h) (by assumption) (by rfl) ?_ ?_); rotate_left
    (intro wF hF; (try dsimp only at hF); go_simp; try with_reducible rfl)
    (try simp only [Act.put, List.setIfInBounds_toArray, List.set_cons_zero, List.set_cons_succ])
    (refine float0 (i := 4) (v := ?_) rfl (by kernel_rfl) (by kernel_rfl) (by kernel_rfl) (by kernel_rfl) (fun _ _ _ h => h) (by rfl) ?_ ?_); rotate_left
    (intro wF; go_simp; try with_reducible rfl)
    (try simp only [Act.put, List.setIfInBounds_toArray, List.set_cons_zero, List.set_cons_succ])
    (refine float0 (i := 5) (v := ?_) rfl (by kernel_rfl) (by kernel_rfl) (by kernel_rfl) (by kernel_rfl) (fun _ _ _ h => h) (by rfl) ?_ ?_); rotate_left
    (intro wF; go_simp; try with_reducible rfl)
    (try simp only [Act.put, List.setIfInBounds_toArray, List.set_cons_zero, List.set_cons_succ])
    (refine float0 (i := 6) (v := ?_) rfl (by kernel_rfl) (by kernel_rfl) (by kernel_rfl) (by kernel_rfl) (fun _ _ _ h => h) (by rfl) ?_ ?_); rotate_left
    (intro wF; go_simp; try with_reducible rfl)
    (try simp only [Act.put, List.setIfInBounds_toArray, List.set_cons_zero, List.set_cons_succ])
    (refine float0 (i := 7) (v := ?_) rfl (by kernel_rfl) (by kernel_rfl) (by kernel_rfl) (by kernel_rfl) (fun _ _ _ h => h) (by rfl) ?_ ?_); rotate_left
    (intro wF; go_simp; try with_reducible rfl)
    (try simp only [Act.put, List.setIfInBounds_toArray, List.set_cons_zero, List.set_cons_succ])
    (refine floatS (i := 8) (v := ?_) rfl (by kernel_rfl) (by kernel_rfl) (by kernel_rfl) (by kernel_rfl) (fun _ _ _ h => h) (by assumption) (by rfl) ?_ ?_); rotate_left
    (intro wF hF; (try dsimp only at hF); go_simp; try with_reducible rfl)
    (try simp only [Act.put, List.setIfInBounds_toArray, List.set_cons_zero, List.set_cons_succ])
    (refine floatM (i := 9) rfl (by kernel_rfl) (by kernel_rfl) (fun K hK => ?_)); go_simp
    refine hK.out _ _ (fun _ => S8) ?_
    clear hK K
    (try simp only [Act.put, List.setIfInBounds_toArray, List.set_cons_zero, List.set_cons_succ])
    (refine floatM (i := 10) rfl (by kernel_rfl) (by kernel_rfl) (fun K hK => ?_)); go_simp
    refine (with1_ok _ _ _ _ _).mono ?_
    rintro e2 w2 ⟨rfl, rfl⟩
    go_wp2_with fail
    rw [← HW2.out]
    refine hK.out _ _ (fun _ => S9) ?_
    clear hK K
    (try simp only [Act.put, List.setIfInBounds_toArray, List.set_cons_zero, List.set_cons_succ])
    (refine floatM (i := 11) rfl (by kernel_rfl) (by kernel_rfl) (fun K hK => ?_)); go_simp
    refine HCALL.out.mono ?_
    rintro e3 w3 hp
    obtain ⟨v3, rfl, hv3⟩ := hp.val
    have S3 := HS2.out w3 (let ⟨_, k3, _⟩ := hp; k3)
    have HP := Lib.hid (HUP.out _ _ _ hp)
    clear hp S8 S9 S0
    rcases hv3 with rfl | ⟨b3, rfl⟩
    all_goals
      go_wp2_with fail
      refine hK.out _ _ (fun _ => S3) ?_
      clear hK K
      (try simp only [Act.put, List.setIfInBounds_toArray, List.set_cons_zero, List.set_cons_succ])
      (refine float0 (i := 12) (v := ?_) rfl (by kernel_rfl) (by kernel_rfl) (by kernel_rfl) (by kernel_rfl) (fun _ _ _ h => h) (by rfl) ?_ ?_); rotate_left
      (intro wF; go_simp; try with_reducible rfl)
      (try simp only [Act.put, List.setIfInBounds_toArray, List.set_cons_zero, List.set_cons_succ])
      (refine floatE (by kernel_rfl) ?_)
      go_wp2_with fail
      go_ret
      exact HP.out
  | @app b p v u y z hg a c =>
    have hkd : ∀ q ∈ (Ex.kids (.app y z)), q.depth ≤ k := fun q hy => by
      have h1 := dmax_le _ q hy
      have h2 := depth_kids (.app y z)
      have h3 := HD.out
      omega
    have hbl := fun (W : World) (hW : Holds G1 W) => below_any G1 W _ (.app y z) hW (.app (HGA.out.sub _ _ hg) (a.sub HGA.out.sub) (c.sub HGA.out.sub))
    have hS : ∀ (G' : GH) (W : World), G1.sub G' → Holds G' W → W.cell? ⟨N, 0, none⟩ = some (.func (.func fn) #[] caps) := fun G' W h hW => by rw [← hfv]; exact cell_of_heap (hW _ _ (h _ _ HB.out)) rfl
    have hur : unbK (k + 1) S (.app y z) = firstS (unbK k S) (Ex.kids (.app y z)) := rfl
    rw [hur]
    rw [hfv] at HF ⊢
    have HBL := Lib.hid hbl; have HKD := Lib.hid hkd; have HS := Lib.hid hS
    clear hbl hkd hS hfv HFV HX HB hur
    have aAppName := taAppName
    have aAppFun := taAppFun
    have aAppLet := taAppLet
    have aAppRec := taAppRec
    go_enter Tryz.func82, Tryz.ntmps82
    go_wp2_with fail
    rw [← HW1.out, ← HN.out]
    have S0 := HS.out G1 w1.drew (GH.sub.refl _) (HH.out.keep0 (Keep.drew _ _))
    refine wp_region_float (fun w' => w'.cell? ⟨N, 0, none⟩ = some (.func (.func fn) #[] caps)) [0, 1, 5] [3] (by kernel_rfl) ?_
    (refine float0 (i := 0) (v := ?_) rfl (by kernel_rfl) (by kernel_rfl) (by kernel_rfl) (by kernel_rfl) (fun _ _ _ h => h) (by rfl) ?_ ?_); rotate_left
    (intro wF; go_simp; try with_reducible rfl)
    (try simp only [Act.put, List.setIfInBounds_toArray, List.set_cons_zero, List.set_cons_succ])
    (refine float0 (i := 1) (v := ?_) rfl (by kernel_rfl) (by kernel_rfl) (by kernel_rfl) (by kernel_rfl) (fun _ _ _ h => h) (by rfl) ?_ ?_); rotate_left
    (intro wF; go_simp; try with_reducible rfl)
    (try simp only [Act.put, List.setIfInBounds_toArray, List.set_cons_zero, List.set_cons_succ])
    (refine floatS (i := 3) (v := ?_) rfl (by kernel_rfl) (by kernel_rfl) (by kernel_rfl) (by kernel_rfl) (fun _ _ _ h => h) (by assumption) (by rfl) ?_ ?_); rotate_left
    (intro wF hF; (try dsimp only at hF); go_simp; try with_reducible rfl)
    (try simp only [Act.put, List.setIfInBounds_toArray, List.set_cons_zero, List.set_cons_succ])
    (refine floatM (i := 2) rfl (by kernel_rfl) (by kernel_rfl) (fun K hK => ?_)); go_simp
    refine (HBL.out _ (HH.out.keep0 (Keep.drew _ _))).mono ?_
    rintro e2 w2 ⟨uv, vs, G2, rfl, k2, g2, h2, sl2, ex2⟩
    have hlen : vs.length ≤ 1000000001 := by rw [ex2.1]; simp [Ex.kids]
    have hfi := first_ok k IH.out G2 w2 uv _ vs _ S h2 sl2 ex2 (HF.out.sub g2.sub) HKD.out hlen
    obtain ⟨aa, cc, rfl, _⟩ := sl2.shape
    have S2 := HS.out G2 w2 g2.sub h2
    have HFI := Lib.hid hfi
    have HUP := Lib.hid (fun r e w' => UnbPost.up (r := r) (e := e) (w' := w') (HK.out.trans ((Keep.drew none' w1).trans k2)) (HGA.out.trans HK.out ⟨g2.sub, g2.eq⟩))
    have HS2 := Lib.hid (fun W (k : Keep none' w2 W) => HS.out G2 W g2.sub (h2.keep0 k))
    clear hfi k2 g2 h2 sl2 ex2 hlen S0
    go_wp2_with fail
    refine hK.out _ _ (fun _ => S2) ?_
    clear hK K
    (try simp only [Act.put, List.setIfInBounds_toArray, List.set_cons_zero, List.set_cons_succ])
    (refine floatM (i := 4) rfl (by kernel_rfl) (by kernel_rfl) (fun K hK => ?_)); go_simp
    refine HFI.out.mono ?_
    rintro e3 w3 hp
    obtain ⟨v3, rfl, hv3⟩ := hp.val
    have S3 := HS2.out w3 (let ⟨_, k3, _⟩ := hp; k3)
    have HP := Lib.hid (HUP.out _ _ _ hp)
    clear hp S2
    rcases hv3 with rfl | ⟨b3, rfl⟩
    all_goals
      go_wp2_with fail
      refine hK.out _ _ (fun _ => S3) ?_
      clear hK K
      (try simp only [Act.put, List.setIfInBounds_toArray, List.set_cons_zero, List.set_cons_succ])
      (refine float0 (i := 5) (v := ?_) rfl (by kernel_rfl) (by kernel_rfl) (by kernel_rfl) (by kernel_rfl) (fun _ _ _ h => h) (by rfl) ?_ ?_); rotate_left
      (intro wF; go_simp; try with_reducible rfl)
      (try simp only [Act.put, List.setIfInBounds_toArray, List.set_cons_zero, List.set_cons_succ])
      (refine floatE (by kernel_rfl) ?_)
      go_wp2_with fail
      go_ret
      exact HP.out
  | @pair b p v u y z hg a c =>
    have hkd : ∀ q ∈ (Ex.kids (.pair y z)), q.depth ≤ k := fun q hy => by
      have h1 := dmax_le _ q hy
      have h2 := depth_kids (.pair y z)
      have h3 := HD.out
      omega
    have hbl := fun (W : World) (hW : Holds G1 W) => below_any G1 W _ (.pair y z) hW (.pair (HGA.out.sub _ _ hg) (a.sub HGA.out.sub) (c.sub HGA.out.sub))
    have hS : ∀ (G' : GH) (W : World), G1.sub G' → Holds G' W → W.cell? ⟨N, 0, none⟩ = some (.func (.func fn) #[] caps) := fun G' W h hW => by rw [← hfv]; exact cell_of_heap (hW _ _ (h _ _ HB.out)) rfl
    have hur : unbK (k + 1) S (.pair y z) = firstS (unbK k S) (Ex.kids (.pair y z)) := rfl
    rw [hur]
    rw [hfv] at HF ⊢
    have HBL := Lib.hid hbl; have HKD := Lib.hid hkd; have HS := Lib.hid hS
    clear hbl hkd hS hfv HFV HX HB hur
    have aPairName := taPairName
    have aPairFun := taPairFun
    have aPairLet := taPairLet
    have aPairRec := taPairRec
    go_enter Tryz.func82, Tryz.ntmps82
    go_wp2_with fail
    rw [← HW1.out, ← HN.out]
    have S0 := HS.out G1 w1.drew (GH.sub.refl _) (HH.out.keep0 (Keep.drew _ _))
    refine wp_region_float (fun w' => w'.cell? ⟨N, 0, none⟩ = some (.func (.func fn) #[] caps)) [0, 1, 5] [3] (by kernel_rfl) ?_
    (refine float0 (i := 0) (v := ?_) rfl (by kernel_rfl) (by kernel_rfl) (by kernel_rfl) (by kernel_rfl) (fun _ _ _ h => h) (by rfl) ?_ ?_); rotate_left
    (intro wF; go_simp; try with_reducible rfl)
    (try simp only [Act.put, List.setIfInBounds_toArray, List.set_cons_zero, List.set_cons_succ])
    (refine float0 (i := 1) (v := ?_) rfl (by kernel_rfl) (by kernel_rfl) (by kernel_rfl) (by kernel_rfl) (fun _ _ _ h => h) (by rfl) ?_ ?_); rotate_left
    (intro wF; go_simp; try with_reducible rfl)
    (try simp only [Act.put, List.setIfInBounds_toArray, List.set_cons_zero, List.set_cons_succ])
    (refine floatS (i := 3) (v := ?_) rfl (by kernel_rfl) (by kernel_rfl) (by kernel_rfl) (by kernel_rfl) (fun _ _ _ h => h) (by assumption) (by rfl) ?_ ?_); rotate_left
    (intro wF hF; (try dsimp only at hF); go_simp; try with_reducible rfl)
    (try simp only [Act.put, List.setIfInBounds_toArray, List.set_cons_zero, List.set_cons_succ])
    (refine floatM (i := 2) rfl (by kernel_rfl) (by kernel_rfl) (fun K hK => ?_)); go_simp
    refine (HBL.out _ (HH.out.keep0 (Keep.drew _ _))).mono ?_
    rintro e2 w2 ⟨uv, vs, G2, rfl, k2, g2, h2, sl2, ex2⟩
    have hlen : vs.length ≤ 1000000001 := by rw [ex2.1]; simp [Ex.kids]
    have hfi := first_ok k IH.out G2 w2 uv _ vs _ S h2 sl2 ex2 (HF.out.sub g2.sub) HKD.out hlen
    obtain ⟨aa, cc, rfl, _⟩ := sl2.shape
    have S2 := HS.out G2 w2 g2.sub h2
    have HFI := Lib.hid hfi
    have HUP := Lib.hid (fun r e w' => UnbPost.up (r := r) (e := e) (w' := w') (HK.out.trans ((Keep.drew none' w1).trans k2)) (HGA.out.trans HK.out ⟨g2.sub, g2.eq⟩))
    have HS2 := Lib.hid (fun W (k : Keep none' w2 W) => HS.out G2 W g2.sub (h2.keep0 k))
    clear hfi k2 g2 h2 sl2 ex2 hlen S0
    go_wp2_with fail
    refine hK.out _ _ (fun _ => S2) ?_
    clear hK K
    (try simp only [Act.put, List.setIfInBounds_toArray, List.set_cons_zero, List.set_cons_succ])
    (refine floatM (i := 4) rfl (by kernel_rfl) (by kernel_rfl) (fun K hK => ?_)); go_simp
    refine HFI.out.mono ?_
    rintro e3 w3 hp
    obtain ⟨v3, rfl, hv3⟩ := hp.val
    have S3 := HS2.out w3 (let ⟨_, k3, _⟩ := hp; k3)
    have HP := Lib.hid (HUP.out _ _ _ hp)
    clear hp S2
    rcases hv3 with rfl | ⟨b3, rfl⟩
    all_goals
      go_wp2_with fail
      refine hK.out _ _ (fun _ => S3) ?_
      clear hK K
      (try simp only [Act.put, List.setIfInBounds_toArray, List.set_cons_zero, List.set_cons_succ])
      (refine float0 (i := 5) (v := ?_) rfl (by kernel_rfl) (by kernel_rfl) (by kernel_rfl) (by kernel_rfl) (fun _ _ _ h => h) (by rfl) ?_ ?_); rotate_left
      (intro wF; go_simp; try with_reducible rfl)
      (try simp only [Act.put, List.setIfInBounds_toArray, List.set_cons_zero, List.set_cons_succ])
      (refine floatE (by kernel_rfl) ?_)
      go_wp2_with fail
      go_ret
      exact HP.out
  | @ite b p v u z y1 y2 y3 hg a c d =>
    have hkd : ∀ q ∈ (Ex.kids (.ite y1 y2 y3)), q.depth ≤ k := fun q hy => by
      have h1 := dmax_le _ q hy
      have h2 := depth_kids (.ite y1 y2 y3)
      have h3 := HD.out
      omega
    have hbl := fun (W : World) (hW : Holds G1 W) => below_any G1 W _ (.ite y1 y2 y3) hW (.ite (HGA.out.sub _ _ hg) (a.sub HGA.out.sub) (c.sub HGA.out.sub) (d.sub HGA.out.sub))
    have hS : ∀ (G' : GH) (W : World), G1.sub G' → Holds G' W → W.cell? ⟨N, 0, none⟩ = some (.func (.func fn) #[] caps) := fun G' W h hW => by rw [← hfv]; exact cell_of_heap (hW _ _ (h _ _ HB.out)) rfl
    have hur : unbK (k + 1) S (.ite y1 y2 y3) = firstS (unbK k S) (Ex.kids (.ite y1 y2 y3)) := rfl
    rw [hur]
    rw [hfv] at HF ⊢
    have HBL := Lib.hid hbl; have HKD := Lib.hid hkd; have HS := Lib.hid hS
    clear hbl hkd hS hfv HFV HX HB hur
    have aIfName := taIfName
    have aIfFun := taIfFun
    have aIfLet := taIfLet
    have aIfRec := taIfRec
    go_enter Tryz.func82, Tryz.ntmps82
    go_wp2_with fail
    rw [← HW1.out, ← HN.out]
    have S0 := HS.out G1 w1.drew (GH.sub.refl _) (HH.out.keep0 (Keep.drew _ _))
    refine wp_region_float (fun w' => w'.cell? ⟨N, 0, none⟩ = some (.func (.func fn) #[] caps)) [0, 1, 5] [3] (by kernel_rfl) ?_
    (refine float0 (i := 0) (v := ?_) rfl (by kernel_rfl) (by kernel_rfl) (by kernel_rfl) (by kernel_rfl) (fun _ _ _ h => h) (by rfl) ?_ ?_); rotate_left
    (intro wF; go_simp; try with_reducible rfl)
    (try simp only [Act.put, List.setIfInBounds_toArray, List.set_cons_zero, List.set_cons_succ])
    (refine float0 (i := 1) (v := ?_) rfl (by kernel_rfl) (by kernel_rfl) (by kernel_rfl) (by kernel_rfl) (fun _ _ _ h => h) (by rfl) ?_ ?_); rotate_left
    (intro wF; go_simp; try with_reducible rfl)
    (try simp only [Act.put, List.setIfInBounds_toArray, List.set_cons_zero, List.set_cons_succ])
    (refine floatS (i := 3) (v := ?_) rfl (by kernel_rfl) (by kernel_rfl) (by kernel_rfl) (by kernel_rfl) (fun _ _ _ h => h) (by assumption) (by rfl) ?_ ?_); rotate_left
    (intro wF hF; (try dsimp only at hF); go_simp; try with_reducible rfl)
    (try simp only [Act.put, List.setIfInBounds_toArray, List.set_cons_zero, List.set_cons_succ])
    (refine floatM (i := 2) rfl (by kernel_rfl) (by kernel_rfl) (fun K hK => ?_)); go_simp
    refine (HBL.out _ (HH.out.keep0 (Keep.drew _ _))).mono ?_
    rintro e2 w2 ⟨uv, vs, G2, rfl, k2, g2, h2, sl2, ex2⟩
    have hlen : vs.length ≤ 1000000001 := by rw [ex2.1]; simp [Ex.kids]
    have hfi := first_ok k IH.out G2 w2 uv _ vs _ S h2 sl2 ex2 (HF.out.sub g2.sub) HKD.out hlen
    obtain ⟨aa, cc, rfl, _⟩ := sl2.shape
    have S2 := HS.out G2 w2 g2.sub h2
    have HFI := Lib.hid hfi
    have HUP := Lib.hid (fun r e w' => UnbPost.up (r := r) (e := e) (w' := w') (HK.out.trans ((Keep.drew none' w1).trans k2)) (HGA.out.trans HK.out ⟨g2.sub, g2.eq⟩))
    have HS2 := Lib.hid (fun W (k : Keep none' w2 W) => HS.out G2 W g2.sub (h2.keep0 k))
    clear hfi k2 g2 h2 sl2 ex2 hlen S0
    go_wp2_with fail
    refine hK.out _ _ (fun _ => S2) ?_
    clear hK K
    (try simp only [Act.put, List.setIfInBounds_toArray, List.set_cons_zero, List.set_cons_succ])
    (refine floatM (i := 4) rfl (by kernel_rfl) (by kernel_rfl) (fun K hK => ?_)); go_simp
    refine HFI.out.mono ?_
    rintro e3 w3 hp
    obtain ⟨v3, rfl, hv3⟩ := hp.val
    have S3 := HS2.out w3 (let ⟨_, k3, _⟩ := hp; k3)
    have HP := Lib.hid (HUP.out _ _ _ hp)
    clear hp S2
    rcases hv3 with rfl | ⟨b3, rfl⟩
    all_goals
      go_wp2_with fail
      refine hK.out _ _ (fun _ => S3) ?_
      clear hK K
      (try simp only [Act.put, List.setIfInBounds_toArray, List.set_cons_zero, List.set_cons_succ])
      (refine float0 (i := 5) (v := ?_) rfl (by kernel_rfl) (by kernel_rfl) (by kernel_rfl) (by kernel_rfl) (fun _ _ _ h => h) (by rfl) ?_ ?_); rotate_left
      (intro wF; go_simp; try with_reducible rfl)
      (try simp only [Act.put, List.setIfInBounds_toArray, List.set_cons_zero, List.set_cons_succ])
      (refine floatE (by kernel_rfl) ?_)
      go_wp2_with fail
      go_ret
      exact HP.out
  | @lt b p n v u y z hg a c =>
    have hgb := HGA.out.sub _ _ hg
    obtain ⟨Tv, bv, rfl⟩ := a.shape
    obtain ⟨Tu, bu, rfl⟩ := c.shape
    have hS : ∀ (G' : GH) (W : World), G1.sub G' → Holds G' W → W.cell? ⟨b, 2, none⟩ = some (.iface Tv (.pointer (some ⟨bv, 0, none⟩))) ∧ W.cell? ⟨b, 1, none⟩ = some (.string (bs n)) ∧ W.cell? ⟨b, 3, none⟩ = some (.iface Tu (.pointer (some ⟨bu, 0, none⟩))) ∧ W.cell? ⟨N, 0, none⟩ = some (.func (.func fn) #[] caps) := fun G' W h hW => ⟨cell_of_heap (hW _ _ (h _ _ hgb)) rfl, cell_of_heap (hW _ _ (h _ _ hgb)) rfl, cell_of_heap (hW _ _ (h _ _ hgb)) rfl, by rw [← hfv]; exact cell_of_heap (hW _ _ (h _ _ HB.out)) rfl⟩
    have hur : unbK (k + 1) S (.lt n y z) = (match unbK k S y with | some p => some p | none => unbK k (withS [n] S) z) := rfl
    have HS := Lib.hid hS
    have S1 := HS.out G1 w1 (GH.sub.refl _) HH.out
    have hc1 := fun (W : World) (hW : Holds G1 W) => IH.out G1 W _ f y S hW (a.sub HGA.out.sub) HF.out (by have := HD.out; simp only [Ex.depth] at this; omega)
    have hc2 := fun (W : World) (G2 : GH) (g : G1.sub G2) (hW : Holds G2 W) (f2 : Value) (h2 : ScF G2 f2 (withS [n] S)) => IH.out G2 W _ f2 z (withS [n] S) hW ((c.sub HGA.out.sub).sub g) h2 (by have := HD.out; simp only [Ex.depth] at this; omega)
    have hwn := fun (W : World) (hW : Holds G1 W) => with_new hW HB.out HF.out n
    have HUP0 := Lib.hid (fun (W : World) (k : Keep none' w1 W) (r : Option (Nat × Str)) (e : Ending) (w' : World) (h : UnbPost G1 W r e w') => UnbPost.up (HK.out.trans k) HGA.out h)
    have HUR := Lib.hid hur
    rw [hfv] at hc1 ⊢
    have HC1 := Lib.hid hc1; have HC2 := Lib.hid hc2; have HWN := Lib.hid hwn
    clear hc1 hc2 hwn hS hfv HFV HX HB HF hur hg hgb a c S1
    have aLetName := taLetName
    have aLetFun := taLetFun
    have aLetLet := taLetLet
    go_enter Tryz.func82, Tryz.ntmps82
    go_wp2_with fail
    rw [← HW1.out, ← HN.out]
    have S0 := HS.out G1 w1.drew (GH.sub.refl _) (HH.out.keep0 (Keep.drew _ _))
    refine wp_region_float (fun w' => w'.cell? ⟨b, 2, none⟩ = some (.iface Tv (.pointer (some ⟨bv, 0, none⟩))) ∧ w'.cell? ⟨b, 1, none⟩ = some (.string (bs n)) ∧ w'.cell? ⟨b, 3, none⟩ = some (.iface Tu (.pointer (some ⟨bu, 0, none⟩))) ∧ w'.cell? ⟨N, 0, none⟩ = some (.func (.func fn) #[] caps)) [0, 1, 2, 6] [3, 4] (by kernel_rfl) ?_
    (refine float0 (i := 0) (v := ?_) rfl (by kernel_rfl) (by kernel_rfl) (by kernel_rfl) (by kernel_rfl) (fun _ _ _ h => h) (by rfl) ?_ ?_); rotate_left
    (intro wF; go_simp; try with_reducible rfl)
    (try simp only [Act.put, List.setIfInBounds_toArray, List.set_cons_zero, List.set_cons_succ])
    (refine float0 (i := 1) (v := ?_) rfl (by kernel_rfl) (by kernel_rfl) (by kernel_rfl) (by kernel_rfl) (fun _ _ _ h => h) (by rfl) ?_ ?_); rotate_left
    (intro wF; go_simp; try with_reducible rfl)
    (try simp only [Act.put, List.setIfInBounds_toArray, List.set_cons_zero, List.set_cons_succ])
    (refine float0 (i := 2) (v := ?_) rfl (by kernel_rfl) (by kernel_rfl) (by kernel_rfl) (by kernel_rfl) (fun _ _ _ h => h) (by rfl) ?_ ?_); rotate_left
    (intro wF; go_simp; try with_reducible rfl)
    (try simp only [Act.put, List.setIfInBounds_toArray, List.set_cons_zero, List.set_cons_succ])
    (refine floatS (i := 3) (v := ?_) rfl (by kernel_rfl) (by kernel_rfl) (by kernel_rfl) (by kernel_rfl) (fun _ _ _ h => h) (by assumption) (by rfl) ?_ ?_); rotate_left
    (intro wF hF; (try dsimp only at hF); go_simp; try with_reducible rfl)
    (try simp only [Act.put, List.setIfInBounds_toArray, List.set_cons_zero, List.set_cons_succ])
    (refine floatS (i := 4) (v := ?_) rfl (by kernel_rfl) (by kernel_rfl) (by kernel_rfl) (by kernel_rfl) (fun _ _ _ h => h) (by assumption) (by rfl) ?_ ?_); rotate_left
    (intro wF hF; (try dsimp only at hF); go_simp; try with_reducible rfl)
    (try simp only [Act.put, List.setIfInBounds_toArray, List.set_cons_zero, List.set_cons_succ])
    (refine floatM (i := 5) rfl (by kernel_rfl) (by kernel_rfl) (fun K hK => ?_)); go_simp
    refine (HC1.out _ (HH.out.keep0 (Keep.drew _ _))).mono ?_
    rintro e2 w2 hp
    have hk2 : Keep none' w1.drew w2 := let ⟨_, k3, _⟩ := hp; k3
    have h12 : Holds G1 w2 := (HH.out.keep0 (Keep.drew _ _)).keep0 hk2
    have S2 := HS.out G1 w2 (GH.sub.refl _) h12
    have HP := Lib.hid hp
    have HK2 := Lib.hid ((Keep.drew none' w1).trans hk2)
    have HH2 := Lib.hid h12
    clear hp hk2 h12 S0
    cases hu : unbK k S y with
    | some p =>
      have hp := HP.out
      rw [hu] at hp
      obtain ⟨p, q⟩ := p
      have HQ := Lib.hid (HUP0.out _ (Keep.drew none' w1) _ _ _ hp)
      obtain ⟨G', _, _, _, b2, rfl, _⟩ := hp
      have HU := Lib.hid hu
      clear HP hu
      go_wp2_with fail
      refine hK.out _ _ (fun _ => S2) ?_
      clear hK K
      (try simp only [Act.put, List.setIfInBounds_toArray, List.set_cons_zero, List.set_cons_succ])
      (refine float0 (i := 6) (v := ?_) rfl (by kernel_rfl) (by kernel_rfl) (by kernel_rfl) (by kernel_rfl) (fun _ _ _ h => h) (by rfl) ?_ ?_); rotate_left
      (intro wF; go_simp; try with_reducible rfl)
      (try simp only [Act.put, List.setIfInBounds_toArray, List.set_cons_zero, List.set_cons_succ])
      (refine floatE (by kernel_rfl) ?_)
      go_wp2_with fail
      go_ret
      rw [HUR.out, HU.out]
      exact HQ.out
    | none =>
      have hp := HP.out
      rw [hu] at hp
      obtain ⟨G', _, _, _, rfl⟩ := hp
      have HU := Lib.hid hu
      clear HP hu
      obtain ⟨G2, g2, k2, h2, f2⟩ := HWN.out w2 HH2.out
      obtain ⟨W2, hW2⟩ : ∃ W2, W2 = ((w2.alloc (.cells #[.string (bs n)] 9)).alloc (.cells #[.slice (some ⟨w2.heap.size, 0, none⟩) 1 1] 34)).drew := ⟨_, rfl⟩
      rw [← hW2] at k2 h2
      have hcall := HC2.out W2 G2 g2.sub h2 _ f2
      have HCALL := Lib.hid hcall
      have HUP := Lib.hid (fun r e w' (h : UnbPost G2 W2 r e w') => HUP0.out w2 HK2.out r e w' (UnbPost.up k2 g2 h))
      have HS2 := Lib.hid (fun W (k : Keep none' W2 W) => HS.out G2 W g2.sub (h2.keep0 k))
      have S9 := HS2.out _ (Keep.refl _ _)
      have S7 := HS.out G1 w2.drew (GH.sub.refl _) (HH2.out.keep0 (Keep.drew none' w2))
      have S8 := HS.out G1 (w2.alloc (.cells #[.string (bs n)] 9)).drew (GH.sub.refl _) ((HH2.out.keep0 (Keep.alloc none' w2 _)).keep0 (Keep.drew _ _))
      have HW2 := Lib.hid hW2
      clear hcall g2 k2 h2 f2 hW2
      go_wp2_with fail
      refine hK.out _ _ (fun _ => S2) ?_
      clear hK K
      (try simp only [Act.put, List.setIfInBounds_toArray, List.set_cons_zero, List.set_cons_succ])
      (refine float0 (i := 6) (v := ?_) rfl (by kernel_rfl) (by kernel_rfl) (by kernel_rfl) (by kernel_rfl) (fun _ _ _ h => h) (by rfl) ?_ ?_); rotate_left
      (intro wF; go_simp; try with_reducible rfl)
      (try simp only [Act.put, List.setIfInBounds_toArray, List.set_cons_zero, List.set_cons_succ])
      (refine floatE (by kernel_rfl) ?_)
      clear S2
      go_wp2_with fail
      refine wp_region_float (fun w' => w'.cell? ⟨b, 2, none⟩ = some (.iface Tv (.pointer (some ⟨bv, 0, none⟩))) ∧ w'.cell? ⟨b, 1, none⟩ = some (.string (bs n)) ∧ w'.cell? ⟨b, 3, none⟩ = some (.iface Tu (.pointer (some ⟨bu, 0, none⟩))) ∧ w'.cell? ⟨N, 0, none⟩ = some (.func (.func fn) #[] caps)) [0, 1, 2, 4, 5, 6, 7, 12] [3, 8] (by kernel_rfl) ?_
      (refine float0 (i := 0) (v := ?_) rfl (by kernel_rfl) (by kernel_rfl) (by kernel_rfl) (by kernel_rfl) (fun _ _ _ h => h) (by rfl) ?_ ?_); rotate_left
      (intro wF; go_simp; try with_reducible rfl)
      (try simp only [Act.put, List.setIfInBounds_toArray, List.set_cons_zero, List.set_cons_succ])
      (refine float0 (i := 1) (v := ?_) rfl (by kernel_rfl) (by kernel_rfl) (by kernel_rfl) (by kernel_rfl) (fun _ _ _ h => h) (by rfl) ?_ ?_); rotate_left
      (intro wF; go_simp; try with_reducible rfl)
      (try simp only [Act.put, List.setIfInBounds_toArray, List.set_cons_zero, List.set_cons_succ])
      (refine float0 (i := 2) (v := ?_) rfl (by kernel_rfl) (by kernel_rfl) (by kernel_rfl) (by kernel_rfl) (fun _ _ _ h => h) (by rfl) ?_ ?_); rotate_left
      (intro wF; go_simp; try with_reducible rfl)
      (try simp only [Act.put, List.setIfInBounds_toArray, List.set_cons_zero, List.set_cons_succ])
      (refine floatS (i := 3) (v := ?_) rfl (by kernel_rfl) (by kernel_rfl) (by kernel_rfl) (by kernel_rfl) (fun _ _ _ h => h) (by assumption) (by rfl) ?_ ?_); rotate_left
      (intro wF hF; (try dsimp only at hF); go_simp; try with_reducible rfl)
      (try simp only [Act.put, List.setIfInBounds_toArray, List.set_cons_zero, List.set_cons_succ])
      (refine float0 (i := 4) (v := ?_) rfl (by kernel_rfl) (by kernel_rfl) (by kernel_rfl) (by kernel_rfl) (fun _ _ _ h => h) (by rfl) ?_ ?_); rotate_left
      (intro wF; go_simp; try with_reducible rfl)
      (try simp only [Act.put, List.setIfInBounds_toArray, List.set_cons_zero, List.set_cons_succ])
      (refine float0 (i := 5) (v := ?_) rfl (by kernel_rfl) (by kernel_rfl) (by kernel_rfl) (by kernel_rfl) (fun _ _ _ h => h) (by rfl) ?_ ?_); rotate_left
      (intro wF; go_simp; try with_reducible rfl)
      (try simp only [Act.put, List.setIfInBounds_toArray, List.set_cons_zero, List.set_cons_succ])
      (refine float0 (i := 6) (v := ?_) rfl (by kernel_rfl) (by kernel_rfl) (by kernel_rfl) (by kernel_rfl) (fun _ _ _ h => h) (by rfl) ?_ ?_); rotate_left
      (intro wF; go_simp; try with_reducible rfl)
      (try simp only [Act.put, List.setIfInBounds_toArray, List.set_cons_zero, List.set_cons_succ])
      (refine float0 (i := 7) (v := ?_) rfl (by kernel_rfl) (by kernel_rfl) (by kernel_rfl) (by kernel_rfl) (fun _ _ _ h => h) (by rfl) ?_ ?_); rotate_left
      (intro wF; go_simp; try with_reducible rfl)
      (try simp only [Act.put, List.setIfInBounds_toArray, List.set_cons_zero, List.set_cons_succ])
      (refine floatS (i := 8) (v := ?_) rfl (by kernel_rfl) (by kernel_rfl) (by kernel_rfl) (by kernel_rfl) (fun _ _ _ h => h) (by assumption) (by rfl) ?_ ?_); rotate_left
      (intro wF hF; (try dsimp only at hF); go_simp; try with_reducible rfl)
      (try simp only [Act.put, List.setIfInBounds_toArray, List.set_cons_zero, List.set_cons_succ])
      (refine floatM (i := 9) rfl (by kernel_rfl) (by kernel_rfl) (fun K hK => ?_)); go_simp
      refine hK.out _ _ (fun _ => S8) ?_
      clear hK K
      (try simp only [Act.put, List.setIfInBounds_toArray, List.set_cons_zero, List.set_cons_succ])
      (refine floatM (i := 10) rfl (by kernel_rfl) (by kernel_rfl) (fun K hK => ?_)); go_simp
      refine (with1_ok _ _ _ _ _).mono ?_
      rintro e2 w3 ⟨rfl, rfl⟩
      go_wp2_with fail
      rw [← HW2.out]
      refine hK.out _ _ (fun _ => S9) ?_
      clear hK K
      (try simp only [Act.put, List.setIfInBounds_toArray, List.set_cons_zero, List.set_cons_succ])
      (refine floatM (i := 11) rfl (by kernel_rfl) (by kernel_rfl) (fun K hK => ?_)); go_simp
      refine HCALL.out.mono ?_
      rintro e3 w3 hp
      obtain ⟨v3, rfl, hv3⟩ := hp.val
      have S3 := HS2.out w3 (let ⟨_, k3, _⟩ := hp; k3)
      have HP := Lib.hid (HUP.out _ _ _ hp)
      clear hp S8 S9 S7
      rcases hv3 with rfl | ⟨b3, rfl⟩
      all_goals
        go_wp2_with fail
        refine hK.out _ _ (fun _ => S3) ?_
        clear hK K
        (try simp only [Act.put, List.setIfInBounds_toArray, List.set_cons_zero, List.set_cons_succ])
        (refine float0 (i := 12) (v := ?_) rfl (by kernel_rfl) (by kernel_rfl) (by kernel_rfl) (by kernel_rfl) (fun _ _ _ h => h) (by rfl) ?_ ?_); rotate_left
        (intro wF; go_simp; try with_reducible rfl)
        (try simp only [Act.put, List.setIfInBounds_toArray, List.set_cons_zero, List.set_cons_succ])
        (refine floatE (by kernel_rfl) ?_)
        go_wp2_with fail
        go_ret
        rw [HUR.out, HU.out]
        exact HP.out
  | @rc b p nv lv e vs bd x hg hn hl hb hvs he =>
    have hgb := HGA.out.sub _ _ hg
    obtain ⟨an, cn, rfl, _⟩ := hn.shape
    have hlen : (bd.names.map fun n => Value.string (bs n)).length = bd.names.length := by simp
    rw [hlen] at hgb
    have hS : ∀ (G' : GH) (W : World), G1.sub G' → Holds G' W → W.cell? ⟨b, 1, none⟩ = some (.slice an bd.names.length cn) := fun G' W h hW => cell_of_heap (hW _ _ (h _ _ hgb)) rfl
    have hur : unbK (k + 1) S (.rc bd x) = firstS (unbK k (withS bd.names S)) (Ex.kids (.rc bd x)) := rfl
    have hkd : ∀ q ∈ (Ex.kids (.rc bd x)), q.depth ≤ k := fun q hy => by
      have h1 := dmax_le _ q hy
      have h2 := depth_kids (.rc bd x)
      have h3 := HD.out
      omega
    have hnl : bd.names.length ≤ 1000000000 := by
      have h1 := hb.list.1
      have h2 : ∀ d : Bs, d.names.length = d.exprs.length := fun d => by
        induction d using Bs.rec (motive_1 := fun _ => True) with
        | nil => rfl
        | cons _ _ r _ ih => simp [Bs.names, Bs.exprs, ih]
        | _ => trivial
      rw [h2]; omega
    have hbl := fun (W : World) (hW : Holds G1 W) => below_any G1 W _ (.rc bd x) hW (.rc (HGA.out.sub _ _ hg) (hn.sub HGA.out.sub) (hl.sub HGA.out.sub) (hb.sub HGA.out.sub) hvs (he.sub HGA.out.sub))
    have hsn := hn.sub HGA.out.sub
    have HKL := Lib.hid (ExR.kids_len HX.out)
    have HS := Lib.hid hS; have HKD := Lib.hid hkd; have HBL := Lib.hid hbl; have HSN := Lib.hid hsn; have HNL := Lib.hid hnl
    rw [hur, hfv]
    clear hS hkd hbl hsn hur hfv HFV HX hg hgb hn hl hb hvs he hnl
    have aRecName := taRecName
    have aRecFun := taRecFun
    have aRecLet := taRecLet
    have aRecRec := taRecRec
    go_enter Tryz.func82, Tryz.ntmps82
    go_wp2_with fail
    rw [← HW1.out, ← HN.out]
    have S0 := HS.out G1 w1.drew (GH.sub.refl _) (HH.out.keep0 (Keep.drew _ _))
    refine wp_region_float (fun w' => w'.cell? ⟨b, 1, none⟩ = some (.slice an bd.names.length cn)) [0, 1, 2, 4, 5, 6, 7, 11] [8] (by kernel_rfl) ?_
    (refine float0 (i := 0) (v := ?_) rfl (by kernel_rfl) (by kernel_rfl) (by kernel_rfl) (by kernel_rfl) (fun _ _ _ h => h) (by rfl) ?_ ?_); rotate_left
    (intro wF; go_simp; try with_reducible rfl)
    (try simp only [Act.put, List.setIfInBounds_toArray, List.set_cons_zero, List.set_cons_succ])
    (refine float0 (i := 1) (v := ?_) rfl (by kernel_rfl) (by kernel_rfl) (by kernel_rfl) (by kernel_rfl) (fun _ _ _ h => h) (by rfl) ?_ ?_); rotate_left
    (intro wF; go_simp; try with_reducible rfl)
    (try simp only [Act.put, List.setIfInBounds_toArray, List.set_cons_zero, List.set_cons_succ])
    (refine float0 (i := 2) (v := ?_) rfl (by kernel_rfl) (by kernel_rfl) (by kernel_rfl) (by kernel_rfl) (fun _ _ _ h => h) (by rfl) ?_ ?_); rotate_left
    (intro wF; go_simp; try with_reducible rfl)
    (try simp only [Act.put, List.setIfInBounds_toArray, List.set_cons_zero, List.set_cons_succ])
    (refine float0 (i := 4) (v := ?_) rfl (by kernel_rfl) (by kernel_rfl) (by kernel_rfl) (by kernel_rfl) (fun _ _ _ h => h) (by rfl) ?_ ?_); rotate_left
    (intro wF; go_simp; try with_reducible rfl)
    (try simp only [Act.put, List.setIfInBounds_toArray, List.set_cons_zero, List.set_cons_succ])
    (refine float0 (i := 5) (v := ?_) rfl (by kernel_rfl) (by kernel_rfl) (by kernel_rfl) (by kernel_rfl) (fun _ _ _ h => h) (by rfl) ?_ ?_); rotate_left
    (intro wF; go_simp; try with_reducible rfl)
    (try simp only [Act.put, List.setIfInBounds_toArray, List.set_cons_zero, List.set_cons_succ])
    (refine float0 (i := 6) (v := ?_) rfl (by kernel_rfl) (by kernel_rfl) (by kernel_rfl) (by kernel_rfl) (fun _ _ _ h => h) (by rfl) ?_ ?_); rotate_left
    (intro wF; go_simp; try with_reducible rfl)
    (try simp only [Act.put, List.setIfInBounds_toArray, List.set_cons_zero, List.set_cons_succ])
    (refine float0 (i := 7) (v := ?_) rfl (by kernel_rfl) (by kernel_rfl) (by kernel_rfl) (by kernel_rfl) (fun _ _ _ h => h) (by rfl) ?_ ?_); rotate_left
    (intro wF; go_simp; try with_reducible rfl)
    (try simp only [Act.put, List.setIfInBounds_toArray, List.set_cons_zero, List.set_cons_succ])
    (refine floatS (i := 8) (v := ?_) rfl (by kernel_rfl) (by kernel_rfl) (by kernel_rfl) (by kernel_rfl) (fun _ _ _ h => h) (by assumption) (by rfl) ?_ ?_); rotate_left
    (intro wF hF; (try dsimp only at hF); go_simp; try with_reducible rfl)
    (try simp only [Act.put, List.setIfInBounds_toArray, List.set_cons_zero, List.set_cons_succ])
    (refine floatM (i := 3) rfl (by kernel_rfl) (by kernel_rfl) (fun K hK => ?_)); go_simp
    refine (HBL.out _ (HH.out.keep0 (Keep.drew _ _))).mono ?_
    rintro e2 w2 ⟨uv, ks, G2, rfl, k2, g2, h2, sl2, ex2⟩
    have hf0 : G2 w2.heap.size = none := h2.fresh (Nat.le_refl _)
    have g3 : Grew G2 w2 (G2.put w2.heap.size (.cells #[.slice an bd.names.length cn] 34)) := ⟨GH.sub_put hf0, fun i hi => GH.put_other _ _ (by omega)⟩
    have k3 : Keep none' w2 (w2.alloc (.cells #[.slice an bd.names.length cn] 34)) := Keep.alloc _ _ _
    have h3 := (h2.keep0 k3).put (heap_new w2 _)
    have hsc := scf_with (nv := .slice an bd.names.length cn) (names := bd.names) (f := f) (S := S) (sb := N) (GH.put_same G2 w2.heap.size _) (by have := (HSN.out.sub g2.sub).sub g3.sub; rwa [hlen] at this) (g3.sub _ _ (g2.sub _ _ HB.out)) ((HF.out.sub g2.sub).sub g3.sub) HNL.out
    have hfi := first_ok k IH.out _ _ uv _ ks _ (withS bd.names S) h3 (sl2.sub g3.sub) (ex2.sub g3.sub) hsc HKD.out (by rw [ex2.1]; exact HKL.out)
    obtain ⟨aa, cc, rfl, _⟩ := sl2.shape
    have S2 := HS.out G2 w2 g2.sub h2
    have S3 := HS.out _ _ (g2.sub.trans g3.sub) h3
    have HFI := Lib.hid hfi
    have HUP := Lib.hid (fun r e w' (h : UnbPost (G2.put w2.heap.size (.cells #[.slice an bd.names.length cn] 34)) (w2.alloc (.cells #[.slice an bd.names.length cn] 34)) r e w') => UnbPost.up (HK.out.trans ((Keep.drew none' w1).trans k2)) (HGA.out.trans HK.out ⟨g2.sub, g2.eq⟩) (UnbPost.up k3 g3 h))
    have HS2 := Lib.hid (fun W (k : Keep none' (w2.alloc (.cells #[.slice an bd.names.length cn] 34)) W) => HS.out _ W (g2.sub.trans g3.sub) (h3.keep0 k))
    clear hfi k2 g2 h2 sl2 ex2 S0 hsc h3 k3 g3 hf0 hlen
    go_wp2_with fail
    refine hK.out _ _ (fun _ => S2) ?_
    clear hK K
    (try simp only [Act.put, List.setIfInBounds_toArray, List.set_cons_zero, List.set_cons_succ])
    (refine floatM (i := 9) rfl (by kernel_rfl) (by kernel_rfl) (fun K hK => ?_)); go_simp
    refine (with1_ok _ _ _ _ _).mono ?_
    rintro e4 w4 ⟨rfl, rfl⟩
    go_wp2_with fail
    refine hK.out _ _ (fun _ => S3) ?_
    clear hK K
    (try simp only [Act.put, List.setIfInBounds_toArray, List.set_cons_zero, List.set_cons_succ])
    (refine floatM (i := 10) rfl (by kernel_rfl) (by kernel_rfl) (fun K hK => ?_)); go_simp
    refine HFI.out.mono ?_
    rintro e3 w3 hp
    obtain ⟨v3, rfl, hv3⟩ := hp.val
    have S4 := HS2.out w3 (let ⟨_, k3, _⟩ := hp; k3)
    have HP := Lib.hid (HUP.out _ _ _ hp)
    clear hp S2 S3
    rcases hv3 with rfl | ⟨b3, rfl⟩
    all_goals
      go_wp2_with fail
      refine hK.out _ _ (fun _ => S4) ?_
      clear hK K
      (try simp only [Act.put, List.setIfInBounds_toArray, List.set_cons_zero, List.set_cons_succ])
      (refine float0 (i := 11) (v := ?_) rfl (by kernel_rfl) (by kernel_rfl) (by kernel_rfl) (by kernel_rfl) (fun _ _ _ h => h) (by rfl) ?_ ?_); rotate_left
      (intro wF; go_simp; try with_reducible rfl)
      (try simp only [Act.put, List.setIfInBounds_toArray, List.set_cons_zero, List.set_cons_succ])
      (refine floatE (by kernel_rfl) ?_)
      go_wp2_with fail
      go_ret
      exact HP.out
theorem unb_ok : ∀ k, UnbOk k
  | 0 => fun G w v f x S _ _ _ hd => by have := depth_kids x; omega
  | k + 1 => unb_step k (unb_ok k)
end Go.Proofs.YtabikmkoajdhmaaGreatDoor
