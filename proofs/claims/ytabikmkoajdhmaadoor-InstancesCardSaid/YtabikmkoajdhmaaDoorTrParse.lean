/- typerref.Parsed by a contract. -/
import Derived.Test.YtabikmkoajdhmaaDoorCanA
import Derived.Test.YtabikmkoajdhmaaDoorTrTyP
import Derived.Test.YtabikmkoajdhmaaDoorTrEnd
import Derived.Test.YtabikmkoajdhmaaDoorQ05
set_option linter.unusedVariables false
set_option linter.unusedSimpArgs false
set_option linter.unnecessarySimpa false
namespace Go.Proofs.YtabikmkoajdhmaaDoor
open Go.RowKit

def kindsL : List Str := [INT, BOOL]
theorem kindsL_ok (t : Str) : kindsB t = kindsL.contains t := by
  simp only [kindsB, kindsL, List.contains, List.elem, Bool.or_false]
  cases t == INT <;> cases t == BOOL <;> rfl
theorem kindsL_res : ResB kindsB := by
  intro w h
  rw [kindsL_ok] at h
  simp only [kindsL, List.contains_eq_mem, List.mem_cons, List.not_mem_nil, or_false, decide_eq_true_eq] at h
  rcases h with h | h <;> subst h <;> decide
/-- The list of kinds, as it lies in memory. -/
def KindsL (w : World) : Prop := ∃ b o cap, w.cell? ⟨9, 0, none⟩ = some (.slice (some ⟨b, o, none⟩) kindsL.length cap) ∧ ∀ j (h : j < kindsL.length), w.cell? ⟨b, o + j, none⟩ = some (.string (bs kindsL[j]))
theorem KindsL.keep0 {w w' : World} (h : KindsL w) (k : Keep none' w w') : KindsL w' := by
  obtain ⟨b, o, cap, h1, h2⟩ := h
  exact ⟨b, o, cap, k.cell_some h1 (fun x => x), fun j hj => k.cell_some (h2 j hj) (fun x => x)⟩
def faultT (what at' : Int) : Value := .agg #[.int .i64 what, .int .i64 at', .string ⟨#[]⟩, .int .i64 0, .int .i64 0]
def PrPost (G : GH) (w : World) (r : Except Flt (Ty × TS)) (e : Ending) (w' : World) : Prop := Keep none' w w' ∧ match r with
  | .ok (t, st) => ∃ b nv G', e = .returned (.tuple #[.pointer (some ⟨b, 0, none⟩), nv, faultT 0 0]) ∧ Grew G w G' ∧ Holds G' w' ∧ RTy G' b t ∧ SlR G' nv (st.m.map fun p => .string (bs p.1)) ∧ st.m.length ≤ 1000
  | .error f => e = .returned (.tuple #[.pointer none, .slice none 0 0, faultT f.what f.pos])
theorem fz_cellsT {a : World} {x : Nat} {T : TypeId} (h : a.heap[x]? = some (.cells fz T)) : (∀ i v, fz[i]? = some v → a.cell? ⟨x, i, none⟩ = some v) ∧ ∀ i, a.frozen? ⟨x, i, none⟩ = false :=
  ⟨fun i v hv => cell_of_heap h hv, fun i => free_of_heap h⟩
theorem seal_row0 {G : GH} {w : World} {base e : Nat} {v : Value} {n : Nat} {xs : List Value} (hw : Holds G w) (h : w.ownsRow base e 1 v n xs) (hg : ∀ k, v.ownBlock = some k → G k = none) :
    ∃ G2, G.sub G2 ∧ Holds G2 w ∧ SlR G2 v xs ∧ ∀ b, b < base → G2 b = G b := by
  obtain ⟨hl, h⟩ := h
  rcases h with ⟨rfl, rfl⟩ | ⟨g, cap, cur, rfl, hb, hgg, h1, h2, h3, h4⟩
  · have : xs = [] := by simpa using hl
    subst this
    exact ⟨G, GH.sub.refl G, hw, .inl ⟨rfl, rfl⟩, fun _ _ => rfl⟩
  · have hn : n = xs.length := by omega
    subst hn
    refine ⟨G.put g (.cells cur e), GH.sub_put (hg g rfl), hw.put hgg, .inr ⟨g, cur, e, cap, rfl, GH.put_same _ _ _, fun i hi => ?_⟩, fun b hb' => GH.put_other _ _ (by omega)⟩
    have h5 : cur.toList[i]? = some xs[i] := by
      have : (cur.toList.take (xs.length * 1))[i]? = xs[i]? := by rw [h4]
      rw [List.getElem?_take, if_pos (by omega)] at this
      rw [this]; simp [hi]
    simpa using h5
theorem keep1oT (a : World) (x i : Nat) (u : Value) : Keep (one' x) a (a.setCell ⟨x, i, none⟩ u) := Keep.setCell _ _ (fun _ => rfl)
theorem keep5oT (a : World) (x : Nat) (u0 u1 u2 u3 u4 : Value) : Keep (one' x) a (((((a.setCell ⟨x, 0, none⟩ u0).setCell ⟨x, 1, none⟩ u1).setCell ⟨x, 2, none⟩ u2).setCell ⟨x, 3, none⟩ u3).setCell ⟨x, 4, none⟩ u4) :=
  ((((keep1oT _ x 0 u0).trans (keep1oT _ x 1 u1)).trans (keep1oT _ x 2 u2)).trans (keep1oT _ x 3 u3)).trans (keep1oT _ x 4 u4)
set_option maxHeartbeats 2000000 in
theorem tr_parsed_long (G : GH) (S : Str) (h : ¬ S.length ≤ 300) (w : World) : Calls Tryd.prog 13 #[.string (bs S)] w (PrPost G w (.error { what := 1 })) := by
  have hS := bs_size S
  have q1 : decide ((300 : Int) < (S.length : Int)) = true := by simp; omega
  clear h
  go_enter Tryd.func13, Tryd.ntmps13
  go_wp2_with fail
  refine bodyPost_ret (v := .tuple #[.pointer none, .slice none 0 0, faultT 1 0]) (by simp [results, Tryd.results13, go_sem, faultT]) rfl ⟨Keep.alloc _ _ _, rfl⟩
set_option maxRecDepth 100000 in
set_option maxHeartbeats 8000000 in
theorem tr_parsed_short (G : GH) (S : Str) (h : S.length ≤ 300) (w : World) (hG : Holds G w) (hw : KindsL w) {q : Ty × TS × RS} (hq : RefT S q) : Calls Tryd.prog 13 #[.string (bs S)] w (PrPost G w (refT q)) := by
  have hS := bs_size S
  have q1 : decide ((300 : Int) < (S.length : Int)) = false := by simp; omega
  have k0 : Keep none' w (w.alloc (.cells fz 32)) := Keep.alloc _ _ _
  have x0 : (w.alloc (.cells fz 32)).heap[w.heap.size]? = some (.cells fz 32) := heap_new _ _
  obtain ⟨kb, ko, kcap, hg, hc⟩ := hw.keep0 k0
  have hkb : kb < (w.alloc (.cells fz 32)).heap.size := lt_of_cell (hc 0 (by decide))
  have ht := tr_tokens kindsB kindsL_res kindsL kindsL_ok S (by omega) (by decide) (w.alloc (.cells fz 32)) kb ko kcap hkb (fun W k j hj => k.cell_some (hc j hj) (fun x => x))
  obtain ⟨nk, hnk⟩ : ∃ nk, nk = kindsL.length := ⟨_, rfl⟩
  rw [← hnk] at hg ht
  have HT := Lib.hid ht; have HK0 := Lib.hid k0; have HX0 := Lib.hid x0; have HS := Lib.hid h; have HQ := Lib.hid hq; have HG := Lib.hid hG
  clear ht k0 x0 h hq hc hkb hnk hw hG
  unfold fz at hg
  go_enter Tryd.func13, Tryd.ntmps13
  go_wp2_with fail
  refine HT.out.mono ?_
  rintro e w1 ⟨v, x, rfl, k1, hown⟩
  obtain ⟨tb, arr, htb, hhb, htk⟩ := tk_of kindsL_res HS.out hown
  obtain ⟨cap, rfl⟩ := htk.lv
  have K1 : Keep none' w w1 := HK0.out.trans k1
  have x1 := k1.get HX0.out (fun x => x)
  have hsz : w.heap.size < w1.heap.size := lt_of_heap x1
  have htb' := lt_of_heap hhb
  obtain ⟨n, hn⟩ : ∃ n, n = (toks kindsB S 0).length := ⟨_, rfl⟩
  have htl := (toks_tg (kw := kindsB) HS.out).tl
  have hpos : 0 < (toks kindsB S 0).length := by
    have := htl.ne
    cases h : toks kindsB S 0 with
    | nil => exact absurd h this
    | cons a r => simp
  have HK1 := Lib.hid K1; have HX1 := Lib.hid x1; have HSZ := Lib.hid hsz; have HTB := Lib.hid hhb; have HTK := Lib.hid htk; have HTL := Lib.hid htl; have HPOS := Lib.hid hpos; have HTBL := Lib.hid htb
  rw [← hn]
  have HN := Lib.hid hn
  clear K1 x1 hsz htb' hhb htk htl hpos k1 hown hn htb
  go_wp2_with fail
  obtain ⟨rb, hrb⟩ : ∃ rb, rb = w1.heap.size := ⟨_, rfl⟩
  obtain ⟨ro, hro⟩ : ∃ ro, ro = rdO (.slice (some ⟨tb, 0, none⟩) n cap) 0 none := ⟨_, rfl⟩
  obtain ⟨W2, hW2⟩ : ∃ W2, W2 = (w1.alloc ro).alloc (.cells #[.slice none 0 0] 39) := ⟨_, rfl⟩
  have k2 : Keep none' w1 W2 := by rw [hW2]; exact (Keep.alloc _ _ _).trans (Keep.alloc _ _ _)
  have hs2 : W2.heap.size = rb + 2 := by rw [hW2, hrb]; simp
  have r2 : W2.heap[rb]? = some ro := by rw [hW2, hrb]; exact heap_old (heap_new _ _)
  have n2 : W2.heap[rb + 1]? = some (.cells #[.slice none 0 0] 39) := by
    have := heap_new (w1.alloc ro) (.cells #[.slice none 0 0] 39)
    rw [size_alloc] at this
    rw [hW2, hrb]; exact this
  have b2 := k2.get HTB.out (fun x => x)
  have htbl := lt_of_heap HTB.out
  have hG1 : G tb = none := HG.out.fresh (by have := HTBL.out; simp at this; omega)
  have hGr : G rb = none := HG.out.fresh (by have := HSZ.out; omega)
  have hGn : G (rb + 1) = none := HG.out.fresh (by have := HSZ.out; omega)
  have hG2 : Holds (G.put tb (.cells arr 121)) W2 := (HG.out.keep0 (HK1.out.trans k2)).put b2
  have hi : TI (G.put tb (.cells arr 121)) ⟨x, toks kindsB S 0, tb, arr, .slice (some ⟨tb, 0, none⟩) n cap, rb⟩ (rb + 1) (rb + 2) ⟨[], 0⟩ ⟨toks kindsB S 0, none⟩ W2 :=
    ⟨hG2, GH.put_same _ _ _, by show GH.put _ _ _ rb = none; rw [GH.put_other _ _ (by omega)]; exact hGr, by rw [GH.put_other _ _ (by omega)]; exact hGn, by show rb < rb + 2; omega, by omega, by omega, by show rb ≠ rb + 1; omega,
      ⟨by rw [HN.out]; exact HTK.out, b2, by show tb ≠ rb; omega, ⟨0, rfl, HPOS.out, by rw [← hro]; exact r2⟩, HTL.out⟩,
      fun _ => ⟨.slice none 0 0, n2, World.ownsRow_nil _ _ _ _, fun g hg => by cases hg⟩, ⟨rfl, fun k h => by cases h⟩, fun _ => by simp⟩
  have hx := (tr_types _ _ _ readFuel).2 _ _ q rfl HQ.out.run _ _ hi
  dsimp only at hx
  have hw2 : (w1.alloc (.cells #[.slice (some ⟨tb, 0, none⟩) n cap, .int .i64 0, .int .i64 (-1)] 70)).alloc (.cells #[.slice none 0 0] 39) = W2 := by rw [hW2, hro]; rfl
  rw [hw2, ← hrb]
  have HX := Lib.hid hx; have HK2 := Lib.hid (HK1.out.trans k2); have HX2 := Lib.hid (k2.get HX1.out (fun x => x)); have HS2 := Lib.hid hs2; have HG1 := Lib.hid hG1
  have HSZ2 : Hid (w.heap.size < rb) := Lib.hid (by have := HSZ.out; omega)
  have HTB2 : Hid (w.heap.size < tb) := Lib.hid (by have := HTBL.out; simp at this; omega)
  clear hw2 hx hi hG2 hGn hGr hG1 b2 n2 r2 hs2 k2 hW2 hro htbl hrb HTB HTK HTL HPOS HTBL
  refine HX.out.mono ?_
  rintro e w3 ⟨k3, b, G3, rfl, g3, i3, x3⟩
  have hne := rd_need_end i3.ri
  dsimp only at hne
  have kw3 : Keep none' w w3 := HK2.out.trans' k3 (fun _ _ e => e) (fun c hc e => by
    have hz := HSZ2.out
    rcases e with e | e | e
    · have e : c = rb := e; omega
    · omega
    · have := e.1; omega)
  have xw3 := k3.get HX2.out (fun e => by
    have hz := HSZ2.out
    rcases e with e | e | e
    · have e : w.heap.size = rb := e; omega
    · omega
    · have := e.1; omega)
  have HNE := Lib.hid hne; have HI3 := Lib.hid i3; have HX3 := Lib.hid x3; have HG3 := Lib.hid g3; have HK3 := Lib.hid kw3; have HXW3 := Lib.hid xw3
  clear hne i3 x3 g3 kw3 xw3 k3
  go_wp2_with fail
  refine HNE.out.mono ?_
  rintro e w4 ⟨y, rfl, k4, hbd⟩
  have HSZ3 := HSZ2.out
  have K4 := Lib.hid (keepY HK3.out k4 (Nat.le_of_lt HSZ2.out))
  have x4 := k4.get HXW3.out (fun (e : w.heap.size = rb) => by omega)
  have hG4 : Holds G3 w4 := HI3.out.holds.keep k4 HI3.out.off1
  have HG4 := Lib.hid hG4; have HX4 := Lib.hid x4
  obtain ⟨hz, f0⟩ := fz_cellsT x4
  have d0 := hz 0 _ rfl; have d1 := hz 1 _ rfl; have d2 := hz 2 _ rfl; have d3 := hz 3 _ rfl; have d4 := hz 4 _ rfl
  have KP := Lib.hid (fun u0 u1 u2 u3 u4 => keep5 K4.out (Nat.le_refl _) u0 u1 u2 u3 u4)
  have HKN := Lib.hid k4
  clear hz x4 hG4 k4 HSZ3
  cases hb : (q.2.2.need .fin).bad with
  | some p =>
    have HB := Lib.hid hb
    replace hbd : w4.cell? ⟨rb, 2, none⟩ = some (.int .i64 (p : Int)) := by rw [hb] at hbd; exact hbd
    have q2 : decide ((0 : Int) ≤ (p : Int)) = true := by simp
    clear hb
    go_wp2_with fail
    have S0 : w4.drew.cell? ⟨rb, 2, none⟩ = some (.int .i64 (p : Int)) := hbd
    refine wp_region_float (fun w' => w'.cell? ⟨rb, 2, none⟩ = some (.int .i64 (p : Int))) [0, 1, 2, 4, 5, 6] [3] (by kernel_rfl) ?_
    (refine float0 (i := 0) (v := ?_) rfl (by kernel_rfl) (by kernel_rfl) (by kernel_rfl) (by kernel_rfl) (fun _ _ _ h => h) (by rfl) ?_ ?_); rotate_left
    (intro wF; go_simp; try with_reducible rfl)
    (try simp only [Act.put, List.setIfInBounds_toArray, List.set_cons_zero, List.set_cons_succ])
    (refine float0 (i := 1) (v := ?_) rfl (by kernel_rfl) (by kernel_rfl) (by kernel_rfl) (by kernel_rfl) (fun _ _ _ h => h) (by rfl) ?_ ?_); rotate_left
    (intro wF; go_simp; try with_reducible rfl)
    (try simp only [Act.put, List.setIfInBounds_toArray, List.set_cons_zero, List.set_cons_succ])
    (refine float0 (i := 2) (v := ?_) rfl (by kernel_rfl) (by kernel_rfl) (by kernel_rfl) (by kernel_rfl) (fun _ _ _ h => h) (by rfl) ?_ ?_); rotate_left
    (intro wF; go_simp; try with_reducible rfl)
    (try simp only [Act.put, List.setIfInBounds_toArray, List.set_cons_zero, List.set_cons_succ])
    (refine floatS (i := 3) (v := ?_) rfl (by kernel_rfl) (by kernel_rfl) (by kernel_rfl) (by kernel_rfl) (fun _ _ _ h => h) (by assumption) (by rfl) ?_ ?_); rotate_left
    (intro wF hF; (try dsimp only at hF); go_simp; try with_reducible rfl)
    (try simp only [Act.put, List.setIfInBounds_toArray, List.set_cons_zero, List.set_cons_succ])
    (refine float0 (i := 4) (v := ?_) rfl (by kernel_rfl) (by kernel_rfl) (by kernel_rfl) (by kernel_rfl) (fun _ _ _ h => h) (by rfl) ?_ ?_); rotate_left
    (intro wF; go_simp; try with_reducible rfl)
    (try simp only [Act.put, List.setIfInBounds_toArray, List.set_cons_zero, List.set_cons_succ])
    (refine float0 (i := 5) (v := ?_) rfl (by kernel_rfl) (by kernel_rfl) (by kernel_rfl) (by kernel_rfl) (fun _ _ _ h => h) (by rfl) ?_ ?_); rotate_left
    (intro wF; go_simp; try with_reducible rfl)
    (try simp only [Act.put, List.setIfInBounds_toArray, List.set_cons_zero, List.set_cons_succ])
    (refine float0 (i := 6) (v := ?_) rfl (by kernel_rfl) (by kernel_rfl) (by kernel_rfl) (by kernel_rfl) (fun _ _ _ h => h) (by rfl) ?_ ?_); rotate_left
    (intro wF; go_simp; try with_reducible rfl)
    (try simp only [Act.put, List.setIfInBounds_toArray, List.set_cons_zero, List.set_cons_succ])
    (refine floatT (l := _) (k := 7) rfl rfl (by kernel_rfl) ?_)
    go_wp2_with fail
    refine bodyPost_ret (v := .tuple #[.pointer none, .slice none 0 0, faultT 2 p]) (by simp [results, Tryd.results13, go_sem, faultT, d0, d1, d2, d3, d4]) rfl ?_
    have hr : refT q = .error { what := 2, pos := p } := by simp only [refT, HB.out]
    rw [hr]
    exact ⟨(KP.out _ _ _ _ _).trans (Keep.drew _ _), rfl⟩
  | none =>
    have HB := Lib.hid hb
    replace hbd : w4.cell? ⟨rb, 2, none⟩ = some (.int .i64 (-1)) := by rw [hb] at hbd; exact hbd
    clear hb
    obtain ⟨g1, g2⟩ := HQ.out.sz HB.out
    have hdp := tr_size (HX3.out g1) (by omega) w4 HG4.out
    have HDP := Lib.hid hdp; have HG2 := Lib.hid g2
    obtain ⟨sv, n1, n2, n3⟩ := HI3.out.nm g1
    have hnm := HI3.out.cnt g1
    clear hdp g2
    go_wp2_with fail
    refine HDP.out.mono ?_
    rintro e w5 ⟨rfl, m, rfl⟩
    have n1' := HKN.out.get n1 (fun (e : rb + 1 = rb) => by omega)
    have o1 := own_keep n2 HKN.out (fun g hg (e : g = rb) => by have := (n2.lt g hg).1; omega)
    obtain ⟨ao, cp, rfl, _⟩ := own_shape o1
    have cnm : (w4.drewN m).cell? ⟨rb + 1, 0, none⟩ = some (.slice ao q.2.1.m.length cp) := by
      have : w4.cell? ⟨rb + 1, 0, none⟩ = some (.slice ao q.2.1.m.length cp) := cell_of_heap (i := 0) n1' rfl
      simpa using this
    have HO1 := Lib.hid o1; have HN3 := Lib.hid n3
    have hml : q.2.1.m.length ≤ 1000 := by
      have h1 : q.2.1.m.length + q.2.2.l.length ≤ (toks kindsB S 0).length := hnm
      have h2 : (toks kindsB S 0).length ≤ 301 := toks_len301 HS.out
      omega
    have HML := Lib.hid hml
    have e0 : (w4.drewN m).cell? ⟨w.heap.size, 0, none⟩ = _ := d0
    have e1 : (w4.drewN m).cell? ⟨w.heap.size, 1, none⟩ = _ := d1
    have e2 : (w4.drewN m).cell? ⟨w.heap.size, 2, none⟩ = _ := d2
    have e3 : (w4.drewN m).cell? ⟨w.heap.size, 3, none⟩ = _ := d3
    have e4 : (w4.drewN m).cell? ⟨w.heap.size, 4, none⟩ = _ := d4
    clear n1 n2 n3 n1' o1 hnm hml
    cases hd : decide (q.1.size > 120) with
    | true =>
      have q2 : decide ((120 : Int) < (q.1.size : Int)) = true := by simp at hd ⊢; omega
      have hr : refT q = .error { what := 8 } := by simp only [refT, HB.out]; rw [if_pos (of_decide_eq_true hd)]
      have HR := Lib.hid hr
      clear hr hd
      go_wp2_with fail
      refine bodyPost_ret (v := .tuple #[.pointer none, .slice none 0 0, faultT 8 0]) (by simp [results, Tryd.results13, go_sem, faultT, d0, d1, d2, d3, d4]) rfl ?_
      rw [HR.out]
      exact ⟨keep5 (K4.out.trans (Keep.drewN _ _ _)) (Nat.le_refl _) _ _ _ _ _, rfl⟩
    | false =>
      have q2 : decide ((120 : Int) < (q.1.size : Int)) = false := by simp at hd ⊢; omega
      have hr : refT q = .ok (q.1, q.2.1) := by simp only [refT, HB.out]; rw [if_neg (of_decide_eq_false hd)]
      have HR := Lib.hid hr
      clear hr hd
      go_wp2_with fail
      have S0 : (w4.drewN m).drew.cell? ⟨rb + 1, 0, none⟩ = some (.slice ao q.2.1.m.length cp) := cnm
      refine wp_region_float (fun w' => w'.cell? ⟨rb + 1, 0, none⟩ = some (.slice ao q.2.1.m.length cp)) [0, 2, 3, 4] [1] (by kernel_rfl) ?_
      (refine float0 (i := 0) (v := ?_) rfl (by kernel_rfl) (by kernel_rfl) (by kernel_rfl) (by kernel_rfl) (fun _ _ _ h => h) (by rfl) ?_ ?_); rotate_left
      (intro wF; go_simp; try with_reducible rfl)
      (try simp only [Act.put, List.setIfInBounds_toArray, List.set_cons_zero, List.set_cons_succ])
      (refine floatS (i := 1) (v := ?_) rfl (by kernel_rfl) (by kernel_rfl) (by kernel_rfl) (by kernel_rfl) (fun _ _ _ h => h) (by assumption) (by rfl) ?_ ?_); rotate_left
      (intro wF hF; (try dsimp only at hF); go_simp; try with_reducible rfl)
      (try simp only [Act.put, List.setIfInBounds_toArray, List.set_cons_zero, List.set_cons_succ])
      (refine float0 (i := 2) (v := ?_) rfl (by kernel_rfl) (by kernel_rfl) (by kernel_rfl) (by kernel_rfl) (fun _ _ _ h => h) (by rfl) ?_ ?_); rotate_left
      (intro wF; go_simp; try with_reducible rfl)
      (try simp only [Act.put, List.setIfInBounds_toArray, List.set_cons_zero, List.set_cons_succ])
      (refine float0 (i := 3) (v := ?_) rfl (by kernel_rfl) (by kernel_rfl) (by kernel_rfl) (by kernel_rfl) (fun _ _ _ h => h) (by rfl) ?_ ?_); rotate_left
      (intro wF; go_simp; try with_reducible rfl)
      (try simp only [Act.put, List.setIfInBounds_toArray, List.set_cons_zero, List.set_cons_succ])
      (refine float0 (i := 4) (v := ?_) rfl (by kernel_rfl) (by kernel_rfl) (by kernel_rfl) (by kernel_rfl) (fun _ _ _ h => h) (by rfl) ?_ ?_); rotate_left
      (intro wF; go_simp; try with_reducible rfl)
      (try simp only [Act.put, List.setIfInBounds_toArray, List.set_cons_zero, List.set_cons_succ])
      (refine floatT (l := _) (k := 5) rfl rfl (by kernel_rfl) ?_)
      go_wp2_with fail
      refine bodyPost_ret (v := .tuple #[.pointer (some ⟨b, 0, none⟩), .slice ao q.2.1.m.length cp, faultT 0 0]) (by simp [results, Tryd.results13, go_sem, faultT, d0, d1, d2, d3, d4]) rfl ?_
      rw [HR.out]
      obtain ⟨G2, s2, h2, r2, q3⟩ := seal_row0 HG4.out HO1.out HN3.out
      have hz := HSZ2.out
      have hs2 := HS2.out
      have hG3 : ∀ c, c < w.heap.size + 1 → G3 c = G c := fun c hc => by
        rw [HG3.out.eq c (by omega), GH.put_other _ _ (by have := HTB2.out; omega)]
      have hGw : G2 w.heap.size = none := by rw [q3 _ (by omega), hG3 _ (by omega)]; exact HG.out.fresh (Nat.le_refl _)
      refine ⟨(KP.out _ _ _ _ _).trans ((Keep.drewN _ _ _).trans (Keep.drew _ _)), b, _, G2, rfl, ⟨(GH.sub_put HG1.out).trans (HG3.out.sub.trans s2), fun c hc => by rw [q3 c (by omega), hG3 c (by omega)]⟩, ?_, (HX3.out g1).sub s2, ?_, HML.out⟩
      · have h2' : Holds G2 (w4.drewN m).drew := (h2.keep0 (Keep.drewN none' w4 m)).keep0 (Keep.drew none' _)
        exact h2'.keep (keep5oT _ _ _ _ _ _ _) (fun c o hc (e : c = w.heap.size) => by rw [e, hGw] at hc; cases hc)
      · exact r2
end Go.Proofs.YtabikmkoajdhmaaDoor
