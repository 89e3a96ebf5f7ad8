/- typerref's reading of an atom, by a contract. -/
import Derived.Test.YtabikmkoajdhmaaDoorTrX
set_option linter.unusedVariables false
set_option linter.unusedSimpArgs false
set_option linter.unnecessarySimpa false
namespace Go.Proofs.YtabikmkoajdhmaaDoor
open Go.RowKit

set_option maxRecDepth 100000 in
set_option maxHeartbeats 4000000 in
theorem tr_atom (R : Rdr) (f : Nat) (ih : ExpOk R f) (s : RS) (q : Ex × RS) (hq : rAtom (f + 1) s = some q) (G : GH) (w : World) (hi : EInv G R s w) : Calls Tryd.prog 49 #[.pointer (some ⟨R.rb, 0, none⟩)] w (ExpPost G R w q) := by
  obtain ⟨x, T, tb, arr, lv, rb⟩ := R
  obtain ⟨j, hl, hj, hr, ha0, ha1, ha2, hp⟩ := hd_at hi.ri
  dsimp only at hj hr ha0 ha1 ha2 ⊢
  obtain ⟨cap, hlv⟩ := hi.ri.tk.lv
  dsimp only at hlv
  have c0 : w.cell? ⟨rb, 0, none⟩ = some (.slice (some ⟨tb, 0, none⟩) T.length cap) := by rw [← hlv]; exact cell_of_heap (i := 0) hr rfl
  have c1 : w.cell? ⟨rb, 1, none⟩ = some (.int .i64 j) := cell_of_heap (i := 1) hr rfl
  have t0 := cell_of_heap hi.ri.hb ha0
  have t1 := cell_of_heap hi.ri.hb ha1
  have t2 := cell_of_heap hi.ri.hb ha2
  dsimp only at t0 t1 t2
  have hj0 : (0 : Int) ≤ (j : Int) := by omega
  have hji : (j : Int) < (T.length : Int) := by omega
  have hlen : T.length ≤ 1000 := hi.ri.tk.len
  obtain ⟨is, his⟩ : ∃ is, is = rstr (hd s.l).kind := ⟨_, rfl⟩
  obtain ⟨tx, htx⟩ : ∃ tx, tx = if (hd s.l).kind = .bad then x else (hd s.l).text := ⟨_, rfl⟩
  obtain ⟨ps, hps⟩ : ∃ ps, ps = (hd s.l).pos := ⟨_, rfl⟩
  rw [← his] at t0; rw [← htx] at t1; rw [← hps] at t2
  have HIS := Lib.hid his; have HTX := Lib.hid htx; have HPS := Lib.hid hps; have HI := Lib.hid hi; have HQ := Lib.hid hq; have IH := Lib.hid ih
  clear hr ha0 ha1 ha2 his htx hps hl hlv hi hq ih
  go_enter Tryd.func49, Tryd.ntmps49
  go_wp2_with fail
  refine wp_region_float (fun w' => w'.cell? ⟨rb, 0, none⟩ = some (.slice (some ⟨tb, 0, none⟩) T.length cap) ∧ w'.cell? ⟨rb, 1, none⟩ = some (.int .i64 j) ∧ w'.cell? ⟨tb, j * 3, none⟩ = some (.string (bs is)) ∧ w'.cell? ⟨tb, j * 3 + 1, none⟩ = some (.string (bs tx)) ∧ w'.cell? ⟨tb, j * 3 + 2, none⟩ = some (.int .i64 ps)) [0, 1, 2, 4, 5, 6, 8] [3, 7, 9] (by kernel_rfl) ?_
  have S0 : w.drew.cell? ⟨rb, 0, none⟩ = some (.slice (some ⟨tb, 0, none⟩) T.length cap) ∧ w.drew.cell? ⟨rb, 1, none⟩ = some (.int .i64 j) ∧ w.drew.cell? ⟨tb, j * 3, none⟩ = some (.string (bs is)) ∧ w.drew.cell? ⟨tb, j * 3 + 1, none⟩ = some (.string (bs tx)) ∧ w.drew.cell? ⟨tb, j * 3 + 2, none⟩ = some (.int .i64 ps) := ⟨c0, c1, t0, t1, t2⟩
  (refine float0 (i := 0) (v := ?_) rfl (by kernel_rfl) (by kernel_rfl) (by kernel_rfl) (by kernel_rfl) (fun _ _ _ h => h) (by rfl) ?_ ?_); rotate_left
  (intro wF; go_simp; try with_reducible rfl)
  (try simp only [Act.put, List.setIfInBounds_toArray, List.set_cons_zero, List.set_cons_succ])
  (refine float0 (i := 1) (v := ?_) rfl (by kernel_rfl) (by kernel_rfl) (by kernel_rfl) (by kernel_rfl) (fun _ _ _ h => h) (by rfl) ?_ ?_); rotate_left
  (intro wF; go_simp; try with_reducible rfl)
  (try simp only [Act.put, List.setIfInBounds_toArray, List.set_cons_zero, List.set_cons_succ])
  (refine float0 (i := 2) (v := ?_) rfl (by kernel_rfl) (by kernel_rfl) (by kernel_rfl) (by kernel_rfl) (fun _ _ _ h => h) (by rfl) ?_ ?_); rotate_left
  (intro wF; go_simp; try with_reducible rfl)
  (try simp only [Act.put, List.setIfInBounds_toArray, List.set_cons_zero, List.set_cons_succ])
  (refine floatS (i := 3) (v := ?_) rfl (by kernel_rfl) (by kernel_rfl) (by kernel_rfl) (by kernel_rfl) (fun _ _ _ h => h) (by assumption) (by rfl) ?_ ?_); rotate_left
  (intro wF hF; (try dsimp only at hF); go_simp; try with_reducible rfl)
  (try simp only [Act.put, List.setIfInBounds_toArray, List.set_cons_zero, List.set_cons_succ])
  (refine float0 (i := 4) (v := ?_) rfl (by kernel_rfl) (by kernel_rfl) (by kernel_rfl) (by kernel_rfl) (fun _ _ _ h => h) (by rfl) ?_ ?_); rotate_left
  (intro wF; go_simp; try with_reducible rfl)
  (try simp only [Act.put, List.setIfInBounds_toArray, List.set_cons_zero, List.set_cons_succ])
  (refine float0 (i := 5) (v := ?_) rfl (by kernel_rfl) (by kernel_rfl) (by kernel_rfl) (by kernel_rfl) (fun _ _ _ h => h) (by rfl) ?_ ?_); rotate_left
  (intro wF; go_simp; try with_reducible rfl)
  (try simp only [Act.put, List.setIfInBounds_toArray, List.set_cons_zero, List.set_cons_succ])
  (refine float0 (i := 6) (v := ?_) rfl (by kernel_rfl) (by kernel_rfl) (by kernel_rfl) (by kernel_rfl) (fun _ _ _ h => h) (by rfl) ?_ ?_); rotate_left
  (intro wF; go_simp; try with_reducible rfl)
  (try simp only [Act.put, List.setIfInBounds_toArray, List.set_cons_zero, List.set_cons_succ])
  (refine floatS (i := 7) (v := ?_) rfl (by kernel_rfl) (by kernel_rfl) (by kernel_rfl) (by kernel_rfl) (fun _ _ _ h => h) (by assumption) (by rfl) ?_ ?_); rotate_left
  (intro wF hF; (try dsimp only at hF); go_simp; try with_reducible rfl)
  (try simp only [Act.put, List.setIfInBounds_toArray, List.set_cons_zero, List.set_cons_succ])
  (refine float0 (i := 8) (v := ?_) rfl (by kernel_rfl) (by kernel_rfl) (by kernel_rfl) (by kernel_rfl) (fun _ _ _ h => h) (by rfl) ?_ ?_); rotate_left
  (intro wF; go_simp; try with_reducible rfl)
  (try simp only [Act.put, List.setIfInBounds_toArray, List.set_cons_zero, List.set_cons_succ])
  (refine floatS (i := 9) (v := ?_) rfl (by kernel_rfl) (by kernel_rfl) (by kernel_rfl) (by kernel_rfl) (fun _ _ _ h => h) (by assumption) (by rfl) ?_ ?_); rotate_left
  (intro wF hF; (try dsimp only at hF); go_simp; try with_reducible rfl)
  (try simp only [Act.put, List.setIfInBounds_toArray, List.set_cons_zero, List.set_cons_succ])
  (refine floatM (i := 10) rfl (by kernel_rfl) (by kernel_rfl) (fun K hK => ?_)); go_simp
  refine hK.out _ _ (fun _ => (have kA := fun (o : Obj) => Keep.alloc none' w.drew o; ⟨(kA _).cell_some S0.1 (fun x => x), (kA _).cell_some S0.2.1 (fun x => x), (kA _).cell_some S0.2.2.1 (fun x => x), (kA _).cell_some S0.2.2.2.1 (fun x => x), (kA _).cell_some S0.2.2.2.2 (fun x => x)⟩)) ?_
  clear hK K
  (try simp only [Act.put, List.setIfInBounds_toArray, List.set_cons_zero, List.set_cons_succ])
  (refine floatT (l := _) (k := 11) rfl rfl (by kernel_rfl) ?_)
  go_wp2_with fail
  have k1 : Keep none' w (w.alloc (.cells #[.string (bs is), .string (bs tx), .int .i64 ps] 121)).drew := (Keep.alloc _ _ _).trans (Keep.drew _ _)
  have b1 : (w.alloc (.cells #[.string (bs is), .string (bs tx), .int .i64 ps] 121)).drew.heap[w.heap.size]? = some (.cells #[.string (bs is), .string (bs tx), .int .i64 ps] 121) := heap_new _ _
  have i1 := HI.out.keep0 k1
  obtain ⟨tk, htk⟩ : ∃ tk, tk = w.heap.size := ⟨_, rfl⟩
  obtain ⟨W1, hW1⟩ : ∃ W1, W1 = (w.alloc (.cells #[.string (bs is), .string (bs tx), .int .i64 ps] 121)).drew := ⟨_, rfl⟩
  have hrb : tk ≠ rb := by have := HI.out.ri.lt; dsimp only at this; omega
  have hsz : w.heap.size ≤ tk := by omega
  rw [← hW1] at k1 b1 i1 ⊢
  rw [← htk] at b1 ⊢
  have HK1 := Lib.hid k1; have HB1 := Lib.hid b1; have I1 := Lib.hid i1; have HRB := Lib.hid hrb; have HTK := Lib.hid hsz
  clear k1 b1 i1 hrb c0 c1 t0 t1 t2 S0 hW1 hj0 hji hj hlen htk hsz
  refine (rd_take I1.out.ri .name gr_name (by simp)).mono ?_
  cases hn : s.isK .name with
  | true =>
    rintro e w2 ⟨rfl, k2⟩
    rw [if_pos rfl] at k2
    have i2 := I1.out.step k2
    have b2 := k2.1.get HB1.out HRB.out
    have d0 := cell_of_heap (i := 0) b2 rfl; have d1 := cell_of_heap (i := 1) b2 rfl; have d2 := cell_of_heap (i := 2) (show (w2.alloc (.cells #[.string (bs tx)] 9)).heap[tk]? = _ from heap_old b2) rfl
    have K2 : Keep (one' rb) w w2 := HK1.out.of_none.trans k2.1
    have I2 := Lib.hid i2; have HK2 := Lib.hid K2
    clear k2 i2 b2 K2
    go_wp2_with fail
    go_ret
    have hkd : (hd s.l).kind = .name := by
      unfold RS.isK at hn; simp only [Bool.and_eq_true, decide_eq_true_eq] at hn; exact hn.2
    have hq := HQ.out
    rw [rAtom, if_pos hn] at hq
    injection hq with hq; subst hq
    obtain ⟨g, i4⟩ := I2.out.two (.cells #[.string (bs tx)] 9) (xO is (.slice (some ⟨w2.heap.size, 0, none⟩) 1 1) (.slice none 0 0) ps)
    have e1 : is = rNAME := by rw [HIS.out, hkd]; rfl
    have e2 : tx = (hd s.l).text := by rw [HTX.out, hkd]; rfl
    have ks : Keep none' w2 ((w2.alloc (.cells #[.string (bs tx)] 9)).alloc (xO is (.slice (some ⟨w2.heap.size, 0, none⟩) 1 1) (.slice none 0 0) ps)) := (Keep.alloc _ _ _).trans (Keep.alloc _ _ _)
    have hg := GH.put_same (G.put w2.heap.size (.cells #[.string (bs tx)] 9)) (w2.heap.size + 1) (xO is (.slice (some ⟨w2.heap.size, 0, none⟩) 1 1) (.slice none 0 0) ps)
    refine ⟨HK2.out.trans ks.of_none, _, _, rfl, Grew.keep HK2.out g, i4, ⟨_, _, _, _, hg⟩, fun _ => ?_⟩
    refine XR.leaf (x := .name (hd s.l).pos (hd s.l).text) (by rw [hg, e1]; rfl) ?_ rfl
    show SlR _ _ [.string (bs (hd s.l).text)]
    rw [← e2]
    exact slr_one (T := 9) (by rw [GH.put_other _ _ (by omega)]; exact GH.put_same _ _ _)
  | false =>
    rintro e w2 ⟨rfl, k2⟩
    rw [if_neg (by simp)] at k2
    have i2 := I1.out.step k2
    have b2 := k2.1.get HB1.out HRB.out
    have K2 : Keep (one' rb) w w2 := HK1.out.of_none.trans k2.1
    have I2 := Lib.hid i2; have HK2 := Lib.hid K2; have HB2 := Lib.hid b2; have HN := Lib.hid hn
    clear k2 i2 b2 K2 hn
    go_wp2_with fail
    refine (rd_take I2.out.ri .num gr_num (by simp)).mono ?_
    cases hm : s.isK .num with
    | true =>
      rintro e w3 ⟨rfl, k3⟩
      rw [if_pos rfl] at k3
      have i3 := I2.out.step k3
      have b3 := k3.1.get HB2.out HRB.out
      have d0 := cell_of_heap (i := 0) b3 rfl; have d1 := cell_of_heap (i := 1) b3 rfl; have d2 := cell_of_heap (i := 2) (show (w3.alloc (.cells #[.string (bs tx)] 9)).heap[tk]? = _ from heap_old b3) rfl
      have K3 : Keep (one' rb) w w3 := HK2.out.trans k3.1
      have I3 := Lib.hid i3; have HK3 := Lib.hid K3
      clear k3 i3 b3 K3
      go_wp2_with fail
      go_ret
      have hkd : (hd s.l).kind = .num := by
        unfold RS.isK at hm; simp only [Bool.and_eq_true, decide_eq_true_eq] at hm; exact hm.2
      have hq := HQ.out
      rw [rAtom, if_neg (by rw [HN.out]; simp), if_pos hm] at hq
      injection hq with hq; subst hq
      obtain ⟨g, i4⟩ := I3.out.two (.cells #[.string (bs tx)] 9) (xO is (.slice (some ⟨w3.heap.size, 0, none⟩) 1 1) (.slice none 0 0) ps)
      have e1 : is = rNUM := by rw [HIS.out, hkd]; rfl
      have e2 : tx = (hd s.l).text := by rw [HTX.out, hkd]; rfl
      have ks : Keep none' w3 ((w3.alloc (.cells #[.string (bs tx)] 9)).alloc (xO is (.slice (some ⟨w3.heap.size, 0, none⟩) 1 1) (.slice none 0 0) ps)) := (Keep.alloc _ _ _).trans (Keep.alloc _ _ _)
      have hg := GH.put_same (G.put w3.heap.size (.cells #[.string (bs tx)] 9)) (w3.heap.size + 1) (xO is (.slice (some ⟨w3.heap.size, 0, none⟩) 1 1) (.slice none 0 0) ps)
      refine ⟨HK3.out.trans ks.of_none, _, _, rfl, Grew.keep HK3.out g, i4, ⟨_, _, _, _, hg⟩, fun _ => ?_⟩
      refine XR.leaf (x := .num (hd s.l).text) (by rw [hg, e1]; rfl) ?_ rfl
      show SlR _ _ [.string (bs (hd s.l).text)]
      rw [← e2]
      exact slr_one (T := 9) (by rw [GH.put_other _ _ (by omega)]; exact GH.put_same _ _ _)
    | false =>
      rintro e w3 ⟨rfl, k3⟩
      rw [if_neg (by simp)] at k3
      have i3 := I2.out.step k3
      have b3 := k3.1.get HB2.out HRB.out
      have K3 : Keep (one' rb) w w3 := HK2.out.trans k3.1
      have I3 := Lib.hid i3; have HK3 := Lib.hid K3; have HB3 := Lib.hid b3
      have hq := HQ.out
      rw [rAtom, if_neg (by rw [HN.out]; simp), if_neg (by rw [hm]; simp)] at hq
      have HQ' := Lib.hid hq
      clear k3 i3 b3 K3 hm hq HQ
      go_wp2_with fail
      refine (rd_need I3.out.ri (.kw LP) gr_LP (by simp)).mono ?_
      rintro e w4 ⟨y, rfl, _, k4⟩
      have i4 := I3.out.step k4
      have b4 := k4.1.get HB3.out HRB.out
      have K4 : Keep (one' rb) w w4 := HK3.out.trans k4.1
      obtain ⟨q1, hq1, hq2⟩ := Option.bind_eq_some_iff.1 HQ'.out
      have hx := IH.out _ _ hq1 G w4 i4
      have HX := Lib.hid hx; have HK4 := Lib.hid K4; have HB4 := Lib.hid b4; have HQ2 := Lib.hid hq2
      clear k4 i4 b4 K4 hx hq2 hq1
      go_wp2_with fail
      refine HX.out.mono ?_
      rintro e w5 ⟨k5, b5, G5, rfl, g5, i5, h5, x5⟩
      have d5 := k5.get HB4.out HRB.out
      have K5 : Keep (one' rb) w w5 := HK4.out.trans k5
      have I5 := Lib.hid i5; have HK5 := Lib.hid K5; have HB5 := Lib.hid d5; have HG5 := Lib.hid (Grew.keep HK4.out g5); have HH5 := Lib.hid h5; have HX5 := Lib.hid x5
      clear k5 d5 K5 i5 g5 h5 x5
      go_wp2_with fail
      refine (rd_take I5.out.ri (.kw COMMA) gr_COMMA (by simp)).mono ?_
      cases hc : q1.2.isK (.kw COMMA) with
      | false =>
        rintro e w6 ⟨rfl, k6⟩
        rw [if_neg (by simp)] at k6
        have i6 := I5.out.step k6
        have K6 : Keep (one' rb) w w6 := HK5.out.trans k6.1
        have hq := HQ2.out
        rw [if_neg (by rw [hc]; simp)] at hq
        injection hq with hq
        have HQ3 := Lib.hid hq; have I6 := Lib.hid i6; have HK6 := Lib.hid K6
        clear k6 i6 K6 hc hq
        go_wp2_with fail
        refine (rd_need I6.out.ri (.kw RP) gr_RP (by simp)).mono ?_
        rintro e w7 ⟨y7, rfl, _, k7⟩
        have i7 := I6.out.step k7
        have K7 : Keep (one' rb) w w7 := HK6.out.trans k7.1
        have I7 := Lib.hid i7; have HK7 := Lib.hid K7
        clear k7 i7 K7
        go_wp2_with fail
        go_ret
        have hq := HQ3.out; subst hq
        refine ⟨HK7.out, b5, G5, rfl, HG5.out, I7.out, HH5.out, fun hb => HX5.out ?_⟩
        exact need_good hb
      | true =>
        rintro e w6 ⟨rfl, k6⟩
        rw [if_pos rfl] at k6
        have i6 := I5.out.step k6
        have b6 := k6.1.get HB5.out HRB.out
        have K6 : Keep (one' rb) w w6 := HK5.out.trans k6.1
        have hq := HQ2.out
        rw [if_pos hc] at hq
        obtain ⟨q2, hq3, hq4⟩ := Option.bind_eq_some_iff.1 hq
        have hx := IH.out _ _ hq3 G5 w6.drew (i6.keep0 (Keep.drew _ _))
        have HX := Lib.hid hx; have HK6 := Lib.hid K6; have HB6 := Lib.hid b6; have HQ4 := Lib.hid hq4; have HC := Lib.hid hc
        clear k6 i6 b6 K6 hx hq4 hq3 hq hc
        go_wp2_with fail
        refine wp_region_float (fun w' => w'.cell? ⟨tk, 2, none⟩ = some (.int .i64 ps)) [0, 2, 3, 6, 8] [1] (by kernel_rfl) ?_
        have S0 : w6.drew.cell? ⟨tk, 2, none⟩ = some (.int .i64 ps) := cell_of_heap (i := 2) HB6.out rfl
        (refine float0 (i := 0) (v := ?_) rfl (by kernel_rfl) (by kernel_rfl) (by kernel_rfl) (by kernel_rfl) (fun _ _ _ h => h) (by rfl) ?_ ?_); rotate_left
        (intro wF; go_simp; try with_reducible rfl)
        (try simp only [Act.put, List.setIfInBounds_toArray, List.set_cons_zero, List.set_cons_succ])
        (refine floatS (i := 1) (v := ?_) rfl (by kernel_rfl) (by kernel_rfl) (by kernel_rfl) (by kernel_rfl) (fun _ _ _ h => h) (by assumption) (by rfl) ?_ ?_); rotate_left
        (intro wF hF; (try dsimp only at hF); go_simp; try with_reducible rfl)
        (try simp only [Act.put, List.setIfInBounds_toArray, List.set_cons_zero, List.set_cons_succ])
        (refine float0 (i := 2) (v := ?_) rfl (by kernel_rfl) (by kernel_rfl) (by kernel_rfl) (by kernel_rfl) (fun _ _ _ h => h) (by rfl) ?_ ?_); rotate_left
        (intro wF; go_simp; try with_reducible rfl)
        (try simp only [Act.put, List.setIfInBounds_toArray, List.set_cons_zero, List.set_cons_succ])
        (refine float0 (i := 3) (v := ?_) rfl (by kernel_rfl) (by kernel_rfl) (by kernel_rfl) (by kernel_rfl) (fun _ _ _ h => h) (by rfl) ?_ ?_); rotate_left
        (intro wF; go_simp; try with_reducible rfl)
        (try simp only [Act.put, List.setIfInBounds_toArray, List.set_cons_zero, List.set_cons_succ])
        (refine floatM (i := 4) rfl (by kernel_rfl) (by kernel_rfl) (fun K hK => ?_)); go_simp
        refine HX.out.mono ?_
        rintro e w7 ⟨k7, b7, G7, rfl, g7, i7, h7, x7⟩
        have b7' := k7.get (a := w6.drew) HB6.out HRB.out
        have S7 : w7.cell? ⟨tk, 2, none⟩ = some (.int .i64 ps) := cell_of_heap (i := 2) b7' rfl
        have K7 : Keep (one' rb) w w7 := (HK6.out.trans (Keep.drew _ _)).trans k7
        have I7 := Lib.hid i7; have HK7 := Lib.hid K7; have HB7 := Lib.hid b7'; have HH7 := Lib.hid h7; have HX7 := Lib.hid x7; have HG7 := Lib.hid g7
        clear k7 b7' K7 i7 g7 h7 x7
        go_wp2_with fail
        refine hK.out _ _ (fun _ => S7) ?_
        clear hK K
        (try simp only [Act.put, List.setIfInBounds_toArray, List.set_cons_zero, List.set_cons_succ])
        (refine floatM (i := 5) rfl (by kernel_rfl) (by kernel_rfl) (fun K hK => ?_)); go_simp
        refine hK.out _ _ (fun _ => ((Keep.alloc none' w7 _).cell_some S7 (fun x => x))) ?_
        clear hK K
        (try simp only [Act.put, List.setIfInBounds_toArray, List.set_cons_zero, List.set_cons_succ])
        (refine float0 (i := 6) (v := ?_) rfl (by kernel_rfl) (by kernel_rfl) (by kernel_rfl) (by kernel_rfl) (fun _ _ _ h => h) (by rfl) ?_ ?_); rotate_left
        (intro wF; go_simp; try with_reducible rfl)
        (try simp only [Act.put, List.setIfInBounds_toArray, List.set_cons_zero, List.set_cons_succ])
        (refine floatM (i := 7) rfl (by kernel_rfl) (by kernel_rfl) (fun K hK => ?_)); go_simp
        refine hK.out _ _ (fun _ => ((Keep.alloc none' _ _).cell_some ((Keep.alloc none' w7 _).cell_some S7 (fun x => x)) (fun x => x))) ?_
        clear hK K
        (try simp only [Act.put, List.setIfInBounds_toArray, List.set_cons_zero, List.set_cons_succ])
        (refine float0 (i := 8) (v := ?_) rfl (by kernel_rfl) (by kernel_rfl) (by kernel_rfl) (by kernel_rfl) (fun _ _ _ h => h) (by rfl) ?_ ?_); rotate_left
        (intro wF; go_simp; try with_reducible rfl)
        (try simp only [Act.put, List.setIfInBounds_toArray, List.set_cons_zero, List.set_cons_succ])
        (refine floatE (by kernel_rfl) ?_)
        obtain ⟨g8, i8⟩ := I7.out.two (.cells #[.pointer (some ⟨b5, 0, none⟩), .pointer (some ⟨b7, 0, none⟩)] 31) (xO rPAIR (.slice none 0 0) (.slice (some ⟨w7.heap.size, 0, none⟩) 2 2) ps)
        have K8 : Keep (one' rb) w ((w7.alloc (.cells #[.pointer (some ⟨b5, 0, none⟩), .pointer (some ⟨b7, 0, none⟩)] 31)).alloc (xO rPAIR (.slice none 0 0) (.slice (some ⟨w7.heap.size, 0, none⟩) 2 2) ps)) := HK7.out.trans ((Keep.alloc _ _ _).trans (Keep.alloc _ _ _))
        have I8 := Lib.hid i8; have HK8 := Lib.hid K8; have HG8 := Lib.hid g8
        clear i8 K8 g8 S7 S0
        go_wp2_with fail
        refine (rd_need I8.out.ri (.kw RP) gr_RP (by simp)).mono ?_
        rintro e w9 ⟨y9, rfl, _, k9⟩
        have i9 := I8.out.step k9
        have K9 : Keep (one' rb) w w9 := HK8.out.trans k9.1
        have I9 := Lib.hid i9; have HK9 := Lib.hid K9
        clear k9 i9 K9
        go_wp2_with fail
        go_ret
        have hq := HQ4.out
        injection hq with hq; subst hq
        refine ⟨HK9.out, w7.heap.size + 1, _, rfl, (HG5.out.trans (HK6.out.trans (Keep.drew _ _)) HG7.out).trans HK7.out HG8.out, I9.out, ⟨_, _, _, _, GH.put_same _ _ _⟩, fun hb => ?_⟩
        have hb1 : q1.2.bad = none := by
          have := HC.out; unfold RS.isK at this; simp only [Bool.and_eq_true, Option.isNone_iff_eq_none] at this; exact this.1
        have hb2 : q2.2.bad = none := need_good hb
        exact XR.two (x := .pair q1.1 q2.1) (GH.put_same _ _ _) (.inl ⟨rfl, rfl⟩) rfl (slr_two (T := 31) (by rw [GH.put_other _ _ (by omega)]; exact GH.put_same _ _ _)) (((HX5.out hb1).sub HG7.out.sub).sub HG8.out.sub) ((HX7.out hb2).sub HG8.out.sub)
end Go.Proofs.YtabikmkoajdhmaaDoor
