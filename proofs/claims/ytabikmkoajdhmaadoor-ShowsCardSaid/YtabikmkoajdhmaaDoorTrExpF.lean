/- typerref's exp: a function. -/
import Derived.Test.YtabikmkoajdhmaaDoorTrAtom
import Derived.Test.YtabikmkoajdhmaaDoorTrBound
set_option linter.unusedVariables false
set_option linter.unusedSimpArgs false
set_option linter.unnecessarySimpa false
namespace Go.Proofs.YtabikmkoajdhmaaDoor
open Go.RowKit

set_option maxRecDepth 100000 in
set_option maxHeartbeats 8000000 in
theorem tr_expF (R : Rdr) (f : Nat) (ih : ExpOk R f) (s : RS) (hbd : s.bad = none) (HFN : Hid (s.isK (.kw FUN) = true)) (q : Ex × RS) (hq : rExp (f + 1) s = some q) (G : GH) (w : World) (hi : EInv G R s w) : Calls Tryd.prog 24 #[.pointer (some ⟨R.rb, 0, none⟩)] w (ExpPost G R w q) := by
  obtain ⟨x, T, tb, arr, lvr, rb⟩ := R
  obtain ⟨is, his, zs0, zs1, zs2⟩ := info_parts info_str
  obtain ⟨ie, hie, ze0, ze1, ze2⟩ := info_parts info_rexp
  obtain ⟨j, hl, hj, hr, ha0, ha1, ha2, hp⟩ := hd_at hi.ri
  dsimp only at hj hr ha0 ha1 ha2 ⊢
  obtain ⟨cap, hlv⟩ := hi.ri.tk.lv
  dsimp only at hlv
  have c0 : w.cell? ⟨rb, 0, none⟩ = some (.slice (some ⟨tb, 0, none⟩) T.length cap) := by rw [← hlv]; exact cell_of_heap (i := 0) hr rfl
  have c1 : w.cell? ⟨rb, 1, none⟩ = some (.int .i64 j) := cell_of_heap (i := 1) hr rfl
  have t2 := cell_of_heap hi.ri.hb ha2
  dsimp only at t2
  have hj0 : (0 : Int) ≤ (j : Int) := by omega
  have hji : (j : Int) < (T.length : Int) := by omega
  have hlen : T.length ≤ 1000 := hi.ri.tk.len
  obtain ⟨ps, hps⟩ : ∃ ps, ps = (hd s.l).pos := ⟨_, rfl⟩
  rw [← hps] at t2
  have HI := Lib.hid hi; have HQ := Lib.hid hq; have IH := Lib.hid ih; have HBD := Lib.hid hbd
  clear hr ha0 ha1 ha2 hps hl hlv hi hq ih hbd
  go_enter Tryd.func24, Tryd.ntmps24
  go_wp2_with fail
  refine wp_region_float (fun w' => w'.cell? ⟨rb, 0, none⟩ = some (.slice (some ⟨tb, 0, none⟩) T.length cap) ∧ w'.cell? ⟨rb, 1, none⟩ = some (.int .i64 j) ∧ w'.cell? ⟨tb, j * 3 + 2, none⟩ = some (.int .i64 ps)) [0, 1, 2, 4, 5, 6, 8, 9, 11, 13] [3, 7, 10] (by kernel_rfl) ?_
  have S0 : w.drew.cell? ⟨rb, 0, none⟩ = some (.slice (some ⟨tb, 0, none⟩) T.length cap) ∧ w.drew.cell? ⟨rb, 1, none⟩ = some (.int .i64 j) ∧ w.drew.cell? ⟨tb, j * 3 + 2, none⟩ = some (.int .i64 ps) := ⟨c0, c1, t2⟩
  (refine float0 (i := 0) (v := ?_) rfl (by kernel_rfl) (by kernel_rfl) (by kernel_rfl) (by kernel_rfl) (fun _ _ _ h => h) (by rfl) ?_ ?_); rotate_left
  (intro wF; go_simp; try with_reducible rfl)
  (try simp only [Act.put, List.setIfInBounds_toArray, List.set_cons_zero, List.set_cons_succ])
  (refine float0 (i := 1) (v := ?_) rfl (by kernel_rfl) (by kernel_rfl) (by kernel_rfl) (by kernel_rfl) (fun _ _ _ h => h) (by rfl) ?_ ?_); rotate_left
  (intro wF; go_simp; try with_reducible rfl)
  (try simp only [Act.put, List.setIfInBounds_toArray, List.set_cons_zero, List.set_cons_succ])
  (refine float0 (i := 2) (v := ?_) rfl (by kernel_rfl) (by kernel_rfl) (by kernel_rfl) (by kernel_rfl) (fun _ _ _ h => h) (by rfl) ?_ ?_); rotate_left
  (intro wF; go_simp; try with_reducible rfl)
  (try simp only [Act.put, List.setIfInBounds_toArray, List.set_cons_zero, List.set_cons_succ])
  (refine floatS (i := 3) (v := ?_) rfl (by kernel_rfl) (by kernel_rfl) (by kernel_rfl) (by kernel_rfl) (fun _ _ _ h => h) (by assumption) (by rfl) ?_ ?_); rotate_left
  (intro wF hF; (try dsimp only at hF); go_simp; try with_reducible rfl)
  (try simp only [Act.put, List.setIfInBounds_toArray, List.set_cons_zero, List.set_cons_succ])
  (refine float0 (i := 4) (v := ?_) rfl (by kernel_rfl) (by kernel_rfl) (by kernel_rfl) (by kernel_rfl) (fun _ _ _ h => h) (by rfl) ?_ ?_); rotate_left
  (intro wF; go_simp; try with_reducible rfl)
  (try simp only [Act.put, List.setIfInBounds_toArray, List.set_cons_zero, List.set_cons_succ])
  (refine float0 (i := 5) (v := ?_) rfl (by kernel_rfl) (by kernel_rfl) (by kernel_rfl) (by kernel_rfl) (fun _ _ _ h => h) (by rfl) ?_ ?_); rotate_left
  (intro wF; go_simp; try with_reducible rfl)
  (try simp only [Act.put, List.setIfInBounds_toArray, List.set_cons_zero, List.set_cons_succ])
  (refine float0 (i := 6) (v := ?_) rfl (by kernel_rfl) (by kernel_rfl) (by kernel_rfl) (by kernel_rfl) (fun _ _ _ h => h) (by rfl) ?_ ?_); rotate_left
  (intro wF; go_simp; try with_reducible rfl)
  (try simp only [Act.put, List.setIfInBounds_toArray, List.set_cons_zero, List.set_cons_succ])
  (refine floatS (i := 7) (v := ?_) rfl (by kernel_rfl) (by kernel_rfl) (by kernel_rfl) (by kernel_rfl) (fun _ _ _ h => h) (by assumption) (by rfl) ?_ ?_); rotate_left
  (intro wF hF; (try dsimp only at hF); go_simp; try with_reducible rfl)
  (try simp only [Act.put, List.setIfInBounds_toArray, List.set_cons_zero, List.set_cons_succ])
  (refine float0 (i := 8) (v := ?_) rfl (by kernel_rfl) (by kernel_rfl) (by kernel_rfl) (by kernel_rfl) (fun _ _ _ h => h) (by rfl) ?_ ?_); rotate_left
  (intro wF; go_simp; try with_reducible rfl)
  (try simp only [Act.put, List.setIfInBounds_toArray, List.set_cons_zero, List.set_cons_succ])
  (refine float0 (i := 9) (v := ?_) rfl (by kernel_rfl) (by kernel_rfl) (by kernel_rfl) (by kernel_rfl) (fun _ _ _ h => h) (by rfl) ?_ ?_); rotate_left
  (intro wF; go_simp; try with_reducible rfl)
  (try simp only [Act.put, List.setIfInBounds_toArray, List.set_cons_zero, List.set_cons_succ])
  (refine floatS (i := 10) (v := ?_) rfl (by kernel_rfl) (by kernel_rfl) (by kernel_rfl) (by kernel_rfl) (fun _ _ _ h => h) (by assumption) (by rfl) ?_ ?_); rotate_left
  (intro wF hF; (try dsimp only at hF); go_simp; try with_reducible rfl)
  (try simp only [Act.put, List.setIfInBounds_toArray, List.set_cons_zero, List.set_cons_succ])
  (refine float0 (i := 11) (v := ?_) rfl (by kernel_rfl) (by kernel_rfl) (by kernel_rfl) (by kernel_rfl) (fun _ _ _ h => h) (by rfl) ?_ ?_); rotate_left
  (intro wF; go_simp; try with_reducible rfl)
  (try simp only [Act.put, List.setIfInBounds_toArray, List.set_cons_zero, List.set_cons_succ])
  (refine floatM (i := 12) rfl (by kernel_rfl) (by kernel_rfl) (fun K hK => ?_)); go_simp
  refine hK.out _ _ (fun _ => (have kA := fun (o : Obj) => Keep.alloc none' w.drew o; ⟨(kA _).cell_some S0.1 (fun x => x), (kA _).cell_some S0.2.1 (fun x => x), (kA _).cell_some S0.2.2 (fun x => x)⟩)) ?_
  clear hK K
  (try simp only [Act.put, List.setIfInBounds_toArray, List.set_cons_zero, List.set_cons_succ])
  (refine float0 (i := 13) (v := ?_) rfl (by kernel_rfl) (by kernel_rfl) (by kernel_rfl) (by kernel_rfl) (fun _ _ _ h => h) (by rfl) ?_ ?_); rotate_left
  (intro wF; go_simp; try with_reducible rfl)
  (try simp only [Act.put, List.setIfInBounds_toArray, List.set_cons_zero, List.set_cons_succ])
  (refine floatE (by kernel_rfl) ?_)
  have k1 : Keep none' w (w.alloc (xO [] (.slice none 0 0) (.slice none 0 0) ps)).drew := (Keep.alloc _ _ _).trans (Keep.drew _ _)
  have i1 := HI.out.keep0 k1
  have st1 := (NSt.start HI.out [] ps).step (Keep.drew _ _) (Grew.refl G _)
  obtain ⟨xb, hxb⟩ : ∃ xb, xb = w.heap.size := ⟨_, rfl⟩
  obtain ⟨W1, hW1⟩ : ∃ W1, W1 = (w.alloc (xO [] (.slice none 0 0) (.slice none 0 0) ps)).drew := ⟨_, rfl⟩
  have hsz : w.heap.size ≤ xb := by omega
  have hw : (w.alloc (.cells #[.string ⟨#[]⟩, .slice none 0 0, .slice none 0 0, .int .i64 ps] 76)).drew = W1 := hW1.symm
  rw [hw]
  rw [← hW1] at k1 i1 st1
  rw [← hxb] at st1 ⊢
  have K1 : Keep (one' rb) w W1 := k1.of_none
  obtain ⟨jb, s1b, s2b, s3b⟩ := i1.ri.suf
  dsimp only at s3b
  have c2 : W1.cell? ⟨rb, 2, none⟩ = some (.int .i64 (badI s.bad)) := cell_of_heap (i := 2) s3b rfl
  have HI1 := Lib.hid i1; have HN1 := Lib.hid st1; have HK1 := Lib.hid K1; have HXB := Lib.hid hsz; have HG1 := Lib.hid (Grew.refl G w)
  clear k1 i1 st1 K1 hw hW1 hxb hsz s1b s2b s3b c0 c1 t2 S0 hj0 hji hj
  replace c2 : W1.cell? ⟨rb, 2, none⟩ = some (.int .i64 (-1)) := by rw [HBD.out] at c2; exact c2
  have HT2 : Hid (s.isK (.kw FUN) = true) := Lib.hid HFN.out
  have hq := HQ.out
  rw [rExp, if_neg (by rw [HBD.out]; simp), if_pos HFN.out] at hq
  obtain ⟨q1, hq1, hq2⟩ := Option.bind_eq_some_iff.1 hq
  have HQ1 := Lib.hid hq1; have HQ2 := Lib.hid hq2
  clear hq hq1 hq2
  go_wp2_with fail
  refine (rd_take HI1.out.ri (.kw FUN) gr_FUN (by simp)).mono ?_
  rw [HT2.out]
  rintro e W2 ⟨rfl, k⟩
  rw [if_pos rfl] at k
  clear c2
  have i := HI1.out.step k
  have st := HN1.out.step k.1 (Grew.refl G _)
  have K := HK1.out.trans k.1
  have HI2 := Lib.hid i; have HN2 := Lib.hid st; have HK2 := Lib.hid K
  clear k i st K
  have f0 : W2.frozen? ⟨xb, 0, none⟩ = false := free_of_heap HN2.out.x
  have c0 : W2.cell? ⟨xb, 0, none⟩ = some (.string (bs [])) := cell_of_heap (i := 0) HN2.out.x rfl
  go_wp2_with fail
  have st := HN2.out.op FUN
  have i := HI2.out.put (i := 0) (.string (bs FUN)) HN2.out.gx HN2.out.xr HN2.out.tb
  have K := HK2.out.own (.string (bs FUN)) (i := 0) HXB.out
  obtain ⟨W3, hW⟩ : ∃ W, W = W2.setCell ⟨xb, 0, none⟩ (.string (bs FUN)) := ⟨_, rfl⟩
  have hw : W2.setCell ⟨xb, 0, none⟩ (.string ⟨#[102, 117, 110]⟩) = W3 := hW.symm
  rw [hw]
  rw [← hW] at st i K
  have HI3 := Lib.hid i; have HN3 := Lib.hid st; have HK3 := Lib.hid K
  clear st i K hW hw f0 c0
  have hx := rd_need (HI3.out.keep0 (Keep.drew none' W3)).ri .name gr_name (by simp)
  have z2 : W3.drew.cell? ⟨xb, 1, none⟩ = some (.slice none 0 0) := cell_of_heap (i := 1) HN3.out.x rfl
  have HX := Lib.hid hx
  have hnr : xb ≠ rb := by have := HN3.out.xr; dsimp only at this; omega
  clear hx
  refine wp_region_float (fun w' => w'.cell? ⟨xb, 1, none⟩ = some (.slice none 0 0)) [0, 1, 2, 3, 5, 9, 10] [4] (by kernel_rfl) ?_
  (refine float0 (i := 0) (v := ?_) rfl (by kernel_rfl) (by kernel_rfl) (by kernel_rfl) (by kernel_rfl) (fun _ _ _ h => h) (by rfl) ?_ ?_); rotate_left
  (intro wF; go_simp; try with_reducible rfl)
  (try simp only [Act.put, List.setIfInBounds_toArray, List.set_cons_zero, List.set_cons_succ])
  (refine float0 (i := 1) (v := ?_) rfl (by kernel_rfl) (by kernel_rfl) (by kernel_rfl) (by kernel_rfl) (fun _ _ _ h => h) (by rfl) ?_ ?_); rotate_left
  (intro wF; go_simp; try with_reducible rfl)
  (try simp only [Act.put, List.setIfInBounds_toArray, List.set_cons_zero, List.set_cons_succ])
  (refine float0 (i := 2) (v := ?_) rfl (by kernel_rfl) (by kernel_rfl) (by kernel_rfl) (by kernel_rfl) (fun _ _ _ h => h) (by rfl) ?_ ?_); rotate_left
  (intro wF; go_simp; try with_reducible rfl)
  (try simp only [Act.put, List.setIfInBounds_toArray, List.set_cons_zero, List.set_cons_succ])
  (refine float0 (i := 3) (v := ?_) rfl (by kernel_rfl) (by kernel_rfl) (by kernel_rfl) (by kernel_rfl) (fun _ _ _ h => h) (by rfl) ?_ ?_); rotate_left
  (intro wF; go_simp; try with_reducible rfl)
  (try simp only [Act.put, List.setIfInBounds_toArray, List.set_cons_zero, List.set_cons_succ])
  (refine floatS (i := 4) (v := ?_) rfl (by kernel_rfl) (by kernel_rfl) (by kernel_rfl) (by kernel_rfl) (fun _ _ _ h => h) (by assumption) (by rfl) ?_ ?_); rotate_left
  (intro wF hF; (try dsimp only at hF); go_simp; try with_reducible rfl)
  (try simp only [Act.put, List.setIfInBounds_toArray, List.set_cons_zero, List.set_cons_succ])
  (refine float0 (i := 5) (v := ?_) rfl (by kernel_rfl) (by kernel_rfl) (by kernel_rfl) (by kernel_rfl) (fun _ _ _ h => h) (by rfl) ?_ ?_); rotate_left
  (intro wF; go_simp; try with_reducible rfl)
  (try simp only [Act.put, List.setIfInBounds_toArray, List.set_cons_zero, List.set_cons_succ])
  (refine floatM (i := 6) rfl (by kernel_rfl) (by kernel_rfl) (fun K hK => ?_)); go_simp
  refine HX.out.mono ?_
  rintro e V4 ⟨y4, rfl, hy4, k7⟩
  have i7 := (HI3.out.keep0 (Keep.drew none' _)).step k7
  have z7 : V4.cell? ⟨xb, 1, none⟩ = some (.slice none 0 0) := k7.1.cell_some z2 hnr
  have st7 := HN3.out.step ((Keep.drew _ _).trans k7.1) (Grew.refl G _)
  have HtS := Lib.hid st7; have HtI := Lib.hid i7; have HtK := Lib.hid k7.1; have HY := Lib.hid hy4
  have own7 := st7.n
  have h7x := st7.x
  have hl7 := lt_of_heap h7x
  clear k7 i7 st7 hy4
  go_wp2_with fail
  refine hK.out _ _ (fun _ => z7) ?_
  clear hK K
  (try simp only [Act.put, List.setIfInBounds_toArray, List.set_cons_zero, List.set_cons_succ])
  (refine floatM (i := 7) rfl (by kernel_rfl) (by kernel_rfl) (fun K hK => ?_)); go_simp
  refine hK.out _ _ (fun _ => (cell_of_heap (i := 1) (heap_old h7x) rfl)) ?_
  clear hK K
  (try simp only [Act.put, List.setIfInBounds_toArray, List.set_cons_zero, List.set_cons_succ])
  (refine floatM (i := 8) rfl (by kernel_rfl) (by kernel_rfl) (fun K hK => ?_))
  have own7' := own7.alloc (.cells #[.string (bs y4)] 9)
  refine step_append_own_at rfl (.tmp 55) (.tmp 58) 39 rfl (xb + 1) 9 is (.string ByteArray.empty) 1 16 und_strs his zs0 zs1 zs2 rfl (by decide) (.slice none 0 0) 0 _ rfl own7' ⟨V4.heap.size, 0, none⟩ 1 1 [.string (bs y4)] rfl rfl (cell_one_new _ _ _) (fun x hx => by simp at hx; subst hx; rfl) (by unfold maxLen; omega) (by omega) (by simp; omega) ?_
  intro v8 U4 own8 g8 at8
  obtain ⟨ao4, cap4, hv8, _⟩ := own_shape own8
  have hv8 : v8 = .slice ao4 1 cap4 := hv8
  subst hv8
  have h8 := (HtS.out.mid (.inl rfl) g8).2
  have e8 : U4.cell? ⟨xb, 1, none⟩ = some (.slice none 0 0) := cell_of_heap (i := 1) h8 rfl
  have f8 : U4.frozen? ⟨xb, 1, none⟩ = false := free_of_heap h8
  refine hK.out _ _ (fun _ => e8) ?_
  clear hK K
  (try simp only [Act.put, List.setIfInBounds_toArray, List.set_cons_zero, List.set_cons_succ])
  (refine float0 (i := 9) (v := ?_) rfl (by kernel_rfl) (by kernel_rfl) (by kernel_rfl) (by kernel_rfl) (fun _ _ _ h => h) (by rfl) ?_ ?_); rotate_left
  (intro wF; go_simp; try with_reducible rfl)
  (try simp only [Act.put, List.setIfInBounds_toArray, List.set_cons_zero, List.set_cons_succ])
  (refine float0 (i := 10) (v := ?_) rfl (by kernel_rfl) (by kernel_rfl) (by kernel_rfl) (by kernel_rfl) (fun _ _ _ h => h) (by rfl) ?_ ?_); rotate_left
  (intro wF; go_simp; try with_reducible rfl)
  (try simp only [Act.put, List.setIfInBounds_toArray, List.set_cons_zero, List.set_cons_succ])
  (refine floatT (l := _) (k := 11) rfl rfl (by kernel_rfl) ?_)
  go_wp2_with fail
  obtain ⟨st9, i9⟩ := HtS.out.name HtI.out (n := y4) own8 g8 at8
  have K9 := HtS.out.keepN (i := 1) (u := .slice ao4 1 cap4) ((HK3.out.trans (Keep.drew _ _)).trans HtK.out) HXB.out (.inl rfl) g8
  obtain ⟨W4, hW⟩ : ∃ W, W = U4.setCell ⟨xb, 1, none⟩ (.slice ao4 1 cap4) := ⟨_, rfl⟩
  rw [← hW] at st9 i9 K9 ⊢
  replace st9 : NSt G W4 ⟨x, T, tb, arr, lvr, rb⟩ xb FUN ps (.slice ao4 1 cap4) (.slice none 0 0) [y4] [] := st9
  have HI4 := Lib.hid i9; have HN4 := Lib.hid st9; have HK4 := Lib.hid K9
  clear st9 i9 K9 hW own8 g8 at8 h8 e8 f8 own7 own7' h7x hl7 z7 z2 hnr HtS HtI HtK HX
  refine (rd_need HI4.out.ri (.kw ARROW) gr_ARROW (by simp)).mono ?_
  rintro e W5 ⟨y5, rfl, hy5, k⟩
  have i := HI4.out.step k
  have st := HN4.out.step k.1 (Grew.refl G _)
  have K := HK4.out.trans k.1
  have HI5 := Lib.hid i; have HN5 := Lib.hid st; have HK5 := Lib.hid K
  clear k i st K
  go_wp2_with fail
  have hx := IH.out _ _ HQ1.out G W5.drew (HI5.out.keep0 (Keep.drew _ _))
  have z2 : W5.drew.cell? ⟨xb, 2, none⟩ = some (.slice none 0 0) := cell_of_heap (i := 2) HN5.out.x rfl
  have HX := Lib.hid hx
  have hnr : xb ≠ rb := by have := HN5.out.xr; dsimp only at this; omega
  clear hx
  refine wp_region_float (fun w' => w'.cell? ⟨xb, 2, none⟩ = some (.slice none 0 0)) [0, 1, 2, 3, 5, 9, 10] [4] (by kernel_rfl) ?_
  (refine float0 (i := 0) (v := ?_) rfl (by kernel_rfl) (by kernel_rfl) (by kernel_rfl) (by kernel_rfl) (fun _ _ _ h => h) (by rfl) ?_ ?_); rotate_left
  (intro wF; go_simp; try with_reducible rfl)
  (try simp only [Act.put, List.setIfInBounds_toArray, List.set_cons_zero, List.set_cons_succ])
  (refine float0 (i := 1) (v := ?_) rfl (by kernel_rfl) (by kernel_rfl) (by kernel_rfl) (by kernel_rfl) (fun _ _ _ h => h) (by rfl) ?_ ?_); rotate_left
  (intro wF; go_simp; try with_reducible rfl)
  (try simp only [Act.put, List.setIfInBounds_toArray, List.set_cons_zero, List.set_cons_succ])
  (refine float0 (i := 2) (v := ?_) rfl (by kernel_rfl) (by kernel_rfl) (by kernel_rfl) (by kernel_rfl) (fun _ _ _ h => h) (by rfl) ?_ ?_); rotate_left
  (intro wF; go_simp; try with_reducible rfl)
  (try simp only [Act.put, List.setIfInBounds_toArray, List.set_cons_zero, List.set_cons_succ])
  (refine float0 (i := 3) (v := ?_) rfl (by kernel_rfl) (by kernel_rfl) (by kernel_rfl) (by kernel_rfl) (fun _ _ _ h => h) (by rfl) ?_ ?_); rotate_left
  (intro wF; go_simp; try with_reducible rfl)
  (try simp only [Act.put, List.setIfInBounds_toArray, List.set_cons_zero, List.set_cons_succ])
  (refine floatS (i := 4) (v := ?_) rfl (by kernel_rfl) (by kernel_rfl) (by kernel_rfl) (by kernel_rfl) (fun _ _ _ h => h) (by assumption) (by rfl) ?_ ?_); rotate_left
  (intro wF hF; (try dsimp only at hF); go_simp; try with_reducible rfl)
  (try simp only [Act.put, List.setIfInBounds_toArray, List.set_cons_zero, List.set_cons_succ])
  (refine float0 (i := 5) (v := ?_) rfl (by kernel_rfl) (by kernel_rfl) (by kernel_rfl) (by kernel_rfl) (fun _ _ _ h => h) (by rfl) ?_ ?_); rotate_left
  (intro wF; go_simp; try with_reducible rfl)
  (try simp only [Act.put, List.setIfInBounds_toArray, List.set_cons_zero, List.set_cons_succ])
  (refine floatM (i := 6) rfl (by kernel_rfl) (by kernel_rfl) (fun K hK => ?_)); go_simp
  refine HX.out.mono ?_
  rintro e V6 ⟨k7, b6, G6, rfl, g7, i7, h7, x7⟩
  have z7 : V6.cell? ⟨xb, 2, none⟩ = some (.slice none 0 0) := k7.cell_some z2 hnr
  have st7 := HN5.out.step ((Keep.drew _ _).trans k7) (Grew.keep (Keep.drew none' _) g7)
  have hgr := HG1.out.trans HK5.out (Grew.keep (Keep.drew none' _) g7)
  have HtS := Lib.hid st7; have HtI := Lib.hid i7; have HX6 := Lib.hid x7; have HtK := Lib.hid k7; have HG6 := Lib.hid hgr; have HS6 := Lib.hid g7.sub
  have own7 := st7.l
  have h7x := st7.x
  have hl7 := lt_of_heap h7x
  clear k7 g7 i7 h7 x7 st7 hgr
  go_wp2_with fail
  refine hK.out _ _ (fun _ => z7) ?_
  clear hK K
  (try simp only [Act.put, List.setIfInBounds_toArray, List.set_cons_zero, List.set_cons_succ])
  (refine floatM (i := 7) rfl (by kernel_rfl) (by kernel_rfl) (fun K hK => ?_)); go_simp
  refine hK.out _ _ (fun _ => (cell_of_heap (i := 2) (heap_old h7x) rfl)) ?_
  clear hK K
  (try simp only [Act.put, List.setIfInBounds_toArray, List.set_cons_zero, List.set_cons_succ])
  (refine floatM (i := 8) rfl (by kernel_rfl) (by kernel_rfl) (fun K hK => ?_))
  have own7' := own7.alloc (.cells #[.pointer (some ⟨b6, 0, none⟩)] 31)
  refine step_append_own_at rfl (.tmp 68) (.tmp 71) 74 rfl (xb + 1) 31 ie (.pointer none) 1 8 und_rexps hie ze0 ze1 ze2 rfl (by decide) (.slice none 0 0) 0 _ rfl own7' ⟨V6.heap.size, 0, none⟩ 1 1 [.pointer (some ⟨b6, 0, none⟩)] rfl rfl (cell_one_new _ _ _) (fun x hx => by simp at hx; subst hx; rfl) (by unfold maxLen; omega) (by omega) (by simp; omega) ?_
  intro v8 U6 own8 g8 at8
  obtain ⟨ao6, cap6, hv8, _⟩ := own_shape own8
  have hv8 : v8 = .slice ao6 1 cap6 := hv8
  subst hv8
  have h8 := (HtS.out.mid (.inr rfl) g8).2
  have e8 : U6.cell? ⟨xb, 2, none⟩ = some (.slice none 0 0) := cell_of_heap (i := 2) h8 rfl
  have f8 : U6.frozen? ⟨xb, 2, none⟩ = false := free_of_heap h8
  refine hK.out _ _ (fun _ => e8) ?_
  clear hK K
  (try simp only [Act.put, List.setIfInBounds_toArray, List.set_cons_zero, List.set_cons_succ])
  (refine float0 (i := 9) (v := ?_) rfl (by kernel_rfl) (by kernel_rfl) (by kernel_rfl) (by kernel_rfl) (fun _ _ _ h => h) (by rfl) ?_ ?_); rotate_left
  (intro wF; go_simp; try with_reducible rfl)
  (try simp only [Act.put, List.setIfInBounds_toArray, List.set_cons_zero, List.set_cons_succ])
  (refine float0 (i := 10) (v := ?_) rfl (by kernel_rfl) (by kernel_rfl) (by kernel_rfl) (by kernel_rfl) (fun _ _ _ h => h) (by rfl) ?_ ?_); rotate_left
  (intro wF; go_simp; try with_reducible rfl)
  (try simp only [Act.put, List.setIfInBounds_toArray, List.set_cons_zero, List.set_cons_succ])
  (refine floatT (l := _) (k := 11) rfl rfl (by kernel_rfl) ?_)
  go_wp2_with fail
  obtain ⟨st9, i9⟩ := HtS.out.kid HtI.out (b := b6) own8 g8 at8
  have K9 := HtS.out.keepN (i := 2) (u := .slice ao6 1 cap6) ((HK5.out.trans (Keep.drew _ _)).trans HtK.out) HXB.out (.inr rfl) g8
  obtain ⟨W6, hW⟩ : ∃ W, W = U6.setCell ⟨xb, 2, none⟩ (.slice ao6 1 cap6) := ⟨_, rfl⟩
  rw [← hW] at st9 i9 K9 ⊢
  replace st9 : NSt G6 W6 ⟨x, T, tb, arr, lvr, rb⟩ xb FUN ps (.slice ao4 1 cap4) (.slice ao6 1 cap6) [y4] [b6] := st9
  have HI6 := Lib.hid i9; have HN6 := Lib.hid st9; have HK6 := Lib.hid K9
  clear st9 i9 K9 hW own8 g8 at8 h8 e8 f8 own7 own7' h7x hl7 z7 z2 hnr HtS HtI HtK HX
  go_ret
  have hq := HQ2.out
  injection hq with hq; subst hq
  obtain ⟨Gz, sz, iz, nz, lz, xz, ez⟩ := HN6.out.stamp HI6.out
  refine ⟨HK6.out, xb, Gz, rfl, ⟨HG6.out.sub.trans sz, fun b hb => ?_⟩, iz, ⟨_, _, _, _, xz⟩, fun hb => ?_⟩
  · have := HXB.out; rw [ez b (by omega)]; exact HG6.out.eq b hb
  · have hg1 := exp_good HQ1.out hb
    have hg2 := need_good hg1
    have hy : y4 = (hd s.step.l).text := HY.out (by
      have h0 := need_good hg2
      cases hk : s.step.isK .name with
      | true => rfl
      | false => unfold RS.need at hg2; rw [hk, h0] at hg2; simp at hg2)
    refine XR.one (x := .fn (hd s.step.l).text q1.1) xz ?_ rfl lz ((HX6.out hb).sub sz)
    rw [← hy]; exact nz
end Go.Proofs.YtabikmkoajdhmaaDoor
