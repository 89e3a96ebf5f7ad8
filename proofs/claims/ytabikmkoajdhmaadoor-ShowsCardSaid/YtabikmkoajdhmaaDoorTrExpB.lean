/- typerref's exp: behind the first place that is wrong. -/
import Derived.Test.YtabikmkoajdhmaaDoorTrAtom
import Derived.Test.YtabikmkoajdhmaaDoorTrBound
set_option linter.unusedVariables false
set_option linter.unusedSimpArgs false
set_option linter.unnecessarySimpa false
namespace Go.Proofs.YtabikmkoajdhmaaDoor
open Go.RowKit

set_option maxRecDepth 100000 in
set_option maxHeartbeats 8000000 in
theorem tr_expB (R : Rdr) (f : Nat) (ih : ExpOk R f) (s : RS) (hbd : s.bad.isSome = true) (q : Ex × RS) (hq : rExp (f + 1) s = some q) (G : GH) (w : World) (hi : EInv G R s w) : Calls Tryd.prog 24 #[.pointer (some ⟨R.rb, 0, none⟩)] w (ExpPost G R w q) := by
  obtain ⟨x, T, tb, arr, lvr, rb⟩ := R
  obtain ⟨is, his, zs0, zs1, zs2⟩ := info_parts info_str
  obtain ⟨ie, hie, ze0, ze1, ze2⟩ := info_parts info_rexp
  obtain ⟨j, hl, hj, hr, ha0, ha1, ha2, hp⟩ := hd_at hi.ri
  dsimp only at hj hr ha0 ha1 ha2 ⊢
  obtain ⟨cap, hlv⟩ := hi.ri.tk.lv
  dsimp only at hlv
  have c0 : w.cell? ⟨rb, 0, none⟩ = some (.slice (some ⟨tb, 0, none⟩) T.length cap) := by rw [← hlv]; exact cell_of_heap (i := 0) hr rfl
  have c1 : w.cell? ⟨rb, 1, none⟩ = some (.int .i64 j) := cell_of_heap (i := 1) hr rfl
  have t2 := cell_of_heap hi.ri.hb ha2
  dsimp only at t2
  have hj0 : (0 : Int) ≤ (j : Int) := by omega
  have hji : (j : Int) < (T.length : Int) := by omega
  have hlen : T.length ≤ 1000 := hi.ri.tk.len
  obtain ⟨ps, hps⟩ : ∃ ps, ps = (hd s.l).pos := ⟨_, rfl⟩
  rw [← hps] at t2
  have HI := Lib.hid hi; have HQ := Lib.hid hq; have IH := Lib.hid ih; have HBD := Lib.hid hbd
  clear hr ha0 ha1 ha2 hps hl hlv hi hq ih hbd
  go_enter Tryd.func24, Tryd.ntmps24
  go_wp2_with fail
  refine wp_region_float (fun w' => w'.cell? ⟨rb, 0, none⟩ = some (.slice (some ⟨tb, 0, none⟩) T.length cap) ∧ w'.cell? ⟨rb, 1, none⟩ = some (.int .i64 j) ∧ w'.cell? ⟨tb, j * 3 + 2, none⟩ = some (.int .i64 ps)) [0, 1, 2, 4, 5, 6, 8, 9, 11, 13] [3, 7, 10] (by kernel_rfl) ?_
  have S0 : w.drew.cell? ⟨rb, 0, none⟩ = some (.slice (some ⟨tb, 0, none⟩) T.length cap) ∧ w.drew.cell? ⟨rb, 1, none⟩ = some (.int .i64 j) ∧ w.drew.cell? ⟨tb, j * 3 + 2, none⟩ = some (.int .i64 ps) := ⟨c0, c1, t2⟩
  (refine float0 (i := 0) (v := ?_) rfl (by kernel_rfl) (by kernel_rfl) (by kernel_rfl) (by kernel_rfl) (fun _ _ _ h => h) (by rfl) ?_ ?_); rotate_left
  (intro wF; go_simp; try with_reducible rfl)
  (try simp only [Act.put, List.setIfInBounds_toArray, List.set_cons_zero, List.set_cons_succ])
  (refine float0 (i := 1) (v := ?_) rfl (by kernel_rfl) (by kernel_rfl) (by kernel_rfl) (by kernel_rfl) (fun _ _ _ h => h) (by rfl) ?_ ?_); rotate_left
  (intro wF; go_simp; try with_reducible rfl)
  (try simp only [Act.put, List.setIfInBounds_toArray, List.set_cons_zero, List.set_cons_succ])
  (refine float0 (i := 2) (v := ?_) rfl (by kernel_rfl) (by kernel_rfl) (by kernel_rfl) (by kernel_rfl) (fun _ _ _ h => h) (by rfl) ?_ ?_); rotate_left
  (intro wF; go_simp; try with_reducible rfl)
  (try simp only [Act.put, List.setIfInBounds_toArray, List.set_cons_zero, List.set_cons_succ])
  (refine floatS (i := 3) (v := ?_) rfl (by kernel_rfl) (by kernel_rfl) (by kernel_rfl) (by kernel_rfl) (fun _ _ _ h => h) (by assumption) (by rfl) ?_ ?_); rotate_left
  (intro wF hF; (try dsimp only at hF); go_simp; try with_reducible rfl)
  (try simp only [Act.put, List.setIfInBounds_toArray, List.set_cons_zero, List.set_cons_succ])
  (refine float0 (i := 4) (v := ?_) rfl (by kernel_rfl) (by kernel_rfl) (by kernel_rfl) (by kernel_rfl) (fun _ _ _ h => h) (by rfl) ?_ ?_); rotate_left
  (intro wF; go_simp; try with_reducible rfl)
  (try simp only [Act.put, List.setIfInBounds_toArray, List.set_cons_zero, List.set_cons_succ])
  (refine float0 (i := 5) (v := ?_) rfl (by kernel_rfl) (by kernel_rfl) (by kernel_rfl) (by kernel_rfl) (fun _ _ _ h => h) (by rfl) ?_ ?_); rotate_left
  (intro wF; go_simp; try with_reducible rfl)
  (try simp only [Act.put, List.setIfInBounds_toArray, List.set_cons_zero, List.set_cons_succ])
  (refine float0 (i := 6) (v := ?_) rfl (by kernel_rfl) (by kernel_rfl) (by kernel_rfl) (by kernel_rfl) (fun _ _ _ h => h) (by rfl) ?_ ?_); rotate_left
  (intro wF; go_simp; try with_reducible rfl)
  (try simp only [Act.put, List.setIfInBounds_toArray, List.set_cons_zero, List.set_cons_succ])
  (refine floatS (i := 7) (v := ?_) rfl (by kernel_rfl) (by kernel_rfl) (by kernel_rfl) (by kernel_rfl) (fun _ _ _ h => h) (by assumption) (by rfl) ?_ ?_); rotate_left
  (intro wF hF; (try dsimp only at hF); go_simp; try with_reducible rfl)
  (try simp only [Act.put, List.setIfInBounds_toArray, List.set_cons_zero, List.set_cons_succ])
  (refine float0 (i := 8) (v := ?_) rfl (by kernel_rfl) (by kernel_rfl) (by kernel_rfl) (by kernel_rfl) (fun _ _ _ h => h) (by rfl) ?_ ?_); rotate_left
  (intro wF; go_simp; try with_reducible rfl)
  (try simp only [Act.put, List.setIfInBounds_toArray, List.set_cons_zero, List.set_cons_succ])
  (refine float0 (i := 9) (v := ?_) rfl (by kernel_rfl) (by kernel_rfl) (by kernel_rfl) (by kernel_rfl) (fun _ _ _ h => h) (by rfl) ?_ ?_); rotate_left
  (intro wF; go_simp; try with_reducible rfl)
  (try simp only [Act.put, List.setIfInBounds_toArray, List.set_cons_zero, List.set_cons_succ])
  (refine floatS (i := 10) (v := ?_) rfl (by kernel_rfl) (by kernel_rfl) (by kernel_rfl) (by kernel_rfl) (fun _ _ _ h => h) (by assumption) (by rfl) ?_ ?_); rotate_left
  (intro wF hF; (try dsimp only at hF); go_simp; try with_reducible rfl)
  (try simp only [Act.put, List.setIfInBounds_toArray, List.set_cons_zero, List.set_cons_succ])
  (refine float0 (i := 11) (v := ?_) rfl (by kernel_rfl) (by kernel_rfl) (by kernel_rfl) (by kernel_rfl) (fun _ _ _ h => h) (by rfl) ?_ ?_); rotate_left
  (intro wF; go_simp; try with_reducible rfl)
  (try simp only [Act.put, List.setIfInBounds_toArray, List.set_cons_zero, List.set_cons_succ])
  (refine floatM (i := 12) rfl (by kernel_rfl) (by kernel_rfl) (fun K hK => ?_)); go_simp
  refine hK.out _ _ (fun _ => (have kA := fun (o : Obj) => Keep.alloc none' w.drew o; ⟨(kA _).cell_some S0.1 (fun x => x), (kA _).cell_some S0.2.1 (fun x => x), (kA _).cell_some S0.2.2 (fun x => x)⟩)) ?_
  clear hK K
  (try simp only [Act.put, List.setIfInBounds_toArray, List.set_cons_zero, List.set_cons_succ])
  (refine float0 (i := 13) (v := ?_) rfl (by kernel_rfl) (by kernel_rfl) (by kernel_rfl) (by kernel_rfl) (fun _ _ _ h => h) (by rfl) ?_ ?_); rotate_left
  (intro wF; go_simp; try with_reducible rfl)
  (try simp only [Act.put, List.setIfInBounds_toArray, List.set_cons_zero, List.set_cons_succ])
  (refine floatE (by kernel_rfl) ?_)
  have k1 : Keep none' w (w.alloc (xO [] (.slice none 0 0) (.slice none 0 0) ps)).drew := (Keep.alloc _ _ _).trans (Keep.drew _ _)
  have i1 := HI.out.keep0 k1
  have st1 := (NSt.start HI.out [] ps).step (Keep.drew _ _) (Grew.refl G _)
  obtain ⟨xb, hxb⟩ : ∃ xb, xb = w.heap.size := ⟨_, rfl⟩
  obtain ⟨W1, hW1⟩ : ∃ W1, W1 = (w.alloc (xO [] (.slice none 0 0) (.slice none 0 0) ps)).drew := ⟨_, rfl⟩
  have hsz : w.heap.size ≤ xb := by omega
  have hw : (w.alloc (.cells #[.string ⟨#[]⟩, .slice none 0 0, .slice none 0 0, .int .i64 ps] 76)).drew = W1 := hW1.symm
  rw [hw]
  rw [← hW1] at k1 i1 st1
  rw [← hxb] at st1 ⊢
  have K1 : Keep (one' rb) w W1 := k1.of_none
  obtain ⟨jb, s1b, s2b, s3b⟩ := i1.ri.suf
  dsimp only at s3b
  have c2 : W1.cell? ⟨rb, 2, none⟩ = some (.int .i64 (badI s.bad)) := cell_of_heap (i := 2) s3b rfl
  have HI1 := Lib.hid i1; have HN1 := Lib.hid st1; have HK1 := Lib.hid K1; have HXB := Lib.hid hsz; have HG1 := Lib.hid (Grew.refl G w)
  clear k1 i1 st1 K1 hw hW1 hxb hsz s1b s2b s3b c0 c1 t2 S0 hj0 hji hj
  obtain ⟨b, hb⟩ := Option.isSome_iff_exists.1 HBD.out
  obtain ⟨bi, hbi⟩ : ∃ bi : Int, bi = (b : Int) := ⟨_, rfl⟩
  replace c2 : W1.cell? ⟨rb, 2, none⟩ = some (.int .i64 bi) := by rw [hb] at c2; rw [hbi]; exact c2
  have q1 : (0 : Int) ≤ bi := by omega
  have HB := Lib.hid hb
  clear hb hbi
  go_wp2_with fail
  go_ret
  have hq := HQ.out
  rw [rExp, if_pos HBD.out] at hq
  injection hq with hq; subst hq
  obtain ⟨Gz, sz, iz, nz, lz, xz, ez⟩ := HN1.out.stamp HI1.out
  refine ⟨HK1.out, xb, Gz, rfl, ⟨sz, fun b hb => ?_⟩, iz, ⟨_, _, _, _, xz⟩, fun hb => ?_⟩
  · have := HXB.out; rw [ez b (by omega)]
  · rw [HB.out] at hb; cases hb
end Go.Proofs.YtabikmkoajdhmaaDoor
