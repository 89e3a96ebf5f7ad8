/- typerref's exp: let. -/
import Derived.Test.YtabikmkoajdhmaaDoorTrAtom
import Derived.Test.YtabikmkoajdhmaaDoorTrBound
set_option linter.unusedVariables false
set_option linter.unusedSimpArgs false
set_option linter.unnecessarySimpa false
namespace Go.Proofs.YtabikmkoajdhmaaDoor
open Go.RowKit

set_option maxRecDepth 100000 in
set_option maxHeartbeats 8000000 in
theorem tr_expL (R : Rdr) (f : Nat) (ih : ExpOk R f) (iha : ∀ g, g ≤ f → ExpOk R g) (hf : f ≤ 1000000) (s : RS) (hbd : s.bad = none) (HNF : Hid (s.isK (.kw FUN) = false)) (HNI : Hid (s.isK (.kw IF) = false)) (HLT : Hid (s.isK (.kw LET) = true)) (q : Ex × RS) (hq : rExp (f + 1) s = some q) (G : GH) (w : World) (hi : EInv G R s w) : Calls Tryd.prog 24 #[.pointer (some ⟨R.rb, 0, none⟩)] w (ExpPost G R w q) := by
  obtain ⟨x, T, tb, arr, lvr, rb⟩ := R
  obtain ⟨is, his, zs0, zs1, zs2⟩ := info_parts info_str
  obtain ⟨ie, hie, ze0, ze1, ze2⟩ := info_parts info_rexp
  obtain ⟨j, hl, hj, hr, ha0, ha1, ha2, hp⟩ := hd_at hi.ri
  dsimp only at hj hr ha0 ha1 ha2 ⊢
  obtain ⟨cap, hlv⟩ := hi.ri.tk.lv
  dsimp only at hlv
  have c0 : w.cell? ⟨rb, 0, none⟩ = some (.slice (some ⟨tb, 0, none⟩) T.length cap) := by rw [← hlv]; exact cell_of_heap (i := 0) hr rfl
  have c1 : w.cell? ⟨rb, 1, none⟩ = some (.int .i64 j) := cell_of_heap (i := 1) hr rfl
  have t2 := cell_of_heap hi.ri.hb ha2
  dsimp only at t2
  have hj0 : (0 : Int) ≤ (j : Int) := by omega
  have hji : (j : Int) < (T.length : Int) := by omega
  have hlen : T.length ≤ 1000 := hi.ri.tk.len
  obtain ⟨ps, hps⟩ : ∃ ps, ps = (hd s.l).pos := ⟨_, rfl⟩
  rw [← hps] at t2
  have HI := Lib.hid hi; have HQ := Lib.hid hq; have IH := Lib.hid ih; have HBD := Lib.hid hbd; have IHA := Lib.hid iha
  clear hr ha0 ha1 ha2 hps hl hlv hi hq ih hbd iha
  go_enter Tryd.func24, Tryd.ntmps24
  go_wp2_with fail
  refine wp_region_float (fun w' => w'.cell? ⟨rb, 0, none⟩ = some (.slice (some ⟨tb, 0, none⟩) T.length cap) ∧ w'.cell? ⟨rb, 1, none⟩ = some (.int .i64 j) ∧ w'.cell? ⟨tb, j * 3 + 2, none⟩ = some (.int .i64 ps)) [0, 1, 2, 4, 5, 6, 8, 9, 11, 13] [3, 7, 10] (by kernel_rfl) ?_
  have S0 : w.drew.cell? ⟨rb, 0, none⟩ = some (.slice (some ⟨tb, 0, none⟩) T.length cap) ∧ w.drew.cell? ⟨rb, 1, none⟩ = some (.int .i64 j) ∧ w.drew.cell? ⟨tb, j * 3 + 2, none⟩ = some (.int .i64 ps) := ⟨c0, c1, t2⟩
  (refine float0 (i := 0) (v := ?_) rfl (by kernel_rfl) (by kernel_rfl) (by kernel_rfl) (by kernel_rfl) (fun _ _ _ h => h) (by rfl) ?_ ?_); rotate_left
  (intro wF; go_simp; try with_reducible rfl)
  (try simp only [Act.put, List.setIfInBounds_toArray, List.set_cons_zero, List.set_cons_succ])
  (refine float0 (i := 1) (v := ?_) rfl (by kernel_rfl) (by kernel_rfl) (by kernel_rfl) (by kernel_rfl) (fun _ _ _ h => h) (by rfl) ?_ ?_); rotate_left
  (intro wF; go_simp; try with_reducible rfl)
  (try simp only [Act.put, List.setIfInBounds_toArray, List.set_cons_zero, List.set_cons_succ])
  (refine float0 (i := 2) (v := ?_) rfl (by kernel_rfl) (by kernel_rfl) (by kernel_rfl) (by kernel_rfl) (fun _ _ _ h => h) (by rfl) ?_ ?_); rotate_left
  (intro wF; go_simp; try with_reducible rfl)
  (try simp only [Act.put, List.setIfInBounds_toArray, List.set_cons_zero, List.set_cons_succ])
  (refine floatS (i := 3) (v := ?_) rfl (by kernel_rfl) (by kernel_rfl) (by kernel_rfl) (by kernel_rfl) (fun _ _ _ h => h) (by assumption) (by rfl) ?_ ?_); rotate_left
  (intro wF hF; (try dsimp only at hF); go_simp; try with_reducible rfl)
  (try simp only [Act.put, List.setIfInBounds_toArray, List.set_cons_zero, List.set_cons_succ])
  (refine float0 (i := 4) (v := ?_) rfl (by kernel_rfl) (by kernel_rfl) (by kernel_rfl) (by kernel_rfl) (fun _ _ _ h => h) (by rfl) ?_ ?_); rotate_left
  (intro wF; go_simp; try with_reducible rfl)
  (try simp only [Act.put, List.setIfInBounds_toArray, List.set_cons_zero, List.set_cons_succ])
  (refine float0 (i := 5) (v := ?_) rfl (by kernel_rfl) (by kernel_rfl) (by kernel_rfl) (by kernel_rfl) (fun _ _ _ h => h) (by rfl) ?_ ?_); rotate_left
  (intro wF; go_simp; try with_reducible rfl)
  (try simp only [Act.put, List.setIfInBounds_toArray, List.set_cons_zero, List.set_cons_succ])
  (refine float0 (i := 6) (v := ?_) rfl (by kernel_rfl) (by kernel_rfl) (by kernel_rfl) (by kernel_rfl) (fun _ _ _ h => h) (by rfl) ?_ ?_); rotate_left
  (intro wF; go_simp; try with_reducible rfl)
  (try simp only [Act.put, List.setIfInBounds_toArray, List.set_cons_zero, List.set_cons_succ])
  (refine floatS (i := 7) (v := ?_) rfl (by kernel_rfl) (by kernel_rfl) (by kernel_rfl) (by kernel_rfl) (fun _ _ _ h => h) (by assumption) (by rfl) ?_ ?_); rotate_left
  (intro wF hF; (try dsimp only at hF); go_simp; try with_reducible rfl)
  (try simp only [Act.put, List.setIfInBounds_toArray, List.set_cons_zero, List.set_cons_succ])
  (refine float0 (i := 8) (v := ?_) rfl (by kernel_rfl) (by kernel_rfl) (by kernel_rfl) (by kernel_rfl) (fun _ _ _ h => h) (by rfl) ?_ ?_); rotate_left
  (intro wF; go_simp; try with_reducible rfl)
  (try simp only [Act.put, List.setIfInBounds_toArray, List.set_cons_zero, List.set_cons_succ])
  (refine float0 (i := 9) (v := ?_) rfl (by kernel_rfl) (by kernel_rfl) (by kernel_rfl) (by kernel_rfl) (fun _ _ _ h => h) (by rfl) ?_ ?_); rotate_left
  (intro wF; go_simp; try with_reducible rfl)
  (try simp only [Act.put, List.setIfInBounds_toArray, List.set_cons_zero, List.set_cons_succ])
  (refine floatS (i := 10) (v := ?_) rfl (by kernel_rfl) (by kernel_rfl) (by kernel_rfl) (by kernel_rfl) (fun _ _ _ h => h) (by assumption) (by rfl) ?_ ?_); rotate_left
  (intro wF hF; (try dsimp only at hF); go_simp; try with_reducible rfl)
  (try simp only [Act.put, List.setIfInBounds_toArray, List.set_cons_zero, List.set_cons_succ])
  (refine float0 (i := 11) (v := ?_) rfl (by kernel_rfl) (by kernel_rfl) (by kernel_rfl) (by kernel_rfl) (fun _ _ _ h => h) (by rfl) ?_ ?_); rotate_left
  (intro wF; go_simp; try with_reducible rfl)
  (try simp only [Act.put, List.setIfInBounds_toArray, List.set_cons_zero, List.set_cons_succ])
  (refine floatM (i := 12) rfl (by kernel_rfl) (by kernel_rfl) (fun K hK => ?_)); go_simp
  refine hK.out _ _ (fun _ => (have kA := fun (o : Obj) => Keep.alloc none' w.drew o; ⟨(kA _).cell_some S0.1 (fun x => x), (kA _).cell_some S0.2.1 (fun x => x), (kA _).cell_some S0.2.2 (fun x => x)⟩)) ?_
  clear hK K
  (try simp only [Act.put, List.setIfInBounds_toArray, List.set_cons_zero, List.set_cons_succ])
  (refine float0 (i := 13) (v := ?_) rfl (by kernel_rfl) (by kernel_rfl) (by kernel_rfl) (by kernel_rfl) (fun _ _ _ h => h) (by rfl) ?_ ?_); rotate_left
  (intro wF; go_simp; try with_reducible rfl)
  (try simp only [Act.put, List.setIfInBounds_toArray, List.set_cons_zero, List.set_cons_succ])
  (refine floatE (by kernel_rfl) ?_)
  have k1 : Keep none' w (w.alloc (xO [] (.slice none 0 0) (.slice none 0 0) ps)).drew := (Keep.alloc _ _ _).trans (Keep.drew _ _)
  have i1 := HI.out.keep0 k1
  have st1 := (NSt.start HI.out [] ps).step (Keep.drew _ _) (Grew.refl G _)
  obtain ⟨xb, hxb⟩ : ∃ xb, xb = w.heap.size := ⟨_, rfl⟩
  obtain ⟨W1, hW1⟩ : ∃ W1, W1 = (w.alloc (xO [] (.slice none 0 0) (.slice none 0 0) ps)).drew := ⟨_, rfl⟩
  have hsz : w.heap.size ≤ xb := by omega
  have hw : (w.alloc (.cells #[.string ⟨#[]⟩, .slice none 0 0, .slice none 0 0, .int .i64 ps] 76)).drew = W1 := hW1.symm
  rw [hw]
  rw [← hW1] at k1 i1 st1
  rw [← hxb] at st1 ⊢
  have K1 : Keep (one' rb) w W1 := k1.of_none
  obtain ⟨jb, s1b, s2b, s3b⟩ := i1.ri.suf
  dsimp only at s3b
  have c2 : W1.cell? ⟨rb, 2, none⟩ = some (.int .i64 (badI s.bad)) := cell_of_heap (i := 2) s3b rfl
  have HI1 := Lib.hid i1; have HN1 := Lib.hid st1; have HK1 := Lib.hid K1; have HXB := Lib.hid hsz; have HG1 := Lib.hid (Grew.refl G w)
  clear k1 i1 st1 K1 hw hW1 hxb hsz s1b s2b s3b c0 c1 t2 S0 hj0 hji hj
  replace c2 : W1.cell? ⟨rb, 2, none⟩ = some (.int .i64 (-1)) := by rw [HBD.out] at c2; exact c2
  have HT2 := HNF; have HT3 := HNI; have HT4 := HLT; have IHS := IHA
  have hq := HQ.out
  rw [rExp, if_neg (by rw [HBD.out]; simp), if_neg (by rw [HNF.out]; simp), if_neg (by rw [HNI.out]; simp), if_pos HLT.out] at hq
  have HQL := Lib.hid hq
  clear hq HQ
  go_wp2_with fail
  refine (rd_take HI1.out.ri (.kw FUN) gr_FUN (by simp)).mono ?_
  rw [HT2.out]
  rintro e W2 ⟨rfl, k⟩
  rw [if_neg (by simp)] at k
  clear c2
  have i := HI1.out.step k
  have st := HN1.out.step k.1 (Grew.refl G _)
  have K := HK1.out.trans k.1
  have HI2 := Lib.hid i; have HN2 := Lib.hid st; have HK2 := Lib.hid K
  clear k i st K
  go_wp2_with fail
  refine (rd_take HI2.out.ri (.kw IF) gr_IF (by simp)).mono ?_
  rw [HT3.out]
  rintro e W3 ⟨rfl, k⟩
  rw [if_neg (by simp)] at k
  have i := HI2.out.step k
  have st := HN2.out.step k.1 (Grew.refl G _)
  have K := HK2.out.trans k.1
  have HI3 := Lib.hid i; have HN3 := Lib.hid st; have HK3 := Lib.hid K
  clear k i st K
  go_wp2_with fail
  refine (rd_take HI3.out.ri (.kw LET) gr_LET (by simp)).mono ?_
  rw [HT4.out]
  rintro e W4 ⟨rfl, k⟩
  rw [if_pos rfl] at k
  have i := HI3.out.step k
  have st := HN3.out.step k.1 (Grew.refl G _)
  have K := HK3.out.trans k.1
  have HI4 := Lib.hid i; have HN4 := Lib.hid st; have HK4 := Lib.hid K
  clear k i st K
  have f0 : W4.frozen? ⟨xb, 0, none⟩ = false := free_of_heap HN4.out.x
  have c0 : W4.cell? ⟨xb, 0, none⟩ = some (.string (bs [])) := cell_of_heap (i := 0) HN4.out.x rfl
  go_wp2_with fail
  have st := HN4.out.op LET
  have i := HI4.out.put (i := 0) (.string (bs LET)) HN4.out.gx HN4.out.xr HN4.out.tb
  have K := HK4.out.own (.string (bs LET)) (i := 0) HXB.out
  obtain ⟨W5, hW⟩ : ∃ W, W = W4.setCell ⟨xb, 0, none⟩ (.string (bs LET)) := ⟨_, rfl⟩
  have hw : W4.setCell ⟨xb, 0, none⟩ (.string ⟨#[108, 101, 116]⟩) = W5 := hW.symm
  rw [hw]
  rw [← hW] at st i K
  have HI5 := Lib.hid i; have HN5 := Lib.hid st; have HK5 := Lib.hid K
  clear st i K hW hw f0 c0
  refine (rd_take HI5.out.ri (.kw REC) gr_REC (by simp)).mono ?_
  cases hrc : s.step.isK (.kw REC) with
  | false =>
    rintro e W6 ⟨rfl, k⟩
    rw [if_neg (by simp)] at k
    have i := HI5.out.step k
    have st := HN5.out.step k.1 (Grew.refl G _)
    have K := HK5.out.trans k.1
    have HI6 := Lib.hid i; have HN6 := Lib.hid st; have HK6 := Lib.hid K
    clear k i st K
    have hq := HQL.out
    rw [if_neg (by rw [hrc]; simp)] at hq
    obtain ⟨q1, hq1, hq⟩ := Option.bind_eq_some_iff.1 hq
    obtain ⟨q2, hq2, hq3⟩ := Option.bind_eq_some_iff.1 hq
    have HQ1 := Lib.hid hq1; have HQ2 := Lib.hid hq2; have HQ3 := Lib.hid hq3
    clear hq hq1 hq2 hq3 hrc
    have hb0 := tr_bound ⟨x, T, tb, arr, lvr, rb⟩ f IH.out s.step [] [] q1 (by rw [show (([] : List Str).any fun n => n == (hd s.step.l).text) = false from rfl, dup_false]; exact HQ1.out) G W6 HI6.out HN6.out (by simp) (by simp)
    have HB0 := Lib.hid hb0
    clear hb0
    go_wp2_with fail
    refine HB0.out.mono ?_
    rintro e WB ⟨rfl, hk0, nvb, lvb, yb, bb, Gb, gb, ib, nb, hgd⟩
    have KB := hk0 w HXB.out HK6.out
    obtain ⟨aoN, capN, hnv, _⟩ := own_shape nb.n
    obtain ⟨aoL, capL, hlv, _⟩ := own_shape nb.l
    replace hnv : nvb = .slice aoN 1 capN := hnv
    replace hlv : lvb = .slice aoL 1 capL := hlv
    subst hnv; subst hlv
    replace nb : NSt Gb WB ⟨x, T, tb, arr, lvr, rb⟩ xb LET ps (.slice aoN 1 capN) (.slice aoL 1 capL) [yb] [bb] := nb
    have c0 : WB.cell? ⟨xb, 0, none⟩ = some (.string (bs LET)) := cell_of_heap (i := 0) nb.x rfl
    have q9 : ((bs LET).toList == [114, 101, 99]) = false := (str_c _ _).trans (by decide)
    have HIB := Lib.hid ib; have HNB := Lib.hid nb; have HKB := Lib.hid KB; have HGB := Lib.hid (HG1.out.trans HK6.out gb); have HGD := Lib.hid hgd
    clear hk0 gb ib nb KB hgd HB0
    go_wp2_with fail
    go_loopg [] 0 (fun gn wr => wr = WB)
    case atStart => exact rfl
    case round =>
      have hwr := hrel
      subst wr
      go_wp2_with fail
      refine (rd_need HIB.out.ri (.kw IN) gr_IN (by simp)).mono ?_
      rintro e W21 ⟨y21, rfl, hy21, k⟩
      have i := HIB.out.step k
      have st := HNB.out.step k.1 (Grew.refl Gb _)
      have K := HKB.out.trans k.1
      have HI21 := Lib.hid i; have HN21 := Lib.hid st; have HK21 := Lib.hid K
      clear k i st K
      go_wp2_with fail
      have hx := IH.out _ _ HQ2.out Gb W21.drew (HI21.out.keep0 (Keep.drew _ _))
      have z2 : W21.drew.cell? ⟨xb, 2, none⟩ = some (.slice aoL 1 capL) := cell_of_heap (i := 2) HN21.out.x rfl
      have HX := Lib.hid hx
      have hnr : xb ≠ rb := by have := HN21.out.xr; dsimp only at this; omega
      clear hx
      refine wp_region_float (fun w' => w'.cell? ⟨xb, 2, none⟩ = some (.slice aoL 1 capL)) [0, 1, 2, 3, 5, 9, 10] [4] (by kernel_rfl) ?_
      (refine float0 (i := 0) (v := ?_) rfl (by kernel_rfl) (by kernel_rfl) (by kernel_rfl) (by kernel_rfl) (fun _ _ _ h => h) (by rfl) ?_ ?_); rotate_left
      (intro wF; go_simp; try with_reducible rfl)
      (try simp only [Act.put, List.setIfInBounds_toArray, List.set_cons_zero, List.set_cons_succ])
      (refine float0 (i := 1) (v := ?_) rfl (by kernel_rfl) (by kernel_rfl) (by kernel_rfl) (by kernel_rfl) (fun _ _ _ h => h) (by rfl) ?_ ?_); rotate_left
      (intro wF; go_simp; try with_reducible rfl)
      (try simp only [Act.put, List.setIfInBounds_toArray, List.set_cons_zero, List.set_cons_succ])
      (refine float0 (i := 2) (v := ?_) rfl (by kernel_rfl) (by kernel_rfl) (by kernel_rfl) (by kernel_rfl) (fun _ _ _ h => h) (by rfl) ?_ ?_); rotate_left
      (intro wF; go_simp; try with_reducible rfl)
      (try simp only [Act.put, List.setIfInBounds_toArray, List.set_cons_zero, List.set_cons_succ])
      (refine float0 (i := 3) (v := ?_) rfl (by kernel_rfl) (by kernel_rfl) (by kernel_rfl) (by kernel_rfl) (fun _ _ _ h => h) (by rfl) ?_ ?_); rotate_left
      (intro wF; go_simp; try with_reducible rfl)
      (try simp only [Act.put, List.setIfInBounds_toArray, List.set_cons_zero, List.set_cons_succ])
      (refine floatS (i := 4) (v := ?_) rfl (by kernel_rfl) (by kernel_rfl) (by kernel_rfl) (by kernel_rfl) (fun _ _ _ h => h) (by assumption) (by rfl) ?_ ?_); rotate_left
      (intro wF hF; (try dsimp only at hF); go_simp; try with_reducible rfl)
      (try simp only [Act.put, List.setIfInBounds_toArray, List.set_cons_zero, List.set_cons_succ])
      (refine float0 (i := 5) (v := ?_) rfl (by kernel_rfl) (by kernel_rfl) (by kernel_rfl) (by kernel_rfl) (fun _ _ _ h => h) (by rfl) ?_ ?_); rotate_left
      (intro wF; go_simp; try with_reducible rfl)
      (try simp only [Act.put, List.setIfInBounds_toArray, List.set_cons_zero, List.set_cons_succ])
      (refine floatM (i := 6) rfl (by kernel_rfl) (by kernel_rfl) (fun K hK => ?_)); go_simp
      refine HX.out.mono ?_
      rintro e V22 ⟨k7, b22, G22, rfl, g7, i7, h7, x7⟩
      have z7 : V22.cell? ⟨xb, 2, none⟩ = some (.slice aoL 1 capL) := k7.cell_some z2 hnr
      have st7 := HN21.out.step ((Keep.drew _ _).trans k7) (Grew.keep (Keep.drew none' _) g7)
      have hgr := HGB.out.trans HK21.out (Grew.keep (Keep.drew none' _) g7)
      have HtS := Lib.hid st7; have HtI := Lib.hid i7; have HX22 := Lib.hid x7; have HtK := Lib.hid k7; have HG22 := Lib.hid hgr; have HS22 := Lib.hid g7.sub
      have own7 := st7.l
      have h7x := st7.x
      have hl7 := lt_of_heap h7x
      clear k7 g7 i7 h7 x7 st7 hgr
      go_wp2_with fail
      refine hK.out _ _ (fun _ => z7) ?_
      clear hK K
      (try simp only [Act.put, List.setIfInBounds_toArray, List.set_cons_zero, List.set_cons_succ])
      (refine floatM (i := 7) rfl (by kernel_rfl) (by kernel_rfl) (fun K hK => ?_)); go_simp
      refine hK.out _ _ (fun _ => (cell_of_heap (i := 2) (heap_old h7x) rfl)) ?_
      clear hK K
      (try simp only [Act.put, List.setIfInBounds_toArray, List.set_cons_zero, List.set_cons_succ])
      (refine floatM (i := 8) rfl (by kernel_rfl) (by kernel_rfl) (fun K hK => ?_))
      have own7' := own7.alloc (.cells #[.pointer (some ⟨b22, 0, none⟩)] 31)
      refine step_append_own_at rfl (.tmp 150) (.tmp 153) 74 rfl (xb + 1) 31 ie (.pointer none) 1 8 und_rexps hie ze0 ze1 ze2 rfl (by decide) (.slice aoL 1 capL) 1 _ rfl own7' ⟨V22.heap.size, 0, none⟩ 1 1 [.pointer (some ⟨b22, 0, none⟩)] rfl rfl (cell_one_new _ _ _) (fun x hx => by simp at hx; subst hx; rfl) (by unfold maxLen; omega) (by omega) (by simp; omega) ?_
      intro v8 U22 own8 g8 at8
      obtain ⟨ao22, cap22, hv8, _⟩ := own_shape own8
      have hv8 : v8 = .slice ao22 2 cap22 := hv8
      subst hv8
      have h8 := (HtS.out.mid (.inr rfl) g8).2
      have e8 : U22.cell? ⟨xb, 2, none⟩ = some (.slice aoL 1 capL) := cell_of_heap (i := 2) h8 rfl
      have f8 : U22.frozen? ⟨xb, 2, none⟩ = false := free_of_heap h8
      refine hK.out _ _ (fun _ => e8) ?_
      clear hK K
      (try simp only [Act.put, List.setIfInBounds_toArray, List.set_cons_zero, List.set_cons_succ])
      (refine float0 (i := 9) (v := ?_) rfl (by kernel_rfl) (by kernel_rfl) (by kernel_rfl) (by kernel_rfl) (fun _ _ _ h => h) (by rfl) ?_ ?_); rotate_left
      (intro wF; go_simp; try with_reducible rfl)
      (try simp only [Act.put, List.setIfInBounds_toArray, List.set_cons_zero, List.set_cons_succ])
      (refine float0 (i := 10) (v := ?_) rfl (by kernel_rfl) (by kernel_rfl) (by kernel_rfl) (by kernel_rfl) (fun _ _ _ h => h) (by rfl) ?_ ?_); rotate_left
      (intro wF; go_simp; try with_reducible rfl)
      (try simp only [Act.put, List.setIfInBounds_toArray, List.set_cons_zero, List.set_cons_succ])
      (refine floatT (l := _) (k := 11) rfl rfl (by kernel_rfl) ?_)
      go_wp2_with fail
      obtain ⟨st9, i9⟩ := HtS.out.kid HtI.out (b := b22) own8 g8 at8
      have K9 := HtS.out.keepN (i := 2) (u := .slice ao22 2 cap22) ((HK21.out.trans (Keep.drew _ _)).trans HtK.out) HXB.out (.inr rfl) g8
      obtain ⟨W22, hW⟩ : ∃ W, W = U22.setCell ⟨xb, 2, none⟩ (.slice ao22 2 cap22) := ⟨_, rfl⟩
      rw [← hW] at st9 i9 K9 ⊢
      replace st9 : NSt G22 W22 ⟨x, T, tb, arr, lvr, rb⟩ xb LET ps (.slice aoN 1 capN) (.slice ao22 2 cap22) [yb] [bb, b22] := st9
      have HI22 := Lib.hid i9; have HN22 := Lib.hid st9; have HK22 := Lib.hid K9
      clear st9 i9 K9 hW own8 g8 at8 h8 e8 f8 own7 own7' h7x hl7 z7 z2 hnr HtS HtI HtK HX
      go_ret
      have hq := HQ3.out
      injection hq with hq; subst hq
      obtain ⟨Gz, sz, iz, nz, lz, xz, ez⟩ := HN22.out.stamp HI22.out
      refine ⟨HK22.out, xb, Gz, rfl, ⟨HG22.out.sub.trans sz, fun b hb => ?_⟩, iz, ⟨_, _, _, _, xz⟩, fun hb => ?_⟩
      · have := HXB.out; rw [ez b (by omega)]; exact HG22.out.eq b hb
      · have hg1 := need_good (exp_good HQ2.out hb)
        obtain ⟨e1, e2⟩ := HGD.out hg1
        refine XR.two (x := .lt (hd s.step.l).text q1.1 q2.1) xz ?_ rfl lz ((e2.sub HS22.out).sub sz) ((HX22.out hb).sub sz)
        rw [← e1]; exact nz
  | true =>
    rintro e W6 ⟨rfl, k⟩
    rw [if_pos rfl] at k
    have i := HI5.out.step k
    have st := HN5.out.step k.1 (Grew.refl G _)
    have K := HK5.out.trans k.1
    have HI6 := Lib.hid i; have HN6 := Lib.hid st; have HK6 := Lib.hid K
    clear k i st K
    have f0 : W6.frozen? ⟨xb, 0, none⟩ = false := free_of_heap HN6.out.x
    have c0 : W6.cell? ⟨xb, 0, none⟩ = some (.string (bs LET)) := cell_of_heap (i := 0) HN6.out.x rfl
    go_wp2_with fail
    have st := HN6.out.op REC
    have i := HI6.out.put (i := 0) (.string (bs REC)) HN6.out.gx HN6.out.xr HN6.out.tb
    have K := HK6.out.own (.string (bs REC)) (i := 0) HXB.out
    obtain ⟨W7, hW⟩ : ∃ W, W = W6.setCell ⟨xb, 0, none⟩ (.string (bs REC)) := ⟨_, rfl⟩
    have hw : W6.setCell ⟨xb, 0, none⟩ (.string ⟨#[114, 101, 99]⟩) = W7 := hW.symm
    rw [hw]
    rw [← hW] at st i K
    have HI7 := Lib.hid i; have HN7 := Lib.hid st; have HK7 := Lib.hid K
    clear st i K hW hw f0 c0
    have hq := HQL.out
    rw [if_pos hrc] at hq
    cases f with
    | zero => simp [rRec] at hq
    | succ f =>
      rw [rRec] at hq
      obtain ⟨q1, hq1, hq2⟩ := Option.bind_eq_some_iff.1 hq
      have HQ1 := Lib.hid hq1; have HQ2 := Lib.hid hq2
      clear hq hq1 hq2 hrc
      have hb0 := tr_bound ⟨x, T, tb, arr, lvr, rb⟩ f (IHS.out f (by omega)) s.step.step [] [] q1 HQ1.out G W7 HI7.out HN7.out (by simp) (by simp)
      have HB0 := Lib.hid hb0
      clear hb0
      go_wp2_with fail
      refine HB0.out.mono ?_
      rintro e WB ⟨rfl, hk0, nvb, lvb, yb, bb, Gb, gb, ib, nb, hgd⟩
      have KB := hk0 w HXB.out HK7.out
      obtain ⟨aoN, capN, hnv, _⟩ := own_shape nb.n
      obtain ⟨aoL, capL, hlv, _⟩ := own_shape nb.l
      subst hnv; subst hlv
      have HIB := Lib.hid ib; have HNB := Lib.hid nb; have HKB := Lib.hid KB; have HGB := Lib.hid (HG1.out.trans HK7.out gb); have HGD := Lib.hid hgd
      clear hk0 gb ib nb KB hgd HB0
      go_wp2_with fail
      go_loopg [] f (fun gn wr => ∃ (g2 : Nat) (acc : List (Str × Ex)) (ns : List Str) (ks : List Nat) (sc : RS) (Gc : GH) (nvc lvc : Value), Hid (gn = g2) ∧ g2 + acc.length ≤ f + 1 ∧ Hid (ns.length = acc.length) ∧ Hid (ks.length = acc.length) ∧ Hid (EInv Gc ⟨x, T, tb, arr, lvr, rb⟩ sc wr) ∧ Hid (NSt Gc wr ⟨x, T, tb, arr, lvr, rb⟩ xb REC ps nvc lvc ns ks) ∧ Hid (Keep (one' rb) w wr) ∧ Hid (Grew G w Gc) ∧ Hid ((if sc.isK (.kw AND) then rRec g2 acc sc.step else (rExp g2 (sc.need (.kw IN))).bind fun q2 => some (.rc (Bs.of acc) q2.1, q2.2)) = some q) ∧ Hid (sc.bad = none → ns = acc.map (·.1) ∧ ∀ i (h : i < ks.length) (h2 : i < acc.length), XR Gc ks[i] acc[i].2))
      case atStart =>
        refine ⟨f, [((hd s.step.step.l).text, q1.1)], [yb], [bb], q1.2, Gb, _, _, Lib.hid rfl, by simp, Lib.hid rfl, Lib.hid rfl, HIB, HNB, HKB, HGB, HQ2, Lib.hid fun hb => ⟨by rw [(HGD.out hb).1]; rfl, fun i h h2 => ?_⟩⟩
        simp only [List.length_singleton] at h
        have : i = 0 := by omega
        subst this
        exact (HGD.out hb).2
      case round =>
        clear HIB HNB HKB HGB HQ2 HGD HQ1
        obtain ⟨g2, acc, ns, ks, sc, Gc, nvc, lvc, HM, hgl, HNL, HKL, HI9, HN9, HK9, HG9, HQ9, HGD9⟩ := hrel
        have hnb : ns.length ≤ 1000000 := by have := HNL.out; omega
        have hkb : ks.length ≤ 1000000 := by have := HKL.out; omega
        have c0 : wr.cell? ⟨xb, 0, none⟩ = some (.string (bs REC)) := cell_of_heap (i := 0) HN9.out.x rfl
        have q9 : ((bs REC).toList == [114, 101, 99]) = true := (str_c _ _).trans (by decide)
        go_wp2_with fail
        refine (rd_take HI9.out.ri (.kw AND) gr_AND (by simp)).mono ?_
        cases hA : sc.isK (.kw AND) with
        | true =>
          rintro e W10 ⟨rfl, k⟩
          rw [if_pos rfl] at k
          have i := HI9.out.step k
          have st := HN9.out.step k.1 (Grew.refl Gc _)
          have K := HK9.out.trans k.1
          have HI10 := Lib.hid i; have HN10 := Lib.hid st; have HK10 := Lib.hid K
          clear k i st K
          have hq := HQ9.out
          rw [if_pos hA] at hq
          have hgood : sc.bad = none := by unfold RS.isK at hA; simp only [Bool.and_eq_true, Option.isNone_iff_eq_none] at hA; exact hA.1
          obtain ⟨hns, hxs⟩ := HGD9.out hgood
          cases g2 with
          | zero => simp [rRec] at hq
          | succ g3 =>
            rw [rRec] at hq
            obtain ⟨q2, hq1, hq2⟩ := Option.bind_eq_some_iff.1 hq
            have hany : (ns.any fun n => n == (hd sc.step.l).text) = acc.any (fun b => b.1 == (hd sc.step.l).text) := by rw [hns, List.any_map]; rfl
            have hb0 := tr_bound ⟨x, T, tb, arr, lvr, rb⟩ g3 (IHS.out g3 (by omega)) sc.step ns ks q2 (by rw [hany]; exact hq1) Gc W10 HI10.out HN10.out (by omega) (by omega)
            have HB0 := Lib.hid hb0; have HQ11 := Lib.hid hq2; have HNS := Lib.hid hns; have HXS := Lib.hid hxs
            clear hb0 hq hq1 hq2 hA hgood hany hns hxs
            go_wp2_with fail
            refine HB0.out.mono ?_
            rintro e WC ⟨rfl, hk0, nvb, lvb, yb, bb, Gd, gb, ib, nb, hgd⟩
            have KB := hk0 w HXB.out HK10.out
            have hgr := HG9.out.trans HK10.out gb
            have hsub := gb.sub
            have HIB := Lib.hid ib; have HNB := Lib.hid nb; have HKB := Lib.hid KB; have HGB := Lib.hid hgr; have HGD := Lib.hid hgd; have HSB := Lib.hid hsub
            clear hk0 gb ib nb KB hgd HB0 hgr hsub c0
            go_wp2_with fail
            go_roundg g3
            case measure => have := HM.out; omega
            case rel =>
              refine ⟨g3, acc ++ [((hd sc.step.l).text, q2.1)], ns ++ [yb], ks ++ [bb], q2.2, Gd, _, _, Lib.hid rfl, by simp; omega, Lib.hid (by simp [HNL.out]), Lib.hid (by simp [HKL.out]), HIB, HNB, HKB, HGB, HQ11, Lib.hid fun hb => ⟨by rw [HNS.out, (HGD.out hb).1]; simp, fun i h h2 => ?_⟩⟩
              have hkl := HKL.out
              by_cases hlt : i < ks.length
              · rw [List.getElem_append_left hlt]; simp only [List.getElem_append_left (show i < acc.length by omega)]; exact (HXS.out i hlt (by omega)).sub HSB.out
              · simp only [List.length_append, List.length_singleton] at h
                have : i = ks.length := by omega
                subst this
                have h3 : (acc ++ [((hd sc.step.l).text, q2.1)])[ks.length].2 = q2.1 := by rw [List.getElem_append_right (by omega)]; simp [hkl]
                rw [h3, List.getElem_append_right (Nat.le_refl _)]; simp only [Nat.sub_self, List.getElem_singleton]; exact (HGD.out hb).2
        | false =>
          rintro e W10 ⟨rfl, k⟩
          rw [if_neg (by simp)] at k
          have i := HI9.out.step k
          have st := HN9.out.step k.1 (Grew.refl Gc _)
          have K := HK9.out.trans k.1
          have hq := HQ9.out
          rw [if_neg (by rw [hA]; simp)] at hq
          obtain ⟨q2, hq1, hq2⟩ := Option.bind_eq_some_iff.1 hq
          obtain ⟨aoL, capL, hlv, _⟩ := own_shape st.l
          subst hlv
          have HI10 := Lib.hid i; have HN10 := Lib.hid st; have HK10 := Lib.hid K; have HQ12 := Lib.hid hq1; have HQ13 := Lib.hid hq2
          clear k i st K hq hq1 hq2 hA c0
          go_wp2_with fail
          refine (rd_need HI10.out.ri (.kw IN) gr_IN (by simp)).mono ?_
          rintro e W11 ⟨y11, rfl, hy11, k⟩
          have i := HI10.out.step k
          have st := HN10.out.step k.1 (Grew.refl Gc _)
          have K := HK10.out.trans k.1
          have HI11 := Lib.hid i; have HN11 := Lib.hid st; have HK11 := Lib.hid K
          clear k i st K
          go_wp2_with fail
          have hx := (IHS.out g2 (by omega)) _ _ HQ12.out Gc W11.drew (HI11.out.keep0 (Keep.drew _ _))
          have z2 : W11.drew.cell? ⟨xb, 2, none⟩ = some (.slice aoL ks.length capL) := cell_of_heap (i := 2) HN11.out.x rfl
          have HX := Lib.hid hx
          have hnr : xb ≠ rb := by have := HN11.out.xr; dsimp only at this; omega
          clear hx
          refine wp_region_float (fun w' => w'.cell? ⟨xb, 2, none⟩ = some (.slice aoL ks.length capL)) [0, 1, 2, 3, 5, 9, 10] [4] (by kernel_rfl) ?_
          (refine float0 (i := 0) (v := ?_) rfl (by kernel_rfl) (by kernel_rfl) (by kernel_rfl) (by kernel_rfl) (fun _ _ _ h => h) (by rfl) ?_ ?_); rotate_left
          (intro wF; go_simp; try with_reducible rfl)
          (try simp only [Act.put, List.setIfInBounds_toArray, List.set_cons_zero, List.set_cons_succ])
          (refine float0 (i := 1) (v := ?_) rfl (by kernel_rfl) (by kernel_rfl) (by kernel_rfl) (by kernel_rfl) (fun _ _ _ h => h) (by rfl) ?_ ?_); rotate_left
          (intro wF; go_simp; try with_reducible rfl)
          (try simp only [Act.put, List.setIfInBounds_toArray, List.set_cons_zero, List.set_cons_succ])
          (refine float0 (i := 2) (v := ?_) rfl (by kernel_rfl) (by kernel_rfl) (by kernel_rfl) (by kernel_rfl) (fun _ _ _ h => h) (by rfl) ?_ ?_); rotate_left
          (intro wF; go_simp; try with_reducible rfl)
          (try simp only [Act.put, List.setIfInBounds_toArray, List.set_cons_zero, List.set_cons_succ])
          (refine float0 (i := 3) (v := ?_) rfl (by kernel_rfl) (by kernel_rfl) (by kernel_rfl) (by kernel_rfl) (fun _ _ _ h => h) (by rfl) ?_ ?_); rotate_left
          (intro wF; go_simp; try with_reducible rfl)
          (try simp only [Act.put, List.setIfInBounds_toArray, List.set_cons_zero, List.set_cons_succ])
          (refine floatS (i := 4) (v := ?_) rfl (by kernel_rfl) (by kernel_rfl) (by kernel_rfl) (by kernel_rfl) (fun _ _ _ h => h) (by assumption) (by rfl) ?_ ?_); rotate_left
          (intro wF hF; (try dsimp only at hF); go_simp; try with_reducible rfl)
          (try simp only [Act.put, List.setIfInBounds_toArray, List.set_cons_zero, List.set_cons_succ])
          (refine float0 (i := 5) (v := ?_) rfl (by kernel_rfl) (by kernel_rfl) (by kernel_rfl) (by kernel_rfl) (fun _ _ _ h => h) (by rfl) ?_ ?_); rotate_left
          (intro wF; go_simp; try with_reducible rfl)
          (try simp only [Act.put, List.setIfInBounds_toArray, List.set_cons_zero, List.set_cons_succ])
          (refine floatM (i := 6) rfl (by kernel_rfl) (by kernel_rfl) (fun K hK => ?_)); go_simp
          refine HX.out.mono ?_
          rintro e VE ⟨k7, bE, GE, rfl, g7, i7, h7, x7⟩
          have z7 : VE.cell? ⟨xb, 2, none⟩ = some (.slice aoL ks.length capL) := k7.cell_some z2 hnr
          have st7 := HN11.out.step ((Keep.drew _ _).trans k7) (Grew.keep (Keep.drew none' _) g7)
          have hgr := HG9.out.trans HK11.out (Grew.keep (Keep.drew none' _) g7)
          have HtS := Lib.hid st7; have HtI := Lib.hid i7; have HXE := Lib.hid x7; have HtK := Lib.hid k7; have HGE := Lib.hid hgr; have HSE := Lib.hid g7.sub
          have own7 := st7.l
          have h7x := st7.x
          have hl7 := lt_of_heap h7x
          clear k7 g7 i7 h7 x7 st7 hgr
          go_wp2_with fail
          refine hK.out _ _ (fun _ => z7) ?_
          clear hK K
          (try simp only [Act.put, List.setIfInBounds_toArray, List.set_cons_zero, List.set_cons_succ])
          (refine floatM (i := 7) rfl (by kernel_rfl) (by kernel_rfl) (fun K hK => ?_)); go_simp
          refine hK.out _ _ (fun _ => (cell_of_heap (i := 2) (heap_old h7x) rfl)) ?_
          clear hK K
          (try simp only [Act.put, List.setIfInBounds_toArray, List.set_cons_zero, List.set_cons_succ])
          (refine floatM (i := 8) rfl (by kernel_rfl) (by kernel_rfl) (fun K hK => ?_))
          have own7' := own7.alloc (.cells #[.pointer (some ⟨bE, 0, none⟩)] 31)
          refine step_append_own_at rfl (.tmp 150) (.tmp 153) 74 rfl (xb + 1) 31 ie (.pointer none) 1 8 und_rexps hie ze0 ze1 ze2 rfl (by decide) (.slice aoL ks.length capL) ks.length _ rfl own7' ⟨VE.heap.size, 0, none⟩ 1 1 [.pointer (some ⟨bE, 0, none⟩)] rfl rfl (cell_one_new _ _ _) (fun x hx => by simp at hx; subst hx; rfl) (by unfold maxLen; omega) (by omega) (by simp; omega) ?_
          intro v8 UE own8 g8 at8
          obtain ⟨aoE, capE, rfl, _⟩ := own_shape own8
          have h8 := (HtS.out.mid (.inr rfl) g8).2
          have e8 : UE.cell? ⟨xb, 2, none⟩ = some (.slice aoL ks.length capL) := cell_of_heap (i := 2) h8 rfl
          have f8 : UE.frozen? ⟨xb, 2, none⟩ = false := free_of_heap h8
          refine hK.out _ _ (fun _ => e8) ?_
          clear hK K
          (try simp only [Act.put, List.setIfInBounds_toArray, List.set_cons_zero, List.set_cons_succ])
          (refine float0 (i := 9) (v := ?_) rfl (by kernel_rfl) (by kernel_rfl) (by kernel_rfl) (by kernel_rfl) (fun _ _ _ h => h) (by rfl) ?_ ?_); rotate_left
          (intro wF; go_simp; try with_reducible rfl)
          (try simp only [Act.put, List.setIfInBounds_toArray, List.set_cons_zero, List.set_cons_succ])
          (refine float0 (i := 10) (v := ?_) rfl (by kernel_rfl) (by kernel_rfl) (by kernel_rfl) (by kernel_rfl) (fun _ _ _ h => h) (by rfl) ?_ ?_); rotate_left
          (intro wF; go_simp; try with_reducible rfl)
          (try simp only [Act.put, List.setIfInBounds_toArray, List.set_cons_zero, List.set_cons_succ])
          (refine floatT (l := _) (k := 11) rfl rfl (by kernel_rfl) ?_)
          go_wp2_with fail
          obtain ⟨st9, i9⟩ := HtS.out.kid HtI.out (b := bE) own8 g8 at8
          have K9 := HtS.out.keepN (i := 2) (u := .slice aoE (ks.length + 1) capE) ((HK11.out.trans (Keep.drew _ _)).trans HtK.out) HXB.out (.inr rfl) g8
          go_ret
          have hq := HQ13.out
          injection hq with hq; subst hq
          obtain ⟨Gz, sz, iz, nz, lz, xz, ez⟩ := st9.stamp i9
          refine ⟨K9, xb, Gz, rfl, ⟨HGE.out.sub.trans sz, fun b hb => ?_⟩, iz, ⟨_, _, _, _, xz⟩, fun hb => ?_⟩
          · have := HXB.out; rw [ez b (by omega)]; exact HGE.out.eq b hb
          · have hg1 := need_good (exp_good HQ12.out hb)
            obtain ⟨e1, e2⟩ := HGD9.out hg1
            have hkl := HKL.out
            refine XR.mk (x := .rc (Bs.of acc) q2.1) (ks := ks ++ [bE]) xz ?_ lz ?_ (fun i h h2 => ?_)
            · show SlR Gz _ ((Bs.of acc).names.map fun n => .string (bs n))
              rw [names_of, ← e1]; exact nz
            · simp [Ex.rkids, exprs_of, hkl]
            · by_cases hlt : i < ks.length
              · rw [List.getElem_append_left hlt]
                have h3 : (Ex.rc (Bs.of acc) q2.1).rkids[i] = acc[i].2 := by simp only [Ex.rkids, exprs_of]; rw [List.getElem_append_left (by simp; omega)]; simp
                rw [h3]; exact (((e2 i hlt (by omega)).sub HSE.out).sub sz)
              · simp only [List.length_append, List.length_singleton] at h
                have hi : i = ks.length := by omega
                subst hi
                have h3 : (Ex.rc (Bs.of acc) q2.1).rkids[ks.length] = q2.1 := by simp only [Ex.rkids, exprs_of]; rw [List.getElem_append_right (by simp; omega)]; simp [hkl]
                rw [h3, List.getElem_append_right (Nat.le_refl _)]; simp only [Nat.sub_self, List.getElem_singleton]
                exact (HXE.out hb).sub sz
end Go.Proofs.YtabikmkoajdhmaaDoor
