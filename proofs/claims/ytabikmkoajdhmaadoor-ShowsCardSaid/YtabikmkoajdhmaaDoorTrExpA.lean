/- typerref's exp: an atom and what it is applied to. -/
import Derived.Test.YtabikmkoajdhmaaDoorTrAtom
import Derived.Test.YtabikmkoajdhmaaDoorTrBound
set_option linter.unusedVariables false
set_option linter.unusedSimpArgs false
set_option linter.unnecessarySimpa false
namespace Go.Proofs.YtabikmkoajdhmaaDoor
open Go.RowKit

set_option maxRecDepth 100000 in
set_option maxHeartbeats 8000000 in
theorem tr_expA (R : Rdr) (f : Nat) (ih : ExpOk R f) (iha : ∀ g, g ≤ f → ExpOk R g) (s : RS) (hbd : s.bad = none) (HNF : Hid (s.isK (.kw FUN) = false)) (HNI : Hid (s.isK (.kw IF) = false)) (HNL : Hid (s.isK (.kw LET) = false)) (q : Ex × RS) (hq : rExp (f + 1) s = some q) (G : GH) (w : World) (hi : EInv G R s w) : Calls Tryd.prog 24 #[.pointer (some ⟨R.rb, 0, none⟩)] w (ExpPost G R w q) := by
  obtain ⟨x, T, tb, arr, lvr, rb⟩ := R
  obtain ⟨is, his, zs0, zs1, zs2⟩ := info_parts info_str
  obtain ⟨ie, hie, ze0, ze1, ze2⟩ := info_parts info_rexp
  obtain ⟨j, hl, hj, hr, ha0, ha1, ha2, hp⟩ := hd_at hi.ri
  dsimp only at hj hr ha0 ha1 ha2 ⊢
  obtain ⟨cap, hlv⟩ := hi.ri.tk.lv
  dsimp only at hlv
  have c0 : w.cell? ⟨rb, 0, none⟩ = some (.slice (some ⟨tb, 0, none⟩) T.length cap) := by rw [← hlv]; exact cell_of_heap (i := 0) hr rfl
  have c1 : w.cell? ⟨rb, 1, none⟩ = some (.int .i64 j) := cell_of_heap (i := 1) hr rfl
  have t2 := cell_of_heap hi.ri.hb ha2
  dsimp only at t2
  have hj0 : (0 : Int) ≤ (j : Int) := by omega
  have hji : (j : Int) < (T.length : Int) := by omega
  have hlen : T.length ≤ 1000 := hi.ri.tk.len
  obtain ⟨ps, hps⟩ : ∃ ps, ps = (hd s.l).pos := ⟨_, rfl⟩
  rw [← hps] at t2
  have HI := Lib.hid hi; have HQ := Lib.hid hq; have IH := Lib.hid ih; have HBD := Lib.hid hbd; have IHA := Lib.hid iha
  clear hr ha0 ha1 ha2 hps hl hlv hi hq ih hbd iha
  go_enter Tryd.func24, Tryd.ntmps24
  go_wp2_with fail
  refine wp_region_float (fun w' => w'.cell? ⟨rb, 0, none⟩ = some (.slice (some ⟨tb, 0, none⟩) T.length cap) ∧ w'.cell? ⟨rb, 1, none⟩ = some (.int .i64 j) ∧ w'.cell? ⟨tb, j * 3 + 2, none⟩ = some (.int .i64 ps)) [0, 1, 2, 4, 5, 6, 8, 9, 11, 13] [3, 7, 10] (by kernel_rfl) ?_
  have S0 : w.drew.cell? ⟨rb, 0, none⟩ = some (.slice (some ⟨tb, 0, none⟩) T.length cap) ∧ w.drew.cell? ⟨rb, 1, none⟩ = some (.int .i64 j) ∧ w.drew.cell? ⟨tb, j * 3 + 2, none⟩ = some (.int .i64 ps) := ⟨c0, c1, t2⟩
  (refine float0 (i := 0) (v := ?_) rfl (by kernel_rfl) (by kernel_rfl) (by kernel_rfl) (by kernel_rfl) (fun _ _ _ h => h) (by rfl) ?_ ?_); rotate_left
  (intro wF; go_simp; try with_reducible rfl)
  (try simp only [Act.put, List.setIfInBounds_toArray, List.set_cons_zero, List.set_cons_succ])
  (refine float0 (i := 1) (v := ?_) rfl (by kernel_rfl) (by kernel_rfl) (by kernel_rfl) (by kernel_rfl) (fun _ _ _ h => h) (by rfl) ?_ ?_); rotate_left
  (intro wF; go_simp; try with_reducible rfl)
  (try simp only [Act.put, List.setIfInBounds_toArray, List.set_cons_zero, List.set_cons_succ])
  (refine float0 (i := 2) (v := ?_) rfl (by kernel_rfl) (by kernel_rfl) (by kernel_rfl) (by kernel_rfl) (fun _ _ _ h => h) (by rfl) ?_ ?_); rotate_left
  (intro wF; go_simp; try with_reducible rfl)
  (try simp only [Act.put, List.setIfInBounds_toArray, List.set_cons_zero, List.set_cons_succ])
  (refine floatS (i := 3) (v := ?_) rfl (by kernel_rfl) (by kernel_rfl) (by kernel_rfl) (by kernel_rfl) (fun _ _ _ h => h) (by assumption) (by rfl) ?_ ?_); rotate_left
  (intro wF hF; (try dsimp only at hF); go_simp; try with_reducible rfl)
  (try simp only [Act.put, List.setIfInBounds_toArray, List.set_cons_zero, List.set_cons_succ])
  (refine float0 (i := 4) (v := ?_) rfl (by kernel_rfl) (by kernel_rfl) (by kernel_rfl) (by kernel_rfl) (fun _ _ _ h => h) (by rfl) ?_ ?_); rotate_left
  (intro wF; go_simp; try with_reducible rfl)
  (try simp only [Act.put, List.setIfInBounds_toArray, List.set_cons_zero, List.set_cons_succ])
  (refine float0 (i := 5) (v := ?_) rfl (by kernel_rfl) (by kernel_rfl) (by kernel_rfl) (by kernel_rfl) (fun _ _ _ h => h) (by rfl) ?_ ?_); rotate_left
  (intro wF; go_simp; try with_reducible rfl)
  (try simp only [Act.put, List.setIfInBounds_toArray, List.set_cons_zero, List.set_cons_succ])
  (refine float0 (i := 6) (v := ?_) rfl (by kernel_rfl) (by kernel_rfl) (by kernel_rfl) (by kernel_rfl) (fun _ _ _ h => h) (by rfl) ?_ ?_); rotate_left
  (intro wF; go_simp; try with_reducible rfl)
  (try simp only [Act.put, List.setIfInBounds_toArray, List.set_cons_zero, List.set_cons_succ])
  (refine floatS (i := 7) (v := ?_) rfl (by kernel_rfl) (by kernel_rfl) (by kernel_rfl) (by kernel_rfl) (fun _ _ _ h => h) (by assumption) (by rfl) ?_ ?_); rotate_left
  (intro wF hF; (try dsimp only at hF); go_simp; try with_reducible rfl)
  (try simp only [Act.put, List.setIfInBounds_toArray, List.set_cons_zero, List.set_cons_succ])
  (refine float0 (i := 8) (v := ?_) rfl (by kernel_rfl) (by kernel_rfl) (by kernel_rfl) (by kernel_rfl) (fun _ _ _ h => h) (by rfl) ?_ ?_); rotate_left
  (intro wF; go_simp; try with_reducible rfl)
  (try simp only [Act.put, List.setIfInBounds_toArray, List.set_cons_zero, List.set_cons_succ])
  (refine float0 (i := 9) (v := ?_) rfl (by kernel_rfl) (by kernel_rfl) (by kernel_rfl) (by kernel_rfl) (fun _ _ _ h => h) (by rfl) ?_ ?_); rotate_left
  (intro wF; go_simp; try with_reducible rfl)
  (try simp only [Act.put, List.setIfInBounds_toArray, List.set_cons_zero, List.set_cons_succ])
  (refine floatS (i := 10) (v := ?_) rfl (by kernel_rfl) (by kernel_rfl) (by kernel_rfl) (by kernel_rfl) (fun _ _ _ h => h) (by assumption) (by rfl) ?_ ?_); rotate_left
  (intro wF hF; (try dsimp only at hF); go_simp; try with_reducible rfl)
  (try simp only [Act.put, List.setIfInBounds_toArray, List.set_cons_zero, List.set_cons_succ])
  (refine float0 (i := 11) (v := ?_) rfl (by kernel_rfl) (by kernel_rfl) (by kernel_rfl) (by kernel_rfl) (fun _ _ _ h => h) (by rfl) ?_ ?_); rotate_left
  (intro wF; go_simp; try with_reducible rfl)
  (try simp only [Act.put, List.setIfInBounds_toArray, List.set_cons_zero, List.set_cons_succ])
  (refine floatM (i := 12) rfl (by kernel_rfl) (by kernel_rfl) (fun K hK => ?_)); go_simp
  refine hK.out _ _ (fun _ => (have kA := fun (o : Obj) => Keep.alloc none' w.drew o; ⟨(kA _).cell_some S0.1 (fun x => x), (kA _).cell_some S0.2.1 (fun x => x), (kA _).cell_some S0.2.2 (fun x => x)⟩)) ?_
  clear hK K
  (try simp only [Act.put, List.setIfInBounds_toArray, List.set_cons_zero, List.set_cons_succ])
  (refine float0 (i := 13) (v := ?_) rfl (by kernel_rfl) (by kernel_rfl) (by kernel_rfl) (by kernel_rfl) (fun _ _ _ h => h) (by rfl) ?_ ?_); rotate_left
  (intro wF; go_simp; try with_reducible rfl)
  (try simp only [Act.put, List.setIfInBounds_toArray, List.set_cons_zero, List.set_cons_succ])
  (refine floatE (by kernel_rfl) ?_)
  have k1 : Keep none' w (w.alloc (xO [] (.slice none 0 0) (.slice none 0 0) ps)).drew := (Keep.alloc _ _ _).trans (Keep.drew _ _)
  have i1 := HI.out.keep0 k1
  have st1 := (NSt.start HI.out [] ps).step (Keep.drew _ _) (Grew.refl G _)
  obtain ⟨xb, hxb⟩ : ∃ xb, xb = w.heap.size := ⟨_, rfl⟩
  obtain ⟨W1, hW1⟩ : ∃ W1, W1 = (w.alloc (xO [] (.slice none 0 0) (.slice none 0 0) ps)).drew := ⟨_, rfl⟩
  have hsz : w.heap.size ≤ xb := by omega
  have hw : (w.alloc (.cells #[.string ⟨#[]⟩, .slice none 0 0, .slice none 0 0, .int .i64 ps] 76)).drew = W1 := hW1.symm
  rw [hw]
  rw [← hW1] at k1 i1 st1
  rw [← hxb] at st1 ⊢
  have K1 : Keep (one' rb) w W1 := k1.of_none
  obtain ⟨jb, s1b, s2b, s3b⟩ := i1.ri.suf
  dsimp only at s3b
  have c2 : W1.cell? ⟨rb, 2, none⟩ = some (.int .i64 (badI s.bad)) := cell_of_heap (i := 2) s3b rfl
  have HI1 := Lib.hid i1; have HN1 := Lib.hid st1; have HK1 := Lib.hid K1; have HXB := Lib.hid hsz; have HG1 := Lib.hid (Grew.refl G w)
  clear k1 i1 st1 K1 hw hW1 hxb hsz s1b s2b s3b c0 c1 t2 S0 hj0 hji hj
  replace c2 : W1.cell? ⟨rb, 2, none⟩ = some (.int .i64 (-1)) := by rw [HBD.out] at c2; exact c2
  have HT2 := HNF; have HT3 := HNI; have HT4 := HNL; have IHS := IHA
  have hq := HQ.out
  rw [rExp, if_neg (by rw [HBD.out]; simp), if_neg (by rw [HNF.out]; simp), if_neg (by rw [HNI.out]; simp), if_neg (by rw [HNL.out]; simp)] at hq
  obtain ⟨q1, hq1, hq2⟩ := Option.bind_eq_some_iff.1 hq
  have HQ1 := Lib.hid hq1; have HQ2 := Lib.hid hq2
  clear hq hq1 hq2 HQ
  go_wp2_with fail
  refine (rd_take HI1.out.ri (.kw FUN) gr_FUN (by simp)).mono ?_
  rw [HT2.out]
  rintro e W2 ⟨rfl, k⟩
  rw [if_neg (by simp)] at k
  clear c2
  have i := HI1.out.step k
  have st := HN1.out.step k.1 (Grew.refl G _)
  have K := HK1.out.trans k.1
  have HI2 := Lib.hid i; have HN2 := Lib.hid st; have HK2 := Lib.hid K
  clear k i st K
  go_wp2_with fail
  refine (rd_take HI2.out.ri (.kw IF) gr_IF (by simp)).mono ?_
  rw [HT3.out]
  rintro e W3 ⟨rfl, k⟩
  rw [if_neg (by simp)] at k
  have i := HI2.out.step k
  have st := HN2.out.step k.1 (Grew.refl G _)
  have K := HK2.out.trans k.1
  have HI3 := Lib.hid i; have HN3 := Lib.hid st; have HK3 := Lib.hid K
  clear k i st K
  go_wp2_with fail
  refine (rd_take HI3.out.ri (.kw LET) gr_LET (by simp)).mono ?_
  rw [HT4.out]
  rintro e W4 ⟨rfl, k⟩
  rw [if_neg (by simp)] at k
  have i := HI3.out.step k
  have st := HN3.out.step k.1 (Grew.refl G _)
  have K := HK3.out.trans k.1
  have HI4 := Lib.hid i; have HN4 := Lib.hid st; have HK4 := Lib.hid K
  clear k i st K
  go_wp2_with fail
  cases f with
  | zero => have := HQ1.out; simp [rAtom] at this
  | succ f =>
    have ha := tr_atom ⟨x, T, tb, arr, lvr, rb⟩ f (IHS.out f (by omega)) s q1 HQ1.out G W4 HI4.out
    have HA := Lib.hid ha
    clear ha
    refine HA.out.mono ?_
    rintro e WA ⟨ka, ba, Ga, rfl, ga, ia, ha, xa⟩
    have Ka := HK4.out.trans ka
    have hga := HG1.out.trans HK4.out ga
    have HIA := Lib.hid ia; have HKA := Lib.hid Ka; have HGA := Lib.hid hga; have HHA := Lib.hid ha; have HXA := Lib.hid xa
    clear ka ga ia ha xa Ka hga HA
    go_wp2_with fail
    go_loopg [3] (f + 1) (fun gn s3 wr => ∃ (g2 : Nat) (y : Ex) (sc : RS) (Gc : GH) (yb : Nat), Hid (gn = g2) ∧ g2 ≤ f + 1 ∧ s3 = .pointer (some ⟨yb, 0, none⟩) ∧ Hid (EInv Gc ⟨x, T, tb, arr, lvr, rb⟩ sc wr) ∧ Hid (Keep (one' rb) w wr) ∧ Hid (Grew G w Gc) ∧ Hid (∃ op nv lv at', Gc yb = some (xO op nv lv at')) ∧ Hid (sc.bad = none → XR Gc yb y) ∧ Hid (rApps g2 y sc = some q))
    case atStart => exact ⟨f + 1, q1.1, q1.2, Ga, ba, Lib.hid rfl, by omega, rfl, HIA, HKA, HGA, HHA, HXA, HQ2⟩
    case round =>
      clear HIA HKA HGA HHA HXA HQ2 HQ1
      obtain ⟨g2, y, sc, Gc, yb, HM, hgl, rfl, HI9, HK9, HG9, HH9, HX9, HQ9⟩ := hrel
      cases g2 with
      | zero => have := HQ9.out; simp [rApps] at this
      | succ g3 =>
        go_wp2_with fail
        refine (rd_is HI9.out.ri .name gr_name).mono ?_
        cases h1 : sc.isK .name with
        | true =>
          rintro e W10 ⟨rfl, k⟩
          have i := HI9.out.keep0 k
          have K := HK9.out.trans k.of_none
          have HI10 := Lib.hid i; have HK10 := Lib.hid K
          clear k i K
          have hcond : (sc.isK .name || sc.isK .num || sc.isK (.kw LP)) = true := by rw [h1]; rfl
          clear h1
          have hq := HQ9.out
          rw [rApps, if_pos hcond] at hq
          obtain ⟨q3, hq3, hq4⟩ := Option.bind_eq_some_iff.1 hq
          cases g3 with
          | zero => simp [rAtom] at hq3
          | succ g4 =>
            have hgood : sc.bad = none := by
              cases hb : sc.bad with
              | none => rfl
              | some p => rw [bad_is hb, bad_is hb, bad_is hb] at hcond; cases hcond
            have hx9 := HX9.out hgood
            have ha := tr_atom ⟨x, T, tb, arr, lvr, rb⟩ g4 (IHS.out g4 (by omega)) sc q3 hq3 Gc W10.drew (HI10.out.keep0 (Keep.drew _ _))
            obtain ⟨opy, nvy, lvy, aty, hyo⟩ := HH9.out
            have hyw := HI10.out.holds _ _ hyo
            have S0 : W10.drew.cell? ⟨yb, 3, none⟩ = some (.int .i64 aty) := cell_of_heap (i := 3) hyw rfl
            have hyr : yb ≠ rb := fun e => by have := HI10.out.off; dsimp only at this; rw [← e, hyo] at this; cases this
            have HA := Lib.hid ha; have HQ4 := Lib.hid hq4; have HXY := Lib.hid hx9; have HYO := Lib.hid hyo
            clear ha hq hq3 hq4 hx9 hyo hgood hcond
            go_wp2_with fail
            refine wp_region_float (fun w' => w'.cell? ⟨yb, 3, none⟩ = some (.int .i64 aty)) [0, 1, 2, 4, 5, 8, 10] [3] (by kernel_rfl) ?_
            (refine float0 (i := 0) (v := ?_) rfl (by kernel_rfl) (by kernel_rfl) (by kernel_rfl) (by kernel_rfl) (fun _ _ _ h => h) (by rfl) ?_ ?_); rotate_left
            (intro wF; go_simp; try with_reducible rfl)
            (try simp only [Act.put, List.setIfInBounds_toArray, List.set_cons_zero, List.set_cons_succ])
            (refine float0 (i := 1) (v := ?_) rfl (by kernel_rfl) (by kernel_rfl) (by kernel_rfl) (by kernel_rfl) (fun _ _ _ h => h) (by rfl) ?_ ?_); rotate_left
            (intro wF; go_simp; try with_reducible rfl)
            (try simp only [Act.put, List.setIfInBounds_toArray, List.set_cons_zero, List.set_cons_succ])
            (refine float0 (i := 2) (v := ?_) rfl (by kernel_rfl) (by kernel_rfl) (by kernel_rfl) (by kernel_rfl) (fun _ _ _ h => h) (by rfl) ?_ ?_); rotate_left
            (intro wF; go_simp; try with_reducible rfl)
            (try simp only [Act.put, List.setIfInBounds_toArray, List.set_cons_zero, List.set_cons_succ])
            (refine floatS (i := 3) (v := ?_) rfl (by kernel_rfl) (by kernel_rfl) (by kernel_rfl) (by kernel_rfl) (fun _ _ _ h => h) (by assumption) (by rfl) ?_ ?_); rotate_left
            (intro wF hF; (try dsimp only at hF); go_simp; try with_reducible rfl)
            (try simp only [Act.put, List.setIfInBounds_toArray, List.set_cons_zero, List.set_cons_succ])
            (refine float0 (i := 4) (v := ?_) rfl (by kernel_rfl) (by kernel_rfl) (by kernel_rfl) (by kernel_rfl) (fun _ _ _ h => h) (by rfl) ?_ ?_); rotate_left
            (intro wF; go_simp; try with_reducible rfl)
            (try simp only [Act.put, List.setIfInBounds_toArray, List.set_cons_zero, List.set_cons_succ])
            (refine float0 (i := 5) (v := ?_) rfl (by kernel_rfl) (by kernel_rfl) (by kernel_rfl) (by kernel_rfl) (fun _ _ _ h => h) (by rfl) ?_ ?_); rotate_left
            (intro wF; go_simp; try with_reducible rfl)
            (try simp only [Act.put, List.setIfInBounds_toArray, List.set_cons_zero, List.set_cons_succ])
            (refine floatM (i := 6) rfl (by kernel_rfl) (by kernel_rfl) (fun K hK => ?_)); go_simp
            refine HA.out.mono ?_
            rintro e WB ⟨kb, bb, Gb, rfl, gb, ib, hb, xb2⟩
            have S7 : WB.cell? ⟨yb, 3, none⟩ = some (.int .i64 aty) := kb.cell_some S0 hyr
            have KB := (HK10.out.trans (Keep.drew _ _)).trans kb
            have hgb := (HG9.out.trans (HK10.out.trans (Keep.drew _ _)) gb)
            have HIB := Lib.hid ib; have HKB := Lib.hid KB; have HGB := Lib.hid hgb; have HXB2 := Lib.hid xb2; have HSB := Lib.hid gb.sub
            clear kb gb ib hb xb2 KB hgb HA hyw
            go_wp2_with fail
            refine hK.out _ _ (fun _ => S7) ?_
            clear hK K
            (try simp only [Act.put, List.setIfInBounds_toArray, List.set_cons_zero, List.set_cons_succ])
            (refine floatM (i := 7) rfl (by kernel_rfl) (by kernel_rfl) (fun K hK => ?_)); go_simp
            refine hK.out _ _ (fun _ => ((Keep.alloc none' WB _).cell_some S7 (fun x => x))) ?_
            clear hK K
            (try simp only [Act.put, List.setIfInBounds_toArray, List.set_cons_zero, List.set_cons_succ])
            (refine float0 (i := 8) (v := ?_) rfl (by kernel_rfl) (by kernel_rfl) (by kernel_rfl) (by kernel_rfl) (fun _ _ _ h => h) (by rfl) ?_ ?_); rotate_left
            (intro wF; go_simp; try with_reducible rfl)
            (try simp only [Act.put, List.setIfInBounds_toArray, List.set_cons_zero, List.set_cons_succ])
            (refine floatM (i := 9) rfl (by kernel_rfl) (by kernel_rfl) (fun K hK => ?_)); go_simp
            refine hK.out _ _ (fun _ => ((Keep.alloc none' _ _).cell_some ((Keep.alloc none' WB _).cell_some S7 (fun x => x)) (fun x => x))) ?_
            clear hK K
            (try simp only [Act.put, List.setIfInBounds_toArray, List.set_cons_zero, List.set_cons_succ])
            (refine float0 (i := 10) (v := ?_) rfl (by kernel_rfl) (by kernel_rfl) (by kernel_rfl) (by kernel_rfl) (fun _ _ _ h => h) (by rfl) ?_ ?_); rotate_left
            (intro wF; go_simp; try with_reducible rfl)
            (try simp only [Act.put, List.setIfInBounds_toArray, List.set_cons_zero, List.set_cons_succ])
            (refine floatE (by kernel_rfl) ?_)
            obtain ⟨g8, i8⟩ := HIB.out.two (.cells #[.pointer (some ⟨yb, 0, none⟩), .pointer (some ⟨bb, 0, none⟩)] 31) (xO rAPP (.slice none 0 0) (.slice (some ⟨WB.heap.size, 0, none⟩) 2 2) aty)
            have K8 : Keep (one' rb) w ((WB.alloc (.cells #[.pointer (some ⟨yb, 0, none⟩), .pointer (some ⟨bb, 0, none⟩)] 31)).alloc (xO rAPP (.slice none 0 0) (.slice (some ⟨WB.heap.size, 0, none⟩) 2 2) aty)) := HKB.out.trans ((Keep.alloc _ _ _).trans (Keep.alloc _ _ _))
            have hg8 := HGB.out.trans HKB.out g8
            have HI8 := Lib.hid i8; have HK8 := Lib.hid K8; have HG8 := Lib.hid hg8; have HS8 := Lib.hid g8.sub
            clear i8 K8 hg8 g8 S7 S0
            go_wp2_with fail
            go_roundg (g4 + 1)
            case measure => have := HM.out; omega
            case rel =>
              refine ⟨g4 + 1, .app y q3.1, q3.2, _, WB.heap.size + 1, Lib.hid rfl, by omega, rfl, HI8, HK8, HG8, Lib.hid ⟨_, _, _, _, GH.put_same _ _ _⟩, Lib.hid fun hb => ?_, HQ4⟩
              exact XR.two (x := .app y q3.1) (GH.put_same _ _ _) (.inl ⟨rfl, rfl⟩) rfl (slr_two (T := 31) (by rw [GH.put_other _ _ (by omega)]; exact GH.put_same _ _ _)) ((HXY.out.sub HSB.out).sub HS8.out) ((HXB2.out hb).sub HS8.out)
        | false =>
          rintro e W10 ⟨rfl, k⟩
          have i := HI9.out.keep0 k
          have K := HK9.out.trans k.of_none
          have HI10 := Lib.hid i; have HK10 := Lib.hid K
          clear k i K
          have HH1 := Lib.hid h1
          clear h1
          go_wp2_with fail
          refine (rd_is HI10.out.ri .num gr_num).mono ?_
          cases h2 : sc.isK .num with
          | true =>
            rintro e W11 ⟨rfl, k⟩
            have i := HI10.out.keep0 k
            have K := HK10.out.trans k.of_none
            have HI11 := Lib.hid i; have HK11 := Lib.hid K
            clear k i K
            have hcond : (sc.isK .name || sc.isK .num || sc.isK (.kw LP)) = true := by rw [h2]; simp
            clear h2
            have hq := HQ9.out
            rw [rApps, if_pos hcond] at hq
            obtain ⟨q3, hq3, hq4⟩ := Option.bind_eq_some_iff.1 hq
            cases g3 with
            | zero => simp [rAtom] at hq3
            | succ g4 =>
              have hgood : sc.bad = none := by
                cases hb : sc.bad with
                | none => rfl
                | some p => rw [bad_is hb, bad_is hb, bad_is hb] at hcond; cases hcond
              have hx9 := HX9.out hgood
              have ha := tr_atom ⟨x, T, tb, arr, lvr, rb⟩ g4 (IHS.out g4 (by omega)) sc q3 hq3 Gc W11.drew (HI11.out.keep0 (Keep.drew _ _))
              obtain ⟨opy, nvy, lvy, aty, hyo⟩ := HH9.out
              have hyw := HI11.out.holds _ _ hyo
              have S0 : W11.drew.cell? ⟨yb, 3, none⟩ = some (.int .i64 aty) := cell_of_heap (i := 3) hyw rfl
              have hyr : yb ≠ rb := fun e => by have := HI11.out.off; dsimp only at this; rw [← e, hyo] at this; cases this
              have HA := Lib.hid ha; have HQ4 := Lib.hid hq4; have HXY := Lib.hid hx9; have HYO := Lib.hid hyo
              clear ha hq hq3 hq4 hx9 hyo hgood hcond
              go_wp2_with fail
              refine wp_region_float (fun w' => w'.cell? ⟨yb, 3, none⟩ = some (.int .i64 aty)) [0, 1, 2, 4, 5, 8, 10] [3] (by kernel_rfl) ?_
              (refine float0 (i := 0) (v := ?_) rfl (by kernel_rfl) (by kernel_rfl) (by kernel_rfl) (by kernel_rfl) (fun _ _ _ h => h) (by rfl) ?_ ?_); rotate_left
              (intro wF; go_simp; try with_reducible rfl)
              (try simp only [Act.put, List.setIfInBounds_toArray, List.set_cons_zero, List.set_cons_succ])
              (refine float0 (i := 1) (v := ?_) rfl (by kernel_rfl) (by kernel_rfl) (by kernel_rfl) (by kernel_rfl) (fun _ _ _ h => h) (by rfl) ?_ ?_); rotate_left
              (intro wF; go_simp; try with_reducible rfl)
              (try simp only [Act.put, List.setIfInBounds_toArray, List.set_cons_zero, List.set_cons_succ])
              (refine float0 (i := 2) (v := ?_) rfl (by kernel_rfl) (by kernel_rfl) (by kernel_rfl) (by kernel_rfl) (fun _ _ _ h => h) (by rfl) ?_ ?_); rotate_left
              (intro wF; go_simp; try with_reducible rfl)
              (try simp only [Act.put, List.setIfInBounds_toArray, List.set_cons_zero, List.set_cons_succ])
              (refine floatS (i := 3) (v := ?_) rfl (by kernel_rfl) (by kernel_rfl) (by kernel_rfl) (by kernel_rfl) (fun _ _ _ h => h) (by assumption) (by rfl) ?_ ?_); rotate_left
              (intro wF hF; (try dsimp only at hF); go_simp; try with_reducible rfl)
              (try simp only [Act.put, List.setIfInBounds_toArray, List.set_cons_zero, List.set_cons_succ])
              (refine float0 (i := 4) (v := ?_) rfl (by kernel_rfl) (by kernel_rfl) (by kernel_rfl) (by kernel_rfl) (fun _ _ _ h => h) (by rfl) ?_ ?_); rotate_left
              (intro wF; go_simp; try with_reducible rfl)
              (try simp only [Act.put, List.setIfInBounds_toArray, List.set_cons_zero, List.set_cons_succ])
              (refine float0 (i := 5) (v := ?_) rfl (by kernel_rfl) (by kernel_rfl) (by kernel_rfl) (by kernel_rfl) (fun _ _ _ h => h) (by rfl) ?_ ?_); rotate_left
              (intro wF; go_simp; try with_reducible rfl)
              (try simp only [Act.put, List.setIfInBounds_toArray, List.set_cons_zero, List.set_cons_succ])
              (refine floatM (i := 6) rfl (by kernel_rfl) (by kernel_rfl) (fun K hK => ?_)); go_simp
              refine HA.out.mono ?_
              rintro e WB ⟨kb, bb, Gb, rfl, gb, ib, hb, xb2⟩
              have S7 : WB.cell? ⟨yb, 3, none⟩ = some (.int .i64 aty) := kb.cell_some S0 hyr
              have KB := (HK11.out.trans (Keep.drew _ _)).trans kb
              have hgb := (HG9.out.trans (HK11.out.trans (Keep.drew _ _)) gb)
              have HIB := Lib.hid ib; have HKB := Lib.hid KB; have HGB := Lib.hid hgb; have HXB2 := Lib.hid xb2; have HSB := Lib.hid gb.sub
              clear kb gb ib hb xb2 KB hgb HA hyw
              go_wp2_with fail
              refine hK.out _ _ (fun _ => S7) ?_
              clear hK K
              (try simp only [Act.put, List.setIfInBounds_toArray, List.set_cons_zero, List.set_cons_succ])
              (refine floatM (i := 7) rfl (by kernel_rfl) (by kernel_rfl) (fun K hK => ?_)); go_simp
              refine hK.out _ _ (fun _ => ((Keep.alloc none' WB _).cell_some S7 (fun x => x))) ?_
              clear hK K
              (try simp only [Act.put, List.setIfInBounds_toArray, List.set_cons_zero, List.set_cons_succ])
              (refine float0 (i := 8) (v := ?_) rfl (by kernel_rfl) (by kernel_rfl) (by kernel_rfl) (by kernel_rfl) (fun _ _ _ h => h) (by rfl) ?_ ?_); rotate_left
              (intro wF; go_simp; try with_reducible rfl)
              (try simp only [Act.put, List.setIfInBounds_toArray, List.set_cons_zero, List.set_cons_succ])
              (refine floatM (i := 9) rfl (by kernel_rfl) (by kernel_rfl) (fun K hK => ?_)); go_simp
              refine hK.out _ _ (fun _ => ((Keep.alloc none' _ _).cell_some ((Keep.alloc none' WB _).cell_some S7 (fun x => x)) (fun x => x))) ?_
              clear hK K
              (try simp only [Act.put, List.setIfInBounds_toArray, List.set_cons_zero, List.set_cons_succ])
              (refine float0 (i := 10) (v := ?_) rfl (by kernel_rfl) (by kernel_rfl) (by kernel_rfl) (by kernel_rfl) (fun _ _ _ h => h) (by rfl) ?_ ?_); rotate_left
              (intro wF; go_simp; try with_reducible rfl)
              (try simp only [Act.put, List.setIfInBounds_toArray, List.set_cons_zero, List.set_cons_succ])
              (refine floatE (by kernel_rfl) ?_)
              obtain ⟨g8, i8⟩ := HIB.out.two (.cells #[.pointer (some ⟨yb, 0, none⟩), .pointer (some ⟨bb, 0, none⟩)] 31) (xO rAPP (.slice none 0 0) (.slice (some ⟨WB.heap.size, 0, none⟩) 2 2) aty)
              have K8 : Keep (one' rb) w ((WB.alloc (.cells #[.pointer (some ⟨yb, 0, none⟩), .pointer (some ⟨bb, 0, none⟩)] 31)).alloc (xO rAPP (.slice none 0 0) (.slice (some ⟨WB.heap.size, 0, none⟩) 2 2) aty)) := HKB.out.trans ((Keep.alloc _ _ _).trans (Keep.alloc _ _ _))
              have hg8 := HGB.out.trans HKB.out g8
              have HI8 := Lib.hid i8; have HK8 := Lib.hid K8; have HG8 := Lib.hid hg8; have HS8 := Lib.hid g8.sub
              clear i8 K8 hg8 g8 S7 S0
              go_wp2_with fail
              go_roundg (g4 + 1)
              case measure => have := HM.out; omega
              case rel =>
                refine ⟨g4 + 1, .app y q3.1, q3.2, _, WB.heap.size + 1, Lib.hid rfl, by omega, rfl, HI8, HK8, HG8, Lib.hid ⟨_, _, _, _, GH.put_same _ _ _⟩, Lib.hid fun hb => ?_, HQ4⟩
                exact XR.two (x := .app y q3.1) (GH.put_same _ _ _) (.inl ⟨rfl, rfl⟩) rfl (slr_two (T := 31) (by rw [GH.put_other _ _ (by omega)]; exact GH.put_same _ _ _)) ((HXY.out.sub HSB.out).sub HS8.out) ((HXB2.out hb).sub HS8.out)
          | false =>
            rintro e W11 ⟨rfl, k⟩
            have i := HI10.out.keep0 k
            have K := HK10.out.trans k.of_none
            have HI11 := Lib.hid i; have HK11 := Lib.hid K
            clear k i K
            have HH2 := Lib.hid h2
            clear h2
            go_wp2_with fail
            refine (rd_is HI11.out.ri (.kw LP) gr_LP).mono ?_
            cases h3 : sc.isK (.kw LP) with
            | true =>
              rintro e W12 ⟨rfl, k⟩
              have i := HI11.out.keep0 k
              have K := HK11.out.trans k.of_none
              have HI12 := Lib.hid i; have HK12 := Lib.hid K
              clear k i K
              have hcond : (sc.isK .name || sc.isK .num || sc.isK (.kw LP)) = true := by rw [h3]; simp
              clear h3
              have hq := HQ9.out
              rw [rApps, if_pos hcond] at hq
              obtain ⟨q3, hq3, hq4⟩ := Option.bind_eq_some_iff.1 hq
              cases g3 with
              | zero => simp [rAtom] at hq3
              | succ g4 =>
                have hgood : sc.bad = none := by
                  cases hb : sc.bad with
                  | none => rfl
                  | some p => rw [bad_is hb, bad_is hb, bad_is hb] at hcond; cases hcond
                have hx9 := HX9.out hgood
                have ha := tr_atom ⟨x, T, tb, arr, lvr, rb⟩ g4 (IHS.out g4 (by omega)) sc q3 hq3 Gc W12.drew (HI12.out.keep0 (Keep.drew _ _))
                obtain ⟨opy, nvy, lvy, aty, hyo⟩ := HH9.out
                have hyw := HI12.out.holds _ _ hyo
                have S0 : W12.drew.cell? ⟨yb, 3, none⟩ = some (.int .i64 aty) := cell_of_heap (i := 3) hyw rfl
                have hyr : yb ≠ rb := fun e => by have := HI12.out.off; dsimp only at this; rw [← e, hyo] at this; cases this
                have HA := Lib.hid ha; have HQ4 := Lib.hid hq4; have HXY := Lib.hid hx9; have HYO := Lib.hid hyo
                clear ha hq hq3 hq4 hx9 hyo hgood hcond
                go_wp2_with fail
                refine wp_region_float (fun w' => w'.cell? ⟨yb, 3, none⟩ = some (.int .i64 aty)) [0, 1, 2, 4, 5, 8, 10] [3] (by kernel_rfl) ?_
                (refine float0 (i := 0) (v := ?_) rfl (by kernel_rfl) (by kernel_rfl) (by kernel_rfl) (by kernel_rfl) (fun _ _ _ h => h) (by rfl) ?_ ?_); rotate_left
                (intro wF; go_simp; try with_reducible rfl)
                (try simp only [Act.put, List.setIfInBounds_toArray, List.set_cons_zero, List.set_cons_succ])
                (refine float0 (i := 1) (v := ?_) rfl (by kernel_rfl) (by kernel_rfl) (by kernel_rfl) (by kernel_rfl) (fun _ _ _ h => h) (by rfl) ?_ ?_); rotate_left
                (intro wF; go_simp; try with_reducible rfl)
                (try simp only [Act.put, List.setIfInBounds_toArray, List.set_cons_zero, List.set_cons_succ])
                (refine float0 (i := 2) (v := ?_) rfl (by kernel_rfl) (by kernel_rfl) (by kernel_rfl) (by kernel_rfl) (fun _ _ _ h => h) (by rfl) ?_ ?_); rotate_left
                (intro wF; go_simp; try with_reducible rfl)
                (try simp only [Act.put, List.setIfInBounds_toArray, List.set_cons_zero, List.set_cons_succ])
                (refine floatS (i := 3) (v := ?_) rfl (by kernel_rfl) (by kernel_rfl) (by kernel_rfl) (by kernel_rfl) (fun _ _ _ h => h) (by assumption) (by rfl) ?_ ?_); rotate_left
                (intro wF hF; (try dsimp only at hF); go_simp; try with_reducible rfl)
                (try simp only [Act.put, List.setIfInBounds_toArray, List.set_cons_zero, List.set_cons_succ])
                (refine float0 (i := 4) (v := ?_) rfl (by kernel_rfl) (by kernel_rfl) (by kernel_rfl) (by kernel_rfl) (fun _ _ _ h => h) (by rfl) ?_ ?_); rotate_left
                (intro wF; go_simp; try with_reducible rfl)
                (try simp only [Act.put, List.setIfInBounds_toArray, List.set_cons_zero, List.set_cons_succ])
                (refine float0 (i := 5) (v := ?_) rfl (by kernel_rfl) (by kernel_rfl) (by kernel_rfl) (by kernel_rfl) (fun _ _ _ h => h) (by rfl) ?_ ?_); rotate_left
                (intro wF; go_simp; try with_reducible rfl)
                (try simp only [Act.put, List.setIfInBounds_toArray, List.set_cons_zero, List.set_cons_succ])
                (refine floatM (i := 6) rfl (by kernel_rfl) (by kernel_rfl) (fun K hK => ?_)); go_simp
                refine HA.out.mono ?_
                rintro e WB ⟨kb, bb, Gb, rfl, gb, ib, hb, xb2⟩
                have S7 : WB.cell? ⟨yb, 3, none⟩ = some (.int .i64 aty) := kb.cell_some S0 hyr
                have KB := (HK12.out.trans (Keep.drew _ _)).trans kb
                have hgb := (HG9.out.trans (HK12.out.trans (Keep.drew _ _)) gb)
                have HIB := Lib.hid ib; have HKB := Lib.hid KB; have HGB := Lib.hid hgb; have HXB2 := Lib.hid xb2; have HSB := Lib.hid gb.sub
                clear kb gb ib hb xb2 KB hgb HA hyw
                go_wp2_with fail
                refine hK.out _ _ (fun _ => S7) ?_
                clear hK K
                (try simp only [Act.put, List.setIfInBounds_toArray, List.set_cons_zero, List.set_cons_succ])
                (refine floatM (i := 7) rfl (by kernel_rfl) (by kernel_rfl) (fun K hK => ?_)); go_simp
                refine hK.out _ _ (fun _ => ((Keep.alloc none' WB _).cell_some S7 (fun x => x))) ?_
                clear hK K
                (try simp only [Act.put, List.setIfInBounds_toArray, List.set_cons_zero, List.set_cons_succ])
                (refine float0 (i := 8) (v := ?_) rfl (by kernel_rfl) (by kernel_rfl) (by kernel_rfl) (by kernel_rfl) (fun _ _ _ h => h) (by rfl) ?_ ?_); rotate_left
                (intro wF; go_simp; try with_reducible rfl)
                (try simp only [Act.put, List.setIfInBounds_toArray, List.set_cons_zero, List.set_cons_succ])
                (refine floatM (i := 9) rfl (by kernel_rfl) (by kernel_rfl) (fun K hK => ?_)); go_simp
                refine hK.out _ _ (fun _ => ((Keep.alloc none' _ _).cell_some ((Keep.alloc none' WB _).cell_some S7 (fun x => x)) (fun x => x))) ?_
                clear hK K
                (try simp only [Act.put, List.setIfInBounds_toArray, List.set_cons_zero, List.set_cons_succ])
                (refine float0 (i := 10) (v := ?_) rfl (by kernel_rfl) (by kernel_rfl) (by kernel_rfl) (by kernel_rfl) (fun _ _ _ h => h) (by rfl) ?_ ?_); rotate_left
                (intro wF; go_simp; try with_reducible rfl)
                (try simp only [Act.put, List.setIfInBounds_toArray, List.set_cons_zero, List.set_cons_succ])
                (refine floatE (by kernel_rfl) ?_)
                obtain ⟨g8, i8⟩ := HIB.out.two (.cells #[.pointer (some ⟨yb, 0, none⟩), .pointer (some ⟨bb, 0, none⟩)] 31) (xO rAPP (.slice none 0 0) (.slice (some ⟨WB.heap.size, 0, none⟩) 2 2) aty)
                have K8 : Keep (one' rb) w ((WB.alloc (.cells #[.pointer (some ⟨yb, 0, none⟩), .pointer (some ⟨bb, 0, none⟩)] 31)).alloc (xO rAPP (.slice none 0 0) (.slice (some ⟨WB.heap.size, 0, none⟩) 2 2) aty)) := HKB.out.trans ((Keep.alloc _ _ _).trans (Keep.alloc _ _ _))
                have hg8 := HGB.out.trans HKB.out g8
                have HI8 := Lib.hid i8; have HK8 := Lib.hid K8; have HG8 := Lib.hid hg8; have HS8 := Lib.hid g8.sub
                clear i8 K8 hg8 g8 S7 S0
                go_wp2_with fail
                go_roundg (g4 + 1)
                case measure => have := HM.out; omega
                case rel =>
                  refine ⟨g4 + 1, .app y q3.1, q3.2, _, WB.heap.size + 1, Lib.hid rfl, by omega, rfl, HI8, HK8, HG8, Lib.hid ⟨_, _, _, _, GH.put_same _ _ _⟩, Lib.hid fun hb => ?_, HQ4⟩
                  exact XR.two (x := .app y q3.1) (GH.put_same _ _ _) (.inl ⟨rfl, rfl⟩) rfl (slr_two (T := 31) (by rw [GH.put_other _ _ (by omega)]; exact GH.put_same _ _ _)) ((HXY.out.sub HSB.out).sub HS8.out) ((HXB2.out hb).sub HS8.out)
            | false =>
              rintro e W12 ⟨rfl, k⟩
              have i := HI11.out.keep0 k
              have K := HK11.out.trans k.of_none
              have HI12 := Lib.hid i; have HK12 := Lib.hid K
              clear k i K
              have hq := HQ9.out
              rw [rApps, if_neg (by rw [HH1.out, HH2.out, h3]; simp)] at hq
              have HQF := Lib.hid hq
              clear hq h3
              go_wp2_with fail
              go_ret
              have hq := HQF.out
              injection hq with hq; subst hq
              exact ⟨HK12.out, yb, Gc, rfl, HG9.out, HI12.out, HH9.out, HX9.out⟩
end Go.Proofs.YtabikmkoajdhmaaDoor
