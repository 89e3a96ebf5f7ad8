/- (*engine).part at functions, given of one step down. -/
import Derived.Test.YtabikmkoajdhmaaGreatDoorQ34
set_option linter.unusedVariables false
set_option linter.unusedSimpArgs false
namespace Go.Proofs.YtabikmkoajdhmaaGreatDoor
open Go.RowKit

set_option maxRecDepth 100000 in
set_option maxHeartbeats 4000000 in
theorem part_fn (u : Sur) (hu : SurOk u) (k : Nat) (ih : OfOk u k) {G : GH} {A : GV} {w : World} {n : Nat} {pos : Int} {l : List Told} {env : Env} {e : Option Addr} {b : Nat} {nm : Str} {v2 : Value} {y : Ex} {r : ERes} (hin : EngIn u G A w n l env e)
    (hg : G b = some (.cells #[.int .i64 pos, .string (bs nm), v2] 220)) (hy : ExR G v2 y) (hr : partS u.fuel u.stop (k + 1) env (.fn nm y) n l = r) (hne : r ≠ none) :
    Calls Tryz.prog 131 #[.pointer (some ⟨u.gB, 0, none⟩), .iface 218 (.pointer (some ⟨b, 0, none⟩)), .pointer e] w (EngPost u G A w r) := by
  simp only [partS] at hr
  have hn : n < 1000000000 := by
    rcases Nat.lt_or_ge n 1000000000 with h | h
    · exact h
    · rw [if_neg (by omega)] at hr; exact absurd hr.symm hne
  rw [if_pos hn] at hr
  have hK : ∀ (G' : GH) (w' : World), G.sub G' → Holds G' w' → w'.cell? ⟨b, 2, none⟩ = some v2 ∧ w'.cell? ⟨b, 1, none⟩ = some (.string (bs nm)) := fun G' w' hs h => ⟨cell_of_heap (h _ _ (hs _ _ hg)) rfl, cell_of_heap (h _ _ (hs _ _ hg)) rfl⟩
  obtain ⟨Ty', by', rfl⟩ := hy.shape
  have g0 : w.cell? ⟨u.gB, 0, none⟩ = some (.pointer (some ⟨u.cb, 0, none⟩)) := cell_of_heap (hin.ei.inv.holds _ _ hin.eng) rfl
  have hnew := new_ok hin.ei.cnt hn
  obtain ⟨kc, e5, cnt5⟩ := new_world hin.ei.cnt
  obtain ⟨ei3, x3, y3⟩ := hin.ei.new kc e5 cnt5
  have HNEW := Lib.hid hnew; have HR := Lib.hid hr; have HU := Lib.hid hu; have HIN := Lib.hid hin; have HK := Lib.hid hK; have HY := Lib.hid hy; have IH := Lib.hid ih; have HNE := Lib.hid hne
  have HE3 := Lib.hid ei3; have HX3 := Lib.hid x3; have HY3 := Lib.hid y3
  clear hnew kc e5 cnt5 ei3 x3 y3 hr hu hin hK hy ih hg hne
  have aFunNum := taFunNum
  have aFunName := taFunName
  have aFunFun := taFunFun
  go_enter Tryz.func131, Tryz.ntmps131
  go_wp2_with fail
  refine HNEW.out.mono ?_
  rintro e3 w3 ⟨rfl, hw3⟩
  rw [← hw3] at HE3 HX3 HY3
  obtain ⟨nb, hnb⟩ : ∃ nb, nb = w.heap.size := ⟨_, rfl⟩
  rw [← hnb]
  rw [← hnb] at HE3 HX3 HY3
  clear hw3 hnb
  have X3 := HX3.out.p HIN.out.po
  have r3 := HU.out.stable l G A n w w3 HIN.out.rw' HIN.out.ei HX3.out.keep
  have kd : Keep none' w3 w3.drew := Keep.drew _ _
  obtain ⟨eid, xd⟩ := HE3.out.keep0 kd
  have in3 := HIN.out.up HU.out X3 HE3.out r3
  have Xd := X3.then0 (xd.p in3.po)
  have rd := HU.out.stable l _ _ (n + 1) w3 w3.drew r3 HE3.out xd.keep
  have yd := xd.tr _ _ HY3.out
  have S0 : w3.drew.cell? ⟨b, 2, none⟩ = some (.iface Ty' (.pointer (some ⟨by', 0, none⟩))) ∧ w3.drew.cell? ⟨b, 1, none⟩ = some (.string (bs nm)) := HK.out G w3.drew (GH.sub.refl G) eid.inv.holds
  have HXD := Lib.hid Xd; have HED := Lib.hid eid; have HRD := Lib.hid rd; have HYD := Lib.hid yd
  clear X3 r3 kd eid xd in3 Xd rd yd g0
  go_wp2_with fail
  refine wp_region_float (fun w' => w'.cell? ⟨b, 2, none⟩ = some (.iface Ty' (.pointer (some ⟨by', 0, none⟩))) ∧ w'.cell? ⟨b, 1, none⟩ = some (.string (bs nm))) [0, 1, 2, 3, 5, 6, 7, 8, 10, 11] [4, 9] (by kernel_rfl) ?_
  (refine float0 (i := 0) (v := ?_) rfl (by kernel_rfl) (by kernel_rfl) (by kernel_rfl) (by kernel_rfl) (fun _ _ _ h => h) (by rfl) ?_ ?_); rotate_left
  (intro wF; go_simp; try with_reducible rfl)
  (try simp only [Act.put, List.setIfInBounds_toArray, List.set_cons_zero, List.set_cons_succ])
  (refine float0 (i := 1) (v := ?_) rfl (by kernel_rfl) (by kernel_rfl) (by kernel_rfl) (by kernel_rfl) (fun _ _ _ h => h) (by rfl) ?_ ?_); rotate_left
  (intro wF; go_simp; try with_reducible rfl)
  (try simp only [Act.put, List.setIfInBounds_toArray, List.set_cons_zero, List.set_cons_succ])
  (refine float0 (i := 2) (v := ?_) rfl (by kernel_rfl) (by kernel_rfl) (by kernel_rfl) (by kernel_rfl) (fun _ _ _ h => h) (by rfl) ?_ ?_); rotate_left
  (intro wF; go_simp; try with_reducible rfl)
  (try simp only [Act.put, List.setIfInBounds_toArray, List.set_cons_zero, List.set_cons_succ])
  (refine float0 (i := 3) (v := ?_) rfl (by kernel_rfl) (by kernel_rfl) (by kernel_rfl) (by kernel_rfl) (fun _ _ _ h => h) (by rfl) ?_ ?_); rotate_left
  (intro wF; go_simp; try with_reducible rfl)
  (try simp only [Act.put, List.setIfInBounds_toArray, List.set_cons_zero, List.set_cons_succ])
  (refine floatS (i := 4) (v := ?_) rfl (by kernel_rfl) (by kernel_rfl) (by kernel_rfl) (by kernel_rfl) (fun _ _ _ h => h) (by assumption) (by rfl) ?_ ?_); rotate_left
  (intro wF hF; (try dsimp only at hF); go_simp; try with_reducible rfl)
  (try simp only [Act.put, List.setIfInBounds_toArray, List.set_cons_zero, List.set_cons_succ])
  (refine float0 (i := 5) (v := ?_) rfl (by kernel_rfl) (by kernel_rfl) (by kernel_rfl) (by kernel_rfl) (fun _ _ _ h => h) (by rfl) ?_ ?_); rotate_left
  (intro wF; go_simp; try with_reducible rfl)
  (try simp only [Act.put, List.setIfInBounds_toArray, List.set_cons_zero, List.set_cons_succ])
  (refine float0 (i := 6) (v := ?_) rfl (by kernel_rfl) (by kernel_rfl) (by kernel_rfl) (by kernel_rfl) (fun _ _ _ h => h) (by rfl) ?_ ?_); rotate_left
  (intro wF; go_simp; try with_reducible rfl)
  (try simp only [Act.put, List.setIfInBounds_toArray, List.set_cons_zero, List.set_cons_succ])
  (refine float0 (i := 7) (v := ?_) rfl (by kernel_rfl) (by kernel_rfl) (by kernel_rfl) (by kernel_rfl) (fun _ _ _ h => h) (by rfl) ?_ ?_); rotate_left
  (intro wF; go_simp; try with_reducible rfl)
  (try simp only [Act.put, List.setIfInBounds_toArray, List.set_cons_zero, List.set_cons_succ])
  (refine float0 (i := 8) (v := ?_) rfl (by kernel_rfl) (by kernel_rfl) (by kernel_rfl) (by kernel_rfl) (fun _ _ _ h => h) (by rfl) ?_ ?_); rotate_left
  (intro wF; go_simp; try with_reducible rfl)
  (try simp only [Act.put, List.setIfInBounds_toArray, List.set_cons_zero, List.set_cons_succ])
  (refine floatS (i := 9) (v := ?_) rfl (by kernel_rfl) (by kernel_rfl) (by kernel_rfl) (by kernel_rfl) (fun _ _ _ h => h) (by assumption) (by rfl) ?_ ?_); rotate_left
  (intro wF hF; (try dsimp only at hF); go_simp; try with_reducible rfl)
  (try simp only [Act.put, List.setIfInBounds_toArray, List.set_cons_zero, List.set_cons_succ])
  (refine float0 (i := 10) (v := ?_) rfl (by kernel_rfl) (by kernel_rfl) (by kernel_rfl) (by kernel_rfl) (fun _ _ _ h => h) (by rfl) ?_ ?_); rotate_left
  (intro wF; go_simp; try with_reducible rfl)
  (try simp only [Act.put, List.setIfInBounds_toArray, List.set_cons_zero, List.set_cons_succ])
  (refine float0 (i := 11) (v := ?_) rfl (by kernel_rfl) (by kernel_rfl) (by kernel_rfl) (by kernel_rfl) (fun _ _ _ h => h) (by rfl) ?_ ?_); rotate_left
  (intro wF; go_simp; try with_reducible rfl)
  (try simp only [Act.put, List.setIfInBounds_toArray, List.set_cons_zero, List.set_cons_succ])
  (refine floatM (i := 12) rfl (by kernel_rfl) (by kernel_rfl) (fun K hK => ?_)); go_simp
  refine (mono_ok _ _ _).mono ?_
  rintro e2 w2 ⟨rfl, k2⟩
  obtain ⟨ei2, x2⟩ := HED.out.keep0 k2
  have in0 := HIN.out.up HU.out HXD.out HED.out HRD.out
  have X2 := HXD.out.then0 (x2.p in0.po)
  have r2 := HU.out.stable l _ _ (n + 1) _ w2 HRD.out HED.out x2.keep
  have S2 : w2.cell? ⟨b, 2, none⟩ = some (.iface Ty' (.pointer (some ⟨by', 0, none⟩))) ∧ w2.cell? ⟨b, 1, none⟩ = some (.string (bs nm)) := HK.out G w2 (GH.sub.refl G) ei2.inv.holds
  have in2 := HIN.out.up HU.out X2 ei2 r2
  have y2 := x2.tr _ _ HYD.out
  have HX2 := Lib.hid X2; have HE2 := Lib.hid ei2; have HR2 := Lib.hid r2; have HIN2 := Lib.hid in2; have HY2 := Lib.hid y2
  clear k2 ei2 x2 in0 X2 r2 in2 y2 S0
  go_wp2_with fail
  refine hK.out _ _ (fun _ => S2) ?_
  clear hK K
  (try simp only [Act.put, List.setIfInBounds_toArray, List.set_cons_zero, List.set_cons_succ])
  (refine floatM (i := 13) rfl (by kernel_rfl) (by kernel_rfl) (fun K hK => ?_)); go_simp
  refine (with_ok _ _ _ _ _ _).mono ?_
  rintro e4 w4 ⟨sb, rfl, hsb, k4, hb4⟩
  have hfr : G sb = none := HE2.out.inv.holds.fresh hsb
  have hv4 : ¬ isV (A.put (n + 1) (nb, [])) sb := fun h => by have := HE2.out.inv.old h; omega
  have g4 : Grew G w2 (G.put sb (.cells #[.pointer e, .string (bs nm), .iface 160 (.pointer (some ⟨nb, 0, none⟩)), .map none] 275)) := ⟨GH.sub_put hfr, fun i hi => GH.put_other _ _ (by omega)⟩
  obtain ⟨ei4, x4⟩ := HE2.out.up k4 g4 ((HE2.out.inv.keep0 k4).put hb4 hv4)
  have X4 := HX2.out.then0 (x4.p HIN2.out.po)
  have r4 := HU.out.stable l G _ (n + 1) w2 w4 HR2.out HE2.out x4.keep
  have in4' := HIN.out.up HU.out X4 ei4 r4
  have y4 := x4.tr _ _ HY2.out
  have en4 : EnvR _ (A.put (n + 1) (nb, [])) w4 (some ⟨sb, 0, none⟩) ((nm, ⟨.var (n + 1), []⟩) :: env) :=
    .cons (GH.put_same _ _ _) y4 (.inl ⟨rfl, rfl⟩) (by have := in4'.env; rwa [envApp_nil] at this)
  have in4 : EngIn u _ (A.put (n + 1) (nb, [])) w4 (n + 1) l ((nm, ⟨.var (n + 1), []⟩) :: env) (some ⟨sb, 0, none⟩) := ⟨in4'.ei, in4'.po, in4'.rw', en4, in4'.eng, in4'.sen⟩
  have S4 := HK.out _ w4 g4.sub ei4.inv.holds
  have hr := HR.out
  cases hp2 : ofS u.fuel u.stop k ((nm, ⟨.var (n + 1), []⟩) :: env) y (n + 1) l with
  | none => rw [hp2] at hr; exact absurd hr.symm HNE.out
  | some rr2 =>
    have hc2 := IH.out _ _ w4 (n + 1) l _ _ _ y _ in4 (HY.out.sub g4.sub) hp2 (by simp)
    rw [hp2] at hr
    have HC2 := Lib.hid hc2; have HR3 := Lib.hid hr; have HX4 := Lib.hid X4; have HY4 := Lib.hid y4
    have HS4 := Lib.hid (fun (G' : GH) (w' : World) (hs : (G.put sb _).sub G') (h : Holds G' w') => HK.out G' w' (g4.sub.trans hs) h)
    clear hc2 hr in4 en4 in4' X4 x4 ei4 hb4 k4 g4 r4 hp2 y4
    go_wp2_with fail
    refine hK.out _ _ (fun _ => S4) ?_
    clear hK K
    (try simp only [Act.put, List.setIfInBounds_toArray, List.set_cons_zero, List.set_cons_succ])
    (refine floatM (i := 14) rfl (by kernel_rfl) (by kernel_rfl) (fun K hK => ?_)); go_simp
    refine HC2.out.mono ?_
    cases rr2 with
    | error q =>
      obtain ⟨kq, lq⟩ := q
      have hr := HR3.out; simp only at hr; subst hr
      rintro e5 w5 ⟨rfl, k5, r5⟩
      have HK5 := Lib.hid (HX4.out.keep.trans k5); have HRW := Lib.hid r5; clear k5 r5
      go_wp2_with fail
      exact ⟨rfl, rfl, HK5.out, HRW.out⟩
    | ok q =>
      obtain ⟨t2, d2, n2, l2⟩ := q
      rintro e5 w5 ⟨u2, G5, A5, rfl, x5, ei5, r5, y5⟩
      obtain ⟨T5, b5, rfl⟩ := y5.iface
      have hr := HR3.out; simp only at hr; subst hr
      have S5 := HS4.out G5 w5 x5.g.sub ei5.inv.holds
      have yv := x5.tr _ _ HY4.out
      have X5 := HX4.out.trans x5
      have hpo := HIN.out.po.up X5
      unfold varV at yv
      obtain ⟨G6, g6, i6, y6⟩ := mk_con2 ei5.inv (t := .fn (app d2 (.var (n + 1))) t2) rfl rfl yv y5
      have k6 : Keep none' w5 ((w5.alloc (.cells #[.iface 160 (.pointer (some ⟨nb, 0, none⟩)), .iface T5 (.pointer (some ⟨b5, 0, none⟩))] 149)).alloc (.cells #[.string (bs sFun), .slice (some ⟨w5.heap.size, 0, none⟩) 2 2] 169)) := (Keep.alloc _ _ _).trans (Keep.alloc _ _ _)
      obtain ⟨ei6, x6⟩ := ei5.up k6 g6 i6
      have HX6 := Lib.hid (X5.then0 (x6.p hpo)); have HE6 := Lib.hid ei6; have HY6 := Lib.hid y6
      have HR6 := Lib.hid (HU.out.stable l2 G5 A5 n2 w5 _ r5 ei5 x6.keep)
      clear x5 ei5 r5 y5 yv X5 hpo g6 i6 y6 k6 ei6 x6
      go_wp2_with fail
      refine hK.out _ _ (fun _ => S5) ?_
      clear hK K
      (try simp only [Act.put, List.setIfInBounds_toArray, List.set_cons_zero, List.set_cons_succ])
      (refine floatM (i := 15) rfl (by kernel_rfl) (by kernel_rfl) (fun K hK => ?_)); go_simp
      refine hK.out _ _ (fun _ => S5) ?_
      clear hK K
      (try simp only [Act.put, List.setIfInBounds_toArray, List.set_cons_zero, List.set_cons_succ])
      (refine floatE (by kernel_rfl) ?_)
      go_wp2_with fail
      refine (of_ok (bs sFun) _ _ _ _).mono ?_
      rintro e7 w7 ⟨rfl, rfl⟩
      go_wp2_with fail
      go_ret
      exact ⟨_, G6, A5, rfl, HX6.out, HE6.out, HR6.out, HY6.out⟩
end Go.Proofs.YtabikmkoajdhmaaGreatDoor

/- (*engine).part at if, given of one step down. -/
namespace Go.Proofs.YtabikmkoajdhmaaGreatDoor
open Go.RowKit

set_option maxRecDepth 100000 in
set_option maxHeartbeats 4000000 in
theorem part_ite (u : Sur) (hu : SurOk u) (k : Nat) (ih : OfOk u k) {G : GH} {A : GV} {w : World} {n : Nat} {pos : Int} {l : List Told} {env : Env} {e : Option Addr} {b : Nat} {v1 v2 v3 : Value} {x y z : Ex} {r : ERes} (hin : EngIn u G A w n l env e)
    (hg : G b = some (.cells #[.int .i64 pos, v1, v2, v3] 229)) (hx : ExR G v1 x) (hy : ExR G v2 y) (hz : ExR G v3 z) (hr : partS u.fuel u.stop (k + 1) env (.ite x y z) n l = r) (hne : r ≠ none) :
    Calls Tryz.prog 131 #[.pointer (some ⟨u.gB, 0, none⟩), .iface 227 (.pointer (some ⟨b, 0, none⟩)), .pointer e] w (EngPost u G A w r) := by
  simp only [partS] at hr
  have hK : ∀ (G' : GH) (w' : World), G.sub G' → Holds G' w' → w'.cell? ⟨b, 1, none⟩ = some v1 ∧ w'.cell? ⟨b, 2, none⟩ = some v2 ∧ w'.cell? ⟨b, 3, none⟩ = some v3 := fun G' w' hs h => ⟨cell_of_heap (h _ _ (hs _ _ hg)) rfl, cell_of_heap (h _ _ (hs _ _ hg)) rfl, cell_of_heap (h _ _ (hs _ _ hg)) rfl⟩
  obtain ⟨c1, c2, c3⟩ := hK G w (GH.sub.refl G) hin.ei.inv.holds
  obtain ⟨Tx, bx, rfl⟩ := hx.shape
  obtain ⟨Ty', by', rfl⟩ := hy.shape
  obtain ⟨Tz, bz, rfl⟩ := hz.shape
  cases hp : ofS u.fuel u.stop k env x n l with
  | none => rw [hp] at hr; exact absurd hr.symm hne
  | some rr =>
    have hc := ih G A w n l env e _ x _ hin hx hp (by simp)
    rw [hp] at hr
    have HC := Lib.hid hc; have HR := Lib.hid hr; have HU := Lib.hid hu; have HIN := Lib.hid hin; have HK := Lib.hid hK; have HY := Lib.hid hy; have HZ := Lib.hid hz; have IH := Lib.hid ih; have HNE := Lib.hid hne
    clear hc hr hu hin hK hy hz hx hp ih hg hne
    have aIfNum := taIfNum
    have aIfName := taIfName
    have aIfFun := taIfFun
    have aIfApp := taIfApp
    have aIfPair := taIfPair
    have aIfIf := taIfIf
    go_enter Tryz.func131, Tryz.ntmps131
    go_wp2_with fail
    refine HC.out.mono ?_
    cases rr with
    | error q =>
      obtain ⟨kq, lq⟩ := q
      have hr := HR.out; simp only at hr; subst hr
      rintro e1 w1 ⟨rfl, k1, r1⟩
      have HK1 := Lib.hid k1; have HRW := Lib.hid r1; clear k1 r1
      go_wp2_with fail
      exact ⟨rfl, rfl, HK1.out, HRW.out⟩
    | ok q =>
      obtain ⟨t1, d1, n1, l1⟩ := q
      rintro e1 w1 ⟨u1, G1, A1, rfl, x1, ei1, r1, y1⟩
      obtain ⟨T1, b1, rfl⟩ := y1.iface
      have in1 := HIN.out.up HU.out x1 ei1 r1
      obtain ⟨G2, g2, i2, y2⟩ := mk_con0 ei1.inv (t := .bool) rfl rfl
      have k2 : Keep none' w1 (w1.alloc (.cells #[.string (bs BOOL), .slice none 0 0] 169)) := Keep.alloc _ _ _
      obtain ⟨ei2, x2⟩ := ei1.up k2 g2 i2
      have X2 := x1.then0 (x2.p in1.po)
      have r2 := HU.out.stable l1 _ _ n1 w1 _ r1 ei1 x2.keep
      have in2 := HIN.out.up HU.out X2 ei2 r2
      have hr := HR.out; simp only at hr
      cases hun : uni uniK t1 .bool with
      | none => rw [hun] at hr; exact absurd hr.symm HNE.out
      | some ru =>
        rw [hun] at hr
        have heq := equal_ok (p := u.p) ei2.inv (x2.tr _ _ y1) y2 hun (fun w' kk => HU.out.sents in2.sen (kk.mono (fun i _ h => in2.po.t i (.inr h)))) ⟨⟨u.gB, 0, none⟩, rfl⟩
        simp only [conV] at heq
        have HEQ := Lib.hid heq; have HR2 := Lib.hid hr; have HX2 := Lib.hid X2; have HE2 := Lib.hid ei2; have HRW2 := Lib.hid r2; have HIN2 := Lib.hid in2
        clear heq hr HR x1 ei1 r1 y1 in1 c1 c2 c3 g2 i2 y2 k2 ei2 x2 X2 r2 in2 hun
        go_wp2_with fail
        refine (of_ok (bs BOOL) _ _ _ _).mono ?_
        rintro e2 w2 ⟨rfl, rfl⟩
        simp only [conV]
        go_wp2_with fail
        refine HEQ.out.mono ?_
        cases ru with
        | none =>
          rintro e7 w7 ⟨rfl, k7⟩
          have hr := HR2.out; simp only at hr; subst hr
          have k7' := k7.mono (T := u.P) (fun i _ h => HIN2.out.po.t i (.inr h))
          have HK7 := Lib.hid (HX2.out.keep.trans k7')
          have HR7 := Lib.hid (HU.out.stable l1 _ _ _ _ w7 HRW2.out HE2.out (k7.mono (fun _ _ h => .inr h)))
          clear k7 k7'
          go_wp2_with fail
          exact ⟨rfl, rfl, HK7.out, HR7.out⟩
        | some d2 =>
          rintro e3 w3 ⟨rfl, d7⟩
          have X7 : ExtP u.P G2 A1 _ d2 G2 A1 w3 := ⟨d7.keep.mono (fun i _ h => HIN2.out.po.t i (.inr h)), Grew.refl _ _, GrewV.refl _ _, d7.tr⟩
          have X3 := HX2.out.trans X7
          have r3 := HU.out.stable l1 _ _ _ _ w3 HRW2.out HE2.out (d7.keep.mono (fun _ _ h => .inr h))
          have ei3 : EI u.cb G2 A1 w3 n1 := ⟨d7.inv, d7.keep.get HE2.out.cnt HE2.out.cv, HE2.out.cg, HE2.out.cv⟩
          have in3 := HIN.out.up HU.out X3 ei3 r3
          obtain ⟨c1, c2, c3⟩ := HK.out G2 w3 X3.g.sub ei3.inv.holds
          have hr := HR2.out; simp only at hr
          cases hp2 : ofS u.fuel u.stop k (envApp (d1 ++ d2) env) y n1 l1 with
          | none => rw [hp2] at hr; exact absurd hr.symm HNE.out
          | some rr2 =>
            have hc2 := IH.out G2 A1 w3 n1 l1 (envApp (d1 ++ d2) env) e _ y _ in3 (HY.out.sub X3.g.sub) hp2 (by simp)
            rw [hp2] at hr
            have HC2 := Lib.hid hc2; have HR3 := Lib.hid hr; have HX3 := Lib.hid X3
            clear hc2 hr X7 X3 r3 ei3 in3 d7 hp2 HR2 HX2 HE2 HRW2 HIN2 HEQ
            go_wp2_with fail
            refine HC2.out.mono ?_
            cases rr2 with
            | error q =>
              obtain ⟨kq, lq⟩ := q
              have hr := HR3.out; simp only at hr; subst hr
              rintro e2 w2 ⟨rfl, k2, r2⟩
              have HK1 := Lib.hid (HX3.out.keep.trans k2); have HRW := Lib.hid r2; clear k2 r2
              go_wp2_with fail
              exact ⟨rfl, rfl, HK1.out, HRW.out⟩
            | ok q =>
              obtain ⟨t4, d4, n4, l4⟩ := q
              rintro e2 w4 ⟨u4, G4, A4, rfl, x4, ei4, r4, y4⟩
              obtain ⟨T4, b4, rfl⟩ := y4.iface
              have X4 := HX3.out.trans x4
              have in4 := HIN.out.up HU.out X4 ei4 r4
              obtain ⟨c1', c2', c3'⟩ := HK.out G4 w4 X4.g.sub ei4.inv.holds
              have hr := HR3.out; simp only at hr
              cases hp3 : ofS u.fuel u.stop k (envApp (d1 ++ d2 ++ d4) env) z n4 l4 with
              | none => rw [hp3] at hr; exact absurd hr.symm HNE.out
              | some rr3 =>
                have hc3 := IH.out G4 A4 w4 n4 l4 (envApp (d1 ++ d2 ++ d4) env) e _ z _ in4 (HZ.out.sub X4.g.sub) hp3 (by simp)
                rw [hp3] at hr
                have HC3 := Lib.hid hc3; have HR4 := Lib.hid hr; have HX4 := Lib.hid X4; have HY4 := Lib.hid y4
                clear hc3 hr X4 x4 ei4 r4 y4 in4 c1 c2 c3 hp3 HC2 HR3 HX3
                go_wp2_with fail
                refine HC3.out.mono ?_
                cases rr3 with
                | error q =>
                  obtain ⟨kq, lq⟩ := q
                  have hr := HR4.out; simp only at hr; subst hr
                  rintro e2 w2 ⟨rfl, k2, r2⟩
                  have HK1 := Lib.hid (HX4.out.keep.trans k2); have HRW := Lib.hid r2; clear k2 r2
                  go_wp2_with fail
                  exact ⟨rfl, rfl, HK1.out, HRW.out⟩
                | ok q =>
                  obtain ⟨t5, d5, n5, l5⟩ := q
                  rintro e2 w5 ⟨u5, G5, A5, rfl, x5, ei5, r5, y5⟩
                  obtain ⟨T5, b5, rfl⟩ := y5.iface
                  have X5 := HX4.out.trans x5
                  have in5 := HIN.out.up HU.out X5 ei5 r5
                  have y45 := x5.tr _ _ HY4.out
                  have hr := HR4.out; simp only at hr
                  cases hun : uni uniK (app d5 t4) t5 with
                  | none => rw [hun] at hr; exact absurd hr.symm HNE.out
                  | some ru =>
                    rw [hun] at hr
                    have heq := equal_ok (p := u.p) ei5.inv y45 y5 hun (fun w' kk => HU.out.sents in5.sen (kk.mono (fun i _ h => in5.po.t i (.inr h)))) ⟨⟨u.gB, 0, none⟩, rfl⟩
                    have HEQ := Lib.hid heq; have HR5 := Lib.hid hr; have HX5 := Lib.hid X5; have HE5 := Lib.hid ei5; have HTV := Lib.hid y45; have HRW5 := Lib.hid r5; have HPO5 := Lib.hid in5.po
                    clear heq hr X5 x5 ei5 y45 r5 in5 y5 hun c1' c2' c3' HC3 HR4 HX4 HY4
                    go_wp2_with fail
                    refine HEQ.out.mono ?_
                    cases ru with
                    | none =>
                      rintro e7 w7 ⟨rfl, k7⟩
                      have hr := HR5.out; simp only at hr; subst hr
                      have k7' := k7.mono (T := u.P) (fun i _ h => HPO5.out.t i (.inr h))
                      have HK7 := Lib.hid (HX5.out.keep.trans k7')
                      have HR7 := Lib.hid (HU.out.stable l5 _ _ _ _ w7 HRW5.out HE5.out (k7.mono (fun _ _ h => .inr h)))
                      clear k7 k7'
                      go_wp2_with fail
                      exact ⟨rfl, rfl, HK7.out, HR7.out⟩
                    | some d6 =>
                      rintro e7 w7 ⟨rfl, d7⟩
                      have hr := HR5.out; simp only at hr; subst hr
                      have X7 : ExtP u.P G5 A5 _ d6 G5 A5 w7 := ⟨d7.keep.mono (fun i _ h => HPO5.out.t i (.inr h)), Grew.refl _ _, GrewV.refl _ _, d7.tr⟩
                      have XX := HX5.out.trans X7
                      have HXX := Lib.hid XX
                      have HR7 := Lib.hid (HU.out.stable l5 _ _ _ _ w7 HRW5.out HE5.out (d7.keep.mono (fun _ _ h => .inr h)))
                      have HE7 : Hid (EI u.cb G5 A5 w7 n5) := Lib.hid ⟨d7.inv, d7.keep.get HE5.out.cnt HE5.out.cv, HE5.out.cg, HE5.out.cv⟩
                      have HT7 := Lib.hid (d7.tr _ _ HTV.out)
                      clear X7 XX d7
                      go_wp2_with fail
                      go_ret
                      exact ⟨_, G5, _, rfl, HXX.out, HE7.out, HR7.out, HT7.out⟩
end Go.Proofs.YtabikmkoajdhmaaGreatDoor
