/- typerref's reading of a name and what it stands for, by a contract. -/
import Derived.Test.YtabikmkoajdhmaaDoorTrNode
set_option linter.unusedVariables false
set_option linter.unusedSimpArgs false
set_option linter.unnecessarySimpa false
namespace Go.Proofs.YtabikmkoajdhmaaDoor
open Go.RowKit

theorem und_rexps : Tryd.prog.underlying 74 = some (.slice 31) := by kernel_rfl
theorem info_rexp : (Tryd.prog.info? 31).map (fun i => (i.zero, i.size, i.bytes)) = some (some (.pointer none), 1, 8) := by kernel_rfl
def BndPost (G : GH) (R : Rdr) (w : World) (xb : Nat) (op : Str) (at' : Int) (ns : List Str) (ks : List Nat) (tx : Str) (q : Ex × RS) (e : Ending) (w' : World) : Prop :=
  e = .returned (.tuple #[]) ∧ (∀ w0 : World, w0.heap.size ≤ xb → Keep (one' R.rb) w0 w → Keep (one' R.rb) w0 w') ∧ ∃ nv' lv' y b G', Grew G w G' ∧ EInv G' R q.2 w' ∧ NSt G' w' R xb op at' nv' lv' (ns ++ [y]) (ks ++ [b]) ∧ (q.2.bad = none → y = tx ∧ XR G' b q.1)
theorem dup_good {s : RS} {d : Bool} {a : Nat} (h : (s.dup d a).bad = none) : s.bad = none ∧ d = false := by
  cases hb : s.bad with
  | none =>
    cases d with
    | true => simp [RS.dup, hb] at h
    | false => exact ⟨rfl, rfl⟩
  | some p => rw [bad_dup hb] at h; rw [h] at hb; cases hb
theorem dup_hit {s : RS} {d : Bool} {a : Nat} (h : (s.dup d a).bad = none) : s.dup (d || true) a = ⟨(s.dup d a).l, some a⟩ := by
  obtain ⟨h1, h2⟩ := dup_good h
  subst h2
  simp [RS.dup, h1]
theorem dup_kept {s : RS} {d e : Bool} {a p : Nat} (h : (s.dup d a).bad = some p) : s.dup (d || e) a = s.dup d a := by
  cases hb : s.bad with
  | some b => rw [bad_dup hb, bad_dup hb]
  | none =>
    cases d with
    | true => rfl
    | false => simp [RS.dup, hb] at h
theorem any_take {ns : List Str} {f : Str → Bool} {i : Nat} (h : i < ns.length) : (ns.take (i + 1)).any f = ((ns.take i).any f || f ns[i]) := by
  rw [List.take_succ_eq_append_getElem h, List.any_append]; simp
set_option maxRecDepth 100000 in
set_option maxHeartbeats 4000000 in
theorem tr_bound (R : Rdr) (f : Nat) (ih : ExpOk R f) (s : RS) (ns : List Str) (ks : List Nat) (q : Ex × RS) (hq : rExp f (((s.need .name).dup (ns.any (fun n => n == (hd s.l).text)) (hd s.l).pos).need (.kw EQ)) = some q) (G : GH) (w : World) (hi : EInv G R s w) {xb : Nat} {op : Str} {at' : Int} {nv lv : Value} (hn : NSt G w R xb op at' nv lv ns ks) (hnl : ns.length ≤ 1000000) (hkl : ks.length ≤ 1000000) :
    Calls Tryd.prog 48 #[.pointer (some ⟨R.rb, 0, none⟩), .pointer (some ⟨xb, 0, none⟩)] w (BndPost G R w xb op at' ns ks (hd s.l).text q) := by
  obtain ⟨x, T, tb, arr, lvr, rb⟩ := R
  obtain ⟨is, his, zs0, zs1, zs2⟩ := info_parts info_str
  obtain ⟨ie, hie, ze0, ze1, ze2⟩ := info_parts info_rexp
  obtain ⟨j, hl, hj, hr, ha0, ha1, ha2, hp⟩ := hd_at hi.ri
  dsimp only at hj hr ha0 ha1 ha2 ⊢
  obtain ⟨cap, hlv⟩ := hi.ri.tk.lv
  dsimp only at hlv
  have c0 : w.cell? ⟨rb, 0, none⟩ = some (.slice (some ⟨tb, 0, none⟩) T.length cap) := by rw [← hlv]; exact cell_of_heap (i := 0) hr rfl
  have c1 : w.cell? ⟨rb, 1, none⟩ = some (.int .i64 j) := cell_of_heap (i := 1) hr rfl
  have t2 := cell_of_heap hi.ri.hb ha2
  dsimp only at t2
  have hj0 : (0 : Int) ≤ (j : Int) := by omega
  have hji : (j : Int) < (T.length : Int) := by omega
  have hlen : T.length ≤ 1000 := hi.ri.tk.len
  obtain ⟨ps, hps⟩ : ∃ ps, ps = (hd s.l).pos := ⟨_, rfl⟩
  rw [← hps] at t2
  have HPS := Lib.hid hps; have HI := Lib.hid hi; have HQ := Lib.hid hq; have IH := Lib.hid ih; have HN := Lib.hid hn
  clear hr ha0 ha1 ha2 hps hl hlv hi hq ih hn
  go_enter Tryd.func48, Tryd.ntmps48
  go_wp2_with fail
  go_quiet (fail)
  go_wp2_with fail
  have kd : Keep none' w (w.drewN nq) := Keep.drewN _ _ _
  refine (rd_need (HI.out.keep0 kd).ri .name gr_name (by simp)).mono ?_
  rintro e w1 ⟨y, rfl, hy, k1⟩
  have i1 := (HI.out.keep0 kd).step k1
  have K1 : Keep (one' rb) w w1 := kd.of_none.trans k1.1
  have n1 := HN.out.step K1 (Grew.refl G w)
  have hyt : (s.need .name).bad = none → y = (hd s.l).text := fun hb => by
    have h0 := need_good hb
    refine hy ?_
    unfold RS.need at hb
    cases hk : s.isK .name with
    | true => rfl
    | false => rw [hk, h0] at hb; simp at hb
  obtain ⟨ao, cp, rfl, hcl⟩ := own_shape n1.n
  have HI1 := Lib.hid i1; have HN1 := Lib.hid n1; have HK1 := Lib.hid K1; have HY := Lib.hid hyt; have HCL := Lib.hid hcl
  have x1 : w1.cell? ⟨xb, 1, none⟩ = some (.slice ao ns.length cp) := cell_of_heap (i := 1) n1.x rfl
  clear kd k1 i1 K1 n1 hyt hy c0 c1 t2 hcl
  go_wp2_with fail
  go_loopg [26] ns.length (fun gn s26 wr => ∃ i : Nat, i ≤ ns.length ∧ Hid (gn = ns.length - i) ∧ s26 = .int .i64 i ∧ Hid (EInv G ⟨x, T, tb, arr, lvr, rb⟩ ((s.need .name).dup ((ns.take i).any (fun n => n == y)) ps) wr) ∧ Hid (Keep (one' rb) w1 wr))
  case atStart => exact ⟨0, by omega, Lib.hid rfl, rfl, Lib.hid (by simpa [RS.dup] using HI1.out), Lib.hid (Keep.refl _ _)⟩
  case round =>
    obtain ⟨i, hi, HM, rfl, HIr, HKr⟩ := hrel
    have h0i : (0 : Int) ≤ (i : Int) := by omega
    by_cases hlt : i < ns.length
    · have hii : (i : Int) < (ns.length : Int) := by omega
      obtain ⟨g, rfl, hc⟩ := HCL.out (by omega)
      have hgb := (HN1.out.nr g rfl).1
      have hxr : rb < xb := HN1.out.xr
      have cm : wr.cell? ⟨g, i, none⟩ = some (.string (bs ns[i])) := HKr.out.cell_some (hc i _ (by simp [hlt])) (fun (e : g = rb) => by omega)
      have hst := any_take (f := fun n => n == y) hlt
      have q2 : ((bs ns[i]).toList == (bs y).toList) = decide (ns[i] = y) := str_cc _ _
      obtain ⟨ni, hni⟩ : ∃ ni, ni = ns[i] := ⟨_, rfl⟩
      rw [← hni] at cm hst q2
      obtain ⟨j2, s1, s2, s3⟩ := HIr.out.ri.suf
      have e2 : wr.cell? ⟨rb, 2, none⟩ = some (.int .i64 (badI ((s.need .name).dup ((ns.take i).any (fun n => n == y)) ps).bad)) := cell_of_heap (i := 2) s3 rfl
      have f2 : wr.frozen? ⟨rb, 2, none⟩ = false := free_of_heap s3
      have HS1 := Lib.hid s1; have HS3 := Lib.hid s3
      clear hc hgb hxr hni s1 s3
      by_cases hq : ni = y
      · rw [decide_eq_true hq] at q2
        have hst' : (ns.take (i + 1)).any (fun n => n == y) = ((ns.take i).any (fun n => n == y) || true) := by rw [hst]; simp [hq]
        have HST := Lib.hid hst'
        clear hq hst hst'
        cases hb : ((s.need .name).dup ((ns.take i).any (fun n => n == y)) ps).bad with
        | none =>
          replace e2 : wr.cell? ⟨rb, 2, none⟩ = some (.int .i64 (-1)) := by rw [hb] at e2; exact e2
          have hd := dup_hit hb
          have HD := Lib.hid hd
          clear hb hd
          go_wp2_with fail
          have kk : Keep (one' rb) wr (wr.setCell ⟨rb, 2, none⟩ (.int .i64 ps)) := Keep.setCell _ _ (fun _ => rfl)
          have i5 : EInv G ⟨x, T, tb, arr, lvr, rb⟩ ((s.need .name).dup ((ns.take (i + 1)).any (fun n => n == y)) ps) (wr.setCell ⟨rb, 2, none⟩ (.int .i64 ps)) := by
            rw [HST.out, HD.out]
            exact ⟨HIr.out.holds.keep kk HIr.out.off1, HIr.out.off, HIr.out.ri.tk, kk.get HIr.out.ri.hb (fun e => HIr.out.ri.ne e), HIr.out.ri.ne, ⟨j2, HS1.out, s2, heap_set_same (i := 2) HS3.out⟩, HIr.out.ri.tl⟩
          go_roundg (ns.length - (i + 1))
          case measure => have := HM.out; omega
          case rel => exact ⟨i + 1, by omega, Lib.hid rfl, by go_num, Lib.hid i5, Lib.hid (HKr.out.trans kk)⟩
        | some b =>
          obtain ⟨bi, hbi⟩ : ∃ bi : Int, bi = (b : Int) := ⟨_, rfl⟩
          replace e2 : wr.cell? ⟨rb, 2, none⟩ = some (.int .i64 bi) := by rw [hb] at e2; rw [hbi]; exact e2
          have q1 : ¬ bi < 0 := by omega
          have hd := dup_kept (e := true) hb
          have HD := Lib.hid hd
          clear hb hd hbi
          go_wp2_with fail
          go_roundg (ns.length - (i + 1))
          case measure => have := HM.out; omega
          case rel => exact ⟨i + 1, by omega, Lib.hid rfl, by go_num, Lib.hid (by rw [HST.out, HD.out]; exact HIr.out), HKr⟩
      · rw [decide_eq_false hq] at q2
        have hst' : (ns.take (i + 1)).any (fun n => n == y) = (ns.take i).any (fun n => n == y) := by rw [hst]; simp [hq]
        have HST := Lib.hid hst'
        clear hq hst hst' e2 f2
        go_wp2_with fail
        go_roundg (ns.length - (i + 1))
        case measure => have := HM.out; omega
        case rel => exact ⟨i + 1, by omega, Lib.hid rfl, by go_num, Lib.hid (by rw [HST.out]; exact HIr.out), HKr⟩
    · have hie : i = ns.length := by omega
      subst hie
      have i2 := HIr.out
      rw [List.take_length] at i2
      have hdd : (s.need .name).dup (ns.any (fun n => n == y)) ps = (s.need .name).dup (ns.any (fun n => n == (hd s.l).text)) (hd s.l).pos := by
        rw [HPS.out]
        cases hb : (s.need .name).bad with
        | none => rw [HY.out hb]
        | some p => rw [bad_dup hb, bad_dup hb]
      rw [hdd] at i2
      have n2 := HN1.out.step HKr.out (Grew.refl G _)
      have K2 := HK1.out.trans HKr.out
      have HI2 := Lib.hid i2; have HN2 := Lib.hid n2; have HK2 := Lib.hid K2
      clear i2 n2 K2 hdd HIr HCL x1
      go_wp2_with fail
      refine (rd_need HI2.out.ri (.kw EQ) gr_EQ (by simp)).mono ?_
      rintro e w3 ⟨y3, rfl, _, k3⟩
      have i3 := HI2.out.step k3
      have n3 := HN2.out.step k3.1 (Grew.refl G _)
      have K3 := HK2.out.trans k3.1
      have HI3 := Lib.hid i3; have HN3 := Lib.hid n3; have HK3 := Lib.hid K3
      have x3 : w3.cell? ⟨xb, 1, none⟩ = some (.slice ao ns.length cp) := cell_of_heap (i := 1) n3.x rfl
      have own3 := n3.n
      have hxl := lt_of_heap n3.x
      clear k3 i3 n3 K3
      go_wp2_with (first | (at_builtin; refine wpList_append_own_at _ rfl _ _ 39 rfl (xb + 1) 9 is (.string ByteArray.empty) 1 16 und_strs his zs0 zs1 zs2 rfl (by decide) (.slice ao ns.length cp) ns.length _ rfl (own3.alloc _) ⟨w3.heap.size, 0, none⟩ 1 1 [.string (bs y)] rfl rfl (cell_one_new _ _ _) (fun x hx => by simp at hx; subst hx; rfl) (by unfold maxLen; omega) (by omega) (by simp; omega) ?_; intro v4 w4 own4 g4 _ at4; obtain ⟨ao4, cap4, rfl, _⟩ := own_shape own4; have x4 := (HN3.out.mid (.inl rfl) g4).2; have m1 : w4.cell? ⟨xb, 1, none⟩ = some (.slice ao ns.length cp) := cell_of_heap (i := 1) x4 rfl; have m2 : w4.frozen? ⟨xb, 1, none⟩ = false := free_of_heap x4))
      obtain ⟨st5, i5⟩ := HN3.out.name HI3.out (n := y) own4 g4 at4
      have HKP5 : Hid (∀ w0 : World, w0.heap.size ≤ xb → Keep (one' rb) w0 w → Keep (one' rb) w0 (w4.setCell ⟨xb, 1, none⟩ (.slice ao4 (ns.length + 1) cap4))) := Lib.hid fun w0 hw0 k0 => HN3.out.keepN (i := 1) (u := .slice ao4 (ns.length + 1) cap4) (k0.trans HK3.out) hw0 (.inl rfl) g4
      have hz5 : w.heap.size ≤ (w4.setCell ⟨xb, 1, none⟩ (.slice ao4 (ns.length + 1) cap4)).heap.size := by
        have h1 := HK3.out.size
        have h2 := (HN3.out.mid (.inl rfl) g4).1.size
        have h3 : (w4.setCell ⟨xb, 1, none⟩ (.slice ao4 (ns.length + 1) cap4)).heap.size = w4.heap.size := by simp
        omega
      obtain ⟨W5, hW5⟩ : ∃ W5, W5 = w4.setCell ⟨xb, 1, none⟩ (.slice ao4 (ns.length + 1) cap4) := ⟨_, rfl⟩
      rw [← hW5] at st5 i5 HKP5 hz5 ⊢
      have HZ5 := Lib.hid hz5
      clear hz5
      obtain ⟨aoL, capL, hlv, _⟩ := own_shape st5.l
      subst hlv
      have hx := IH.out _ _ HQ.out G W5.drew (i5.keep0 (Keep.drew _ _))
      have z2 : W5.drew.cell? ⟨xb, 2, none⟩ = some (.slice aoL ks.length capL) := cell_of_heap (i := 2) st5.x rfl
      have HX := Lib.hid hx; have HST5 := Lib.hid st5; have HI5 := Lib.hid i5
      have hnr : xb ≠ rb := by have := st5.xr; dsimp only at this; omega
      clear hx st5 i5 hW5 own4 g4 at4 x4 m1 m2 own3 x3 hxl
      refine wp_region_float (fun w' => w'.cell? ⟨xb, 2, none⟩ = some (.slice aoL ks.length capL)) [0, 1, 2, 3, 5, 9, 10] [4] (by kernel_rfl) ?_
      (refine float0 (i := 0) (v := ?_) rfl (by kernel_rfl) (by kernel_rfl) (by kernel_rfl) (by kernel_rfl) (fun _ _ _ h => h) (by rfl) ?_ ?_); rotate_left
      (intro wF; go_simp; try with_reducible rfl)
      (try simp only [Act.put, List.setIfInBounds_toArray, List.set_cons_zero, List.set_cons_succ])
      (refine float0 (i := 1) (v := ?_) rfl (by kernel_rfl) (by kernel_rfl) (by kernel_rfl) (by kernel_rfl) (fun _ _ _ h => h) (by rfl) ?_ ?_); rotate_left
      (intro wF; go_simp; try with_reducible rfl)
      (try simp only [Act.put, List.setIfInBounds_toArray, List.set_cons_zero, List.set_cons_succ])
      (refine float0 (i := 2) (v := ?_) rfl (by kernel_rfl) (by kernel_rfl) (by kernel_rfl) (by kernel_rfl) (fun _ _ _ h => h) (by rfl) ?_ ?_); rotate_left
      (intro wF; go_simp; try with_reducible rfl)
      (try simp only [Act.put, List.setIfInBounds_toArray, List.set_cons_zero, List.set_cons_succ])
      (refine float0 (i := 3) (v := ?_) rfl (by kernel_rfl) (by kernel_rfl) (by kernel_rfl) (by kernel_rfl) (fun _ _ _ h => h) (by rfl) ?_ ?_); rotate_left
      (intro wF; go_simp; try with_reducible rfl)
      (try simp only [Act.put, List.setIfInBounds_toArray, List.set_cons_zero, List.set_cons_succ])
      (refine floatS (i := 4) (v := ?_) rfl (by kernel_rfl) (by kernel_rfl) (by kernel_rfl) (by kernel_rfl) (fun _ _ _ h => h) (by assumption) (by rfl) ?_ ?_); rotate_left
      (intro wF hF; (try dsimp only at hF); go_simp; try with_reducible rfl)
      (try simp only [Act.put, List.setIfInBounds_toArray, List.set_cons_zero, List.set_cons_succ])
      (refine float0 (i := 5) (v := ?_) rfl (by kernel_rfl) (by kernel_rfl) (by kernel_rfl) (by kernel_rfl) (fun _ _ _ h => h) (by rfl) ?_ ?_); rotate_left
      (intro wF; go_simp; try with_reducible rfl)
      (try simp only [Act.put, List.setIfInBounds_toArray, List.set_cons_zero, List.set_cons_succ])
      (refine floatM (i := 6) rfl (by kernel_rfl) (by kernel_rfl) (fun K hK => ?_)); go_simp
      refine HX.out.mono ?_
      rintro e w7 ⟨k7, b7, G7, rfl, g7, i7, h7, x7⟩
      have z7 : w7.cell? ⟨xb, 2, none⟩ = some (.slice aoL ks.length capL) := k7.cell_some z2 hnr
      have st7 := HST5.out.step ((Keep.drew _ _).trans k7) (Grew.keep (Keep.drew none' _) g7)
      have HST7 := Lib.hid st7; have HI7 := Lib.hid i7; have HG7 := Lib.hid g7; have HX7 := Lib.hid x7; have HK7 := Lib.hid k7
      have own7 := st7.l
      have h7x := st7.x
      have hl7 := lt_of_heap h7x
      clear k7 g7 i7 h7 x7 st7
      go_wp2_with fail
      refine hK.out _ _ (fun _ => z7) ?_
      clear hK K
      (try simp only [Act.put, List.setIfInBounds_toArray, List.set_cons_zero, List.set_cons_succ])
      (refine floatM (i := 7) rfl (by kernel_rfl) (by kernel_rfl) (fun K hK => ?_)); go_simp
      refine hK.out _ _ (fun _ => (cell_of_heap (i := 2) (heap_old h7x) rfl)) ?_
      clear hK K
      (try simp only [Act.put, List.setIfInBounds_toArray, List.set_cons_zero, List.set_cons_succ])
      (refine floatM (i := 8) rfl (by kernel_rfl) (by kernel_rfl) (fun K hK => ?_))
      have own7' := own7.alloc (.cells #[.pointer (some ⟨b7, 0, none⟩)] 31)
      refine step_append_own_at rfl (.tmp 61) (.tmp 64) 74 rfl (xb + 1) 31 ie (.pointer none) 1 8 und_rexps hie ze0 ze1 ze2 rfl (by decide) (.slice aoL ks.length capL) ks.length _ rfl own7' ⟨w7.heap.size, 0, none⟩ 1 1 [.pointer (some ⟨b7, 0, none⟩)] rfl rfl (cell_one_new _ _ _) (fun x hx => by simp at hx; subst hx; rfl) (by unfold maxLen; omega) (by omega) (by simp; omega) ?_
      intro v8 w8 own8 g8 at8
      obtain ⟨ao8, cap8, rfl, _⟩ := own_shape own8
      have h8 := (HST7.out.mid (.inr rfl) g8).2
      have e8 : w8.cell? ⟨xb, 2, none⟩ = some (.slice aoL ks.length capL) := cell_of_heap (i := 2) h8 rfl
      have f8 : w8.frozen? ⟨xb, 2, none⟩ = false := free_of_heap h8
      refine hK.out _ _ (fun _ => e8) ?_
      clear hK K
      (try simp only [Act.put, List.setIfInBounds_toArray, List.set_cons_zero, List.set_cons_succ])
      (refine float0 (i := 9) (v := ?_) rfl (by kernel_rfl) (by kernel_rfl) (by kernel_rfl) (by kernel_rfl) (fun _ _ _ h => h) (by rfl) ?_ ?_); rotate_left
      (intro wF; go_simp; try with_reducible rfl)
      (try simp only [Act.put, List.setIfInBounds_toArray, List.set_cons_zero, List.set_cons_succ])
      (refine float0 (i := 10) (v := ?_) rfl (by kernel_rfl) (by kernel_rfl) (by kernel_rfl) (by kernel_rfl) (fun _ _ _ h => h) (by rfl) ?_ ?_); rotate_left
      (intro wF; go_simp; try with_reducible rfl)
      (try simp only [Act.put, List.setIfInBounds_toArray, List.set_cons_zero, List.set_cons_succ])
      (refine floatT (l := _) (k := 11) rfl rfl (by kernel_rfl) ?_)
      go_wp2_with fail
      obtain ⟨st9, i9⟩ := HST7.out.kid HI7.out (b := b7) own8 g8 at8
      have hkk : ∀ w0 : World, w0.heap.size ≤ xb → Keep (one' rb) w0 w → Keep (one' rb) w0 (w8.setCell ⟨xb, 2, none⟩ (.slice ao8 (ks.length + 1) cap8)) := fun w0 hw0 k0 => HST7.out.keepN (i := 2) (u := .slice ao8 (ks.length + 1) cap8) (((HKP5.out w0 hw0 k0).trans (Keep.drew _ _)).trans HK7.out) hw0 (.inr rfl) g8
      have hgr : Grew G w G7 := ⟨HG7.out.sub, fun b hb => HG7.out.eq b (Nat.lt_of_lt_of_le hb HZ5.out)⟩
      go_end0
      refine ⟨rfl, hkk, _, _, y, b7, G7, hgr, i9, st9, fun hb => ⟨HY.out ?_, HX7.out hb⟩⟩
      exact (dup_good (need_good (exp_good HQ.out hb))).1
end Go.Proofs.YtabikmkoajdhmaaDoor
