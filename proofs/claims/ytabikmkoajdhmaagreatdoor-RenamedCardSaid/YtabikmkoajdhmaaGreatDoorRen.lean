/- Renamed by a contract. -/
import Derived.Test.YtabikmkoajdhmaaGreatDoorInst3
import Derived.Test.YtabikmkoajdhmaaGreatDoorTyRT5
set_option linter.unusedVariables false
set_option linter.unusedSimpArgs false
set_option linter.unnecessarySimpa false
namespace Go.Proofs.YtabikmkoajdhmaaGreatDoor
open Go.RowKit

def qqT : Str := [113, 32, 45, 62, 32, 113]
def aaT : Str := [97, 32, 45, 62, 32, 97]
def qqB : Bool := match readTy qqT 0 with
  | some (.ok (t, _)) => decide (canonT t = aaT)
  | _ => false
theorem qq_k : ∃ t st, readTy qqT 0 = some (.ok (t, st)) ∧ canonT t = aaT := by
  have h : qqB = true := by decide +kernel
  unfold qqB at h
  split at h
  · rename_i t st e; exact ⟨t, st, e, of_decide_eq_true h⟩
  · cases h
theorem inst_total (g s : Str) : ∃ r, instF g s = some r := by
  unfold instF
  cases h : readTy g 0 with
  | none => exact absurd h (readTy_total g 0 (by omega))
  | some r =>
    rcases r with f | ⟨a, st⟩
    · exact ⟨_, rfl⟩
    · have hn := readTy_n h
      simp only
      cases h2 : readTy s st.n with
      | none => exact absurd h2 (readTy_total s st.n (by omega))
      | some r2 =>
        rcases r2 with f | ⟨b, st2⟩
        · exact ⟨_, rfl⟩
        · simp only
          cases matchS (nmS (st.m ++ st2.m)) a b [] with
          | none => exact ⟨_, rfl⟩
          | some m => exact ⟨_, rfl⟩
theorem named_len {f : Nat → Str} : ∀ (t : Ty), (t.named f).ok → ((t.named f).show).length ≤ 20 * t.size
  | .var v, h => by have := h.len; simp only [Ty.named, NT.show, Ty.size] at *; omega
  | .int, _ => by simp [Ty.named, NT.show, Ty.size, INT]
  | .bool, _ => by simp [Ty.named, NT.show, Ty.size, BOOL]
  | .list a, h => by have := named_len a h; simp [Ty.named, NT.show, Ty.size, LB, RB]; omega
  | .pair a b, h => by have := named_len a h.1; have := named_len b h.2; simp [Ty.named, NT.show, Ty.size, LP, RP]; omega
  | .fn a b, h => by
    have := named_len a h.1; have := named_len b h.2
    simp only [Ty.named, NT.show, Ty.size, LP, RP]
    split <;> simp <;> omega
/-- A type's one text. -/
theorem canon_txt {s : Str} {t : Ty} {st : TS} (h : readTy s 0 = some (.ok (t, st))) : ∃ x : NT, x.ok ∧ canonT t = x.show ∧ x.show.length ≤ 2400 := by
  have hz := readTy_size h
  have h1 := one_t h hz
  refine ⟨_, h1.ok, h1.can, ?_⟩
  have := named_len (f := nmF (firsts t [])) t h1.ok
  omega
theorem instN_len (m : List (Str × Str)) : (instN m).length = m.length := by unfold instN sortS; simp
theorem sort_pq : sortS [[112], [113]] = [[112], [113]] := List.mergeSort_of_pairwise (by decide)
theorem inst_two (x y : Str) : instN [([112], x), ([113], y)] = [[112], [113]] ∧ instT [([112], x), ([113], y)] = [x, y] := by
  have h : instN [([112], x), ([113], y)] = [[112], [113]] := by
    exact sort_pq
  refine ⟨h, ?_⟩
  unfold instT
  rw [h]
  simp [List.lookup_cons]
theorem readTy_er {s : Str} {n : Nat} {f : Flt} (h : readTy s n = some (.error f)) : f.what = 2 ∨ f.what = 1 ∨ f.what = 8 := by
  unfold readTy at h
  split at h
  · injection h with h; injection h with h; subst h; exact .inr (.inl rfl)
  · split at h
    · cases h
    · injection h with h; injection h with h; subst h; exact .inl rfl
    · split at h
      · injection h with h; injection h with h; subst h; exact .inr (.inr rfl)
      · cases h
/-- What the law asks, of plain texts. -/
structure RenP (s a b : Str) (c : Str) (f : Flt) : Prop where
  er : f.what ≠ 0 → c = []
  ok : f.what = 0 → c.length ≤ 300 → (∃ rc, readTy c 0 = some rc ∧ canonOf rc = (c, { what := 0 })) ∧ (∃ m m', instF s c = some (.ok m) ∧ instF c s = some (.ok m') ∧ m.length = m'.length)
theorem ren_p {s a b : Str} {r : Except Flt (Ty × TS)} (h : readTy s 0 = some r) : RenP s a b (canonOf r).1 (canonOf r).2 := by
  cases r with
  | error f =>
    have := readTy_er h
    exact ⟨fun _ => rfl, fun h0 => by simp only [canonOf] at h0; omega⟩
  | ok ts =>
    obtain ⟨t, st⟩ := ts
    have hz := readTy_size h
    obtain ⟨F, hF⟩ : ∃ F, F = firsts t [] := ⟨_, rfl⟩
    have h1 := one_t h hz
    rw [← hF] at h1
    refine ⟨fun h0 => absurd rfl h0, fun _ hl => ?_⟩
    simp only [canonOf] at hl ⊢
    refine ⟨⟨_, read_canon hF h1 hz hl 0 (by omega), by simp only [canonOf, canon_again (s := s) (st := st) hF 0]⟩, ?_⟩
    obtain ⟨m, e1, e2⟩ := inst_own h hF h1 hz hl
    obtain ⟨m', e3, e4⟩ := inst_back h hF h1 hz hl
    exact ⟨m, m', e1, e3, by omega⟩
theorem total0 (s : Str) : ∃ r, readTy s 0 = some r := by
  cases h : readTy s 0 with
  | none => exact absurd h (readTy_total s 0 (by omega))
  | some r => exact ⟨r, rfl⟩
theorem canon_call (p : Nat → Addr) (w : World) (hs : Sents p w) (s : Str) (hl : s.length ≤ 9223372036854775807) : ∃ r, readTy s 0 = some r ∧ ∀ W, Keep none' w W → Calls Tryz.prog 14 #[.string (bs s)] W fun e w' => e = .returned (.tuple #[.string (bs (canonOf r).1), fltV (canonOf r).2]) ∧ Keep none' W w' := by
  obtain ⟨r, hr⟩ := total0 s
  exact ⟨r, hr, fun W k => plain_canon p (bs s) W (hs.keep0 k) (by rw [bs_size]; exact hl) (by rw [bytes_bs]; exact hr)⟩
theorem inst_call (p : Nat → Addr) (w : World) (hs : Sents p w) (s t : Str) (hl : s.length ≤ 9223372036854775807) (hl2 : t.length ≤ 9223372036854775807) : ∃ r, instF s t = some r ∧ ∀ W, Keep none' w W → Calls Tryz.prog 17 #[.string (bs s), .string (bs t)] W (PInstPost W r) := by
  obtain ⟨r, hr⟩ := inst_total s t
  exact ⟨r, hr, fun W k => plain_inst p (bs s) (bs t) W (hs.keep0 k) (by rw [bs_size]; exact hl) (by rw [bs_size]; exact hl2) (by rw [bytes_bs, bytes_bs]; exact hr)⟩

theorem put_len {X Y : NT} (h1 : X.show.length ≤ 2400) (h2 : Y.show.length ≤ 2400) : (putNT X Y).show.length ≤ 8000 := by
  simp only [putNT, NT.show, LP, RP, LB, RB]
  split <;> simp <;> omega
def set5 (a : World) (x : Nat) (f : Flt) : World := ((((a.setCell ⟨x, 0, none⟩ (.int .i64 f.what)).setCell ⟨x, 1, none⟩ (.int .i64 f.pos)).setCell ⟨x, 2, none⟩ (.string (bs f.s))).setCell ⟨x, 3, none⟩ (.int .i64 f.inner)).setCell ⟨x, 4, none⟩ (.int .i64 f.innerAt)
def fltO (f : Flt) : Obj := .cells #[.int .i64 f.what, .int .i64 f.pos, .string (bs f.s), .int .i64 f.inner, .int .i64 f.innerAt] 28
theorem set5_heap {a : World} {x : Nat} {g f : Flt} (h : a.heap[x]? = some (fltO g)) : (set5 a x f).heap[x]? = some (fltO f) :=
  heap_set_same (b := x) (i := 4) (heap_set_same (b := x) (i := 3) (heap_set_same (b := x) (i := 2) (heap_set_same (b := x) (i := 1) (heap_set_same (b := x) (i := 0) h))))
theorem set5_keep {w a : World} {x : Nat} (f : Flt) (k : Keep none' w a) (hx : w.heap.size ≤ x) : Keep none' w (set5 a x f) := keep5 k hx _ _ _ _ _
theorem str_emp (a : Str) : (bs a).toList.isEmpty = a.isEmpty := by rw [show (bs a).toList = a by rw [ByteArray.toList_eq]; exact bs_toList a]
set_option maxRecDepth 100000 in
set_option maxHeartbeats 8000000 in
theorem renamed_ok (p : Nat → Addr) (s a b : Str) (hl : s.length ≤ 9223372036854775807 ∧ a.length ≤ 9223372036854775807 ∧ b.length ≤ 9223372036854775807) (w : World) (hs : Sents p w) :
    Calls Tryz.prog 4 #[.string (bs s), .string (bs a), .string (bs b)] w fun e w' => e = .returned (.bool true) ∧ Keep none' w w' := by
  obtain ⟨rq, hq, cq⟩ := canon_call p w hs qqT (by decide)
  have hqe : canonOf rq = (aaT, { what := 0 }) := by
    obtain ⟨t, st, e1, e2⟩ := qq_k
    rw [e1] at hq; injection hq with hq; subst hq
    simp only [canonOf, e2]
  rw [hqe] at cq
  obtain ⟨r, hr, cs⟩ := canon_call p w hs s hl.1
  have hp := ren_p (a := a) (b := b) hr
  obtain ⟨c, f, hcf⟩ : ∃ c f, canonOf r = (c, f) := ⟨_, _, rfl⟩
  rw [hcf] at cs hp
  simp only at cs hp cq
  have hcl : c.length ≤ 2400 := by
    cases r with
    | error g => simp only [canonOf, Prod.mk.injEq] at hcf; rw [← hcf.1]; simp
    | ok ts =>
      obtain ⟨t, st⟩ := ts
      obtain ⟨x, _, e1, e2⟩ := canon_txt hr
      simp only [canonOf, Prod.mk.injEq] at hcf; rw [← hcf.1, e1]; exact e2
  have HCL := Lib.hid hcl
  have HQ := Lib.hid cq; have HC := Lib.hid cs; have HP := Lib.hid hp; have HS := Lib.hid hs; have HL := Lib.hid hl
  have q0 : ((bs aaT).toList == [97, 32, 45, 62, 32, 97]) = true := by rw [str_is]; rfl
  clear cq cs hp hs hl hqe hq hcf hcl
  go_enter Tryz.func4, Tryz.ntmps4
  go_wp2_with fail
  refine (HQ.out w (Keep.refl _ _)).mono ?_
  rintro e w1 ⟨rfl, k1⟩
  have HK1 := Lib.hid k1; clear k1 HQ
  unfold fltV faultV
  go_wp2_with fail
  refine (HC.out _ (HK1.out.trans (Keep.alloc _ _ _))).mono ?_
  rintro e w2 ⟨rfl, k2⟩
  have K2 := (HK1.out.trans (Keep.alloc none' w1 _)).trans k2
  have K3 : Keep none' w (w2.alloc (.cells #[.int .i64 f.what, .int .i64 f.pos, .string (bs f.s), .int .i64 f.inner, .int .i64 f.innerAt] 28)) := K2.trans (Keep.alloc _ _ _)
  have h3 : (w2.alloc (.cells #[.int .i64 f.what, .int .i64 f.pos, .string (bs f.s), .int .i64 f.inner, .int .i64 f.innerAt] 28)).heap[w2.heap.size]? = some (.cells #[.int .i64 f.what, .int .i64 f.pos, .string (bs f.s), .int .i64 f.inner, .int .i64 f.innerAt] 28) := heap_new _ _
  have f0 := cell_of_heap (i := 0) h3 rfl
  have HK3 := Lib.hid K3; have H3 := Lib.hid h3
  have HW2 := Lib.hid K2.size
  clear k2 K2 K3 h3 HK1 HC q0
  unfold fltV faultV
  by_cases hf : f.what = 0
  · have q1 : ((f.what : Int) == 0) = true := by simp [hf]
    obtain ⟨r2, hr2, c2⟩ := canon_call p w HS.out c (by have := HCL.out; omega)
    have HC2 := Lib.hid c2; have HR2 := Lib.hid hr2; have HF := Lib.hid hf
    clear c2 hr2 hf
    go_wp2_with fail
    refine (HC2.out _ HK3.out).mono ?_
    obtain ⟨d, f2, hdf⟩ : ∃ d f2, canonOf r2 = (d, f2) := ⟨_, _, rfl⟩
    rw [hdf]
    rintro e w3 ⟨rfl, k3⟩
    have x3 := k3.get H3.out (fun x => x)
    have d0 := cell_of_heap (i := 0) x3 rfl; have d1 := cell_of_heap (i := 1) x3 rfl; have d2 := cell_of_heap (i := 2) x3 rfl; have d3 := cell_of_heap (i := 3) x3 rfl; have d4 := cell_of_heap (i := 4) x3 rfl
    have ff : ∀ i, w3.frozen? ⟨w2.heap.size, i, none⟩ = false := fun i => free_of_heap x3
    have HX3 := Lib.hid x3; have HK4 := Lib.hid (HK3.out.trans k3); have HDF := Lib.hid hdf
    clear x3 k3 hdf H3 HC2 f0
    unfold fltV faultV
    obtain ⟨ri, hri, ci⟩ := inst_call p w HS.out s c HL.out.1 (by have := HCL.out; omega)
    obtain ⟨rj, hrj, cj⟩ := inst_call p w HS.out c s (by have := HCL.out; omega) HL.out.1
    have HCI := Lib.hid ci; have HRI := Lib.hid hri; have HCJ := Lib.hid cj; have HRJ := Lib.hid hrj
    clear ci hri cj hrj
    go_wp2_with fail
    have h5 : (set5 w3 w2.heap.size f2).heap[w2.heap.size]? = some (fltO f2) := set5_heap (g := f) HX3.out
    have k5 : Keep none' w (set5 w3 w2.heap.size f2) := set5_keep f2 HK4.out HW2.out
    refine (HCI.out (set5 w3 w2.heap.size f2) k5).mono ?_
    rintro e w4 ⟨nv, tv, rfl, k4, o1, o2⟩
    obtain ⟨ao, cap, rfl, _⟩ := own_shape o1
    have hn : (instN (mOf ri)).length = (mOf ri).length := instN_len _
    rw [hn]
    have h6 : w4.heap[w2.heap.size]? = some (fltO f2) := k4.get h5 (fun x => x)
    have K6 := k5.trans k4
    obtain ⟨gi, hgi⟩ : ∃ gi, gi = fOf ri := ⟨_, rfl⟩
    rw [← hgi]
    have k7 : Keep none' w (w4.alloc (fltO gi)) := K6.trans (Keep.alloc _ _ _)
    have h7 : (w4.alloc (fltO gi)).heap[w2.heap.size]? = some (fltO f2) := heap_old h6
    have g7 : (w4.alloc (fltO gi)).heap[w4.heap.size]? = some (fltO gi) := heap_new _ _
    have HK7 := Lib.hid k7; have H7 := Lib.hid h7; have G7 := Lib.hid g7; have HGI := Lib.hid hgi; have HW4 := Lib.hid K6.size; have HLT2 := Lib.hid (lt_of_heap h6)
    clear k7 h7 g7 K6 h6 k4 k5 h5 o1 o2 hn hgi d0 d1 d2 d3 d4 ff HX3 HK4 HCI
    unfold fltV faultV
    go_wp2_with fail
    refine (HCJ.out (w4.alloc (fltO gi)) HK7.out).mono ?_
    rintro e w5 ⟨nv2, tv2, rfl, k5, o1, o2⟩
    obtain ⟨ao2, cap2, rfl, _⟩ := own_shape o1
    have hn : (instN (mOf rj)).length = (mOf rj).length := instN_len _
    rw [hn]
    obtain ⟨gj, hgj⟩ : ∃ gj, gj = fOf rj := ⟨_, rfl⟩
    rw [← hgj]
    have K8 := HK7.out.trans k5
    have k8 : Keep none' w (w5.alloc (fltO gj)) := K8.trans (Keep.alloc _ _ _)
    have h8 : (w5.alloc (fltO gj)).heap[w2.heap.size]? = some (fltO f2) := heap_old (k5.get H7.out (fun x => x))
    have g8 : (w5.alloc (fltO gj)).heap[w4.heap.size]? = some (fltO gi) := heap_old (k5.get G7.out (fun x => x))
    have j8 : (w5.alloc (fltO gj)).heap[w5.heap.size]? = some (fltO gj) := heap_new _ _
    have e0 := cell_of_heap (i := 0) h8 rfl
    have e1 := cell_of_heap (i := 0) g8 rfl
    have e2 := cell_of_heap (i := 0) j8 rfl
    unfold fltO at e0 e1 e2
    have HK8 := Lib.hid k8; have H8 := Lib.hid h8; have G8 := Lib.hid g8; have J8 := Lib.hid j8; have HGJ := Lib.hid hgj; have HW5 := Lib.hid K8.size; have HLT := Lib.hid (lt_of_heap (k5.get G7.out (fun x => x)))
    clear k8 h8 g8 j8 K8 k5 o1 o2 hn hgj HCJ H7 G7 HK7
    unfold fltV faultV
    have hcs : (bs c).size = c.length := bs_size c
    by_cases hlc : c.length ≤ 300
    · obtain ⟨⟨rc, hrc, hcc⟩, m, m', hm1, hm2, hmm⟩ := HP.out.ok HF.out hlc
      have q2 : ¬ (300 : Int) < ((bs c).size : Int) := by omega
      have e5 : d = c ∧ f2 = { what := 0 } := by
        have := HR2.out; rw [hrc] at this; injection this with this; subst this
        have h2 := HDF.out; rw [hcc] at h2; injection h2 with h2 h3; exact ⟨h2.symm, h3.symm⟩
      have e6 : ri = .ok m := by have := HRI.out; rw [hm1] at this; injection this with this; exact this.symm
      have e7 : rj = .ok m' := by have := HRJ.out; rw [hm2] at this; injection this with this; exact this.symm
      have q3 : f2.what = 0 := by rw [e5.2]
      have q5 : gi.what = 0 := by rw [HGI.out, e6]; rfl
      have q6 : gj.what = 0 := by rw [HGJ.out, e7]; rfl
      have q7 : ((mOf ri).length : Int) = ((mOf rj).length : Int) := by rw [e6, e7]; simp [mOf, hmm]
      have hd := e5.1
      subst hd
      simp only [q3, q5, q6] at e0 e1 e2
      obtain ⟨ra, hra, ca⟩ := canon_call p w HS.out a HL.out.2.1
      obtain ⟨rb, hrb, cb⟩ := canon_call p w HS.out b HL.out.2.2
      have HCA := Lib.hid ca; have HRA := Lib.hid hra; have HCB := Lib.hid cb; have HRB := Lib.hid hrb
      clear ca hra cb hrb e5 e6 e7 hrc hcc hm1 hm2 hmm HGI HGJ HRI HRJ HDF HR2 HP
      go_wp2_with fail
      have hw : w5.alloc (.cells #[.int .i64 0, .int .i64 gj.pos, .string (bs gj.s), .int .i64 gj.inner, .int .i64 gj.innerAt] 28) = w5.alloc (fltO gj) := by unfold fltO; rw [q6]
      rw [hw]
      refine (HCA.out _ HK8.out).mono ?_
      obtain ⟨x, fa, hxa⟩ : ∃ x fa, canonOf ra = (x, fa) := ⟨_, _, rfl⟩
      rw [hxa]
      rintro e w6 ⟨rfl, k6⟩
      have g6 : w6.heap[w4.heap.size]? = some (fltO gi) := k6.get G8.out (fun x => x)
      have j6 : w6.heap[w5.heap.size]? = some (fltO gj) := k6.get J8.out (fun x => x)
      have d0 := cell_of_heap (i := 0) g6 rfl; have d1 := cell_of_heap (i := 1) g6 rfl; have d2 := cell_of_heap (i := 2) g6 rfl; have d3 := cell_of_heap (i := 3) g6 rfl; have d4 := cell_of_heap (i := 4) g6 rfl
      have ff : ∀ i, w6.frozen? ⟨w4.heap.size, i, none⟩ = false := fun i => free_of_heap g6
      have H6 := Lib.hid (k6.get H8.out (fun x => x)); have G6 := Lib.hid g6; have J6 := Lib.hid j6; have HXA := Lib.hid hxa; have HK9 := Lib.hid (HK8.out.trans k6)
      clear g6 j6 hxa k6 hw q2 q3 q5 q6 q7 e0 e1 e2 H8 G8 J8 HK8 HCA hcs hlc
      unfold fltV faultV
      go_wp2_with fail
      have g7 : (set5 w6 w4.heap.size fa).heap[w4.heap.size]? = some (fltO fa) := set5_heap (g := gi) G6.out
      have j7 : (set5 w6 w4.heap.size fa).heap[w5.heap.size]? = some (fltO gj) := Keep.get (S := one' w4.heap.size) (keep5o _ _ _ _ _ _ _) J6.out (fun (e : w5.heap.size = w4.heap.size) => by have := HLT.out; omega)
      have k7 : Keep none' w (set5 w6 w4.heap.size fa) := set5_keep fa HK9.out HW4.out
      refine (HCB.out (set5 w6 w4.heap.size fa) k7).mono ?_
      obtain ⟨y, fb, hyb⟩ : ∃ y fb, canonOf rb = (y, fb) := ⟨_, _, rfl⟩
      rw [hyb]
      rintro e w7 ⟨rfl, k8⟩
      have l7 : (set5 w6 w4.heap.size fa).heap[w2.heap.size]? = some (fltO f2) := Keep.get (S := one' w4.heap.size) (keep5o _ _ _ _ _ _ _) H6.out (fun (e : w2.heap.size = w4.heap.size) => by have := HLT2.out; omega)
      have l8 : w7.heap[w2.heap.size]? = some (fltO f2) := k8.get l7 (fun x => x)
      have l9 : (set5 w7 w5.heap.size fb).heap[w2.heap.size]? = some (fltO f2) := Keep.get (S := one' w5.heap.size) (keep5o _ _ _ _ _ _ _) l8 (fun (e : w2.heap.size = w5.heap.size) => by have := HLT2.out; have := HLT.out; omega)
      have H9 := Lib.hid l9
      clear l7 l8 l9 H6
      have g8 : w7.heap[w4.heap.size]? = some (fltO fa) := k8.get g7 (fun x => x)
      have j8 : w7.heap[w5.heap.size]? = some (fltO gj) := k8.get j7 (fun x => x)
      have K8 := k7.trans k8
      have h9 : (set5 w7 w5.heap.size fb).heap[w5.heap.size]? = some (fltO fb) := set5_heap (g := gj) j8
      have g9 : (set5 w7 w5.heap.size fb).heap[w4.heap.size]? = some (fltO fa) := Keep.get (S := one' w5.heap.size) (keep5o _ _ _ _ _ _ _) g8 (fun (e : w4.heap.size = w5.heap.size) => by have := HLT.out; omega)
      have k9 : Keep none' w (set5 w7 w5.heap.size fb) := set5_keep fb K8 HW5.out
      clear d0 d1 d2 d3 d4 ff
      have d0 := cell_of_heap (i := 0) j8 rfl; have d1 := cell_of_heap (i := 1) j8 rfl; have d2 := cell_of_heap (i := 2) j8 rfl; have d3 := cell_of_heap (i := 3) j8 rfl; have d4 := cell_of_heap (i := 4) j8 rfl
      have ff : ∀ i, w7.frozen? ⟨w5.heap.size, i, none⟩ = false := fun i => free_of_heap j8
      have e0 := cell_of_heap (i := 0) g9 rfl
      have e1 := cell_of_heap (i := 0) h9 rfl
      unfold set5 at e0 e1
      have HYB := Lib.hid hyb; have HK10 := Lib.hid k9; have G9 := Lib.hid g9; have J9 := Lib.hid h9
      clear hyb k9 g9 h9 K8 k8 g8 j8 g7 j7 k7 G6 J6 HK9 HCB
      unfold fltV faultV
      have hab : (fa.what ≠ 0 ∨ fb.what ≠ 0) ∨ (fa.what = 0 ∧ fb.what = 0 ∧ ∃ X Y : NT, X.ok ∧ Y.ok ∧ x = X.show ∧ y = Y.show ∧ X.show.length ≤ 2400 ∧ Y.show.length ≤ 2400) := by
        have h1 := HXA.out; have h2 := HYB.out
        cases ra with
        | error f =>
          have := readTy_er HRA.out
          simp only [canonOf, Prod.mk.injEq] at h1
          rw [← h1.2]; exact .inl (.inl (by omega))
        | ok ts =>
          obtain ⟨ta, sa⟩ := ts
          cases rb with
          | error f =>
            have := readTy_er HRB.out
            simp only [canonOf, Prod.mk.injEq] at h2
            rw [← h2.2]; exact .inl (.inr (by omega))
          | ok us =>
            obtain ⟨tb, sb⟩ := us
            simp only [canonOf, Prod.mk.injEq] at h1 h2
            obtain ⟨X, x1, x2, x3⟩ := canon_txt HRA.out
            obtain ⟨Y, y1, y2, y3⟩ := canon_txt HRB.out
            exact .inr ⟨by rw [← h1.2], by rw [← h2.2], X, Y, x1, y1, by rw [← h1.1, x2], by rw [← h2.1, y2], x3, y3⟩
      rcases hab with hab | ⟨ha, hb, X, Y, hX, hY, hx, hy, hxl, hyl⟩
      · have hk := HK10.out
        obtain ⟨W, hW⟩ : ∃ W, W = set5 w7 w5.heap.size fb := ⟨_, rfl⟩
        by_cases ha : fa.what = 0
        · have hb : ¬ fb.what = 0 := by rcases hab with h | h; exact absurd ha h; exact h
          have q1 : (fa.what == 0) = true := by simp [ha]
          have q2 : (fb.what == 0) = false := by simp [hb]
          have q3 : (fa.what != 0) = false := by simp [ha]
          have q4 : (fb.what != 0) = true := by simp [hb]
          clear ha hb hab
          go_wp2_with fail
          exact bodyPost_ret (v := .bool true) (by simp [results, Tryz.results4, go_sem]) rfl ⟨rfl, HK10.out⟩
        · have q1 : (fa.what == 0) = false := by simp [ha]
          have q3 : (fa.what != 0) = true := by simp [ha]
          clear ha hab
          go_wp2_with fail
          exact bodyPost_ret (v := .bool true) (by simp [results, Tryz.results4, go_sem]) rfl ⟨rfl, HK10.out⟩
      · have q1 : (fa.what == 0) = true := by simp [ha]
        have q2 : (fb.what == 0) = true := by simp [hb]
        have q3 : (fa.what != 0) = false := by simp [ha]
        have q4 : (fb.what != 0) = false := by simp [hb]
        have harr := arrow_ok x (by rw [hx]; omega)
        rw [hx, arr_show hX, ← hx] at harr
        have HARR := Lib.hid harr; have HX := Lib.hid hX; have HY := Lib.hid hY; have HXE := Lib.hid hx; have HYE := Lib.hid hy
        have hxz : (bs x).size ≤ 2400 := by rw [bs_size, hx]; exact hxl
        have hyz : (bs y).size ≤ 2400 := by rw [bs_size, hy]; exact hyl
        have HPL := Lib.hid (put_len hxl hyl)
        clear ha hb harr hX hY hx hy hxl hyl
        go_wp2_with fail
        refine (HARR.out _).mono ?_
        rintro e w8 ⟨rfl, hw8⟩
        have k8 : Keep none' w w8 := by rw [hw8]; exact HK10.out
        have l10 : w8.heap[w2.heap.size]? = some (fltO f2) := by rw [hw8]; exact H9.out
        have HK11 := Lib.hid k8; have H11 := Lib.hid l10
        clear l10 H9 hw8 k8 e0 e1 HK10 G9 J9 ff d0 d1 d2 d3 d4 q1 q2 q3 q4
        have hput := inst_put HX.out HY.out
        cases hfn : X.isFn with
        | true =>
          have z1 : ¬ 9223372036854775807 < 1 + (bs x).size := by omega
          have z2 : ¬ 9223372036854775807 < 1 + (bs x).size + 1 := by omega
          have HPUT := Lib.hid hput; have HFN := Lib.hid hfn
          clear hput hfn
          go_wp2_with fail
          have ht : { data := #[40] } ++ bs x ++ { data := #[41] } ++ { data := #[32, 45, 62, 32, 40] } ++ bs y ++ { data := #[44, 32, 91] } ++ bs x ++ { data := #[93, 41] } = bs (putNT X Y).show := by
            show bs [40] ++ bs x ++ bs [41] ++ bs [32, 45, 62, 32, 40] ++ bs y ++ bs [44, 32, 91] ++ bs x ++ bs [93, 41] = _
            simp only [bs_append]
            congr 1
            rw [HXE.out, HYE.out]
            simp [putNT, NT.show, HFN.out, LP, RP, LB, RB]
          rw [ht]
          obtain ⟨rk, hrk, ck⟩ := inst_call p w HS.out pqp (putNT X Y).show (by decide) (by have := HPL.out; omega)
          have hput := HPUT.out
          rw [hrk] at hput
          refine (ck w8 HK11.out).mono ?_
          rintro e w9 ⟨nv, tv, rfl, k9, o1, o2⟩
          have x9 : w9.heap[w2.heap.size]? = some (fltO f2) := k9.get H11.out (fun x => x)
          have K9 := HK11.out.trans k9
          have hlt8 : w2.heap.size < w8.heap.size := lt_of_heap H11.out
          have d0 := cell_of_heap (i := 0) x9 rfl; have d1 := cell_of_heap (i := 1) x9 rfl; have d2 := cell_of_heap (i := 2) x9 rfl; have d3 := cell_of_heap (i := 3) x9 rfl; have d4 := cell_of_heap (i := 4) x9 rfl
          have ff : ∀ i, w9.frozen? ⟨w2.heap.size, i, none⟩ = false := fun i => free_of_heap x9
          have hend := fun fk => set5_keep fk K9 HW2.out
          have hz := fun fk => set5_heap (f := fk) x9
          have HEND := Lib.hid hend; have HZZ := Lib.hid hz
          rcases hput with ⟨fk, hk, hk2⟩ | hk
          · injection hk with hk
            subst hk
            rw [show isE (Except.error fk : Except Flt (List (Str × Str))) = true from rfl, show fOf (Except.error fk : Except Flt (List (Str × Str))) = fk from rfl]
            have e0 := cell_of_heap (i := 0) (HZZ.out fk) rfl
            unfold set5 at e0
            clear ck hrk o1 o2 k9 x9 K9 hend hz ht HK11 H11 HZZ
            unfold fltV faultV
            rcases hk2 with hk2 | hk2
            · have q1 : (fk.what == 1) = true := by simp [hk2]
              clear hk2
              go_wp2_with fail
              exact bodyPost_ret (v := .bool true) (by simp [results, Tryz.results4, go_sem]) rfl ⟨rfl, HEND.out fk⟩
            · have q1 : (fk.what == 1) = false := by simp [hk2]
              have q2 : (fk.what == 8) = true := by simp [hk2]
              clear hk2
              go_wp2_with fail
              exact bodyPost_ret (v := .bool true) (by simp [results, Tryz.results4, go_sem]) rfl ⟨rfl, HEND.out fk⟩
          · injection hk with hk
            subst hk
            rw [← HXE.out, ← HYE.out] at o1 o2
            simp only [mOf, (inst_two x y).1, (inst_two x y).2, List.length_cons, List.length_nil, Nat.zero_add, Nat.reduceAdd] at o1 o2
            rw [show isE (Except.ok [([112], X.show), ([113], Y.show)] : Except Flt (List (Str × Str))) = false from rfl, show fOf (Except.ok [([112], X.show), ([113], Y.show)] : Except Flt (List (Str × Str))) = { what := 0 } from rfl]
            have e0 := cell_of_heap (i := 0) (HZZ.out { what := 0 }) rfl
            have O1 := own_keep o1 (keep5o w9 w2.heap.size (.int .i64 0) (.int .i64 0) (.string (bs [])) (.int .i64 0) (.int .i64 0)) (fun g hg (e : g = w2.heap.size) => by have := (o1.lt g hg).1; omega)
            have O2 := own_keep o2 (keep5o w9 w2.heap.size (.int .i64 0) (.int .i64 0) (.string (bs [])) (.int .i64 0) (.int .i64 0)) (fun g hg (e : g = w2.heap.size) => by have := (o2.lt g hg).1; omega)
            obtain ⟨g1, c1, rfl, _, _, hc1⟩ := own_cells O1 (by decide)
            obtain ⟨g2, c2, rfl, _, _, hc2⟩ := own_cells O2 (by decide)
            have n0 := hc1 0 (.string (bs [112])) rfl; have n1 := hc1 1 (.string (bs [113])) rfl; have t0 := hc2 0 (.string (bs x)) rfl; have t1 := hc2 1 (.string (bs y)) rfl
            have s1 : ((bs [112]).toList == [112]) = true := by rw [str_is]; rfl
            have s2 : ((bs [113]).toList == [113]) = true := by rw [str_is]; rfl
            unfold set5 at e0
            have z : ((0 : Nat) : Int) = 0 := rfl
            simp only [z] at e0
            clear ck hrk o1 o2 k9 x9 K9 hend hz ht HK11 H11 HZZ O1 O2 hc1 hc2
            unfold fltV faultV
            go_wp2_with fail
            exact bodyPost_ret (v := .bool true) (by simp [results, Tryz.results4, go_sem]) rfl ⟨rfl, HEND.out { what := 0 }⟩
        | false =>
          have HPUT := Lib.hid hput; have HFN := Lib.hid hfn
          clear hput hfn
          go_wp2_with fail
          have ht : bs x ++ { data := #[32, 45, 62, 32, 40] } ++ bs y ++ { data := #[44, 32, 91] } ++ bs x ++ { data := #[93, 41] } = bs (putNT X Y).show := by
            show bs x ++ bs [32, 45, 62, 32, 40] ++ bs y ++ bs [44, 32, 91] ++ bs x ++ bs [93, 41] = _
            simp only [bs_append]
            congr 1
            rw [HXE.out, HYE.out]
            simp [putNT, NT.show, HFN.out, LP, RP, LB, RB]
          rw [ht]
          obtain ⟨rk, hrk, ck⟩ := inst_call p w HS.out pqp (putNT X Y).show (by decide) (by have := HPL.out; omega)
          have hput := HPUT.out
          rw [hrk] at hput
          refine (ck w8 HK11.out).mono ?_
          rintro e w9 ⟨nv, tv, rfl, k9, o1, o2⟩
          have x9 : w9.heap[w2.heap.size]? = some (fltO f2) := k9.get H11.out (fun x => x)
          have K9 := HK11.out.trans k9
          have hlt8 : w2.heap.size < w8.heap.size := lt_of_heap H11.out
          have d0 := cell_of_heap (i := 0) x9 rfl; have d1 := cell_of_heap (i := 1) x9 rfl; have d2 := cell_of_heap (i := 2) x9 rfl; have d3 := cell_of_heap (i := 3) x9 rfl; have d4 := cell_of_heap (i := 4) x9 rfl
          have ff : ∀ i, w9.frozen? ⟨w2.heap.size, i, none⟩ = false := fun i => free_of_heap x9
          have hend := fun fk => set5_keep fk K9 HW2.out
          have hz := fun fk => set5_heap (f := fk) x9
          have HEND := Lib.hid hend; have HZZ := Lib.hid hz
          rcases hput with ⟨fk, hk, hk2⟩ | hk
          · injection hk with hk
            subst hk
            rw [show isE (Except.error fk : Except Flt (List (Str × Str))) = true from rfl, show fOf (Except.error fk : Except Flt (List (Str × Str))) = fk from rfl]
            have e0 := cell_of_heap (i := 0) (HZZ.out fk) rfl
            unfold set5 at e0
            clear ck hrk o1 o2 k9 x9 K9 hend hz ht HK11 H11 HZZ
            unfold fltV faultV
            rcases hk2 with hk2 | hk2
            · have q1 : (fk.what == 1) = true := by simp [hk2]
              clear hk2
              go_wp2_with fail
              exact bodyPost_ret (v := .bool true) (by simp [results, Tryz.results4, go_sem]) rfl ⟨rfl, HEND.out fk⟩
            · have q1 : (fk.what == 1) = false := by simp [hk2]
              have q2 : (fk.what == 8) = true := by simp [hk2]
              clear hk2
              go_wp2_with fail
              exact bodyPost_ret (v := .bool true) (by simp [results, Tryz.results4, go_sem]) rfl ⟨rfl, HEND.out fk⟩
          · injection hk with hk
            subst hk
            rw [← HXE.out, ← HYE.out] at o1 o2
            simp only [mOf, (inst_two x y).1, (inst_two x y).2, List.length_cons, List.length_nil, Nat.zero_add, Nat.reduceAdd] at o1 o2
            rw [show isE (Except.ok [([112], X.show), ([113], Y.show)] : Except Flt (List (Str × Str))) = false from rfl, show fOf (Except.ok [([112], X.show), ([113], Y.show)] : Except Flt (List (Str × Str))) = { what := 0 } from rfl]
            have e0 := cell_of_heap (i := 0) (HZZ.out { what := 0 }) rfl
            have O1 := own_keep o1 (keep5o w9 w2.heap.size (.int .i64 0) (.int .i64 0) (.string (bs [])) (.int .i64 0) (.int .i64 0)) (fun g hg (e : g = w2.heap.size) => by have := (o1.lt g hg).1; omega)
            have O2 := own_keep o2 (keep5o w9 w2.heap.size (.int .i64 0) (.int .i64 0) (.string (bs [])) (.int .i64 0) (.int .i64 0)) (fun g hg (e : g = w2.heap.size) => by have := (o2.lt g hg).1; omega)
            obtain ⟨g1, c1, rfl, _, _, hc1⟩ := own_cells O1 (by decide)
            obtain ⟨g2, c2, rfl, _, _, hc2⟩ := own_cells O2 (by decide)
            have n0 := hc1 0 (.string (bs [112])) rfl; have n1 := hc1 1 (.string (bs [113])) rfl; have t0 := hc2 0 (.string (bs x)) rfl; have t1 := hc2 1 (.string (bs y)) rfl
            have s1 : ((bs [112]).toList == [112]) = true := by rw [str_is]; rfl
            have s2 : ((bs [113]).toList == [113]) = true := by rw [str_is]; rfl
            unfold set5 at e0
            have z : ((0 : Nat) : Int) = 0 := rfl
            simp only [z] at e0
            clear ck hrk o1 o2 k9 x9 K9 hend hz ht HK11 H11 HZZ O1 O2 hc1 hc2
            unfold fltV faultV
            go_wp2_with fail
            exact bodyPost_ret (v := .bool true) (by simp [results, Tryz.results4, go_sem]) rfl ⟨rfl, HEND.out { what := 0 }⟩
    · have q2 : (300 : Int) < ((bs c).size : Int) := by omega
      clear hcs hlc e0 e1 e2
      go_wp2_with fail
      exact bodyPost_ret (v := .bool true) (by simp [results, Tryz.results4, go_sem]) rfl ⟨rfl, HK8.out⟩
  · have q1 : ((f.what : Int) == 0) = false := by simpa using hf
    have hc0 := HP.out.er hf
    subst hc0
    go_wp2_with fail
    exact bodyPost_ret (v := .bool true) (by simp [results, Tryz.results4, go_sem, str_emp]) rfl ⟨rfl, HK3.out⟩
end Go.Proofs.YtabikmkoajdhmaaGreatDoor
