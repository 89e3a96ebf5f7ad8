/- Known by a contract: thirty-six expressions, their texts and types. -/
import Derived.Test.YtabikmkoajdhmabGreatDoorPick
import Derived.Test.YtabikmkoajdhmabGreatDoorKnownP
import Derived.Test.YtabikmkoajdhmabGreatDoorKnownD
import Derived.BigQuiet
set_option linter.unusedVariables false
set_option linter.unusedSimpArgs false
namespace Go.Proofs.YtabikmkoajdhmabGreatDoor
open Go.RowKit

/-- What the law asks of one, by evaluation. -/
def lotB (x : Lot) : Bool := okS x.src && (match readE x.src with
  | some (.ok y) => decide (y.show = x.text)
  | _ => false) && decide (x.src.length ≤ 1000) && decide (x.text.length ≤ 1000) && decide (x.typ.length ≤ 1000) && (match watchN x.src kEnv kSorted 6 with
  | some (.ok t) => decide (x.what = 0) && decide (x.typ ≠ []) && decide (t.length ≤ 100000) && decide (desp t = desp x.typ)
  | some (.error f) => if x.what ≠ 0 then decide (f.what = (x.what : Int)) else decide (x.typ = []) && decide (f.what = 4) && decide (f.pos < x.text.length) && decide (f.s = (x.text.drop f.pos).take 1) && (decide (f.pos = 0) == decide (x.text.length = 1))
  | none => false)
theorem lots_all : kLots.all lotB = true := by kernel_rfl
theorem lot_all {x : Lot} (h : x ∈ kLots) : lotB x = true := List.all_eq_true.1 lots_all x h
/-- The three ways. -/
inductive LotW (x : Lot) : Except Flt Str → Prop
  | err {f : Flt} : x.what ≠ 0 → f.what = (x.what : Int) → LotW x (.error f)
  | unb {f : Flt} : x.what = 0 → x.typ = [] → f.what = 4 → f.pos < x.text.length → f.s = (x.text.drop f.pos).take 1 → (decide (f.pos = 0) == decide (x.text.length = 1)) = true → LotW x (.error f)
  | typ {t : Str} : x.what = 0 → x.typ ≠ [] → t.length ≤ 100000 → desp t = desp x.typ → LotW x (.ok t)
structure LotK (x : Lot) (r : Except Flt Str) : Prop where
  rd : ReadsOk x.src (readE x.src)
  sh : ∃ y, readE x.src = some (.ok y) ∧ y.show = x.text
  wt : watchS x.src kEnv 6 = some r
  l1 : x.src.length ≤ 1000
  l2 : x.text.length ≤ 1000
  l3 : x.typ.length ≤ 1000
  way : LotW x r
theorem lot_k {x : Lot} (h : lotB x = true) : ∃ r, LotK x r := by
  unfold lotB at h
  simp only [Bool.and_eq_true, decide_eq_true_eq] at h
  obtain ⟨⟨⟨⟨⟨h1, h2⟩, h3⟩, h4⟩, h5⟩, h6⟩ := h
  have hsh : ∃ y, readE x.src = some (.ok y) ∧ y.show = x.text := by
    split at h2
    · rename_i y e; exact ⟨y, e, of_decide_eq_true h2⟩
    · cases h2
  split at h6
  · rename_i t e
    simp only [Bool.and_eq_true, decide_eq_true_eq] at h6
    exact ⟨.ok t, reads_of h1, hsh, (watchS_N sort_k).trans e, h3, h4, h5, .typ h6.1.1.1 h6.1.1.2 h6.1.2 h6.2⟩
  · rename_i f e
    by_cases hw : x.what ≠ 0
    · rw [if_pos hw] at h6
      exact ⟨.error f, reads_of h1, hsh, (watchS_N sort_k).trans e, h3, h4, h5, .err hw (of_decide_eq_true h6)⟩
    · rw [if_neg hw] at h6
      simp only [Bool.and_eq_true, decide_eq_true_eq] at h6
      exact ⟨.error f, reads_of h1, hsh, (watchS_N sort_k).trans e, h3, h4, h5, .unb (by omega) h6.1.1.1.1 h6.1.1.1.2 h6.1.1.2 h6.1.2 h6.2⟩
  · cases h6

theorem str_emp (a : Str) : (bs a).toList.isEmpty = a.isEmpty := by rw [show (bs a).toList = a by rw [ByteArray.toList_eq]; exact bs_toList a]
set_option maxRecDepth 100000 in
set_option maxHeartbeats 20000000 in
theorem known_ok (p : Nat → Addr) (c : Int) (hc : -9223372036854775808 ≤ c ∧ c ≤ 9223372036854775807) (w : World) (hs : Sents p w) : Calls Tryz.prog 6 #[.int .i64 c] w fun e w' => e = .returned (.bool true) ∧ Keep none' w w' := by
  obtain ⟨n, hn⟩ : ∃ n : Nat, pickI c 36 = (n : Int) := ⟨(pickI c 36).toNat, by have := (pickI_lt (c := c) (n := 36) (by decide)).1; omega⟩
  have hlt : n < 36 := by have := (pickI_lt (c := c) (n := 36) (by decide)).2; omega
  have hp : ∀ W : World, Calls Tryz.prog 8 #[.int .i64 c, .int .i64 36] W fun e w' => e = .returned (.int .i64 (pickI c 36)) ∧ w' = W := fun W => pick_ok c 36 hc (by decide) W
  rw [hn] at hp
  have hlen : n < kLots.length := hlt
  obtain ⟨x, hx⟩ : ∃ x, x = kLots[n] := ⟨_, rfl⟩
  have hat := lot_at hlen
  rw [← hx] at hat
  obtain ⟨r, hk⟩ := lot_k (lot_all (x := x) (by rw [hx]; exact List.getElem_mem hlen))
  obtain ⟨y, hy1, hy2⟩ := hk.sh
  have hby : bytes (bs x.src) = x.src := by simp [bytes, bs]
  have hsz : (bs x.src).size ≤ 9223372036854775807 := by rw [bs_size]; have := hk.l1; omega
  have hshow := fun (W : World) (kW : Keep none' w W) => plain_show p (bs x.src) W (hs.keep0 kW) hsz (r := .ok y) (by rw [hby, ← hy1]; exact hk.rd)
  have hinf := fun (W : World) (kW : Keep none' w W) => keep_infer p (bs x.src) W (hs.keep0 kW) hsz (rr := readE x.src) (by rw [hby]; exact hk.rd) (r := r) (by rw [hby]; exact hk.wt)
  simp only [showOf, hy2] at hshow
  have hn36 : ((n : Int) < 36) := by omega
  have hn0 : (0 : Int) ≤ (n : Int) := by omega
  have HP := Lib.hid hp; have HSH := Lib.hid hshow; have HIN := Lib.hid hinf; have HAT := Lib.hid hat; have HK := Lib.hid hk
  clear hp hshow hinf hat hk hby hsz hy1 hy2 hs hx hn hlen hc
  go_enter Tryz.func6, Tryz.ntmps6
  go_wp2_with fail
  refine (lots_ok _).mono ?_
  rintro e w1 ⟨b, rfl, hb, k1, hb1⟩
  have hf := HAT.out
  have c0 := cell_of_heap hb1 hf.1
  have c1 := cell_of_heap hb1 hf.2.1
  have c2 := cell_of_heap hb1 hf.2.2.1
  have c3 := cell_of_heap hb1 hf.2.2.2
  have HK1 := Lib.hid k1; have HB1 := Lib.hid hb1
  clear hf k1 hb hb1
  go_wp2_with fail
  refine (HP.out _).mono ?_
  rintro e w2 ⟨rfl, rfl⟩
  go_wp2_with fail
  have hx2 : (w2.alloc (.cells #[.string (bs x.src), .string (bs x.text), .string (bs x.typ), .int .i64 x.what] 50)).heap[w2.heap.size]? = some (.cells #[.string (bs x.src), .string (bs x.text), .string (bs x.typ), .int .i64 x.what] 50) := heap_new _ _
  have k2 := HK1.out.trans (Keep.alloc none' w2 (.cells #[.string (bs x.src), .string (bs x.text), .string (bs x.typ), .int .i64 x.what] 50))
  have HX2 := Lib.hid hx2; have HK2 := Lib.hid k2
  clear c0 c1 c2 c3 hx2 k2
  refine (HSH.out _ HK2.out).mono ?_
  rintro e w3 ⟨rfl, k3⟩
  have x3 := k3.get HX2.out (fun x => x)
  have c0 : (w3.alloc (.cells #[.int .i64 0, .int .i64 0, .string (bs []), .int .i64 0, .int .i64 0] 26)).cell? ⟨w2.heap.size, 0, none⟩ = some (.string (bs x.src)) := cell_of_heap (i := 0) (heap_old x3) rfl
  have HX3 := Lib.hid x3; have HK3 := Lib.hid (HK2.out.trans k3)
  clear x3 k3
  unfold fltV faultV
  go_wp2_with fail
  have k3 := HK3.out.trans (Keep.alloc none' w3 (.cells #[.int .i64 0, .int .i64 0, .string (bs []), .int .i64 0, .int .i64 0] 26))
  have f3 : (w3.alloc (.cells #[.int .i64 0, .int .i64 0, .string (bs []), .int .i64 0, .int .i64 0] 26)).heap[w3.heap.size]? = some (.cells #[.int .i64 0, .int .i64 0, .string (bs []), .int .i64 0, .int .i64 0] 26) := heap_new _ _
  have x3 : (w3.alloc (.cells #[.int .i64 0, .int .i64 0, .string (bs []), .int .i64 0, .int .i64 0] 26)).heap[w2.heap.size]? = _ := heap_old HX3.out
  have HF3 := Lib.hid f3; have HX4 := Lib.hid x3; have HK4 := Lib.hid k3
  clear k3 f3 x3 c0
  refine (HIN.out _ HK4.out).mono ?_
  rintro e w4 ⟨rfl, k4⟩
  obtain ⟨t, f, hof⟩ : ∃ t f, inferOf r = (t, f) := ⟨_, _, rfl⟩
  rw [hof]
  have x4 := k4.get HX4.out (fun x => x)
  have f4 := k4.get HF3.out (fun x => x)
  have g4 : (w4.alloc (.cells #[.int .i64 f.what, .int .i64 f.pos, .string (bs f.s), .int .i64 f.inner, .int .i64 f.innerAt] 26)).heap[w4.heap.size]? = some (.cells #[.int .i64 f.what, .int .i64 f.pos, .string (bs f.s), .int .i64 f.inner, .int .i64 f.innerAt] 26) := heap_new _ _
  have kk : Keep none' w (w4.alloc (.cells #[.int .i64 f.what, .int .i64 f.pos, .string (bs f.s), .int .i64 f.inner, .int .i64 f.innerAt] 26)) := (HK4.out.trans k4).trans (Keep.alloc _ _ _)
  have a1 : (w4.alloc (.cells #[.int .i64 f.what, .int .i64 f.pos, .string (bs f.s), .int .i64 f.inner, .int .i64 f.innerAt] 26)).cell? ⟨w2.heap.size, 1, none⟩ = some (.string (bs x.text)) := cell_of_heap (i := 1) (heap_old x4) rfl
  have a2 : (w4.alloc (.cells #[.int .i64 f.what, .int .i64 f.pos, .string (bs f.s), .int .i64 f.inner, .int .i64 f.innerAt] 26)).cell? ⟨w2.heap.size, 2, none⟩ = some (.string (bs x.typ)) := cell_of_heap (i := 2) (heap_old x4) rfl
  have a3 : (w4.alloc (.cells #[.int .i64 f.what, .int .i64 f.pos, .string (bs f.s), .int .i64 f.inner, .int .i64 f.innerAt] 26)).cell? ⟨w2.heap.size, 3, none⟩ = some (.int .i64 x.what) := cell_of_heap (i := 3) (heap_old x4) rfl
  have f0 : (w4.alloc (.cells #[.int .i64 f.what, .int .i64 f.pos, .string (bs f.s), .int .i64 f.inner, .int .i64 f.innerAt] 26)).cell? ⟨w3.heap.size, 0, none⟩ = some (.int .i64 0) := cell_of_heap (i := 0) (heap_old f4) rfl
  have e0 : (w4.alloc (.cells #[.int .i64 f.what, .int .i64 f.pos, .string (bs f.s), .int .i64 f.inner, .int .i64 f.innerAt] 26)).cell? ⟨w4.heap.size, 0, none⟩ = some (.int .i64 f.what) := cell_of_heap (i := 0) g4 rfl
  have e1 : (w4.alloc (.cells #[.int .i64 f.what, .int .i64 f.pos, .string (bs f.s), .int .i64 f.inner, .int .i64 f.innerAt] 26)).cell? ⟨w4.heap.size, 1, none⟩ = some (.int .i64 f.pos) := cell_of_heap (i := 1) g4 rfl
  have e2 : (w4.alloc (.cells #[.int .i64 f.what, .int .i64 f.pos, .string (bs f.s), .int .i64 f.inner, .int .i64 f.innerAt] 26)).cell? ⟨w4.heap.size, 2, none⟩ = some (.string (bs f.s)) := cell_of_heap (i := 2) g4 rfl
  have HK5 := Lib.hid kk; have HOF := Lib.hid hof; have hway := HK.out.way
  clear x4 f4 g4 kk k4 hof HAT HX4 HF3 HX3 HX2 HIN HSH
  unfold fltV faultV
  cases hway with
  | @err f' h1 h2 =>
    have ho := HOF.out
    simp only [inferOf, Prod.mk.injEq] at ho
    obtain ⟨rfl, rfl⟩ := ho
    have q0 : ((bs []).toList.isEmpty) = true := by rw [str_emp]; rfl
    have q1 : ((x.what : Int) == 0) = false := by simpa using h1
    have q2 : (f'.what == (x.what : Int)) = true := by simpa using h2
    clear HOF h1 h2
    go_wp2_with fail
    exact bodyPost_ret (v := .bool true) (by simp [results, Tryz.results6, go_sem]) rfl ⟨rfl, HK5.out⟩
  | @unb f' h1 h2 h3 h4 h5 h6 =>
    have ho := HOF.out
    simp only [inferOf, Prod.mk.injEq] at ho
    obtain ⟨rfl, rfl⟩ := ho
    have q0 : ((bs []).toList.isEmpty) = true := by rw [str_emp]; rfl
    have q1 : ((x.what : Int) == 0) = true := by simpa using h1
    have q2 : (f'.what == 4) = true := by simpa using h3
    have q3 : ((bs x.typ).toList.isEmpty) = true := by rw [str_emp, h2]; rfl
    have q4 : (0 : Int) ≤ (f'.pos : Int) := by omega
    have q5 : (f'.pos : Int) < ((bs x.text).size : Int) := by rw [bs_size]; omega
    have hsz : (bs x.text).size = x.text.length := bs_size _
    have HSZ := Lib.hid hsz; have H5 := Lib.hid h5; have H6 := Lib.hid h6
    clear HOF h1 h2 h3 hsz h5 h6
    go_wp2_with fail
    have q6 : f'.pos < (bs x.text).size := by omega
    have q7 : f'.pos ≤ (bs x.text).size := by omega
    have q8 : ¬ 9223372036854775807 < (f'.pos : Int) + 1 := by have := HK.out.l2; have := HSZ.out; omega
    have hwr : IntKind.i64.wrap ((f'.pos : Int) + 1) = (f'.pos : Int) + 1 := by rw [IntKind.wrap_i64]; have := HK.out.l2; have := HSZ.out; omega
    have hw0 : (0 : Int) ≤ (f'.pos : Int) + 1 := by omega
    have hw1 : (f'.pos : Int) + 1 ≤ ((bs x.text).size : Int) := by omega
    have hw2 : ((f'.pos : Int) + 1).toNat = f'.pos + 1 := by omega
    have hex : (bs x.text).extract f'.pos (f'.pos + 1) = bs f'.s := by
      rw [extract_bs, H5.out]
      simp only [bytes, bs_toList, Nat.add_sub_cancel_left]
    have hqe : ∀ u v : Bool, (u == v) = true → ((f'.pos : Int) == 0) = u → (((bs x.text).size : Int) == 1) = v → (((f'.pos : Int) == 0) == (((bs x.text).size : Int) == 1)) = true := fun u v h h1 h2 => by rw [h1, h2, h]
    by_cases hp0 : f'.pos = 0
    · have hl1 : x.text.length = 1 := by have h6 := H6.out; simp [hp0] at h6; omega
      have qq1 : ((f'.pos : Int) == 0) = true := by simp [hp0]
      have qq2 : (((bs x.text).size : Int) == 1) = true := by rw [HSZ.out, hl1]; rfl
      clear hp0 hl1 hqe
      go_quiet (fail)
      go_wp2_with fail
      exact bodyPost_ret (v := .bool true) (by simp [results, Tryz.results6, go_sem]) rfl ⟨rfl, HK5.out.trans (Keep.drewN _ _ _)⟩
    · have hl1 : ¬ x.text.length = 1 := by have h6 := H6.out; simp [hp0] at h6; omega
      have qq1 : ((f'.pos : Int) == 0) = false := by simpa using hp0
      have qq2 : (((bs x.text).size : Int) == 1) = false := by rw [HSZ.out]; simp; omega
      clear hp0 hl1 hqe
      go_quiet (fail)
      go_wp2_with fail
      exact bodyPost_ret (v := .bool true) (by simp [results, Tryz.results6, go_sem]) rfl ⟨rfl, HK5.out.trans (Keep.drewN _ _ _)⟩
  | @typ t' h1 h2 h3 h4 =>
    have ho := HOF.out
    simp only [inferOf, Prod.mk.injEq] at ho
    obtain ⟨rfl, rfl⟩ := ho
    have q1 : ((x.what : Int) == 0) = true := by simpa using h1
    have q3 : ((bs x.typ).toList.isEmpty) = false := by rw [str_emp]; simpa using h2
    have H3 := Lib.hid h3; have H4 := Lib.hid h4
    clear HOF h1 h2 h3 h4
    dsimp only at a1 a2 a3 f0 e0 e1 e2
    have z : ((0 : Nat) : Int) = 0 := rfl
    simp only [z] at a1 a2 a3 f0 e0 e1 e2
    have hd1 : t'.length ≤ 1000000 := by have := H3.out; omega
    have hd2 : x.typ.length ≤ 1000000 := by have := HK.out.l3; omega
    have qq : ((bs (desp t')).toList == (bs (desp x.typ)).toList) = true := (str_eq2 _ _).trans (decide_eq_true H4.out)
    have HD1 := Lib.hid hd1; have HD2 := Lib.hid hd2
    clear hd1 hd2
    go_wp2_with fail
    go_quiet (refine Calls.quiet_of_same (despaced_ok _ (by with_reducible first | exact HD1.out | exact HD2.out) _))
    go_wp2_with fail
    exact bodyPost_ret (v := .bool true) (by simp [results, Tryz.results6, go_sem]) rfl ⟨rfl, HK5.out.trans (Keep.drewN _ _ _)⟩
end Go.Proofs.YtabikmkoajdhmabGreatDoor
