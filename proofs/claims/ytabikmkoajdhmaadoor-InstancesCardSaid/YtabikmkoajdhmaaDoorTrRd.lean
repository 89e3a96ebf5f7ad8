/- typerref's reader by contracts: is, take, need. -/
import Derived.Test.YtabikmkoajdhmaaDoorTrTokP
import Derived.Test.YtabikmkoajdhmaaDoorQ04
import Derived.Test.YtabikmkoajdhmaaDoorTrSpec
set_option linter.unusedVariables false
set_option linter.unusedSimpArgs false
set_option linter.unnecessarySimpa false
namespace Go.Proofs.YtabikmkoajdhmaaDoor
open Go.RowKit

def badI : Option Nat → Int
  | none => -1
  | some p => p
/-- Kinds that the reference's texts tell apart. -/
def goodR (k : TK) : Prop := ∀ w, k = .kw w → w ≠ rNAME ∧ w ≠ rNUM ∧ w ≠ rNONE ∧ w ≠ rEND
theorem rstr_inj {a b : TK} (ha : goodR a) (hb : goodR b) (h : rstr a = rstr b) : a = b := by
  cases a <;> cases b <;> first
    | rfl
    | (exact absurd h (by decide))
    | (rename_i w; exact absurd h (by have := ha w rfl; simp only [rstr]; first | exact this.1 | exact this.2.1 | exact this.2.2.1 | exact this.2.2.2))
    | (rename_i w; exact absurd h.symm (by have := hb w rfl; simp only [rstr]; first | exact this.1 | exact this.2.1 | exact this.2.2.1 | exact this.2.2.2))
    | (simp only [rstr] at h; rw [h])
theorem lex_goodR {kw : Str → Bool} (hk : ResB kw) {s : Str} {i : Nat} : goodR (lexAt kw s i).1.kind := by
  intro w h
  unfold lexAt lexFrom at h
  split at h
  · cases h
  · split at h
    · split at h
      · cases h
      · simp only at h
        split at h
        · rename_i h2
          injection h with h; subst h
          exact hk _ h2
        · cases h
    · split at h
      · split at h <;> cases h
      · split at h
        · injection h with h; subst h; simp [ARROW, rNAME, rNUM, rNONE, rEND]
        · split at h
          · injection h with h; subst h; simp [rNAME, rNUM, rNONE, rEND]
          · cases h
theorem toksN_goodR {kw : Str → Bool} (hk : ResB kw) {s : Str} : ∀ (k i : Nat), ∀ t ∈ toksN kw s k i, goodR t.kind
  | 0, _, t, h => by simp [toksN] at h
  | k + 1, i, t, h => by
    simp only [toksN, List.mem_cons] at h
    rcases h with h | h
    · subst h; exact lex_goodR hk
    · split at h
      · cases h
      · exact toksN_goodR hk k _ t h

/-- A list of tokens in memory. -/
structure TkR (x : Str) (T : List Tok) (lv : Value) (tb : Nat) (arr : Array Value) : Prop where
  lv : ∃ cap, lv = .slice (some ⟨tb, 0, none⟩) T.length cap
  at' : ∀ i (h : i < T.length), arr[i * 3]? = some (.string (bs (rstr T[i].kind))) ∧ arr[i * 3 + 1]? = some (.string (bs (if T[i].kind = .bad then x else T[i].text))) ∧ arr[i * 3 + 2]? = some (.int .i64 T[i].pos)
  gd : ∀ t ∈ T, goodR t.kind
  len : T.length ≤ 1000
  pos : ∀ t ∈ T, t.pos ≤ 1000
def rdO (lv : Value) (k : Nat) (bad : Option Nat) : Obj := .cells #[lv, .int .i64 k, .int .i64 (badI bad)] 70
/-- The reader's state. -/
structure RdI (x : Str) (T : List Tok) (tb : Nat) (arr : Array Value) (lv : Value) (rb : Nat) (s : RS) (w : World) : Prop where
  tk : TkR x T lv tb arr
  hb : w.heap[tb]? = some (.cells arr 121)
  ne : tb ≠ rb
  suf : ∃ k, s.l = T.drop k ∧ k < T.length ∧ w.heap[rb]? = some (rdO lv k s.bad)
  tl : TL s.l
theorem RdI.keep {x : Str} {T : List Tok} {tb : Nat} {arr : Array Value} {lv : Value} {rb : Nat} {s : RS} {w w' : World} (h : RdI x T tb arr lv rb s w) {S : Nat → Prop} (k : Keep S w w') (h1 : ¬ S tb) (h2 : ¬ S rb) : RdI x T tb arr lv rb s w' :=
  ⟨h.tk, k.get h.hb h1, h.ne, by obtain ⟨j, a, b, c⟩ := h.suf; exact ⟨j, a, b, k.get c h2⟩, h.tl⟩
theorem hd_drop {T : List Tok} {k : Nat} (h : k < T.length) : hd (T.drop k) = T[k] := by
  rw [List.drop_eq_getElem_cons h]; rfl
theorem badI_lt (b : Option Nat) : (badI b < 0) ↔ b.isNone = true := by
  cases b with
  | none => simp [badI]
  | some p => simp [badI]
set_option maxHeartbeats 800000 in
theorem rd_is {x : Str} {T : List Tok} {tb : Nat} {arr : Array Value} {lv : Value} {rb : Nat} {s : RS} {w : World} (h : RdI x T tb arr lv rb s w) (k : TK) (hk : goodR k) : Calls Tryd.prog 50 #[.pointer (some ⟨rb, 0, none⟩), .string (bs (rstr k))] w fun e w' => e = .returned (.bool (s.isK k)) ∧ Keep none' w w' := by
  obtain ⟨j, hl, hj, hr⟩ := h.suf
  obtain ⟨cap, rfl⟩ := h.tk.lv
  have hat := (h.tk.at' j hj).1
  have c0 : w.cell? ⟨rb, 0, none⟩ = some (.slice (some ⟨tb, 0, none⟩) T.length cap) := cell_of_heap (i := 0) hr rfl
  have c1 : w.cell? ⟨rb, 1, none⟩ = some (.int .i64 j) := cell_of_heap (i := 1) hr rfl
  have c2 : w.cell? ⟨rb, 2, none⟩ = some (.int .i64 (badI s.bad)) := cell_of_heap (i := 2) hr rfl
  have t0 : w.cell? ⟨tb, j * 3, none⟩ = some (.string (bs (rstr T[j].kind))) := cell_of_heap h.hb hat
  have hj0 : (0 : Int) ≤ (j : Int) := by omega
  have hji : (j : Int) < (T.length : Int) := by omega
  have hlen := h.tk.len
  have hg := h.tk.gd _ (List.getElem_mem hj)
  have hkd : (hd s.l).kind = T[j].kind := by rw [hl, hd_drop hj]
  have hR : s.isK k = (s.bad.isNone && decide (T[j].kind = k)) := by unfold RS.isK; rw [hkd]
  have HR := Lib.hid hR
  obtain ⟨kd, hkd2⟩ : ∃ kd, kd = T[j].kind := ⟨_, rfl⟩
  rw [← hkd2] at t0 HR hg
  have q2 : ((bs (rstr kd)).toList == (bs (rstr k)).toList) = decide (kd = k) := by
    rw [str_cc]
    by_cases e : kd = k
    · rw [decide_eq_true e, decide_eq_true (congrArg rstr e)]
    · rw [decide_eq_false e, decide_eq_false (fun e2 => e (rstr_inj hg hk e2))]
  clear hat hr hl hkd hg hkd2 hR
  rw [HR.out]
  cases hb : s.bad with
  | none =>
    rw [hb] at c2
    replace c2 : w.cell? ⟨rb, 2, none⟩ = some (.int .i64 (-1)) := c2
    clear hb h hk hlen HR
    cases hd' : decide (kd = k) with
    | true =>
      rw [hd'] at q2
      go_enter Tryd.func50, Tryd.ntmps50
      go_wp2_with fail
      go_quiet (fail)
      go_wp2_with fail
      go_ret
      exact ⟨rfl, Keep.drewN _ _ _⟩
    | false =>
      rw [hd'] at q2
      go_enter Tryd.func50, Tryd.ntmps50
      go_wp2_with fail
      go_quiet (fail)
      go_wp2_with fail
      go_ret
      exact ⟨rfl, Keep.drewN _ _ _⟩
  | some b =>
    rw [hb] at c2
    obtain ⟨bi, hbi⟩ : ∃ bi : Int, bi = (b : Int) := ⟨_, rfl⟩
    replace c2 : w.cell? ⟨rb, 2, none⟩ = some (.int .i64 bi) := by rw [hbi]; exact c2
    have q1 : decide (bi < 0) = false := by simp; omega
    clear hb h q2 hbi hk hj c0 c1 t0 hj0 hji hlen HR
    go_enter Tryd.func50, Tryd.ntmps50
    go_wp2_with fail
    go_big_quiet (fail)
    go_wp2_with fail
    go_ret
    exact ⟨rfl, Keep.drewN _ _ _⟩
theorem isK_step {x : Str} {T : List Tok} {tb : Nat} {arr : Array Value} {lv : Value} {rb : Nat} {s : RS} {w : World} (h : RdI x T tb arr lv rb s w) {k : TK} (hs : k ≠ .fin ∧ k ≠ .bad) (hk : s.isK k = true) : ∃ j, s.l = T.drop j ∧ s.step.l = T.drop (j + 1) ∧ j + 1 < T.length ∧ TL s.step.l ∧ s.bad = none ∧ w.heap[rb]? = some (rdO lv j none) := by
  obtain ⟨j, hl, hj, hr⟩ := h.suf
  unfold RS.isK at hk
  simp only [Bool.and_eq_true, Option.isNone_iff_eq_none, decide_eq_true_eq] at hk
  have hst : (hd s.l).stop = false := by
    unfold Tok.stop; rw [hk.2]
    cases k with
    | fin => exact absurd rfl hs.1
    | bad => exact absurd rfl hs.2
    | _ => rfl
  obtain ⟨t, r, e1, e2, e3⟩ := h.tl.step hst
  have e4 : T.drop (j + 1) = r := by
    have : T.drop j = t :: r := by rw [← hl]; exact e1
    rw [← List.drop_drop, this]; rfl
  have hne := e2.ne
  refine ⟨j, hl, ?_, ?_, ?_, hk.1, by rw [hk.1] at hr; exact hr⟩
  · show adv s.l = _; rw [e3, e4]
  · rcases Nat.lt_or_ge (j + 1) T.length with h1 | h1
    · exact h1
    · exact absurd (by rw [← e4]; exact List.drop_eq_nil_of_le h1) hne
  · show TL (adv s.l); rw [e3]; exact e2
def RdPost (x : Str) (T : List Tok) (tb : Nat) (arr : Array Value) (lv : Value) (rb : Nat) (s : RS) (w w' : World) : Prop := Keep (one' rb) w w' ∧ RdI x T tb arr lv rb s w'
set_option maxHeartbeats 800000 in
theorem rd_take {x : Str} {T : List Tok} {tb : Nat} {arr : Array Value} {lv : Value} {rb : Nat} {s : RS} {w : World} (h : RdI x T tb arr lv rb s w) (k : TK) (hk : goodR k) (hs : k ≠ .fin ∧ k ≠ .bad) : Calls Tryd.prog 47 #[.pointer (some ⟨rb, 0, none⟩), .string (bs (rstr k))] w fun e w' => e = .returned (.bool (s.isK k)) ∧ RdPost x T tb arr lv rb (if s.isK k then s.step else s) w w' := by
  have his := rd_is h k hk
  have HIS := Lib.hid his; have H := Lib.hid h
  clear his h
  cases hq : s.isK k with
  | false =>
    rw [hq] at HIS
    go_enter Tryd.func47, Tryd.ntmps47
    go_wp2_with fail
    refine HIS.out.mono ?_
    rintro e w1 ⟨rfl, k1⟩
    have HK1 := Lib.hid k1
    clear k1
    go_wp2_with fail
    go_ret
    exact ⟨rfl, HK1.out.of_none, H.out.keep HK1.out (fun x => x) (fun x => x)⟩
  | true =>
    rw [hq] at HIS
    obtain ⟨j, e1, e2, e3, e4, e5, e6⟩ := isK_step H.out hs hq
    have hlen := H.out.tk.len
    have HE1 := Lib.hid e1; have HE2 := Lib.hid e2; have HE4 := Lib.hid e4; have HE5 := Lib.hid e5; have HE6 := Lib.hid e6
    clear e1 e2 e4 e5 e6 hq
    go_enter Tryd.func47, Tryd.ntmps47
    go_wp2_with fail
    refine HIS.out.mono ?_
    rintro e w1 ⟨rfl, k1⟩
    have h1 := k1.get HE6.out (fun x => x)
    have c1 : w1.cell? ⟨rb, 1, none⟩ = some (.int .i64 j) := cell_of_heap (i := 1) h1 rfl
    have f1 : w1.frozen? ⟨rb, 1, none⟩ = false := free_of_heap h1
    have HK1 := Lib.hid k1; have HH1 := Lib.hid h1
    clear k1 h1
    go_wp2_with fail
    go_ret
    have kk : Keep (one' rb) w1 (w1.setCell ⟨rb, 1, none⟩ (.int .i64 ((j : Int) + 1))) := Keep.setCell _ _ (fun _ => rfl)
    refine ⟨rfl, HK1.out.of_none.trans kk, ?_⟩
    have hi := H.out.keep HK1.out (fun x => x) (fun x => x)
    refine ⟨hi.tk, kk.get hi.hb (fun e => hi.ne e), hi.ne, ⟨j + 1, HE2.out, e3, ?_⟩, HE4.out⟩
    show _ = some (rdO lv (j + 1) s.bad)
    rw [HE5.out]
    exact heap_set_same (i := 1) HH1.out
theorem hd_at {x : Str} {T : List Tok} {tb : Nat} {arr : Array Value} {lv : Value} {rb : Nat} {s : RS} {w : World} (h : RdI x T tb arr lv rb s w) : ∃ j, s.l = T.drop j ∧ j < T.length ∧ w.heap[rb]? = some (rdO lv j s.bad) ∧ arr[j * 3]? = some (.string (bs (rstr (hd s.l).kind))) ∧ arr[j * 3 + 1]? = some (.string (bs (if (hd s.l).kind = .bad then x else (hd s.l).text))) ∧ arr[j * 3 + 2]? = some (.int .i64 (hd s.l).pos) ∧ (hd s.l).pos ≤ 1000 := by
  obtain ⟨j, hl, hj, hr⟩ := h.suf
  have hkd : hd s.l = T[j] := by rw [hl, hd_drop hj]
  have h3 := h.tk.at' j hj
  rw [hkd]
  exact ⟨j, hl, hj, hr, h3.1, h3.2.1, h3.2.2, h.tk.pos _ (List.getElem_mem hj)⟩
set_option maxHeartbeats 1600000 in
theorem rd_need {x : Str} {T : List Tok} {tb : Nat} {arr : Array Value} {lv : Value} {rb : Nat} {s : RS} {w : World} (h : RdI x T tb arr lv rb s w) (k : TK) (hk : goodR k) (hs : k ≠ .fin ∧ k ≠ .bad) : Calls Tryd.prog 25 #[.pointer (some ⟨rb, 0, none⟩), .string (bs (rstr k))] w fun e w' => ∃ y, e = .returned (.string (bs y)) ∧ (s.isK k = true → y = (hd s.l).text) ∧ RdPost x T tb arr lv rb (s.need k) w w' := by
  obtain ⟨j, hl, hj, hr, ha0, ha1, ha2, hp⟩ := hd_at h
  obtain ⟨cap, hlv⟩ := h.tk.lv
  have c0 : w.cell? ⟨rb, 0, none⟩ = some (.slice (some ⟨tb, 0, none⟩) T.length cap) := by rw [← hlv]; exact cell_of_heap (i := 0) hr rfl
  have c1 : w.cell? ⟨rb, 1, none⟩ = some (.int .i64 j) := cell_of_heap (i := 1) hr rfl
  have t0 := cell_of_heap h.hb ha0
  have t1 := cell_of_heap h.hb ha1
  have t2 := cell_of_heap h.hb ha2
  have hj0 : (0 : Int) ≤ (j : Int) := by omega
  have hji : (j : Int) < (T.length : Int) := by omega
  have hlen := h.tk.len
  obtain ⟨is, his⟩ : ∃ is, is = rstr (hd s.l).kind := ⟨_, rfl⟩
  obtain ⟨tx, htx⟩ : ∃ tx, tx = if (hd s.l).kind = .bad then x else (hd s.l).text := ⟨_, rfl⟩
  obtain ⟨ps, hps⟩ : ∃ ps, ps = (hd s.l).pos := ⟨_, rfl⟩
  rw [← his] at t0; rw [← htx] at t1; rw [← hps] at t2
  have hok : s.isK k = true → tx = (hd s.l).text := fun e => by
    unfold RS.isK at e
    simp only [Bool.and_eq_true, decide_eq_true_eq] at e
    rw [htx, if_neg (by rw [e.2]; exact hs.2)]
  have H := Lib.hid h; have HOK := Lib.hid hok; have HPS := Lib.hid hps
  have hn : (if s.isK k then s.step else if s.bad.isNone then ⟨s.l, some ps⟩ else s) = s.need k := by rw [hps]; rfl
  have HN := Lib.hid hn
  have htk := fun (W : World) (hW : RdI x T tb arr lv rb s W) => rd_take hW k hk hs
  have HT := Lib.hid htk
  clear hr ha0 ha1 ha2 his htx hl h hok hn htk hps
  go_enter Tryd.func25, Tryd.ntmps25
  go_wp2_with fail
  refine wp_region_float (fun w' => w'.cell? ⟨rb, 0, none⟩ = some (.slice (some ⟨tb, 0, none⟩) T.length cap) ∧ w'.cell? ⟨rb, 1, none⟩ = some (.int .i64 j) ∧ w'.cell? ⟨tb, j * 3, none⟩ = some (.string (bs is)) ∧ w'.cell? ⟨tb, j * 3 + 1, none⟩ = some (.string (bs tx)) ∧ w'.cell? ⟨tb, j * 3 + 2, none⟩ = some (.int .i64 ps)) [0, 1, 2, 4, 5, 6, 8] [3, 7, 9] (by kernel_rfl) ?_
  have S0 : w.drew.cell? ⟨rb, 0, none⟩ = some (.slice (some ⟨tb, 0, none⟩) T.length cap) ∧ w.drew.cell? ⟨rb, 1, none⟩ = some (.int .i64 j) ∧ w.drew.cell? ⟨tb, j * 3, none⟩ = some (.string (bs is)) ∧ w.drew.cell? ⟨tb, j * 3 + 1, none⟩ = some (.string (bs tx)) ∧ w.drew.cell? ⟨tb, j * 3 + 2, none⟩ = some (.int .i64 ps) := ⟨c0, c1, t0, t1, t2⟩
  (refine float0 (i := 0) (v := ?_) rfl (by kernel_rfl) (by kernel_rfl) (by kernel_rfl) (by kernel_rfl) (fun _ _ _ h => h) (by rfl) ?_ ?_); rotate_left
  (intro wF; go_simp; try with_reducible rfl)
  (try simp only [Act.put, List.setIfInBounds_toArray, List.set_cons_zero, List.set_cons_succ])
  (refine float0 (i := 1) (v := ?_) rfl (by kernel_rfl) (by kernel_rfl) (by kernel_rfl) (by kernel_rfl) (fun _ _ _ h => h) (by rfl) ?_ ?_); rotate_left
  (intro wF; go_simp; try with_reducible rfl)
  (try simp only [Act.put, List.setIfInBounds_toArray, List.set_cons_zero, List.set_cons_succ])
  (refine float0 (i := 2) (v := ?_) rfl (by kernel_rfl) (by kernel_rfl) (by kernel_rfl) (by kernel_rfl) (fun _ _ _ h => h) (by rfl) ?_ ?_); rotate_left
  (intro wF; go_simp; try with_reducible rfl)
  (try simp only [Act.put, List.setIfInBounds_toArray, List.set_cons_zero, List.set_cons_succ])
  (refine floatS (i := 3) (v := ?_) rfl (by kernel_rfl) (by kernel_rfl) (by kernel_rfl) (by kernel_rfl) (fun _ _ _ h => h) (by assumption) (by rfl) ?_ ?_); rotate_left
  (intro wF hF; (try dsimp only at hF); go_simp; try with_reducible rfl)
  (try simp only [Act.put, List.setIfInBounds_toArray, List.set_cons_zero, List.set_cons_succ])
  (refine float0 (i := 4) (v := ?_) rfl (by kernel_rfl) (by kernel_rfl) (by kernel_rfl) (by kernel_rfl) (fun _ _ _ h => h) (by rfl) ?_ ?_); rotate_left
  (intro wF; go_simp; try with_reducible rfl)
  (try simp only [Act.put, List.setIfInBounds_toArray, List.set_cons_zero, List.set_cons_succ])
  (refine float0 (i := 5) (v := ?_) rfl (by kernel_rfl) (by kernel_rfl) (by kernel_rfl) (by kernel_rfl) (fun _ _ _ h => h) (by rfl) ?_ ?_); rotate_left
  (intro wF; go_simp; try with_reducible rfl)
  (try simp only [Act.put, List.setIfInBounds_toArray, List.set_cons_zero, List.set_cons_succ])
  (refine float0 (i := 6) (v := ?_) rfl (by kernel_rfl) (by kernel_rfl) (by kernel_rfl) (by kernel_rfl) (fun _ _ _ h => h) (by rfl) ?_ ?_); rotate_left
  (intro wF; go_simp; try with_reducible rfl)
  (try simp only [Act.put, List.setIfInBounds_toArray, List.set_cons_zero, List.set_cons_succ])
  (refine floatS (i := 7) (v := ?_) rfl (by kernel_rfl) (by kernel_rfl) (by kernel_rfl) (by kernel_rfl) (fun _ _ _ h => h) (by assumption) (by rfl) ?_ ?_); rotate_left
  (intro wF hF; (try dsimp only at hF); go_simp; try with_reducible rfl)
  (try simp only [Act.put, List.setIfInBounds_toArray, List.set_cons_zero, List.set_cons_succ])
  (refine float0 (i := 8) (v := ?_) rfl (by kernel_rfl) (by kernel_rfl) (by kernel_rfl) (by kernel_rfl) (fun _ _ _ h => h) (by rfl) ?_ ?_); rotate_left
  (intro wF; go_simp; try with_reducible rfl)
  (try simp only [Act.put, List.setIfInBounds_toArray, List.set_cons_zero, List.set_cons_succ])
  (refine floatS (i := 9) (v := ?_) rfl (by kernel_rfl) (by kernel_rfl) (by kernel_rfl) (by kernel_rfl) (fun _ _ _ h => h) (by assumption) (by rfl) ?_ ?_); rotate_left
  (intro wF hF; (try dsimp only at hF); go_simp; try with_reducible rfl)
  (try simp only [Act.put, List.setIfInBounds_toArray, List.set_cons_zero, List.set_cons_succ])
  (refine floatM (i := 10) rfl (by kernel_rfl) (by kernel_rfl) (fun K hK => ?_)); go_simp
  refine hK.out _ _ (fun _ => (have kA := fun (o : Obj) => Keep.alloc none' w.drew o; ⟨(kA _).cell_some S0.1 (fun x => x), (kA _).cell_some S0.2.1 (fun x => x), (kA _).cell_some S0.2.2.1 (fun x => x), (kA _).cell_some S0.2.2.2.1 (fun x => x), (kA _).cell_some S0.2.2.2.2 (fun x => x)⟩)) ?_
  clear hK K
  (try simp only [Act.put, List.setIfInBounds_toArray, List.set_cons_zero, List.set_cons_succ])
  (refine floatT (l := _) (k := 11) rfl rfl (by kernel_rfl) ?_)
  go_wp2_with fail
  have k1 : Keep none' w (w.alloc (.cells #[.string (bs is), .string (bs tx), .int .i64 ps] 121)).drew := (Keep.alloc _ _ _).trans (Keep.drew _ _)
  have b1 : (w.alloc (.cells #[.string (bs is), .string (bs tx), .int .i64 ps] 121)).drew.heap[w.heap.size]? = some (.cells #[.string (bs is), .string (bs tx), .int .i64 ps] 121) := heap_new _ _
  have hi := H.out.keep k1 (fun x => x) (fun x => x)
  have hrb : rb ≠ w.heap.size := by obtain ⟨_, _, _, hr⟩ := H.out.suf; have := lt_of_heap hr; omega
  have HK1 := Lib.hid k1; have HB1 := Lib.hid b1; have HI := Lib.hid hi; have HRB := Lib.hid hrb
  clear k1 b1 hi hrb c0 c1 t0 t1 t2 S0
  refine (HT.out _ HI.out).mono ?_
  rintro e w2 ⟨rfl, k2, h2⟩
  have b2 := k2.get HB1.out (fun (e : w.heap.size = rb) => HRB.out e.symm)
  have d1 := cell_of_heap (i := 1) b2 rfl
  have d2 := cell_of_heap (i := 2) b2 rfl
  have K2 : Keep (one' rb) w w2 := HK1.out.of_none.trans k2
  have HK2 := Lib.hid K2; have H2 := Lib.hid h2; have HB2 := Lib.hid b2
  clear K2 k2 h2 b2
  cases hq : s.isK k with
  | true =>
    have H2' := H2.out
    rw [hq, if_pos rfl] at H2'
    have hy := HOK.out hq
    have hn := HN.out
    rw [hq, if_pos rfl] at hn
    have HN' := Lib.hid hn; have HY := Lib.hid hy; have HH2 := Lib.hid H2'
    clear hn hy H2' H2
    go_wp2_with fail
    go_ret
    exact ⟨tx, rfl, fun _ => HY.out, HK2.out, by rw [← HN'.out]; exact HH2.out⟩
  | false =>
    have H2' := H2.out
    rw [hq, if_neg (by simp)] at H2'
    have hn := HN.out
    rw [hq, if_neg (by simp)] at hn
    obtain ⟨j2, s1, s2, s3⟩ := H2'.suf
    have e2 : w2.cell? ⟨rb, 2, none⟩ = some (.int .i64 (badI s.bad)) := cell_of_heap (i := 2) s3 rfl
    have f2 : w2.frozen? ⟨rb, 2, none⟩ = false := free_of_heap s3
    have HN' := Lib.hid hn; have HH2 := Lib.hid H2'; have HS1 := Lib.hid s1; have HS3 := Lib.hid s3
    clear hn H2' H2 s1 s3
    cases hb : s.bad with
    | none =>
      replace e2 : w2.cell? ⟨rb, 2, none⟩ = some (.int .i64 (-1)) := by rw [hb] at e2; exact e2
      have HBD := Lib.hid hb
      clear hb
      go_wp2_with fail
      go_ret
      have kk : Keep (one' rb) w2 (w2.setCell ⟨rb, 2, none⟩ (.int .i64 ps)) := Keep.setCell _ _ (fun _ => rfl)
      refine ⟨tx, rfl, fun e => (by rw [hq] at e; cases e), HK2.out.trans kk, ?_⟩
      rw [← HN'.out, HBD.out]
      refine ⟨HH2.out.tk, kk.get HH2.out.hb (fun e => HH2.out.ne e), HH2.out.ne, ⟨j2, HS1.out, s2, ?_⟩, HH2.out.tl⟩
      exact heap_set_same (i := 2) HS3.out
    | some b =>
      obtain ⟨bi, hbi⟩ : ∃ bi : Int, bi = (b : Int) := ⟨_, rfl⟩
      replace e2 : w2.cell? ⟨rb, 2, none⟩ = some (.int .i64 bi) := by rw [hb] at e2; rw [hbi]; exact e2
      have q1 : ¬ bi < 0 := by omega
      have HBD := Lib.hid hb
      clear hb hbi
      go_wp2_with fail
      go_ret
      exact ⟨tx, rfl, fun e => (by rw [hq] at e; cases e), HK2.out, by rw [← HN'.out, HBD.out]; exact HH2.out⟩
end Go.Proofs.YtabikmkoajdhmaaDoor
