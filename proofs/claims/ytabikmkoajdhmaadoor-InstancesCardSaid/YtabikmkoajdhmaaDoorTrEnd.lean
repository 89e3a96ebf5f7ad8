/- typerref's reader at the end of a text; its tokens in memory. -/
import Derived.Test.YtabikmkoajdhmaaDoorTrRd
import Derived.Test.YtabikmkoajdhmaaDoorTrTok
import Derived.Test.YtabikmkoajdhmaaDoorTrTot
set_option linter.unusedVariables false
set_option linter.unusedSimpArgs false
set_option linter.unnecessarySimpa false
namespace Go.Proofs.YtabikmkoajdhmaaDoor
open Go.RowKit

set_option maxHeartbeats 800000 in
theorem rd_take_fin {x : Str} {T : List Tok} {tb : Nat} {arr : Array Value} {lv : Value} {rb : Nat} {s : RS} {w : World} (h : RdI x T tb arr lv rb s w) : Calls Tryd.prog 47 #[.pointer (some ⟨rb, 0, none⟩), .string (bs (rstr .fin))] w fun e w' => e = .returned (.bool (s.isK .fin)) ∧ Keep (one' rb) w w' ∧ ∃ kk, w'.heap[rb]? = some (rdO lv kk s.bad) := by
  have his := rd_is h .fin (fun w e => by cases e)
  obtain ⟨j, hl, hj, hr⟩ := h.suf
  have hlen := h.tk.len
  have HIS := Lib.hid his; have HR := Lib.hid hr
  clear his h hl hr
  cases hq : s.isK .fin with
  | false =>
    rw [hq] at HIS
    go_enter Tryd.func47, Tryd.ntmps47
    go_wp2_with fail
    refine HIS.out.mono ?_
    rintro e w1 ⟨rfl, k1⟩
    have HK1 := Lib.hid k1
    clear k1
    go_wp2_with fail
    go_ret
    have h1 := HK1.out.get HR.out (fun x => x)
    exact ⟨rfl, HK1.out.of_none, j, h1⟩
  | true =>
    rw [hq] at HIS
    go_enter Tryd.func47, Tryd.ntmps47
    go_wp2_with fail
    refine HIS.out.mono ?_
    rintro e w1 ⟨rfl, k1⟩
    have h1 := k1.get HR.out (fun x => x)
    have c1 : w1.cell? ⟨rb, 1, none⟩ = some (.int .i64 j) := cell_of_heap (i := 1) h1 rfl
    have f1 : w1.frozen? ⟨rb, 1, none⟩ = false := free_of_heap h1
    have HK1 := Lib.hid k1; have HH1 := Lib.hid h1
    clear k1 h1
    go_wp2_with fail
    go_ret
    have kk : Keep (one' rb) w1 (w1.setCell ⟨rb, 1, none⟩ (.int .i64 ((j : Int) + 1))) := Keep.setCell _ _ (fun _ => rfl)
    have h2 : (w1.setCell ⟨rb, 1, none⟩ (.int .i64 ((j : Int) + 1))).heap[rb]? = _ := heap_set_same (i := 1) HH1.out
    exact ⟨rfl, HK1.out.of_none.trans kk, j + 1, by rw [h2]; show _ = some (Obj.cells #[lv, .int .i64 ((j + 1 : Nat) : Int), _] _); rw [Int.natCast_add]; rfl⟩
set_option maxHeartbeats 1600000 in
theorem rd_need_end {x : Str} {T : List Tok} {tb : Nat} {arr : Array Value} {lv : Value} {rb : Nat} {s : RS} {w : World} (h : RdI x T tb arr lv rb s w) : Calls Tryd.prog 25 #[.pointer (some ⟨rb, 0, none⟩), .string (bs (rstr .fin))] w fun e w' => ∃ y, e = .returned (.string (bs y)) ∧ Keep (one' rb) w w' ∧ w'.cell? ⟨rb, 2, none⟩ = some (.int .i64 (badI (s.need .fin).bad)) := by
  obtain ⟨j, hl, hj, hr, ha0, ha1, ha2, hp⟩ := hd_at h
  obtain ⟨cap, hlv⟩ := h.tk.lv
  have c0 : w.cell? ⟨rb, 0, none⟩ = some (.slice (some ⟨tb, 0, none⟩) T.length cap) := by rw [← hlv]; exact cell_of_heap (i := 0) hr rfl
  have c1 : w.cell? ⟨rb, 1, none⟩ = some (.int .i64 j) := cell_of_heap (i := 1) hr rfl
  have t0 := cell_of_heap h.hb ha0
  have t1 := cell_of_heap h.hb ha1
  have t2 := cell_of_heap h.hb ha2
  have hj0 : (0 : Int) ≤ (j : Int) := by omega
  have hji : (j : Int) < (T.length : Int) := by omega
  have hlen := h.tk.len
  obtain ⟨is, his⟩ : ∃ is, is = rstr (hd s.l).kind := ⟨_, rfl⟩
  obtain ⟨tx, htx⟩ : ∃ tx, tx = if (hd s.l).kind = .bad then x else (hd s.l).text := ⟨_, rfl⟩
  obtain ⟨ps, hps⟩ : ∃ ps, ps = (hd s.l).pos := ⟨_, rfl⟩
  rw [← his] at t0; rw [← htx] at t1; rw [← hps] at t2
  have H := Lib.hid h
  have hn : (if s.isK .fin then s.step else if s.bad.isNone then ⟨s.l, some ps⟩ else s) = s.need .fin := by rw [hps]; rfl
  have HN := Lib.hid hn
  have htk := fun (W : World) (hW : RdI x T tb arr lv rb s W) => rd_take_fin hW
  have HT := Lib.hid htk
  clear hr ha0 ha1 ha2 his htx hl h hn htk hps
  go_enter Tryd.func25, Tryd.ntmps25
  go_wp2_with fail
  refine wp_region_float (fun w' => w'.cell? ⟨rb, 0, none⟩ = some (.slice (some ⟨tb, 0, none⟩) T.length cap) ∧ w'.cell? ⟨rb, 1, none⟩ = some (.int .i64 j) ∧ w'.cell? ⟨tb, j * 3, none⟩ = some (.string (bs is)) ∧ w'.cell? ⟨tb, j * 3 + 1, none⟩ = some (.string (bs tx)) ∧ w'.cell? ⟨tb, j * 3 + 2, none⟩ = some (.int .i64 ps)) [0, 1, 2, 4, 5, 6, 8] [3, 7, 9] (by kernel_rfl) ?_
  have S0 : w.drew.cell? ⟨rb, 0, none⟩ = some (.slice (some ⟨tb, 0, none⟩) T.length cap) ∧ w.drew.cell? ⟨rb, 1, none⟩ = some (.int .i64 j) ∧ w.drew.cell? ⟨tb, j * 3, none⟩ = some (.string (bs is)) ∧ w.drew.cell? ⟨tb, j * 3 + 1, none⟩ = some (.string (bs tx)) ∧ w.drew.cell? ⟨tb, j * 3 + 2, none⟩ = some (.int .i64 ps) := ⟨c0, c1, t0, t1, t2⟩
  (refine float0 (i := 0) (v := ?_) rfl (by kernel_rfl) (by kernel_rfl) (by kernel_rfl) (by kernel_rfl) (fun _ _ _ h => h) (by rfl) ?_ ?_); rotate_left
  (intro wF; go_simp; try with_reducible rfl)
  (try simp only [Act.put, List.setIfInBounds_toArray, List.set_cons_zero, List.set_cons_succ])
  (refine float0 (i := 1) (v := ?_) rfl (by kernel_rfl) (by kernel_rfl) (by kernel_rfl) (by kernel_rfl) (fun _ _ _ h => h) (by rfl) ?_ ?_); rotate_left
  (intro wF; go_simp; try with_reducible rfl)
  (try simp only [Act.put, List.setIfInBounds_toArray, List.set_cons_zero, List.set_cons_succ])
  (refine float0 (i := 2) (v := ?_) rfl (by kernel_rfl) (by kernel_rfl) (by kernel_rfl) (by kernel_rfl) (fun _ _ _ h => h) (by rfl) ?_ ?_); rotate_left
  (intro wF; go_simp; try with_reducible rfl)
  (try simp only [Act.put, List.setIfInBounds_toArray, List.set_cons_zero, List.set_cons_succ])
  (refine floatS (i := 3) (v := ?_) rfl (by kernel_rfl) (by kernel_rfl) (by kernel_rfl) (by kernel_rfl) (fun _ _ _ h => h) (by assumption) (by rfl) ?_ ?_); rotate_left
  (intro wF hF; (try dsimp only at hF); go_simp; try with_reducible rfl)
  (try simp only [Act.put, List.setIfInBounds_toArray, List.set_cons_zero, List.set_cons_succ])
  (refine float0 (i := 4) (v := ?_) rfl (by kernel_rfl) (by kernel_rfl) (by kernel_rfl) (by kernel_rfl) (fun _ _ _ h => h) (by rfl) ?_ ?_); rotate_left
  (intro wF; go_simp; try with_reducible rfl)
  (try simp only [Act.put, List.setIfInBounds_toArray, List.set_cons_zero, List.set_cons_succ])
  (refine float0 (i := 5) (v := ?_) rfl (by kernel_rfl) (by kernel_rfl) (by kernel_rfl) (by kernel_rfl) (fun _ _ _ h => h) (by rfl) ?_ ?_); rotate_left
  (intro wF; go_simp; try with_reducible rfl)
  (try simp only [Act.put, List.setIfInBounds_toArray, List.set_cons_zero, List.set_cons_succ])
  (refine float0 (i := 6) (v := ?_) rfl (by kernel_rfl) (by kernel_rfl) (by kernel_rfl) (by kernel_rfl) (fun _ _ _ h => h) (by rfl) ?_ ?_); rotate_left
  (intro wF; go_simp; try with_reducible rfl)
  (try simp only [Act.put, List.setIfInBounds_toArray, List.set_cons_zero, List.set_cons_succ])
  (refine floatS (i := 7) (v := ?_) rfl (by kernel_rfl) (by kernel_rfl) (by kernel_rfl) (by kernel_rfl) (fun _ _ _ h => h) (by assumption) (by rfl) ?_ ?_); rotate_left
  (intro wF hF; (try dsimp only at hF); go_simp; try with_reducible rfl)
  (try simp only [Act.put, List.setIfInBounds_toArray, List.set_cons_zero, List.set_cons_succ])
  (refine float0 (i := 8) (v := ?_) rfl (by kernel_rfl) (by kernel_rfl) (by kernel_rfl) (by kernel_rfl) (fun _ _ _ h => h) (by rfl) ?_ ?_); rotate_left
  (intro wF; go_simp; try with_reducible rfl)
  (try simp only [Act.put, List.setIfInBounds_toArray, List.set_cons_zero, List.set_cons_succ])
  (refine floatS (i := 9) (v := ?_) rfl (by kernel_rfl) (by kernel_rfl) (by kernel_rfl) (by kernel_rfl) (fun _ _ _ h => h) (by assumption) (by rfl) ?_ ?_); rotate_left
  (intro wF hF; (try dsimp only at hF); go_simp; try with_reducible rfl)
  (try simp only [Act.put, List.setIfInBounds_toArray, List.set_cons_zero, List.set_cons_succ])
  (refine floatM (i := 10) rfl (by kernel_rfl) (by kernel_rfl) (fun K hK => ?_)); go_simp
  refine hK.out _ _ (fun _ => (have kA := fun (o : Obj) => Keep.alloc none' w.drew o; ⟨(kA _).cell_some S0.1 (fun x => x), (kA _).cell_some S0.2.1 (fun x => x), (kA _).cell_some S0.2.2.1 (fun x => x), (kA _).cell_some S0.2.2.2.1 (fun x => x), (kA _).cell_some S0.2.2.2.2 (fun x => x)⟩)) ?_
  clear hK K
  (try simp only [Act.put, List.setIfInBounds_toArray, List.set_cons_zero, List.set_cons_succ])
  (refine floatT (l := _) (k := 11) rfl rfl (by kernel_rfl) ?_)
  go_wp2_with fail
  have k1 : Keep none' w (w.alloc (.cells #[.string (bs is), .string (bs tx), .int .i64 ps] 121)).drew := (Keep.alloc _ _ _).trans (Keep.drew _ _)
  have b1 : (w.alloc (.cells #[.string (bs is), .string (bs tx), .int .i64 ps] 121)).drew.heap[w.heap.size]? = some (.cells #[.string (bs is), .string (bs tx), .int .i64 ps] 121) := heap_new _ _
  have hi := H.out.keep k1 (fun x => x) (fun x => x)
  have hrb : rb ≠ w.heap.size := by obtain ⟨_, _, _, hr⟩ := H.out.suf; have := lt_of_heap hr; omega
  have HK1 := Lib.hid k1; have HB1 := Lib.hid b1; have HI := Lib.hid hi; have HRB := Lib.hid hrb
  clear k1 b1 hi hrb c0 c1 t0 t1 t2 S0
  refine (HT.out _ HI.out).mono ?_
  rintro e w2 ⟨rfl, k2, kz, r2⟩
  have e2 : w2.cell? ⟨rb, 2, none⟩ = some (.int .i64 (badI s.bad)) := cell_of_heap (i := 2) r2 rfl
  have f2 : w2.frozen? ⟨rb, 2, none⟩ = false := free_of_heap r2
  have hr2 : ∀ v, (w2.setCell ⟨rb, 2, none⟩ v).cell? ⟨rb, 2, none⟩ = some v := fun v => cell_of_heap (i := 2) (heap_set_same (i := 2) r2) rfl
  have HR2 := Lib.hid hr2
  clear r2 hr2
  have b2 := k2.get HB1.out (fun (e : w.heap.size = rb) => HRB.out e.symm)
  have d1 := cell_of_heap (i := 1) b2 rfl
  have d2 := cell_of_heap (i := 2) b2 rfl
  have K2 : Keep (one' rb) w w2 := HK1.out.of_none.trans k2
  have HK2 := Lib.hid K2; have HB2 := Lib.hid b2
  clear K2 k2 b2
  cases hq : s.isK .fin with
  | true =>
    have hn := HN.out
    rw [hq, if_pos rfl] at hn
    have HN' := Lib.hid hn; have HE2 := Lib.hid e2
    clear hn e2
    go_wp2_with fail
    go_ret
    exact ⟨tx, rfl, HK2.out, by rw [← HN'.out]; exact HE2.out⟩
  | false =>
    have hn := HN.out
    rw [hq, if_neg (by simp)] at hn
    have HN' := Lib.hid hn; have HE2 := Lib.hid e2
    clear hn
    cases hb : s.bad with
    | none =>
      replace e2 : w2.cell? ⟨rb, 2, none⟩ = some (.int .i64 (-1)) := by rw [hb] at e2; exact e2
      have HBD := Lib.hid hb
      have hcs : (w2.setCell ⟨rb, 2, none⟩ (.int .i64 ps)).cell? ⟨rb, 2, none⟩ = some (.int .i64 ps) := HR2.out _
      have HCS := Lib.hid hcs
      clear hb hcs
      go_wp2_with fail
      go_ret
      have kk : Keep (one' rb) w2 (w2.setCell ⟨rb, 2, none⟩ (.int .i64 ps)) := Keep.setCell _ _ (fun _ => rfl)
      refine ⟨tx, rfl, HK2.out.trans kk, ?_⟩
      rw [← HN'.out, HBD.out]
      exact HCS.out
    | some b =>
      obtain ⟨bi, hbi⟩ : ∃ bi : Int, bi = (b : Int) := ⟨_, rfl⟩
      replace e2 : w2.cell? ⟨rb, 2, none⟩ = some (.int .i64 bi) := by rw [hb] at e2; rw [hbi]; exact e2
      have q1 : ¬ bi < 0 := by omega
      have HBD := Lib.hid hb
      clear hb hbi
      go_wp2_with fail
      go_ret
      exact ⟨tx, rfl, HK2.out, by rw [← HN'.out, HBD.out]; exact HE2.out⟩

/-! ### the tokens in memory -/
theorem flat3T {α : Type} (f : α → List Value) (hf : ∀ a, (f a).length = 3) : ∀ (l : List α) (k i : Nat) (h : k < l.length), i < 3 → (l.flatMap f)[k * 3 + i]? = (f l[k])[i]?
  | a :: r, 0, i, _, hi => by
    simp only [List.flatMap_cons, List.getElem_cons_zero]
    rw [List.getElem?_append_left (by rw [hf]; omega)]
    congr 1; omega
  | a :: r, k + 1, i, h, hi => by
    simp only [List.flatMap_cons, List.getElem_cons_succ]
    rw [List.getElem?_append_right (by rw [hf]; omega), hf, show (k + 1) * 3 + i - 3 = k * 3 + i by omega]
    exact flat3T f hf r k i (by simpa using h) hi
theorem toksN_pos {kw : Str → Bool} {s : Str} : ∀ (k i : Nat), i ≤ s.length → ∀ t ∈ toksN kw s k i, t.pos ≤ s.length
  | 0, _, _, t, h => by simp [toksN] at h
  | k + 1, i, hi, t, h => by
    simp only [toksN, List.mem_cons] at h
    rcases h with h | h
    · subst h
      have := spanN_drop_le blank s i hi
      unfold lexAt
      rw [(lexFrom_le kw _ _).1]
      exact this
    · split at h
      · cases h
      · exact toksN_pos k _ (lexAt_le kw s i hi).2.1 t h
theorem tk_of {kw : Str → Bool} (hk : ResB kw) {S : Str} (hS : S.length ≤ 300) {w w' : World} {v : Value} {x : Str} (h : w'.ownsRow w.heap.size 121 3 v (toks kw S 0).length ((toks kw S 0).flatMap (tokV x))) : ∃ tb arr, w.heap.size ≤ tb ∧ w'.heap[tb]? = some (.cells arr 121) ∧ TkR x (toks kw S 0) v tb arr := by
  have hlen : (toks kw S 0).length ≤ 301 := toks_len301 hS
  have hpos : 0 < (toks kw S 0).length := by
    have := (toks_tg (kw := kw) hS).tl.ne
    cases ht : toks kw S 0 with
    | nil => exact absurd ht this
    | cons a r => simp
  obtain ⟨hl, h⟩ := h
  rcases h with ⟨rfl, hz⟩ | ⟨g, cap, cur, rfl, hb, hgg, h1, h2, h3, h4⟩
  · omega
  · refine ⟨g, cur, hb, hgg, ⟨⟨cap, rfl⟩, fun i hi => ?_, fun t ht => toksN_goodR hk _ _ t ht, by omega, fun t ht => by have := toksN_pos _ _ (Nat.zero_le _) t ht; omega⟩⟩
    have hat : ∀ j, j < 3 → cur[i * 3 + j]? = (tokV x (toks kw S 0)[i])[j]? := fun j hj => by
      rw [← flat3T (tokV x) (fun _ => rfl) (toks kw S 0) i j hi hj, ← h4]
      rw [List.getElem?_take, if_pos (by omega)]
      simp
    exact ⟨hat 0 (by decide), hat 1 (by decide), hat 2 (by decide)⟩
end Go.Proofs.YtabikmkoajdhmaaDoor
