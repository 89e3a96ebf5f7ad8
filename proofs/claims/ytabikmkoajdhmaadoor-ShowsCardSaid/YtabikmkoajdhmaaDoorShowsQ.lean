/- typerref.Read's plain law: what its reader leaves is what the document's reader says. The words in memory. -/
import Derived.Test.YtabikmkoajdhmaaDoorTrEnd
import Derived.Test.YtabikmkoajdhmaaDoorTrExp
import Derived.Test.YtabikmkoajdhmaaDoorTrDeep
import Derived.Test.YtabikmkoajdhmaaDoorQ25
import Derived.Test.YtabikmkoajdhmaaDoorTrTextX
import Derived.Test.YtabikmkoajdhmaaDoorQ06
import Derived.SliceStrings
import Derived.ChangeMaps5
import Derived.Test.YtabikmkoajdhmaaDoorCards
import Derived.Test.YtabikmkoajdhmaaDoorTie
import Derived.SevenTiedAt
import Derived.ProofKit
import Derived.LaidMore
import Derived.OpenShut
set_option linter.unusedVariables false
set_option linter.unusedSimpArgs false
set_option linter.unnecessarySimpa false
namespace Go.Proofs.YtabikmkoajdhmaaDoor
open Go.RowKit

def kwsL : List Str := [FUN, LET, REC, AND, IN, IF, THEN, ELSE]
theorem kwsL_ok (t : Str) : wordsB t = kwsL.contains t := by
  simp only [wordsB, kwsL, List.contains, List.elem, Bool.or_false]
  cases t == FUN <;> cases t == LET <;> cases t == REC <;> cases t == AND <;> cases t == IN <;> cases t == IF <;> cases t == THEN <;> cases t == ELSE <;> rfl
theorem kwsL_res : ResB wordsB := by
  intro w h
  rw [kwsL_ok] at h
  simp only [kwsL, List.contains_eq_mem, List.mem_cons, List.not_mem_nil, or_false, decide_eq_true_eq] at h
  rcases h with h | h | h | h | h | h | h | h <;> subst h <;> decide
/-- The list of words, as it lies in memory. -/
def WordsL (w : World) : Prop := ∃ b o cap, w.cell? ⟨8, 0, none⟩ = some (.slice (some ⟨b, o, none⟩) kwsL.length cap) ∧ ∀ j (h : j < kwsL.length), w.cell? ⟨b, o + j, none⟩ = some (.string (bs kwsL[j]))
theorem WordsL.keep0 {w w' : World} (h : WordsL w) (k : Keep none' w w') : WordsL w' := by
  obtain ⟨b, o, cap, h1, h2⟩ := h
  exact ⟨b, o, cap, k.cell_some h1 (fun x => x), fun j hj => k.cell_some (h2 j hj) (fun x => x)⟩
/-- What typerref.Read's reader comes to. -/
def refOf (q : Ex × RS) : Except Flt Ex := match (q.2.need .fin).bad with
  | some p => .error { what := 2, pos := p }
  | none => if q.1.depth > 40 then .error { what := 3 } else .ok q.1
structure RefR (s : Str) (q : Ex × RS) : Prop where
  run : rExp (readFuel + 1) ⟨toks wordsB s 0, none⟩ = some q
  rd : ReadsOk s (some (refOf q))
  sz : (q.2.need .fin).bad = none → q.2.bad = none ∧ q.1.show.length ≤ 400000 ∧ q.1.depth ≤ 1000
theorem need_bad {s : RS} {k : TK} (h : (s.need k).bad = none) : s.bad = none := need_good h
theorem read_ref {s : Str} (h : s.length ≤ 300) : ∃ q, RefR s q := by
  have hdn := read_dn h
  have htl := (toks_tg (kw := wordsB) h).tl
  have h301 := toks_len301 (kw := wordsB) h
  have hc := readE_cases s (by omega)
  cases hp : pExp readFuel (toks wordsB s 0) with
  | none => rw [hp] at hdn; cases hdn
  | some r =>
    obtain ⟨q, hq, ha⟩ := exp_agree readFuel _ r htl hp
    rw [hp] at hdn hc
    cases r with
    | error p =>
      have ha' : q.2.bad = some p := ha
      have hn : (q.2.need .fin).bad = some p := by rw [bad_need ha']; exact ha'
      refine ⟨q, hq, ⟨?_, by simp, fun x l e => (by rw [hp] at e; cases e), fun x e => ?_⟩, fun e => by rw [hn] at e; cases e⟩
      · rw [hc]; simp only [refOf, hn]
      · simp only [refOf, hn] at e; cases e
    | ok xl =>
      obtain ⟨x, l⟩ := xl
      obtain ⟨rfl, _⟩ := ha
      have hE : EP (toks wordsB s 0).length x l := hdn
      have hsh := hE.sh
      have hdl := hE.dl
      have hl1 : x.show.length ≤ 400000 := by omega
      have hd1 : x.depth ≤ 1000 := by omega
      refine ⟨_, hq, ⟨?_, by simp, fun y l' e => ?_, fun y e => ?_⟩, fun e => ⟨rfl, hl1, hd1⟩⟩
      · rw [hc]
        simp only [refOf, good_need]
        by_cases hf : (hd l).kind = .fin
        · simp only [if_pos hf]
          by_cases h40 : x.depth > 40
          · simp only [if_pos h40]
          · simp only [if_neg h40]
        · simp only [if_neg hf]
      · rw [hp] at e
        injection e with e; injection e with e
        obtain ⟨rfl, rfl⟩ := Prod.mk.inj e
        omega
      · simp only [refOf] at e
        split at e
        · cases e
        · split at e
          · cases e
          · injection e with e; injection e with e; subst e; omega
/-- What holds of a reading if it comes to an end and nothing is wrong. -/
def Pc {α : Type} (r : Res (α × List Tok)) (P : α → Prop) : Prop := match r with
  | some (.ok (x, _)) => P x
  | _ => True
theorem Pc.bind {α β : Type} {r : Res (α × List Tok)} {P : α → Prop} {f : α × List Tok → Res (β × List Tok)} {Q : β → Prop} (h : Pc r P) (hf : ∀ x l, P x → Pc (f (x, l)) Q) : Pc (r.bind f) Q := by
  unfold Pc at h
  split at h
  · exact hf _ _ h
  · rename_i h2
    unfold Pc Res.bind
    cases r with
    | none => trivial
    | some e => cases e with
      | error p => trivial
      | ok x => exact absurd rfl (h2 x.1 x.2)
theorem Pc.mono {α : Type} {r : Res (α × List Tok)} {P Q : α → Prop} (h : Pc r P) (hf : ∀ x, P x → Q x) : Pc r Q := by
  unfold Pc at h ⊢
  split at h
  · exact hf _ h
  · trivial
theorem want_pc (k : TK) (l : List Tok) : Pc (want k l) fun _ => True := by
  unfold Pc; split <;> trivial
mutual
theorem exp_pc : ∀ (K : Nat) (l : List Tok), K ≤ 4000 → Pc (pExp K l) fun x => x.depth ≤ 4001 * K + 1
  | 0, _, _ => trivial
  | K + 1, l, hK => by
    rw [pExp]
    split
    · refine (want_pc _ _).bind fun n l1 _ => (want_pc _ _).bind fun _ l2 _ => (exp_pc K l2 (by omega)).bind fun b l3 h => ?_
      show Ex.depth _ ≤ _
      simp only [Ex.depth]; omega
    · split
      · refine (exp_pc K _ (by omega)).bind fun c l1 hc => (want_pc _ _).bind fun _ l2 _ => (exp_pc K l2 (by omega)).bind fun a l3 ha => (want_pc _ _).bind fun _ l4 _ => (exp_pc K l4 (by omega)).bind fun b l5 hb => ?_
        show Ex.depth _ ≤ _
        simp only [Ex.depth]; omega
      · split
        · split
          · refine (rec_pc K [] _ (by omega)).mono fun x hx => ?_
            simp only [Bs.of, Bs.depth] at hx
            omega
          · refine (want_pc _ _).bind fun n l1 _ => (want_pc _ _).bind fun _ l2 _ => (exp_pc K l2 (by omega)).bind fun a l3 ha => (want_pc _ _).bind fun _ l4 _ => (exp_pc K l4 (by omega)).bind fun b l5 hb => ?_
            show Ex.depth _ ≤ _
            simp only [Ex.depth]; omega
        · refine (atom_pc K l (by omega)).bind fun x l1 hx => (apps_pc K x l1 (by omega)).mono fun y hy => ?_
          omega
theorem apps_pc : ∀ (K : Nat) (x : Ex) (l : List Tok), K ≤ 4000 → Pc (pApps K x l) fun y => y.depth ≤ max x.depth (4001 * K + 1) + K
  | 0, _, _, _ => trivial
  | K + 1, x, l, hK => by
    rw [pApps]
    split
    · refine (atom_pc K l (by omega)).bind fun a l1 ha => (apps_pc K _ l1 (by omega)).mono fun y hy => ?_
      simp only [Ex.depth] at hy
      omega
    · show Ex.depth _ ≤ _
      omega
theorem rec_pc : ∀ (K : Nat) (acc : List (Str × Ex)) (l : List Tok), K ≤ 4000 → Pc (pRec K acc l) fun x => x.depth ≤ max (Bs.of acc).depth (4001 * K + 1) + 1
  | 0, _, _, _ => trivial
  | K + 1, acc, l, hK => by
    rw [pRec]
    refine (want_pc _ _).bind fun n l1 _ => ?_
    dsimp only
    split
    · trivial
    · refine (want_pc _ _).bind fun _ l2 _ => (exp_pc K l2 (by omega)).bind fun b l3 hb => ?_
      dsimp only
      have s2 := bs_snoc_d acc n b
      split
      · refine (rec_pc K _ _ (by omega)).mono fun x h => ?_
        omega
      · refine (want_pc _ _).bind fun _ l4 _ => (exp_pc K l4 (by omega)).bind fun e l5 he => ?_
        show Ex.depth _ ≤ _
        simp only [Ex.depth]; omega
theorem atom_pc : ∀ (K : Nat) (l : List Tok), K ≤ 4000 → Pc (pAtom K l) fun x => x.depth ≤ 4001 * K + 1
  | 0, _, _ => trivial
  | K + 1, l, hK => by
    rw [pAtom]
    split
    · show Ex.depth _ ≤ _
      simp only [Ex.depth]; omega
    · split
      · show Ex.depth _ ≤ _
        simp only [Ex.depth]; omega
      · refine (want_pc _ _).bind fun _ l1 _ => (exp_pc K l1 (by omega)).bind fun x l2 hx => ?_
        dsimp only
        split
        · refine (exp_pc K _ (by omega)).bind fun y l3 hy => (want_pc _ _).bind fun _ l4 _ => ?_
          show Ex.depth _ ≤ _
          simp only [Ex.depth]; omega
        · refine (want_pc _ _).bind fun _ l3 _ => ?_
          show Ex.depth _ ≤ _
          omega
end
theorem dep_any (s : Str) : ∀ x l, pExp readFuel (toks wordsB s 0) = some (.ok (x, l)) → x.depth ≤ 1000000000 := by
  intro x l h
  have := exp_pc readFuel (toks wordsB s 0) (by decide)
  rw [h] at this
  have h2 : x.depth ≤ 4001 * readFuel + 1 := this
  unfold readFuel at h2
  omega
end Go.Proofs.YtabikmkoajdhmaaDoor

namespace Go.Proofs.YtabikmkoajdhmaaDoor
open Go.RowKit

def faultR (what at' : Int) : Value := .agg #[.int .i64 what, .int .i64 at', .string ⟨#[]⟩, .int .i64 0, .int .i64 0]
def RRPost (w : World) (r : Except Flt Ex) (e : Ending) (w' : World) : Prop := Keep none' w w' ∧ match r with
  | .ok x => ∃ b G, e = .returned (.tuple #[.pointer (some ⟨b, 0, none⟩), faultR 0 0]) ∧ Holds G w' ∧ XR G b x ∧ x.show.length ≤ 400000
  | .error f => e = .returned (.tuple #[.pointer none, faultR f.what f.pos])
theorem fz_cellsR {a : World} {x : Nat} {T : TypeId} (h : a.heap[x]? = some (.cells fz T)) : (∀ i v, fz[i]? = some v → a.cell? ⟨x, i, none⟩ = some v) ∧ ∀ i, a.frozen? ⟨x, i, none⟩ = false :=
  ⟨fun i v hv => cell_of_heap h hv, fun i => free_of_heap h⟩
theorem keep1oR (a : World) (x i : Nat) (u : Value) : Keep (one' x) a (a.setCell ⟨x, i, none⟩ u) := Keep.setCell _ _ (fun _ => rfl)
theorem keep5oR (a : World) (x : Nat) (u0 u1 u2 u3 u4 : Value) : Keep (one' x) a (((((a.setCell ⟨x, 0, none⟩ u0).setCell ⟨x, 1, none⟩ u1).setCell ⟨x, 2, none⟩ u2).setCell ⟨x, 3, none⟩ u3).setCell ⟨x, 4, none⟩ u4) :=
  ((((keep1oR _ x 0 u0).trans (keep1oR _ x 1 u1)).trans (keep1oR _ x 2 u2)).trans (keep1oR _ x 3 u3)).trans (keep1oR _ x 4 u4)
set_option maxHeartbeats 2000000 in
theorem tr_read_long (S : Str) (h : ¬ S.length ≤ 300) (w : World) : Calls Tryd.prog 9 #[.string (bs S)] w (RRPost w (.error { what := 1 })) := by
  have hS := bs_size S
  have q1 : decide ((300 : Int) < (S.length : Int)) = true := by simp; omega
  clear h
  go_enter Tryd.func9, Tryd.ntmps9
  go_wp2_with fail
  refine bodyPost_ret (v := .tuple #[.pointer none, faultR 1 0]) (by simp [results, Tryd.results9, go_sem, faultR]) rfl ⟨Keep.alloc _ _ _, rfl⟩
set_option maxRecDepth 100000 in
set_option maxHeartbeats 4000000 in
theorem tr_read_short (S : Str) (h : S.length ≤ 300) (w : World) (hw : WordsL w) {q : Ex × RS} (hq : RefR S q) : Calls Tryd.prog 9 #[.string (bs S)] w (RRPost w (refOf q)) := by
  have hS := bs_size S
  have q1 : decide ((300 : Int) < (S.length : Int)) = false := by simp; omega
  have k0 : Keep none' w (w.alloc (.cells fz 32)) := Keep.alloc _ _ _
  have x0 : (w.alloc (.cells fz 32)).heap[w.heap.size]? = some (.cells fz 32) := heap_new _ _
  obtain ⟨kb, ko, kcap, hg, hc⟩ := hw.keep0 k0
  have hkb : kb < (w.alloc (.cells fz 32)).heap.size := lt_of_cell (hc 0 (by decide))
  have ht := tr_tokens wordsB kwsL_res kwsL kwsL_ok S (by omega) (by decide) (w.alloc (.cells fz 32)) kb ko kcap hkb (fun W k j hj => k.cell_some (hc j hj) (fun x => x))
  obtain ⟨nk, hnk⟩ : ∃ nk, nk = kwsL.length := ⟨_, rfl⟩
  rw [← hnk] at hg ht
  have HT := Lib.hid ht; have HK0 := Lib.hid k0; have HX0 := Lib.hid x0; have HS := Lib.hid h; have HQ := Lib.hid hq
  clear ht k0 x0 h hq hc hkb hnk hw
  unfold fz at hg
  go_enter Tryd.func9, Tryd.ntmps9
  go_wp2_with fail
  refine HT.out.mono ?_
  rintro e w1 ⟨v, x, rfl, k1, hown⟩
  obtain ⟨tb, arr, htb, hhb, htk⟩ := tk_of kwsL_res HS.out hown
  obtain ⟨cap, rfl⟩ := htk.lv
  have K1 : Keep none' w w1 := HK0.out.trans k1
  have x1 := k1.get HX0.out (fun x => x)
  have hsz : w.heap.size < w1.heap.size := lt_of_heap x1
  have htb' := lt_of_heap hhb
  obtain ⟨n, hn⟩ : ∃ n, n = (toks wordsB S 0).length := ⟨_, rfl⟩
  have htl := (toks_tg (kw := wordsB) HS.out).tl
  have hpos : 0 < (toks wordsB S 0).length := by
    have := htl.ne
    cases h : toks wordsB S 0 with
    | nil => exact absurd h this
    | cons a r => simp
  have k2 : Keep none' w1 (w1.alloc (rdO (.slice (some ⟨tb, 0, none⟩) (toks wordsB S 0).length cap) 0 none)) := Keep.alloc _ _ _
  have r2 : (w1.alloc (rdO (.slice (some ⟨tb, 0, none⟩) (toks wordsB S 0).length cap) 0 none)).heap[w1.heap.size]? = some (rdO (.slice (some ⟨tb, 0, none⟩) (toks wordsB S 0).length cap) 0 none) := heap_new _ _
  have hi : EInv noG ⟨x, toks wordsB S 0, tb, arr, .slice (some ⟨tb, 0, none⟩) (toks wordsB S 0).length cap, w1.heap.size⟩ ⟨toks wordsB S 0, none⟩ (w1.alloc (rdO (.slice (some ⟨tb, 0, none⟩) (toks wordsB S 0).length cap) 0 none)) :=
    ⟨noG_holds _, rfl, ⟨htk, k2.get hhb (fun x => x), by show tb ≠ w1.heap.size; omega, ⟨0, rfl, hpos, r2⟩, htl⟩⟩
  have hx := tr_exp ⟨x, toks wordsB S 0, tb, arr, .slice (some ⟨tb, 0, none⟩) (toks wordsB S 0).length cap, w1.heap.size⟩ (readFuel + 1) (by decide) (readFuel + 1) (Nat.le_refl _) _ q HQ.out.run noG _ hi
  have K2 := K1.trans k2
  have X2 := k2.get x1 (fun x => x)
  rw [← hn] at K2 X2
  have K2 := Lib.hid K2
  have HX2 := Lib.hid X2
  have HSZ := Lib.hid hsz
  rw [← hn] at hx
  have HX := Lib.hid hx
  rw [← hn]
  clear X2 hx hi r2 k2 hpos htl K1 x1 hsz htb' k1 hown htb hhb htk hn
  go_wp2_with fail
  refine HX.out.mono ?_
  rintro e w3 ⟨k3, b, G', rfl, hgr, hi3, -, hxr⟩
  have HGB := Lib.hid ((hgr.2 w.heap.size (by rw [size_alloc]; have := HSZ.out; omega)).trans rfl : G' w.heap.size = none)
  clear hgr
  have hne := rd_need_end hi3.ri
  have HNE := Lib.hid hne; have HI3 := Lib.hid hi3; have HXR := Lib.hid hxr
  have K3 := Lib.hid (keepY K2.out k3 (Nat.le_of_lt HSZ.out))
  have HX3 := Lib.hid (k3.get HX2.out (fun (e : w.heap.size = w1.heap.size) => by have := HSZ.out; omega))
  clear hne hi3 hxr k3
  go_wp2_with fail
  refine HNE.out.mono ?_
  rintro e w4 ⟨y, rfl, k4, hbd⟩
  have K4 := Lib.hid (keepY K3.out k4 (Nat.le_of_lt HSZ.out))
  have x4 := k4.get HX3.out (fun (e : w.heap.size = w1.heap.size) => by have := HSZ.out; omega)
  have hG4 : Holds G' w4 := HI3.out.holds.keep k4 HI3.out.off1
  have HG4 := Lib.hid hG4; have HX4 := Lib.hid x4
  obtain ⟨hz, f0⟩ := fz_cellsR x4
  have d0 := hz 0 _ rfl; have d1 := hz 1 _ rfl; have d2 := hz 2 _ rfl; have d3 := hz 3 _ rfl; have d4 := hz 4 _ rfl
  have KP := Lib.hid (fun u0 u1 u2 u3 u4 => keep5 K4.out (Nat.le_refl _) u0 u1 u2 u3 u4)
  clear hz x4 hG4 k4
  cases hb : (q.2.need .fin).bad with
  | some p =>
    have HB := Lib.hid hb
    replace hbd : w4.cell? ⟨w1.heap.size, 2, none⟩ = some (.int .i64 (p : Int)) := by rw [hb] at hbd; exact hbd
    have q2 : decide ((0 : Int) ≤ (p : Int)) = true := by simp
    clear hb
    go_wp2_with fail
    have S0 : w4.drew.cell? ⟨w1.heap.size, 2, none⟩ = some (.int .i64 (p : Int)) := hbd
    refine wp_region_float (fun w' => w'.cell? ⟨w1.heap.size, 2, none⟩ = some (.int .i64 (p : Int))) [0, 1, 2, 4, 5] [3] (by kernel_rfl) ?_
    (refine float0 (i := 0) (v := ?_) rfl (by kernel_rfl) (by kernel_rfl) (by kernel_rfl) (by kernel_rfl) (fun _ _ _ h => h) (by rfl) ?_ ?_); rotate_left
    (intro wF; go_simp; try with_reducible rfl)
    (try simp only [Act.put, List.setIfInBounds_toArray, List.set_cons_zero, List.set_cons_succ])
    (refine float0 (i := 1) (v := ?_) rfl (by kernel_rfl) (by kernel_rfl) (by kernel_rfl) (by kernel_rfl) (fun _ _ _ h => h) (by rfl) ?_ ?_); rotate_left
    (intro wF; go_simp; try with_reducible rfl)
    (try simp only [Act.put, List.setIfInBounds_toArray, List.set_cons_zero, List.set_cons_succ])
    (refine float0 (i := 2) (v := ?_) rfl (by kernel_rfl) (by kernel_rfl) (by kernel_rfl) (by kernel_rfl) (fun _ _ _ h => h) (by rfl) ?_ ?_); rotate_left
    (intro wF; go_simp; try with_reducible rfl)
    (try simp only [Act.put, List.setIfInBounds_toArray, List.set_cons_zero, List.set_cons_succ])
    (refine floatS (i := 3) (v := ?_) rfl (by kernel_rfl) (by kernel_rfl) (by kernel_rfl) (by kernel_rfl) (fun _ _ _ h => h) (by assumption) (by rfl) ?_ ?_); rotate_left
    (intro wF hF; (try dsimp only at hF); go_simp; try with_reducible rfl)
    (try simp only [Act.put, List.setIfInBounds_toArray, List.set_cons_zero, List.set_cons_succ])
    (refine float0 (i := 4) (v := ?_) rfl (by kernel_rfl) (by kernel_rfl) (by kernel_rfl) (by kernel_rfl) (fun _ _ _ h => h) (by rfl) ?_ ?_); rotate_left
    (intro wF; go_simp; try with_reducible rfl)
    (try simp only [Act.put, List.setIfInBounds_toArray, List.set_cons_zero, List.set_cons_succ])
    (refine float0 (i := 5) (v := ?_) rfl (by kernel_rfl) (by kernel_rfl) (by kernel_rfl) (by kernel_rfl) (fun _ _ _ h => h) (by rfl) ?_ ?_); rotate_left
    (intro wF; go_simp; try with_reducible rfl)
    (try simp only [Act.put, List.setIfInBounds_toArray, List.set_cons_zero, List.set_cons_succ])
    (refine floatT (l := _) (k := 6) rfl rfl (by kernel_rfl) ?_)
    go_wp2_with fail
    refine bodyPost_ret (v := .tuple #[.pointer none, faultR 2 p]) (by simp [results, Tryd.results9, go_sem, faultR, d0, d1, d2, d3, d4]) rfl ?_
    have hr : refOf q = .error { what := 2, pos := p } := by simp only [refOf, HB.out]
    rw [hr]
    exact ⟨(KP.out _ _ _ _ _).trans (Keep.drew _ _), rfl⟩
  | none =>
    have HB := Lib.hid hb
    replace hbd : w4.cell? ⟨w1.heap.size, 2, none⟩ = some (.int .i64 (-1)) := by rw [hb] at hbd; exact hbd
    clear hb
    obtain ⟨g1, g2, g3⟩ := HQ.out.sz HB.out
    have hdp := tr_deep (HXR.out g1) (by omega) (by omega) w4 HG4.out
    have HDP := Lib.hid hdp; have HG2 := Lib.hid g2; have HG3 := Lib.hid g3
    have g1' := g1
    clear hdp g1 g2 g3
    go_wp2_with fail
    refine HDP.out.mono ?_
    rintro e w5 ⟨rfl, m, rfl⟩
    cases hd40 : decide (q.1.depth > 40) with
    | true =>
      have q2 : decide ((40 : Int) < (q.1.depth : Int)) = true := by simp at hd40 ⊢; omega
      have hr : refOf q = .error { what := 3 } := by simp only [refOf, HB.out]; rw [if_pos (of_decide_eq_true hd40)]
      have HR := Lib.hid hr
      clear hr hd40
      go_wp2_with fail
      refine bodyPost_ret (v := .tuple #[.pointer none, faultR 3 0]) (by simp [results, Tryd.results9, go_sem, faultR, d0, d1, d2, d3, d4]) rfl ?_
      rw [HR.out]
      exact ⟨keep5 (K4.out.trans (Keep.drewN _ _ _)) (Nat.le_refl _) _ _ _ _ _, rfl⟩
    | false =>
      have q2 : decide ((40 : Int) < (q.1.depth : Int)) = false := by simp at hd40 ⊢; omega
      have hr : refOf q = .ok q.1 := by simp only [refOf, HB.out]; rw [if_neg (of_decide_eq_false hd40)]
      have HR := Lib.hid hr
      clear hr hd40
      go_wp2_with fail
      refine bodyPost_ret (v := .tuple #[.pointer (some ⟨b, 0, none⟩), faultR 0 0]) (by simp [results, Tryd.results9, go_sem, faultR, d0, d1, d2, d3, d4]) rfl ?_
      rw [HR.out]
      exact ⟨keep5 (K4.out.trans (Keep.drewN _ _ _)) (Nat.le_refl _) _ _ _ _ _, b, G', rfl, (HG4.out.keep0 (Keep.drewN none' w4 m)).keep (keep5oR _ _ _ _ _ _ _) (fun c o hc (e : c = w.heap.size) => by rw [e, HGB.out] at hc; cases hc), HXR.out g1', HG2.out⟩
theorem tr_read (S : Str) (w : World) (hw : WordsL w) : ∃ r, ReadsOk S (some r) ∧ Calls Tryd.prog 9 #[.string (bs S)] w (RRPost w r) := by
  by_cases h : S.length ≤ 300
  · obtain ⟨q, hq⟩ := read_ref h
    exact ⟨_, hq.rd, tr_read_short S h w hw hq⟩
  · exact ⟨.error { what := 1 }, ⟨readE_long (by omega), by simp, dep_any S, fun x e => by cases e⟩, tr_read_long S h w⟩
end Go.Proofs.YtabikmkoajdhmaaDoor

namespace Go.Proofs.YtabikmkoajdhmaaDoor
open Go.RowKit

set_option maxHeartbeats 1000000 in
theorem said_ok (a b : Int) (s : ByteArray) (c d : Int) (w : World) : Calls Tryd.prog 10 #[faultV a b s c d] w fun e w' => e = .returned (faultV a b s c d) ∧ Keep none' w w' := by
  unfold faultV
  go_enter Tryd.func10, Tryd.ntmps10
  go_wp2_with fail
  have h2 : ((w.alloc (.cells #[.int .i64 a, .int .i64 b, .string s, .int .i64 c, .int .i64 d] 28)).alloc (.cells #[.int .i64 a, .int .i64 b, .string s, .int .i64 c, .int .i64 d] 32)).heap[w.heap.size + 1]? = some (.cells #[.int .i64 a, .int .i64 b, .string s, .int .i64 c, .int .i64 d] 32) := heap_next (w := w) (by simp)
  have c0 := cell_of_heap (i := 0) h2 rfl; have c1 := cell_of_heap (i := 1) h2 rfl; have c2 := cell_of_heap (i := 2) h2 rfl; have c3 := cell_of_heap (i := 3) h2 rfl; have c4 := cell_of_heap (i := 4) h2 rfl
  refine bodyPost_ret (v := .agg #[.int .i64 a, .int .i64 b, .string s, .int .i64 c, .int .i64 d]) (by simp [results, Tryd.results10, go_sem, c0, c1, c2, c3, c4]) rfl ⟨rfl, (Keep.alloc _ _ _).trans (Keep.alloc _ _ _)⟩
theorem readE_err {s : Str} {f : Flt} (h : readE s = some (.error f)) : f.s = [] ∧ f.inner = 0 ∧ f.innerAt = 0 ∧ 0 < f.what := by
  unfold readE at h
  split at h
  · injection h with h; injection h with h; subst h; exact ⟨rfl, rfl, rfl, show (0 : Int) < 1 from by decide⟩
  · split at h
    · cases h
    · injection h with h; injection h with h; subst h; exact ⟨rfl, rfl, rfl, show (0 : Int) < 2 from by decide⟩
    · split at h
      · injection h with h; injection h with h; subst h; exact ⟨rfl, rfl, rfl, show (0 : Int) < 3 from by decide⟩
      · cases h
set_option maxRecDepth 100000 in
set_option maxHeartbeats 4000000 in
theorem shows_ok (p : Nat → Addr) (S : Str) (hm : S.length ≤ 9223372036854775807) (w : World) (hs : Sents p w) (hw : WordsL w) : Calls Tryd.prog 4 #[.string (bs S)] w fun e w' => e = .returned (.bool true) ∧ Keep none' w w' := by
  obtain ⟨r, hr, -⟩ := tr_read S w hw
  have hps := plain_show p (bs S) w hs (by rw [bs_size]; exact hm) (r := r) (by rw [bytes_bs]; exact hr)
  have hrd : ∀ W, Keep none' w W → Calls Tryd.prog 9 #[.string (bs S)] W (RRPost W r) := fun W k => by
    obtain ⟨r', hr', h⟩ := tr_read S W (hw.keep0 k)
    have e := hr.eq.symm.trans hr'.eq
    injection e with e
    rw [e]; exact h
  have HPS := Lib.hid hps; have HRD := Lib.hid hrd; have HR := Lib.hid hr
  clear hps hw hr hs hrd
  cases r with
  | error f =>
    obtain ⟨z1, z2, z3, z4⟩ := readE_err HR.out.eq
    obtain ⟨fw, hfw⟩ : ∃ fw, fw = f.what := ⟨_, rfl⟩
    obtain ⟨fp, hfp⟩ : ∃ fp : Int, fp = f.pos := ⟨_, rfl⟩
    have hv : fltV f = faultV fw fp ⟨#[]⟩ 0 0 := by unfold fltV; rw [z1, z2, z3, hfw, hfp]; rfl
    have hq : ∀ W e w', RRPost W (.error f) e w' → Keep none' W w' ∧ e = .returned (.tuple #[.pointer none, faultV fw fp ⟨#[]⟩ 0 0]) := fun W e w' h => by
      obtain ⟨k, h⟩ := h
      rw [hfw, hfp]; exact ⟨k, h⟩
    have hps : Calls Tryd.prog 8 #[.string (bs S)] w fun e w' => e = .returned (.tuple #[.string ⟨#[]⟩, faultV fw fp ⟨#[]⟩ 0 0]) ∧ Keep none' w w' := by
      rw [← hv]; exact HPS.out
    have HP2 := Lib.hid hps
    have HQ := Lib.hid hq
    clear hps
    have q1 : decide ((0 : Int) < fw) = true := by rw [hfw]; simp; omega
    have hsd := fun W => said_ok fw fp ⟨#[]⟩ 0 0 W
    have HSD := Lib.hid hsd
    clear hq hv hfw hfp z1 z2 z3 z4 hsd
    go_enter Tryd.func4, Tryd.ntmps4
    go_wp2_with fail
    refine HP2.out.mono ?_
    rintro e w1 ⟨rfl, k1⟩
    have k2 : Keep none' w (w1.alloc (.cells #[.int .i64 fw, .int .i64 fp, .string ⟨#[]⟩, .int .i64 0, .int .i64 0] 28)) := k1.trans (Keep.alloc _ _ _)
    have b2 : (w1.alloc (.cells #[.int .i64 fw, .int .i64 fp, .string ⟨#[]⟩, .int .i64 0, .int .i64 0] 28)).heap[w1.heap.size]? = some (.cells #[.int .i64 fw, .int .i64 fp, .string ⟨#[]⟩, .int .i64 0, .int .i64 0] 28) := heap_new _ _
    have hr3 := HRD.out _ k2
    have HR3 := Lib.hid hr3; have HK2 := Lib.hid k2; have HB2 := Lib.hid b2
    clear k1 k2 b2 hr3
    unfold faultV
    go_wp2_with fail
    refine HR3.out.mono ?_
    intro e w3 hp3
    obtain ⟨k3, rfl⟩ := HQ.out _ _ _ hp3
    have b3 := k3.get HB2.out (fun x => x)
    have HB3 := Lib.hid b3
    have HK3 := Lib.hid (HK2.out.trans k3)
    clear b3 k3 hp3
    unfold faultV
    go_wp2_with fail
    obtain ⟨W4, hW4⟩ : ∃ W4, W4 = (w3.alloc (.cells #[.int .i64 fw, .int .i64 fp, .string ⟨#[]⟩, .int .i64 0, .int .i64 0] 32)) := ⟨_, rfl⟩
    have e3 : W4.heap[w1.heap.size]? = some (.cells #[.int .i64 fw, .int .i64 fp, .string ⟨#[]⟩, .int .i64 0, .int .i64 0] 28) := by rw [hW4]; exact heap_old HB3.out
    have e4 : W4.heap[w3.heap.size]? = some (.cells #[.int .i64 fw, .int .i64 fp, .string ⟨#[]⟩, .int .i64 0, .int .i64 0] 32) := by rw [hW4]; exact heap_new _ _
    have K4 : Keep none' w W4 := by rw [hW4]; exact HK3.out.trans (Keep.alloc _ _ _)
    have HE3 := Lib.hid e3; have HE4 := Lib.hid e4; have HK4 := Lib.hid K4
    rw [← hW4]
    clear hW4 e3 e4 K4
    refine wp_region_float (fun w' => w'.cell? ⟨w1.heap.size, 0, none⟩ = some (.int .i64 fw) ∧ w'.cell? ⟨w1.heap.size, 1, none⟩ = some (.int .i64 fp) ∧ w'.cell? ⟨w1.heap.size, 2, none⟩ = some (.string ⟨#[]⟩) ∧ w'.cell? ⟨w1.heap.size, 3, none⟩ = some (.int .i64 0) ∧ w'.cell? ⟨w1.heap.size, 4, none⟩ = some (.int .i64 0) ∧ w'.cell? ⟨w3.heap.size, 0, none⟩ = some (.int .i64 fw) ∧ w'.cell? ⟨w3.heap.size, 1, none⟩ = some (.int .i64 fp) ∧ w'.cell? ⟨w3.heap.size, 2, none⟩ = some (.string ⟨#[]⟩) ∧ w'.cell? ⟨w3.heap.size, 3, none⟩ = some (.int .i64 0) ∧ w'.cell? ⟨w3.heap.size, 4, none⟩ = some (.int .i64 0)) [0, 1, 2, 6, 7, 8] [3, 5] (by kernel_rfl) ?_
    have hS : ∀ w', Keep none' W4 w' → w'.cell? ⟨w1.heap.size, 0, none⟩ = some (.int .i64 fw) ∧ w'.cell? ⟨w1.heap.size, 1, none⟩ = some (.int .i64 fp) ∧ w'.cell? ⟨w1.heap.size, 2, none⟩ = some (.string ⟨#[]⟩) ∧ w'.cell? ⟨w1.heap.size, 3, none⟩ = some (.int .i64 0) ∧ w'.cell? ⟨w1.heap.size, 4, none⟩ = some (.int .i64 0) ∧ w'.cell? ⟨w3.heap.size, 0, none⟩ = some (.int .i64 fw) ∧ w'.cell? ⟨w3.heap.size, 1, none⟩ = some (.int .i64 fp) ∧ w'.cell? ⟨w3.heap.size, 2, none⟩ = some (.string ⟨#[]⟩) ∧ w'.cell? ⟨w3.heap.size, 3, none⟩ = some (.int .i64 0) ∧ w'.cell? ⟨w3.heap.size, 4, none⟩ = some (.int .i64 0) := fun w' k => by
      have b3 := k.get HE3.out (fun x => x)
      have b4 := k.get HE4.out (fun x => x)
      exact ⟨cell_of_heap (i := 0) b3 rfl, cell_of_heap (i := 1) b3 rfl, cell_of_heap (i := 2) b3 rfl, cell_of_heap (i := 3) b3 rfl, cell_of_heap (i := 4) b3 rfl, cell_of_heap (i := 0) b4 rfl, cell_of_heap (i := 1) b4 rfl, cell_of_heap (i := 2) b4 rfl, cell_of_heap (i := 3) b4 rfl, cell_of_heap (i := 4) b4 rfl⟩
    have HS := Lib.hid hS
    have S0 := hS W4.drew (Keep.drew _ _)
    clear hS
    (refine float0 (i := 0) (v := ?_) rfl (by kernel_rfl) (by kernel_rfl) (by kernel_rfl) (by kernel_rfl) (fun _ _ _ h => h) (by rfl) ?_ ?_); rotate_left
    (intro wF; go_simp; try with_reducible rfl)
    (try simp only [Act.put, List.setIfInBounds_toArray, List.set_cons_zero, List.set_cons_succ])
    (refine float0 (i := 1) (v := ?_) rfl (by kernel_rfl) (by kernel_rfl) (by kernel_rfl) (by kernel_rfl) (fun _ _ _ h => h) (by rfl) ?_ ?_); rotate_left
    (intro wF; go_simp; try with_reducible rfl)
    (try simp only [Act.put, List.setIfInBounds_toArray, List.set_cons_zero, List.set_cons_succ])
    (refine float0 (i := 2) (v := ?_) rfl (by kernel_rfl) (by kernel_rfl) (by kernel_rfl) (by kernel_rfl) (fun _ _ _ h => h) (by rfl) ?_ ?_); rotate_left
    (intro wF; go_simp; try with_reducible rfl)
    (try simp only [Act.put, List.setIfInBounds_toArray, List.set_cons_zero, List.set_cons_succ])
    (refine floatS (i := 3) (v := ?_) rfl (by kernel_rfl) (by kernel_rfl) (by kernel_rfl) (by kernel_rfl) (fun _ _ _ h => h) (by assumption) (by rfl) ?_ ?_); rotate_left
    (intro wF hF; (try dsimp only at hF); go_simp; try with_reducible rfl)
    (try simp only [Act.put, List.setIfInBounds_toArray, List.set_cons_zero, List.set_cons_succ])
    (refine floatS (i := 5) (v := ?_) rfl (by kernel_rfl) (by kernel_rfl) (by kernel_rfl) (by kernel_rfl) (fun _ _ _ h => h) (by assumption) (by rfl) ?_ ?_); rotate_left
    (intro wF hF; (try dsimp only at hF); go_simp; try with_reducible rfl)
    (try simp only [Act.put, List.setIfInBounds_toArray, List.set_cons_zero, List.set_cons_succ])
    (refine floatM (i := 4) rfl (by kernel_rfl) (by kernel_rfl) (fun K hK => ?_)); go_simp
    refine (HSD.out _).mono ?_
    rintro e w5 ⟨rfl, k5⟩
    have k6 : Keep none' W4 w5 := (Keep.drew _ _).trans k5
    refine hK.out _ _ (fun _ => HS.out _ k6) ?_
    clear hK K
    (try simp only [Act.put, List.setIfInBounds_toArray, List.set_cons_zero, List.set_cons_succ])
    unfold faultV
    (refine float0 (i := 6) (v := ?_) rfl (by kernel_rfl) (by kernel_rfl) (by kernel_rfl) (by kernel_rfl) (fun _ _ _ h => h) (by rfl) ?_ ?_); rotate_left
    (intro wF; go_simp; try with_reducible rfl)
    (try simp only [Act.put, List.setIfInBounds_toArray, List.set_cons_zero, List.set_cons_succ])
    (refine float0 (i := 7) (v := ?_) rfl (by kernel_rfl) (by kernel_rfl) (by kernel_rfl) (by kernel_rfl) (fun _ _ _ h => h) (by rfl) ?_ ?_); rotate_left
    (intro wF; go_simp; try with_reducible rfl)
    (try simp only [Act.put, List.setIfInBounds_toArray, List.set_cons_zero, List.set_cons_succ])
    (refine float0 (i := 8) (v := ?_) rfl (by kernel_rfl) (by kernel_rfl) (by kernel_rfl) (by kernel_rfl) (fun _ _ _ h => h) (by rfl) ?_ ?_); rotate_left
    (intro wF; go_simp; try with_reducible rfl)
    (try simp only [Act.put, List.setIfInBounds_toArray, List.set_cons_zero, List.set_cons_succ])
    (refine floatE (by kernel_rfl) ?_)
    go_wp2_with fail
    go_ret
    exact ⟨rfl, HK4.out.trans k6⟩
  | ok x =>
    have hps : Calls Tryd.prog 8 #[.string (bs S)] w fun e w' => e = .returned (.tuple #[.string (bs x.show), faultV 0 0 ⟨#[]⟩ 0 0]) ∧ Keep none' w w' := HPS.out
    have hq : ∀ W e w', RRPost W (.ok x) e w' → Keep none' W w' ∧ ∃ b G, e = .returned (.tuple #[.pointer (some ⟨b, 0, none⟩), faultV 0 0 ⟨#[]⟩ 0 0]) ∧ Holds G w' ∧ XR G b x ∧ x.show.length ≤ 900000 := fun W e w' h => by
      obtain ⟨k, b, G, h1, h2, h3, h4⟩ := h
      exact ⟨k, b, G, h1, h2, h3, by omega⟩
    have HP2 := Lib.hid hps
    have HQ := Lib.hid hq
    clear hps hq
    go_enter Tryd.func4, Tryd.ntmps4
    go_wp2_with fail
    refine HP2.out.mono ?_
    rintro e w1 ⟨rfl, k1⟩
    have k2 : Keep none' w (w1.alloc (.cells #[.int .i64 0, .int .i64 0, .string ⟨#[]⟩, .int .i64 0, .int .i64 0] 28)) := k1.trans (Keep.alloc _ _ _)
    have b2 : (w1.alloc (.cells #[.int .i64 0, .int .i64 0, .string ⟨#[]⟩, .int .i64 0, .int .i64 0] 28)).heap[w1.heap.size]? = some (.cells #[.int .i64 0, .int .i64 0, .string ⟨#[]⟩, .int .i64 0, .int .i64 0] 28) := heap_new _ _
    have hr3 := HRD.out _ k2
    have HR3 := Lib.hid hr3; have HK2 := Lib.hid k2; have HB2 := Lib.hid b2
    clear k1 k2 b2 hr3
    unfold faultV
    go_wp2_with fail
    refine HR3.out.mono ?_
    intro e w3 hp3
    obtain ⟨k3, b, G, rfl, hG, hx, hl⟩ := HQ.out _ _ _ hp3
    have k4 : Keep none' w3 (w3.alloc (.cells #[.int .i64 0, .int .i64 0, .string ⟨#[]⟩, .int .i64 0, .int .i64 0] 32)) := Keep.alloc _ _ _
    have b4 := (k3.trans k4).get HB2.out (fun x => x)
    have c4 : (w3.alloc (.cells #[.int .i64 0, .int .i64 0, .string ⟨#[]⟩, .int .i64 0, .int .i64 0] 32)).cell? ⟨w1.heap.size, 0, none⟩ = some (.int .i64 0) := cell_of_heap b4 rfl
    have ht := tr_text hx hl (w3.alloc (.cells #[.int .i64 0, .int .i64 0, .string ⟨#[]⟩, .int .i64 0, .int .i64 0] 32)) (hG.keep0 k4)
    have HK4 := Lib.hid ((HK2.out.trans k3).trans k4)
    have HT := Lib.hid ht
    clear b4 k4 k3 hp3 hG hx hl ht
    unfold faultV
    go_wp2_with fail
    refine HT.out.mono ?_
    rintro e w4 ⟨rfl, m, rfl⟩
    go_wp2_with fail
    go_ret
    exact ⟨rfl, HK4.out.trans (Keep.drewN _ _ _)⟩
end Go.Proofs.YtabikmkoajdhmaaDoor

namespace Go.Proofs.YtabikmkoajdhmaaDoor
open Go.ChangeShapes Go.WideShapes Go.RowKit

theorem cell_spot {W : World} {a : Addr} {v : Value} (h : W.cell? a = some v) : a.spot = none := by
  cases hs : a.spot with
  | none => rfl
  | some s =>
    exfalso
    unfold World.cell? at h
    split at h
    · simp [hs] at h
    · cases h
theorem list_of_laid {W : World} {n : String} {g t e : Nat} {l : List (List UInt8)} {r : List (String × DataW Unit)} {ps : List MemPlace} (h : DataW.LaidVars Tryd.prog W ((n, .slice (l.map fun s => .lit (.string s)) []) :: r) ps) (hg : Tryd.prog.globalNamed n = some g) (ht : (Tryd.prog.globals[g]?).map (·.type) = some t)
    (hu : Tryd.prog.underlying t = some (.slice e)) (he : Tryd.prog.underlying e = some .string) (hc : Tryd.prog.cellsOf e = 1) (hne : l ≠ []) : ∃ b o cap, W.cell? ⟨g, 0, none⟩ = some (.slice (some ⟨b, o, none⟩) l.length cap) ∧ ∀ j (h : j < l.length), W.cell? ⟨b, o + j, none⟩ = some (.string (bs l[j])) := by
  obtain ⟨g', t', cs, f, p, q, hg', ht', hv, hd, hr, -⟩ := h
  obtain rfl := Option.some.inj (hg.symm.trans hg')
  obtain rfl := Option.some.inj (ht.symm.trans ht')
  obtain ⟨cl⟩ := cs
  rcases open_strings hu he hc hd with ⟨_, hx⟩ | ⟨a, len, cap, ss, hcs, _, hlc, _, hz, hx, hcell, _⟩
  · injection hx with hx _
    cases hx
  · injection hx with hx _
    injection hx with hx1 hx2
    have hcl : cl = [.slice (some a) len cap] := hcs
    subst hcl
    rw [if_pos rfl] at hz
    have hl : l = (ss.take len).map fun s => s.data.toList := by
      have := congrArg (List.map fun d : DataW Unit => match d with | .lit (.string s) => s | _ => []) hx1
      simpa [strs, List.map_map, Function.comp_def] using this
    have hlen : l.length = len := by rw [hl, List.length_map, List.length_take]; omega
    have hpos : 0 < l.length := List.length_pos_iff.2 hne
    have h0 := hcell 0 (by omega)
    have hsp : a.spot = none := by
      have : a.add 0 = a := rfl
      rw [this] at h0
      exact cell_spot h0
    obtain ⟨b, o, s⟩ := a
    obtain rfl : s = none := hsp
    have hg0 : W.cell? ⟨g, 0, none⟩ = some (.slice (some ⟨b, o, none⟩) len cap) := by simpa using World.var?_cell hg' hv 0
    refine ⟨b, o, cap, by rw [hlen]; exact hg0, fun j hj => ?_⟩
    have hj' : j < ss.length := by omega
    have h1 := hcell j hj'
    have ha : (⟨b, o, none⟩ : Addr).add j = ⟨b, o + j, none⟩ := by
      unfold Addr.add
      by_cases h : j = 0
      · subst h; rfl
      · rw [if_neg h]
    rw [ha] at h1
    rw [h1]
    have : l[j] = (ss.getD j ByteArray.empty).data.toList := by
      have e1 : l[j]? = some ((ss.getD j ByteArray.empty).data.toList) := by
        rw [hl, List.getElem?_map, List.getElem?_take, if_pos (by omega)]
        simp [List.getD_eq_getElem?_getD, hj']
      have e2 := List.getElem?_eq_getElem hj
      rw [e2] at e1
      exact Option.some.inj e1
    rw [this]
    exact congrArg (fun z => some (Value.string z)) (bs_eta _).symm
theorem words_of_laid {W : World} {laid r : List (String × DataW Unit)} (h : laidMetH Tryd.prog laid W) (hh : (laid.filter fun x => x.2.handleName?.isSome) = [("errors.errorType", Rows.laid_errors_errorType)])
    (hn : (laid.filter fun x => x.2.handleName?.isNone) = ("typer/typerref.words", Rows.laid_typer_typerref_words) :: r) : WordsL W := by
  unfold laidMetH at h
  rw [hh] at h
  obtain ⟨h1, h2⟩ := h
  rw [hn] at h1
  obtain ⟨ps, hv, hnd, hrows⟩ := h1
  exact list_of_laid (l := kwsL) (g := 8) (t := 39) (e := 9) hv (by kernel_rfl) (by kernel_rfl) Tryd.underlying39 Tryd.underlying9 lCellsS (by decide)
end Go.Proofs.YtabikmkoajdhmaaDoor

namespace Go.Proofs.YtabikmkoajdhmaaDoor
open Go.ChangeShapes Go.WideShapes Go.RowKit Go.ChangeMaps

theorem shows_door (os : Os) (args : Array Value) : laidMetH Tryd.prog Rows.showsRow.laid ((World.doorLaid Tryd.prog 400 os).forCall (fun _ _ => 0) ⟨#[], args, []⟩).memory :=
  laidMetH_of_parts3 (fuel := 8) (laidMet_of_run' 8 (by kernel_rfl) (by kernel_rfl)) (by kernel_rfl) (by kernel_rfl)

set_option maxRecDepth 100000 in
theorem shows_lifted (os : Os) (started : os.Started) (H : Type) (enc : TypeId × Value → H) :
    ReturnsInHanded {} Tryd.checked os 4 .any (fun w args => (Rows.showsSpec.pre enc Tryd.prog Tryd.f4 [] false w args ∧ laidMetH Tryd.prog Rows.showsRow.laid w) ∧ sizedMet enc Tryd.prog Tryd.f4 (OpenSpec.ofChange Rows.showsSpec) false w args)
      (Rows.showsSpec.post enc Tryd.prog Tryd.f4 false true false false) := by
  refine returnsInHanded_of_change_and (C := Tryd.checked) (X := fun w _ => laidMetH Tryd.prog Rows.showsRow.laid w) (fun _ _ _ hh h => h.of_heap hh) lOwn started (by kernel_rfl) Tryd.func4
    (ChangeSpec.witness_shaped (enc := enc) (C := Tryd.checked) (os := os) (X := fun w _ => laidMetH Tryd.prog Rows.showsRow.laid w) false (World.doorLaid Tryd.prog 400 os) #[.string ⟨#[]⟩] 8 rfl (World.shaped_of_RefB (by kernel_rfl) (by kernel_rfl)) (by kernel_rfl) (by kernel_rfl) (by kernel_rfl) (shows_door os _)) ?_
  intro W base args ds gs before hval0 hW _ _ hL _
  have hW' := hW
  obtain ⟨p, q, hA0, hV0, rfl, hfz, hnd⟩ := hW
  have hA : DataW.TrodAll enc Tryd.prog W 0 (fun _ => true) true Tryd.f4.params.toList args.toList ds p := hA0
  have hV : DataW.TrodVars enc Tryd.prog W (fun _ => true) [] gs q := hV0
  rw [Tryd.params4] at hA
  obtain ⟨v0, vs0, d0, ds0, p0, q0, hargs, rfl, rfl, h0, r0⟩ := trodAll_cons hA
  obtain ⟨rfl, rfl, rfl⟩ := trodAll_nil r0
  obtain rfl : args = #[v0] := by cases args; simp_all
  have hval : ∀ (j : Nat) t v, Tryd.f4.params[j]? = some t → (#[v0] : Array Value)[j]? = some v → Value.okWide Tryd.prog W .any base t v := hval0
  rw [Tryd.params4] at hval
  obtain ⟨s0, rfl, rfl, rfl, w0⟩ := open_string Tryd.underlying9 (hval 0 9 v0 rfl rfl) h0
  obtain ⟨rfl, rfl⟩ : gs = [] ∧ q = [] := by
    cases gs with
    | nil => exact ⟨rfl, hV⟩
    | cons g r => exact absurd hV (by intro h; cases h)
  obtain ⟨pp, hs⟩ := sents_of_laid (pre := [("typer/typerref.words", Rows.laid_typer_typerref_words)]) hL rfl rfl
  have hw := words_of_laid (r := SENT) hL rfl rfl
  have e1 : Rows.showsSpec.fn H ([.lit (.string s0.data.toList)] ++ []) = { results := [.lit (.bool true)], args := [.lit (.string s0.data.toList)] } := by simp [Rows.showsSpec]
  have z0 : s0.data.toList.length ≤ 9223372036854775807 := Nat.le_trans (Nat.le_of_eq (bytes_length s0)) w0
  have hr := shows_ok pp s0.data.toList z0 W hs hw
  rw [bs_eta] at hr
  refine hr.mono fun e W' ⟨he, hk⟩ => ?_
  subst he
  refine ⟨_, rfl, _, _, _, [], [], [], hW', ?_, ?_, ?_, hk.frame _, fun h => by cases h⟩
  · rw [e1]; exact trodAll_mk1 (shut_bool Tryd.underlying4 true)
  · rw [e1]; exact trodAll_mk1 (shut_string Tryd.underlying9 w0)
  · rw [e1]; rfl

theorem shows_holds : Rows.ShowsSaid :=
  OpenClaim.holds_of_wide 4 Tryd.f4 rfl rfl rfl rfl rfl rfl rfl ⟨rfl, rfl, rfl, rfl, rfl⟩ rfl rfl rfl rfl rfl (by kernel_rfl) Tryd.func4 (by kernel_rfl)
    (of_decide_eq_true (by kernel_rfl)) (by unfold Func.isWrapper; rw [if_neg (of_decide_eq_false (by kernel_rfl))]; exact ⟨rfl, rfl⟩)
    (fun os started H enc _ => shows_lifted os started H enc)

theorem shows_card : Rows.ShowsCardSaid :=
  Claim7.holds_tied_plain_at .later [] [.widerDeep, .handle, .sentinel, .sentinel, .sentinel, .sentinel, .sentinel, .sentinel, .sentinel, .sentinel] true Rows.showsCard.stood.harness true
    shows_holds (fun _ h => by cases h) (by kernel_rfl) (fun _ h => by cases h) shows_row_tie rfl ⟨rfl, rfl⟩ (by kernel_rfl) rfl
    (fun f fn hf hfn => by
      obtain rfl : f = 4 := Option.some.inj ((show Tryd.prog.funcNamed "typer/typerlaw.Shows" = some 4 by kernel_rfl).symm.trans hf) |>.symm
      obtain rfl : fn = Tryd.f4 := (Option.some.inj (Tryd.func4.symm.trans hfn)).symm
      exact ⟨by kernel_rfl, fun j t ht => by
        rw [Tryd.params4] at ht
        cases j with
        | zero => simp at ht; subst ht; kernel_rfl
        | succ j => simp at ht⟩)
    (by kernel_rfl)
#print axioms shows_card
end Go.Proofs.YtabikmkoajdhmaaDoor
