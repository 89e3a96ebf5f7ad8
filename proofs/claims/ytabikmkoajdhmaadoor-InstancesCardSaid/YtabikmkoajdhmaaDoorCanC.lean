/- The law typerlaw.Canons: true at every text. -/
import Derived.Test.YtabikmkoajdhmaaDoorTrParse
import Derived.Test.YtabikmkoajdhmaaDoorCanB
import Derived.Test.YtabikmkoajdhmaaDoorQ27
import Derived.Test.YtabikmkoajdhmaaDoorQ06
import Derived.SliceStrings
import Derived.ChangeMaps5
import Derived.Test.YtabikmkoajdhmaaDoorCards
import Derived.Test.YtabikmkoajdhmaaDoorTie
import Derived.SevenTiedAt
import Derived.ProofKit
import Derived.LaidMore
import Derived.OpenShut
set_option linter.unusedVariables false
set_option linter.unusedSimpArgs false
set_option linter.unnecessarySimpa false
namespace Go.Proofs.YtabikmkoajdhmaaDoor
open Go.RowKit

theorem tr_parsed (G : GH) (S : Str) (w : World) (hG : Holds G w) (hw : KindsL w) : ∃ r, readTy S 0 = some r ∧ Calls Tryd.prog 13 #[.string (bs S)] w (PrPost G w r) := by
  by_cases h : S.length ≤ 300
  · obtain ⟨q, hq⟩ := parsed_ref h
    exact ⟨_, hq.rd, tr_parsed_short G S h w hG hw hq⟩
  · exact ⟨.error { what := 1 }, readTy_long (by omega), tr_parsed_long G S h w⟩
set_option maxHeartbeats 1000000 in
theorem said_k (a b : Int) (s : ByteArray) (c d : Int) (w : World) : Calls Tryd.prog 10 #[faultV a b s c d] w fun e w' => e = .returned (faultV a b s c d) ∧ Keep none' w w' := by
  unfold faultV
  go_enter Tryd.func10, Tryd.ntmps10
  go_wp2_with fail
  have h2 : ((w.alloc (.cells #[.int .i64 a, .int .i64 b, .string s, .int .i64 c, .int .i64 d] 28)).alloc (.cells #[.int .i64 a, .int .i64 b, .string s, .int .i64 c, .int .i64 d] 32)).heap[w.heap.size + 1]? = some (.cells #[.int .i64 a, .int .i64 b, .string s, .int .i64 c, .int .i64 d] 32) := heap_next (w := w) (by simp)
  have c0 := cell_of_heap (i := 0) h2 rfl; have c1 := cell_of_heap (i := 1) h2 rfl; have c2 := cell_of_heap (i := 2) h2 rfl; have c3 := cell_of_heap (i := 3) h2 rfl; have c4 := cell_of_heap (i := 4) h2 rfl
  refine bodyPost_ret (v := .agg #[.int .i64 a, .int .i64 b, .string s, .int .i64 c, .int .i64 d]) (by simp [results, Tryd.results10, go_sem, c0, c1, c2, c3, c4]) rfl ⟨rfl, (Keep.alloc _ _ _).trans (Keep.alloc _ _ _)⟩
theorem readTy_flt {s : Str} {n : Nat} {f : Flt} (h : readTy s n = some (.error f)) : f.s = [] ∧ f.inner = 0 ∧ f.innerAt = 0 ∧ 0 < f.what := by
  unfold readTy at h
  split at h
  · injection h with h; injection h with h; subst h; exact ⟨rfl, rfl, rfl, show (0 : Int) < 1 from by decide⟩
  · split at h
    · cases h
    · injection h with h; injection h with h; subst h; exact ⟨rfl, rfl, rfl, show (0 : Int) < 2 from by decide⟩
    · split at h
      · injection h with h; injection h with h; subst h; exact ⟨rfl, rfl, rfl, show (0 : Int) < 8 from by decide⟩
      · cases h
theorem canonT_len {t : Ty} (h : t.size ≤ 120) : (canonT t).length ≤ 200000 := by
  have := showS_len (nm := namer) (fun s v => by
    unfold namer
    split
    · have := letters_len ‹_›; simp only; omega
    · have := letters_len s.length; simp only; omega) t []
  unfold canonT
  omega
set_option maxRecDepth 100000 in
set_option maxHeartbeats 4000000 in
theorem canons_ok (p : Nat → Addr) (S : Str) (hm : S.length ≤ 9223372036854775807) (w : World) (hs : Sents p w) (hw : KindsL w) : Calls Tryd.prog 5 #[.string (bs S)] w fun e w' => e = .returned (.bool true) ∧ Keep none' w w' := by
  obtain ⟨r, hr, -⟩ := tr_parsed noG S w (noG_holds _) hw
  have hps := plain_canon p (bs S) w hs (by rw [bs_size]; exact hm) (r := r) (by rw [bytes_bs]; exact hr)
  have hrd : ∀ W, Keep none' w W → Calls Tryd.prog 13 #[.string (bs S)] W (PrPost noG W r) := fun W k => by
    obtain ⟨r', hr', h⟩ := tr_parsed noG S W (noG_holds _) (hw.keep0 k)
    have e := hr.symm.trans hr'
    injection e with e
    rw [e]; exact h
  have HPS := Lib.hid hps; have HRD := Lib.hid hrd; have HR := Lib.hid hr
  clear hps hw hr hs hrd
  cases r with
  | error f =>
    obtain ⟨z1, z2, z3, z4⟩ := readTy_flt HR.out
    obtain ⟨fw, hfw⟩ : ∃ fw, fw = f.what := ⟨_, rfl⟩
    obtain ⟨fp, hfp⟩ : ∃ fp : Int, fp = f.pos := ⟨_, rfl⟩
    have hv : fltV f = faultV fw fp ⟨#[]⟩ 0 0 := by unfold fltV; rw [z1, z2, z3, hfw, hfp]; rfl
    have hq : ∀ W e w', PrPost noG W (.error f) e w' → Keep none' W w' ∧ e = .returned (.tuple #[.pointer none, .slice none 0 0, faultV fw fp ⟨#[]⟩ 0 0]) := fun W e w' h => by
      obtain ⟨k, h⟩ := h
      rw [hfw, hfp]; exact ⟨k, h⟩
    have hps : Calls Tryd.prog 12 #[.string (bs S)] w fun e w' => e = .returned (.tuple #[.string ⟨#[]⟩, faultV fw fp ⟨#[]⟩ 0 0]) ∧ Keep none' w w' := by
      rw [← hv]; exact HPS.out
    have HP2 := Lib.hid hps
    have HQ := Lib.hid hq
    clear hps
    have q1 : decide ((0 : Int) < fw) = true := by rw [hfw]; simp; omega
    have hsd := fun W => said_k fw fp ⟨#[]⟩ 0 0 W
    have HSD := Lib.hid hsd
    clear hq hv hfw hfp z1 z2 z3 z4 hsd
    go_enter Tryd.func5, Tryd.ntmps5
    go_wp2_with fail
    refine HP2.out.mono ?_
    rintro e w1 ⟨rfl, k1⟩
    have k2 : Keep none' w (w1.alloc (.cells #[.int .i64 fw, .int .i64 fp, .string ⟨#[]⟩, .int .i64 0, .int .i64 0] 28)) := k1.trans (Keep.alloc _ _ _)
    have b2 : (w1.alloc (.cells #[.int .i64 fw, .int .i64 fp, .string ⟨#[]⟩, .int .i64 0, .int .i64 0] 28)).heap[w1.heap.size]? = some (.cells #[.int .i64 fw, .int .i64 fp, .string ⟨#[]⟩, .int .i64 0, .int .i64 0] 28) := heap_new _ _
    have hr3 := HRD.out _ k2
    have HR3 := Lib.hid hr3; have HK2 := Lib.hid k2; have HB2 := Lib.hid b2
    clear k1 k2 b2 hr3
    unfold faultV
    go_wp2_with fail
    refine HR3.out.mono ?_
    intro e w3 hp3
    obtain ⟨k3, rfl⟩ := HQ.out _ _ _ hp3
    have b3 := k3.get HB2.out (fun x => x)
    have HB3 := Lib.hid b3
    have HK3 := Lib.hid (HK2.out.trans k3)
    clear b3 k3 hp3
    unfold faultV
    go_wp2_with fail
    obtain ⟨W4, hW4⟩ : ∃ W4, W4 = (w3.alloc (.cells #[.int .i64 fw, .int .i64 fp, .string ⟨#[]⟩, .int .i64 0, .int .i64 0] 32)) := ⟨_, rfl⟩
    have e3 : W4.heap[w1.heap.size]? = some (.cells #[.int .i64 fw, .int .i64 fp, .string ⟨#[]⟩, .int .i64 0, .int .i64 0] 28) := by rw [hW4]; exact heap_old HB3.out
    have e4 : W4.heap[w3.heap.size]? = some (.cells #[.int .i64 fw, .int .i64 fp, .string ⟨#[]⟩, .int .i64 0, .int .i64 0] 32) := by rw [hW4]; exact heap_new _ _
    have K4 : Keep none' w W4 := by rw [hW4]; exact HK3.out.trans (Keep.alloc _ _ _)
    have HE3 := Lib.hid e3; have HE4 := Lib.hid e4; have HK4 := Lib.hid K4
    rw [← hW4]
    clear hW4 e3 e4 K4
    refine wp_region_float (fun w' => w'.cell? ⟨w1.heap.size, 0, none⟩ = some (.int .i64 fw) ∧ w'.cell? ⟨w1.heap.size, 1, none⟩ = some (.int .i64 fp) ∧ w'.cell? ⟨w1.heap.size, 2, none⟩ = some (.string ⟨#[]⟩) ∧ w'.cell? ⟨w1.heap.size, 3, none⟩ = some (.int .i64 0) ∧ w'.cell? ⟨w1.heap.size, 4, none⟩ = some (.int .i64 0) ∧ w'.cell? ⟨w3.heap.size, 0, none⟩ = some (.int .i64 fw) ∧ w'.cell? ⟨w3.heap.size, 1, none⟩ = some (.int .i64 fp) ∧ w'.cell? ⟨w3.heap.size, 2, none⟩ = some (.string ⟨#[]⟩) ∧ w'.cell? ⟨w3.heap.size, 3, none⟩ = some (.int .i64 0) ∧ w'.cell? ⟨w3.heap.size, 4, none⟩ = some (.int .i64 0)) [0, 1, 2, 6, 7, 8] [3, 5] (by kernel_rfl) ?_
    have hS : ∀ w', Keep none' W4 w' → w'.cell? ⟨w1.heap.size, 0, none⟩ = some (.int .i64 fw) ∧ w'.cell? ⟨w1.heap.size, 1, none⟩ = some (.int .i64 fp) ∧ w'.cell? ⟨w1.heap.size, 2, none⟩ = some (.string ⟨#[]⟩) ∧ w'.cell? ⟨w1.heap.size, 3, none⟩ = some (.int .i64 0) ∧ w'.cell? ⟨w1.heap.size, 4, none⟩ = some (.int .i64 0) ∧ w'.cell? ⟨w3.heap.size, 0, none⟩ = some (.int .i64 fw) ∧ w'.cell? ⟨w3.heap.size, 1, none⟩ = some (.int .i64 fp) ∧ w'.cell? ⟨w3.heap.size, 2, none⟩ = some (.string ⟨#[]⟩) ∧ w'.cell? ⟨w3.heap.size, 3, none⟩ = some (.int .i64 0) ∧ w'.cell? ⟨w3.heap.size, 4, none⟩ = some (.int .i64 0) := fun w' k => by
      have b3 := k.get HE3.out (fun x => x)
      have b4 := k.get HE4.out (fun x => x)
      exact ⟨cell_of_heap (i := 0) b3 rfl, cell_of_heap (i := 1) b3 rfl, cell_of_heap (i := 2) b3 rfl, cell_of_heap (i := 3) b3 rfl, cell_of_heap (i := 4) b3 rfl, cell_of_heap (i := 0) b4 rfl, cell_of_heap (i := 1) b4 rfl, cell_of_heap (i := 2) b4 rfl, cell_of_heap (i := 3) b4 rfl, cell_of_heap (i := 4) b4 rfl⟩
    have HS := Lib.hid hS
    have S0 := hS W4.drew (Keep.drew _ _)
    clear hS
    (refine float0 (i := 0) (v := ?_) rfl (by kernel_rfl) (by kernel_rfl) (by kernel_rfl) (by kernel_rfl) (fun _ _ _ h => h) (by rfl) ?_ ?_); rotate_left
    (intro wF; go_simp; try with_reducible rfl)
    (try simp only [Act.put, List.setIfInBounds_toArray, List.set_cons_zero, List.set_cons_succ])
    (refine float0 (i := 1) (v := ?_) rfl (by kernel_rfl) (by kernel_rfl) (by kernel_rfl) (by kernel_rfl) (fun _ _ _ h => h) (by rfl) ?_ ?_); rotate_left
    (intro wF; go_simp; try with_reducible rfl)
    (try simp only [Act.put, List.setIfInBounds_toArray, List.set_cons_zero, List.set_cons_succ])
    (refine float0 (i := 2) (v := ?_) rfl (by kernel_rfl) (by kernel_rfl) (by kernel_rfl) (by kernel_rfl) (fun _ _ _ h => h) (by rfl) ?_ ?_); rotate_left
    (intro wF; go_simp; try with_reducible rfl)
    (try simp only [Act.put, List.setIfInBounds_toArray, List.set_cons_zero, List.set_cons_succ])
    (refine floatS (i := 3) (v := ?_) rfl (by kernel_rfl) (by kernel_rfl) (by kernel_rfl) (by kernel_rfl) (fun _ _ _ h => h) (by assumption) (by rfl) ?_ ?_); rotate_left
    (intro wF hF; (try dsimp only at hF); go_simp; try with_reducible rfl)
    (try simp only [Act.put, List.setIfInBounds_toArray, List.set_cons_zero, List.set_cons_succ])
    (refine floatS (i := 5) (v := ?_) rfl (by kernel_rfl) (by kernel_rfl) (by kernel_rfl) (by kernel_rfl) (fun _ _ _ h => h) (by assumption) (by rfl) ?_ ?_); rotate_left
    (intro wF hF; (try dsimp only at hF); go_simp; try with_reducible rfl)
    (try simp only [Act.put, List.setIfInBounds_toArray, List.set_cons_zero, List.set_cons_succ])
    (refine floatM (i := 4) rfl (by kernel_rfl) (by kernel_rfl) (fun K hK => ?_)); go_simp
    refine (HSD.out _).mono ?_
    rintro e w5 ⟨rfl, k5⟩
    have k6 : Keep none' W4 w5 := (Keep.drew _ _).trans k5
    refine hK.out _ _ (fun _ => HS.out _ k6) ?_
    clear hK K
    (try simp only [Act.put, List.setIfInBounds_toArray, List.set_cons_zero, List.set_cons_succ])
    unfold faultV
    (refine float0 (i := 6) (v := ?_) rfl (by kernel_rfl) (by kernel_rfl) (by kernel_rfl) (by kernel_rfl) (fun _ _ _ h => h) (by rfl) ?_ ?_); rotate_left
    (intro wF; go_simp; try with_reducible rfl)
    (try simp only [Act.put, List.setIfInBounds_toArray, List.set_cons_zero, List.set_cons_succ])
    (refine float0 (i := 7) (v := ?_) rfl (by kernel_rfl) (by kernel_rfl) (by kernel_rfl) (by kernel_rfl) (fun _ _ _ h => h) (by rfl) ?_ ?_); rotate_left
    (intro wF; go_simp; try with_reducible rfl)
    (try simp only [Act.put, List.setIfInBounds_toArray, List.set_cons_zero, List.set_cons_succ])
    (refine float0 (i := 8) (v := ?_) rfl (by kernel_rfl) (by kernel_rfl) (by kernel_rfl) (by kernel_rfl) (fun _ _ _ h => h) (by rfl) ?_ ?_); rotate_left
    (intro wF; go_simp; try with_reducible rfl)
    (try simp only [Act.put, List.setIfInBounds_toArray, List.set_cons_zero, List.set_cons_succ])
    (refine floatE (by kernel_rfl) ?_)
    go_wp2_with fail
    go_ret
    exact ⟨rfl, HK4.out.trans k6⟩
  | ok ts =>
    obtain ⟨x, st⟩ := ts
    have hz := readTy_size HR.out
    have hcl := canonT_len hz
    have hcq : canonT x = canonQ x := canon_q fun v hv => (readTy_has HR.out hv).1
    have hvb : ∀ v, x.has v = true → v ≤ 400 := fun v hv => by
      have := (readTy_has HR.out hv).2; have := readTy_n HR.out; omega
    have hps : Calls Tryd.prog 12 #[.string (bs S)] w fun e w' => e = .returned (.tuple #[.string (bs (canonT x)), faultV 0 0 ⟨#[]⟩ 0 0]) ∧ Keep none' w w' := HPS.out
    have hq : ∀ W e w', PrPost noG W (.ok (x, st)) e w' → Keep none' W w' ∧ ∃ b nv G, e = .returned (.tuple #[.pointer (some ⟨b, 0, none⟩), nv, faultV 0 0 ⟨#[]⟩ 0 0]) ∧ Holds G w' ∧ RTy G b x := fun W e w' h => by
      obtain ⟨k, b, nv, G, h1, _, h2, h3, _, _⟩ := h
      exact ⟨k, b, nv, G, h1, h2, h3⟩
    have HP2 := Lib.hid hps
    have HQ := Lib.hid hq
    clear hps hq
    go_enter Tryd.func5, Tryd.ntmps5
    go_wp2_with fail
    refine HP2.out.mono ?_
    rintro e w1 ⟨rfl, k1⟩
    have k2 : Keep none' w (w1.alloc (.cells #[.int .i64 0, .int .i64 0, .string ⟨#[]⟩, .int .i64 0, .int .i64 0] 28)) := k1.trans (Keep.alloc _ _ _)
    have b2 : (w1.alloc (.cells #[.int .i64 0, .int .i64 0, .string ⟨#[]⟩, .int .i64 0, .int .i64 0] 28)).heap[w1.heap.size]? = some (.cells #[.int .i64 0, .int .i64 0, .string ⟨#[]⟩, .int .i64 0, .int .i64 0] 28) := heap_new _ _
    have hr3 := HRD.out _ k2
    have HR3 := Lib.hid hr3; have HK2 := Lib.hid k2; have HB2 := Lib.hid b2
    clear k1 k2 b2 hr3
    unfold faultV
    go_wp2_with fail
    refine HR3.out.mono ?_
    intro e w3 hp3
    obtain ⟨k3, b, nv, G, rfl, hG, hx⟩ := HQ.out _ _ _ hp3
    have k4 : Keep none' w3 (w3.alloc (.cells #[.int .i64 0, .int .i64 0, .string ⟨#[]⟩, .int .i64 0, .int .i64 0] 32)) := Keep.alloc _ _ _
    have b4 := (k3.trans k4).get HB2.out (fun x => x)
    have c4 : (w3.alloc (.cells #[.int .i64 0, .int .i64 0, .string ⟨#[]⟩, .int .i64 0, .int .i64 0] 32)).cell? ⟨w1.heap.size, 0, none⟩ = some (.int .i64 0) := cell_of_heap b4 rfl
    have ht := tr_canon hx hz hvb (w3.alloc (.cells #[.int .i64 0, .int .i64 0, .string ⟨#[]⟩, .int .i64 0, .int .i64 0] 32)) (hG.keep0 k4)
    have HK4 := Lib.hid ((HK2.out.trans k3).trans k4)
    have HT := Lib.hid ht
    rw [← hcq] at HT
    clear b4 k4 k3 hp3 hG hx ht
    unfold faultV
    go_wp2_with fail
    refine HT.out.mono ?_
    rintro e w4 ⟨rfl, k4⟩
    have hzz : (bs (canonT x)).size = (canonT x).length := bs_size _
    go_wp2_with fail
    go_ret
    exact ⟨rfl, HK4.out.trans k4⟩
end Go.Proofs.YtabikmkoajdhmaaDoor

set_option linter.unusedVariables false
set_option linter.unusedSimpArgs false
set_option linter.unnecessarySimpa false
namespace Go.Proofs.YtabikmkoajdhmaaDoor
open Go.ChangeShapes Go.WideShapes Go.RowKit

theorem cell_spot {W : World} {a : Addr} {v : Value} (h : W.cell? a = some v) : a.spot = none := by
  cases hs : a.spot with
  | none => rfl
  | some s =>
    exfalso
    unfold World.cell? at h
    split at h
    · simp [hs] at h
    · cases h
theorem list_of_laid {W : World} {n : String} {g t e : Nat} {l : List (List UInt8)} {r : List (String × DataW Unit)} {ps : List MemPlace} (h : DataW.LaidVars Tryd.prog W ((n, .slice (l.map fun s => .lit (.string s)) []) :: r) ps) (hg : Tryd.prog.globalNamed n = some g) (ht : (Tryd.prog.globals[g]?).map (·.type) = some t)
    (hu : Tryd.prog.underlying t = some (.slice e)) (he : Tryd.prog.underlying e = some .string) (hc : Tryd.prog.cellsOf e = 1) (hne : l ≠ []) : ∃ b o cap, W.cell? ⟨g, 0, none⟩ = some (.slice (some ⟨b, o, none⟩) l.length cap) ∧ ∀ j (h : j < l.length), W.cell? ⟨b, o + j, none⟩ = some (.string (bs l[j])) := by
  obtain ⟨g', t', cs, f, p, q, hg', ht', hv, hd, hr, -⟩ := h
  obtain rfl := Option.some.inj (hg.symm.trans hg')
  obtain rfl := Option.some.inj (ht.symm.trans ht')
  obtain ⟨cl⟩ := cs
  rcases open_strings hu he hc hd with ⟨_, hx⟩ | ⟨a, len, cap, ss, hcs, _, hlc, _, hz, hx, hcell, _⟩
  · injection hx with hx _
    cases hx
  · injection hx with hx _
    injection hx with hx1 hx2
    have hcl : cl = [.slice (some a) len cap] := hcs
    subst hcl
    rw [if_pos rfl] at hz
    have hl : l = (ss.take len).map fun s => s.data.toList := by
      have := congrArg (List.map fun d : DataW Unit => match d with | .lit (.string s) => s | _ => []) hx1
      simpa [strs, List.map_map, Function.comp_def] using this
    have hlen : l.length = len := by rw [hl, List.length_map, List.length_take]; omega
    have hpos : 0 < l.length := List.length_pos_iff.2 hne
    have h0 := hcell 0 (by omega)
    have hsp : a.spot = none := by
      have : a.add 0 = a := rfl
      rw [this] at h0
      exact cell_spot h0
    obtain ⟨b, o, s⟩ := a
    obtain rfl : s = none := hsp
    have hg0 : W.cell? ⟨g, 0, none⟩ = some (.slice (some ⟨b, o, none⟩) len cap) := by simpa using World.var?_cell hg' hv 0
    refine ⟨b, o, cap, by rw [hlen]; exact hg0, fun j hj => ?_⟩
    have hj' : j < ss.length := by omega
    have h1 := hcell j hj'
    have ha : (⟨b, o, none⟩ : Addr).add j = ⟨b, o + j, none⟩ := by
      unfold Addr.add
      by_cases h : j = 0
      · subst h; rfl
      · rw [if_neg h]
    rw [ha] at h1
    rw [h1]
    have : l[j] = (ss.getD j ByteArray.empty).data.toList := by
      have e1 : l[j]? = some ((ss.getD j ByteArray.empty).data.toList) := by
        rw [hl, List.getElem?_map, List.getElem?_take, if_pos (by omega)]
        simp [List.getD_eq_getElem?_getD, hj']
      have e2 := List.getElem?_eq_getElem hj
      rw [e2] at e1
      exact Option.some.inj e1
    rw [this]
    exact congrArg (fun z => some (Value.string z)) (bs_eta _).symm
theorem laidVars_tail {W : World} {x : String × DataW Unit} {r : List (String × DataW Unit)} {ps : List MemPlace} (h : DataW.LaidVars Tryd.prog W (x :: r) ps) : ∃ q, DataW.LaidVars Tryd.prog W r q := by
  obtain ⟨n, d⟩ := x
  obtain ⟨g', t', cs, f, p, q, hg', ht', hv, hd, hr, -⟩ := h
  exact ⟨q, hr⟩
theorem laidVars_drop {W : World} : ∀ {pre r : List (String × DataW Unit)} {ps : List MemPlace}, DataW.LaidVars Tryd.prog W (pre ++ r) ps → ∃ q, DataW.LaidVars Tryd.prog W r q
  | [], _, _, h => ⟨_, h⟩
  | _ :: _, _, _, h => by
    obtain ⟨q, hq⟩ := laidVars_tail h
    exact laidVars_drop hq
theorem kinds_of_laid {W : World} {pre laid r : List (String × DataW Unit)} (h : laidMetH Tryd.prog laid W) (hh : (laid.filter fun x => x.2.handleName?.isSome) = [("errors.errorType", Rows.laid_errors_errorType)])
    (hn : (laid.filter fun x => x.2.handleName?.isNone) = pre ++ ("typer/typerref.kinds", Rows.laid_typer_typerref_kinds) :: r) : KindsL W := by
  unfold laidMetH at h
  rw [hh] at h
  obtain ⟨h1, h2⟩ := h
  rw [hn] at h1
  obtain ⟨ps, hv, hnd, hrows⟩ := h1
  obtain ⟨q, hv⟩ := laidVars_drop hv
  exact list_of_laid (l := kindsL) (g := 9) (t := 39) (e := 9) hv (by kernel_rfl) (by kernel_rfl) Tryd.underlying39 Tryd.underlying9 lCellsS (by decide)
end Go.Proofs.YtabikmkoajdhmaaDoor

set_option linter.unusedVariables false
set_option linter.unusedSimpArgs false
set_option linter.unnecessarySimpa false
namespace Go.Proofs.YtabikmkoajdhmaaDoor
open Go.ChangeShapes Go.WideShapes Go.RowKit Go.ChangeMaps

theorem canons_door (os : Os) (args : Array Value) : laidMetH Tryd.prog Rows.canonsRow.laid ((World.doorLaid Tryd.prog 400 os).forCall (fun _ _ => 0) ⟨#[], args, []⟩).memory :=
  laidMetH_of_parts3 (fuel := 8) (laidMet_of_run' 8 (by kernel_rfl) (by kernel_rfl)) (by kernel_rfl) (by kernel_rfl)

set_option maxRecDepth 100000 in
theorem canons_lifted (os : Os) (started : os.Started) (H : Type) (enc : TypeId × Value → H) :
    ReturnsInHanded {} Tryd.checked os 5 .any (fun w args => (Rows.canonsSpec.pre enc Tryd.prog Tryd.f5 [] false w args ∧ laidMetH Tryd.prog Rows.canonsRow.laid w) ∧ sizedMet enc Tryd.prog Tryd.f5 (OpenSpec.ofChange Rows.canonsSpec) false w args)
      (Rows.canonsSpec.post enc Tryd.prog Tryd.f5 false true false false) := by
  refine returnsInHanded_of_change_and (C := Tryd.checked) (X := fun w _ => laidMetH Tryd.prog Rows.canonsRow.laid w) (fun _ _ _ hh h => h.of_heap hh) lOwn started (by kernel_rfl) Tryd.func5
    (ChangeSpec.witness_shaped (enc := enc) (C := Tryd.checked) (os := os) (X := fun w _ => laidMetH Tryd.prog Rows.canonsRow.laid w) false (World.doorLaid Tryd.prog 400 os) #[.string ⟨#[]⟩] 8 rfl (World.shaped_of_RefB (by kernel_rfl) (by kernel_rfl)) (by kernel_rfl) (by kernel_rfl) (by kernel_rfl) (canons_door os _)) ?_
  intro W base args ds gs before hval0 hW _ _ hL _
  have hW' := hW
  obtain ⟨p, q, hA0, hV0, rfl, hfz, hnd⟩ := hW
  have hA : DataW.TrodAll enc Tryd.prog W 0 (fun _ => true) true Tryd.f5.params.toList args.toList ds p := hA0
  have hV : DataW.TrodVars enc Tryd.prog W (fun _ => true) [] gs q := hV0
  rw [Tryd.params5] at hA
  obtain ⟨v0, vs0, d0, ds0, p0, q0, hargs, rfl, rfl, h0, r0⟩ := trodAll_cons hA
  obtain ⟨rfl, rfl, rfl⟩ := trodAll_nil r0
  obtain rfl : args = #[v0] := by cases args; simp_all
  have hval : ∀ (j : Nat) t v, Tryd.f5.params[j]? = some t → (#[v0] : Array Value)[j]? = some v → Value.okWide Tryd.prog W .any base t v := hval0
  rw [Tryd.params5] at hval
  obtain ⟨s0, rfl, rfl, rfl, w0⟩ := open_string Tryd.underlying9 (hval 0 9 v0 rfl rfl) h0
  obtain ⟨rfl, rfl⟩ : gs = [] ∧ q = [] := by
    cases gs with
    | nil => exact ⟨rfl, hV⟩
    | cons g r => exact absurd hV (by intro h; cases h)
  obtain ⟨pp, hs⟩ := sents_of_laid (pre := [("math/bits.deBruijn32tab", Rows.laid_math_bits_deBruijn32tab), ("math/bits.deBruijn64tab", Rows.laid_math_bits_deBruijn64tab), ("internal/strconv.uint64pow10", Rows.laid_internal_strconv_uint64pow10), ("typer/typerref.kinds", Rows.laid_typer_typerref_kinds)]) hL rfl rfl
  have hw := kinds_of_laid (pre := [("math/bits.deBruijn32tab", Rows.laid_math_bits_deBruijn32tab), ("math/bits.deBruijn64tab", Rows.laid_math_bits_deBruijn64tab), ("internal/strconv.uint64pow10", Rows.laid_internal_strconv_uint64pow10)]) (r := SENT) hL rfl rfl
  have e1 : Rows.canonsSpec.fn H ([.lit (.string s0.data.toList)] ++ []) = { results := [.lit (.bool true)], args := [.lit (.string s0.data.toList)] } := by simp [Rows.canonsSpec]
  have z0 : s0.data.toList.length ≤ 9223372036854775807 := Nat.le_trans (Nat.le_of_eq (bytes_length s0)) w0
  have hr := canons_ok pp s0.data.toList z0 W hs hw
  rw [bs_eta] at hr
  refine hr.mono fun e W' ⟨he, hk⟩ => ?_
  subst he
  refine ⟨_, rfl, _, _, _, [], [], [], hW', ?_, ?_, ?_, hk.frame _, fun h => by cases h⟩
  · rw [e1]; exact trodAll_mk1 (shut_bool Tryd.underlying4 true)
  · rw [e1]; exact trodAll_mk1 (shut_string Tryd.underlying9 w0)
  · rw [e1]; rfl

theorem canons_holds : Rows.CanonsSaid :=
  OpenClaim.holds_of_wide 5 Tryd.f5 rfl rfl rfl rfl rfl rfl rfl ⟨rfl, rfl, rfl, rfl, rfl⟩ rfl rfl rfl rfl rfl (by kernel_rfl) Tryd.func5 (by kernel_rfl)
    (of_decide_eq_true (by kernel_rfl)) (by unfold Func.isWrapper; rw [if_neg (of_decide_eq_false (by kernel_rfl))]; exact ⟨rfl, rfl⟩)
    (fun os started H enc _ => canons_lifted os started H enc)

theorem canons_card : Rows.CanonsCardSaid :=
  Claim7.holds_tied_plain_at .later [] [.data, .data, .data, .widerDeep, .handle, .sentinel, .sentinel, .sentinel, .sentinel, .sentinel, .sentinel, .sentinel, .sentinel] true Rows.canonsCard.stood.harness true
    canons_holds (fun _ h => by cases h) (by kernel_rfl) (fun _ h => by cases h) canons_row_tie rfl ⟨rfl, rfl⟩ (by kernel_rfl) rfl
    (fun f fn hf hfn => by
      obtain rfl : f = 5 := Option.some.inj ((show Tryd.prog.funcNamed "typer/typerlaw.Canons" = some 5 by kernel_rfl).symm.trans hf) |>.symm
      obtain rfl : fn = Tryd.f5 := (Option.some.inj (Tryd.func5.symm.trans hfn)).symm
      exact ⟨by kernel_rfl, fun j t ht => by
        rw [Tryd.params5] at ht
        cases j with
        | zero => simp at ht; subst ht; kernel_rfl
        | succ j => simp at ht⟩)
    (by kernel_rfl)
#print axioms canons_card
end Go.Proofs.YtabikmkoajdhmaaDoor
