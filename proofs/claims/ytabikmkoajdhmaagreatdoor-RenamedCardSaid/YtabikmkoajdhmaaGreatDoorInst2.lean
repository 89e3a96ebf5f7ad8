/- infer.Instance by a contract: by which types for its variables a type becomes another, or what is wrong. -/
import Derived.Test.YtabikmkoajdhmaaGreatDoorInst1
import Derived.Laws.EntriesVeiled
set_option linter.unusedVariables false
set_option linter.unusedSimpArgs false
namespace Go.Proofs.YtabikmkoajdhmaaGreatDoor
open Go.RowKit

theorem ins_ok {nm : Nat → Str} (hlen : ∀ N, (nm N).length ≤ 1000) : ∀ k, InsOk nm k
  | 0 => fun x G A n vx vy w tx ty m _ _ _ _ _ _ hk => by have := tx.size_pos; omega
  | k + 1 => ins_step hlen k (ins_ok hlen k)
theorem nmS_len {l : Names} (h : ∀ q ∈ l, q.1.length ≤ 8) (N : Nat) : (nmS l N).length ≤ 1000 := by
  unfold nmS
  split
  · rename_i q hq; have := h q (List.mem_of_find?_eq_some hq); omega
  · simp
theorem nmS_eq {A : GV} {l : Names} (h : ∀ q ∈ l, ∃ b, A q.2 = some (b, q.1)) {N : Nat} (hN : ∃ q ∈ l, q.2 = N) : ∃ b, A N = some (b, nmS l N) := by
  unfold nmS
  split
  · rename_i q hq
    obtain ⟨b, hb⟩ := h q (List.mem_of_find?_eq_some hq)
    have := List.find?_some hq
    simp only [beq_iff_eq] at this
    exact ⟨b, by rw [← this]; exact hb⟩
  · rename_i hq
    obtain ⟨q, hq1, hq2⟩ := hN
    have := List.find?_eq_none.1 hq q hq1
    simp [hq2] at this
def IInstPost (p : Nat → Addr) (w : World) (r : Option (Except Flt (List (Str × Str)))) (e : Ending) (w' : World) : Prop :=
  Keep none' w w' ∧ match r with
    | some (.ok m) => ∃ mb, e = .returned (.tuple #[.map (some mb), .nilIface]) ∧ w.heap.size ≤ mb ∧ w'.heap[mb]? = some (kmap kStr (envV m))
    | some (.error f) => ∃ v G', e = .returned (.tuple #[.map none, v]) ∧ Holds G' w' ∧ ErrR G' p v f
    | none => False

set_option maxRecDepth 100000 in
set_option maxHeartbeats 4000000 in
theorem infer_inst (p : Nat → Addr) (S T : ByteArray) (w : World) (hs : Sents p w) (hm : S.size ≤ 9223372036854775807) (hm2 : T.size ≤ 9223372036854775807) {r : Option (Except Flt (List (Str × Str)))} (hr : instF (bytes S) (bytes T) = r) (hne : r ≠ none) : Calls Tryz.prog 37 #[.string S, .string T] w (IInstPost p w r) := by
  have ei := EI.start w
  have k0 : Keep none' w (w.alloc (cntObj 0)) := Keep.alloc _ _ _
  have hb0 : ∀ i, touch w.heap.size noA i → w.heap.size ≤ i := fun i hi => by
    rcases hi with rfl | hi
    · exact Nat.le_refl _
    · exact absurd hi (noA_isV i)
  unfold instF at hr
  cases hr1 : readTy (bytes S) 0 with
  | none => rw [hr1] at hr; exact absurd hr.symm hne
  | some r1 =>
    rw [hr1] at hr
    have hc := tread_any w.heap.size noG noA p S (w.alloc (cntObj 0)) 0 ei (hs.keep0 k0) (hs.off_new hb0) hm hr1 (by simp)
    have HC := Lib.hid hc; have HR := Lib.hid hr; have HB0 := Lib.hid hb0; have HK0 := Lib.hid k0; have HS := Lib.hid hs; have HR1 := Lib.hid hr1; have HM2 := Lib.hid hm2; have HNE := Lib.hid hne
    clear hc hr hs hb0 k0 ei hr1 hm hm2 hne
    unfold cntObj at HC
    go_enter Tryz.func37, Tryz.ntmps37
    go_wp2_with fail
    refine HC.out.mono ?_
    cases r1 with
    | error f =>
      rintro e w1 ⟨u, u2, v, G1, rfl, k1, g1, hG1, hx⟩
      obtain ⟨T1, b, rfl⟩ := hx.iface
      have hr := HR.out; simp only at hr; subst hr
      have HX := Lib.hid hx; have HG := Lib.hid hG1
      have HK1 : Hid (Keep none' w w1) := Lib.hid (HK0.out.behind k1 HB0.out)
      clear hx k1 hG1 g1
      go_wp2_with fail
      refine bodyPost_ret (v := .tuple #[.map none, .iface T1 (.pointer (some b))]) (by simp [results, Tryz.results37, go_sem]) rfl ⟨HK1.out, _, G1, rfl, HG.out, HX.out⟩
    | ok ts =>
      obtain ⟨t, st⟩ := ts
      rintro e w1 ⟨v, m, G1, A1, rfl, x1, ei1, y1, hnm1, hfr1⟩
      obtain ⟨T1, b1, rfl⟩ := y1.iface
      have hb1 := GrewV.behind (by simp) x1.a HB0.out
      have hk1 := HK0.out.behind x1.keep HB0.out
      have hfa : FreeA A1 w1 := hfr1 (fun N b nm e => by cases e)
      have hr := HR.out; simp only at hr
      cases hr2 : readTy (bytes T) st.n with
      | none => rw [hr2] at hr; exact absurd hr.symm HNE.out
      | some r2 =>
        rw [hr2] at hr
        have hc2 := tread_any w.heap.size G1 A1 p T w1 st.n ei1 (HS.out.keep0 hk1) (HS.out.off_new hb1) HM2.out hr2 (by simp)
        have HC2 := Lib.hid hc2; have HRR := Lib.hid hr; have HEI := Lib.hid ei1; have HY := Lib.hid y1; have HB1 := Lib.hid hb1; have HK1 := Lib.hid hk1; have HFA := Lib.hid hfa; have HNM1 := Lib.hid hnm1; have HR2 := Lib.hid hr2
        clear hc2 hr ei1 y1 x1 hb1 hk1 hfa hnm1 hfr1 hr2 HR HC
        go_wp2_with fail
        refine HC2.out.mono ?_
        cases r2 with
        | error f =>
          rintro e w2 ⟨u, u2, v, G2, rfl, k2, g2, hG2, hx⟩
          obtain ⟨T2, b, rfl⟩ := hx.iface
          have hr := HRR.out; simp only at hr; subst hr
          have HX := Lib.hid hx; have HG := Lib.hid hG2
          have HK2 : Hid (Keep none' w w2) := Lib.hid (HK1.out.behind k2 HB1.out)
          clear hx k2 hG2 g2
          go_wp2_with fail
          refine bodyPost_ret (v := .tuple #[.map none, .iface T2 (.pointer (some b))]) (by simp [results, Tryz.results37, go_sem]) rfl ⟨HK2.out, _, G2, rfl, HG.out, HX.out⟩
        | ok ts2 =>
          obtain ⟨t2, st2⟩ := ts2
          rintro e w2 ⟨v2, m2, G2, A2, rfl, x2, ei2, y2, hnm2, hfr2⟩
          obtain ⟨T2, b2, rfl⟩ := y2.iface
          have hin1 := readTy_in HR1.out
          have hin2 := readTy_in HR2.out
          have hsz2 := readTy_size HR2.out
          have hsz1 := readTy_size HR1.out
          have hb2 := GrewV.behind HK1.out.size x2.a HB1.out
          have hk2 := HK1.out.behind x2.keep HB1.out
          have hfa2 := hfr2 HFA.out
          have y1' := x2.tr _ _ HY.out
          obtain ⟨nl, hnl⟩ : ∃ nl, nl = st.m ++ st2.m := ⟨_, rfl⟩
          have hall : ∀ q ∈ nl, ∃ b, A2 q.2 = some (b, q.1) := fun q hq => by
            rw [hnl] at hq
            rcases List.mem_append.1 hq with hq | hq
            · obtain ⟨b, hb⟩ := HNM1.out q hq; exact ⟨b, x2.a.sub _ _ hb⟩
            · exact hnm2 q hq
          have hlen : ∀ N, (nmS nl N).length ≤ 1000 := nmS_len (fun q hq => by
            rw [hnl] at hq
            rcases List.mem_append.1 hq with hq | hq
            · exact hin1.txt q hq
            · exact hin2.txt q hq)
          have hV : ∀ N, t.has N = true ∨ t2.has N = true → ∃ b, A2 N = some (b, nmS nl N) := fun N h => nmS_eq hall (by
            rw [hnl]
            rcases h with h | h
            · obtain ⟨q, h1, h2⟩ := hin1.has N h; exact ⟨q, List.mem_append.2 (.inl h1), h2⟩
            · obtain ⟨q, h1, h2⟩ := hin2.has N h; exact ⟨q, List.mem_append.2 (.inr h1), h2⟩)
          have hr := HRR.out; simp only at hr
          rw [← hnl] at hr
          have hmkm := run_mkenv
          have hmf : ∀ (fn : Fn) (first cap : Array Value) (w : World), (Instr.makeFunc fn first cap).run Tryz.prog w = .ok (.func fn first cap) w := fun _ _ _ _ => rfl
          have hef : ∀ args w, (callFunc 71 args).run Tryz.prog w = .ok (.enter 71 args) w := fun args w => by kernel_rfl
          have HEI2 := Lib.hid ei2; have HY1 := Lib.hid y1'; have HY2 := Lib.hid y2; have HB2 := Lib.hid hb2; have HK2 := Lib.hid hk2; have HFA2 := Lib.hid hfa2; have HLEN := Lib.hid hlen; have HV := Lib.hid hV; have HRM := Lib.hid hr; have HSZ1 := Lib.hid hsz1; have HSZ2 := Lib.hid hsz2
          clear ei2 y1' y2 hb2 hk2 hfa2 hlen hV hr hsz1 hsz2 hin1 hin2 hall hnm2 hfr2 x2 hnl HRR HC2
          go_wp2_with fail
          obtain ⟨s0, hs0⟩ : ∃ s0, s0 = w2.heap.size := ⟨_, rfl⟩
          obtain ⟨x, hx⟩ : ∃ x : InsB, x = ⟨w2.heap.size, w2.heap.size + 1 + 1, w2.heap.size + 1 + 1 + 1, w2.heap.size + 1⟩ := ⟨_, rfl⟩
          obtain ⟨w7, hw7⟩ : ∃ w7, w7 = ((((w2.alloc (.cells #[.func (.func 70) #[] #[]] 157)).alloc (kmap kStr [])).alloc (.cells #[.map (some (w2.heap.size + 1))] 71)).alloc (.cells #[.func (.func 71) #[] #[.pointer (some ⟨w2.heap.size, 0, none⟩), .pointer (some ⟨w2.heap.size + 1 + 1, 0, none⟩), .pointer (some ⟨w2.heap.size + 1 + 1 + 1, 0, none⟩)]] 163)) := ⟨_, rfl⟩
          have z1 : (w2.alloc (.cells #[.func (.func 70) #[] #[]] 157)).heap.size = w2.heap.size + 1 := by simp
          have z2 : ((w2.alloc (.cells #[.func (.func 70) #[] #[]] 157)).alloc (kmap kStr [])).heap.size = w2.heap.size + 1 + 1 := by simp
          have z3 : (((w2.alloc (.cells #[.func (.func 70) #[] #[]] 157)).alloc (kmap kStr [])).alloc (.cells #[.map (some (w2.heap.size + 1))] 71)).heap.size = w2.heap.size + 1 + 1 + 1 := by simp
          have c0 : w7.heap[w2.heap.size]? = some (.cells #[.func (.func 70) #[] #[]] 157) := by rw [hw7]; exact heap_old (heap_old (heap_old (heap_new _ _)))
          have c1 : w7.heap[w2.heap.size + 1]? = some (kmap kStr []) := by rw [hw7, ← z1]; exact heap_old (heap_old (heap_new _ _))
          have c2 : w7.heap[w2.heap.size + 1 + 1]? = some (.cells #[.map (some (w2.heap.size + 1))] 71) := by rw [hw7, ← z2]; exact heap_old (heap_new _ _)
          have c3 : w7.heap[w2.heap.size + 1 + 1 + 1]? = some (.cells #[.func (.func 71) #[] #[.pointer (some ⟨w2.heap.size, 0, none⟩), .pointer (some ⟨w2.heap.size + 1 + 1, 0, none⟩), .pointer (some ⟨w2.heap.size + 1 + 1 + 1, 0, none⟩)]] 163) := by rw [hw7, ← z3]; exact heap_new _ _
          have kW : Keep none' w2 w7 := by rw [hw7]; exact (((Keep.alloc _ _ _).trans (Keep.alloc _ _ _)).trans (Keep.alloc _ _ _)).trans (Keep.alloc _ _ _)
          have S7 := Same.of0 HEI2.out.inv kW
          have hR : InsR x G2 A2 [] w7 := by
            rw [hx]
            exact ⟨c0, c2, c3, c1, fun i hi => by
              have : w2.heap.size ≤ i := by (try simp only at hi); omega
              exact ⟨HEI2.out.inv.holds.fresh this, fun h => by have := HEI2.out.inv.old h; omega⟩⟩
          have hc := ins_ok HLEN.out t.size x G2 A2 st2.n _ _ w7 t t2 [] S7.inv (HFA2.out.same (S := none') S7.s) hR (S7.tr _ _ HY1.out) (S7.tr _ _ HY2.out) HV.out (Nat.le_refl _) (by have := HSZ2.out; omega)
          have hbb : ∀ i, isV A2 i ∨ one' x.gm i → w.heap.size ≤ i := fun i hi => by
            rcases hi with hi | hi
            · exact HB2.out i (.inr hi)
            · have e : i = w2.heap.size + 1 := by rw [hx] at hi; exact hi
              have := HK2.out.size; omega
          have hkb : ∀ w8, SameS (one' x.gm) G2 A2 st2.n w7 w8 → Keep none' w w8 := fun w8 s => (HK2.out.trans kW).behind s.keep hbb
          have hgb : x.gb = w2.heap.size + 1 + 1 ∧ x.gm = w2.heap.size + 1 := by rw [hx]; exact ⟨rfl, rfl⟩
          have hcaps : (#[.iface T1 (.pointer (some ⟨b1, 0, none⟩)), .iface T2 (.pointer (some ⟨b2, 0, none⟩))] ++ x.caps : Array Value) = #[.iface T1 (.pointer (some ⟨b1, 0, none⟩)), .iface T2 (.pointer (some ⟨b2, 0, none⟩)), .pointer (some ⟨w2.heap.size, 0, none⟩), .pointer (some ⟨w2.heap.size + 1 + 1, 0, none⟩), .pointer (some ⟨w2.heap.size + 1 + 1 + 1, 0, none⟩)] := by rw [hx]; rfl
          rw [hcaps] at hc
          have hszw := HK2.out.size
          have HC := Lib.hid hc; have HKB := Lib.hid hkb; have HGB := Lib.hid hgb
          rw [← hw7]
          clear hc hR S7 kW c0 c1 c2 c3 z1 z2 z3 hw7 hbb hkb hcaps hx hgb
          refine HC.out.mono ?_
          cases hms : matchS (nmS nl) t t2 [] with
          | none =>
            rintro e w8 ⟨rfl, s8, _⟩
            have k8 := HKB.out w8 s8
            have g7 := (HS.out.keep0 k8).glob 7 (by omega)
            simp only [gno, sen] at g7
            have hr := HRM.out; rw [hms] at hr; simp only at hr; subst hr
            have HK8 := Lib.hid k8
            have HG8 := Lib.hid s8.inv.holds
            clear s8 k8 hms HRM
            go_wp2_with fail
            go_quiet (fail)
            go_wp2_with fail
            refine bodyPost_ret (v := .tuple #[.map none, .iface 364 (.pointer (some (p 7)))]) (by simp [results, Tryz.results37, go_sem]) rfl ⟨HK8.out.trans (Keep.drewN _ _ _), _, G2, rfl, HG8.out.keep0 (Keep.drewN _ _ _), ErrR.sen (j := 7) (by omega)⟩
          | some mm =>
            rintro e w8 ⟨rfl, s8, r8⟩
            have r8' := r8 mm rfl
            have k8 := HKB.out w8 s8
            have cg := cell_of_heap (i := 0) r8'.cg rfl
            rw [HGB.out.1, HGB.out.2] at cg
            have hr := HRM.out; rw [hms] at hr; simp only at hr; subst hr
            have hmt := r8'.mt
            rw [HGB.out.2] at hmt
            have HK8 := Lib.hid k8; have HMT := Lib.hid hmt
            clear s8 k8 hms HRM r8 r8' hmt
            go_wp2_with fail
            refine bodyPost_ret (v := .tuple #[.map (some (w2.heap.size + 1)), .nilIface]) (by simp [results, Tryz.results37, go_sem]) rfl ⟨HK8.out, _, rfl, by omega, HMT.out⟩
end Go.Proofs.YtabikmkoajdhmaaGreatDoor
