/- The law typerlaw.Instances: the arm in which both texts are types. -/
import Derived.Test.YtabikmkoajdhmaaDoorInstA
import Derived.WalkLawsBesides
import Derived.Test.YtabikmkoajdhmaaDoorQ06
import Derived.Test.YtabikmkoajdhmaaDoorCanC
import Derived.ChangeMaps5
import Derived.Test.YtabikmkoajdhmaaDoorCards
import Derived.Test.YtabikmkoajdhmaaDoorTie
import Derived.SevenTiedAt
import Derived.ProofKit
import Derived.LaidMore
import Derived.OpenShut
set_option linter.unusedVariables false
set_option linter.unusedSimpArgs false
set_option linter.unnecessarySimpa false
namespace Go.Proofs.YtabikmkoajdhmaaDoor
open Go.RowKit

def rowP (M : Nat) : Array Value := (List.replicate M (Value.pointer none)).toArray
theorem make_ptrs (M : Nat) (h : M ≤ 1000) (W : World) : (Instr.makeSlice 45 (.int .i64 (M : Int)) (.int .i64 (M : Int))).run Tryd.prog W = .ok (.slice (some ⟨W.heap.size, 0, none⟩) M M) (W.alloc (.cells (rowP M) 38)) := by
  obtain ⟨is, his, zs0, zs1, zs2⟩ := info_parts info_rty
  have := run_make (P := Tryd.prog) W 45 38 is (.pointer none) und_rtys his zs0 .i64 .i64 (M : Int) (M : Int) (by omega) (Int.le_refl _) (by rw [zs2]; omega) (by omega)
  rw [this, zs1]
  have e : madeCells (Value.pointer none).cells (((M : Int).toNat) * 1) = rowP M := by
    apply Array.ext'
    have h1 : (Value.pointer none).cells = #[.pointer none] := rfl
    rw [h1, toList_madeCells_one]
    simp [rowP]
  rw [e, Int.toNat_natCast]
theorem gotR_made {G : GH} {b : Nat} {M : Nat} (h : G b = some (.cells (rowP M) 38)) : GotR G (.slice (some ⟨b, 0, none⟩) M M) (List.replicate M none) := by
  refine ⟨List.replicate M none, by simp, .inr ⟨b, rowP M, _, M, by simp, h, fun i hi => ?_⟩, fun i hi h2 => by simp only [List.getElem_replicate]; exact .none⟩
  simp only [List.length_map, List.length_replicate] at hi
  simp [rowP, oV, hi]
/-- What the loops of the law read. -/
structure LoopF (W : World) (n : Nat) (L T N : List Str) (ao1 ao2 ao3 ao4 : Option Addr) (pv2 : Value) : Prop where
  l1 : ∀ i (h : i < L.length), ∃ lb, ao1 = some ⟨lb, 0, none⟩ ∧ W.cell? ⟨lb, i, none⟩ = some (.string (bs L[i]))
  l2 : ∀ i (h : i < T.length), ∃ lb, ao2 = some ⟨lb, 0, none⟩ ∧ W.cell? ⟨lb, i, none⟩ = some (.string (bs T[i]))
  l3 : ∀ i (h : i < N.length), ∃ lb, ao3 = some ⟨lb, 0, none⟩ ∧ W.cell? ⟨lb, i, none⟩ = some (.string (bs N[i]))
  n1 : L.length = n
  n2 : T.length = n
  n3 : N.length = n
  up : ∀ i (h : i + 1 < L.length), L[i] < L[i + 1]
  sh : ∀ k (h : k < N.length), ∃ lb kk S, ao4 = some ⟨lb, 0, none⟩ ∧ W.cell? ⟨lb, k, none⟩ = some (.pointer (some ⟨kk, 0, none⟩)) ∧ (∀ m, ShQ kk pv2 S (W.drewN m)) ∧ N[k] ∈ L ∧ ∀ i (hi : i < L.length), L[i] = N[k] → T[i]? = some S
theorem loopF_of {W : World} {G : GH} {L T : List Str} {st sb : TS} {got : List (Option Ty)} {ao1 ao2 ao3 ao4 : Option Addr} {c1 c2 c3 c4 : Nat} {pv2 : Value} (hW : Holds G W) (h1 : RowT L (.slice ao1 st.m.length c1) W) (h2 : RowT T (.slice ao2 st.m.length c2) W) (h3 : SlR G (.slice ao3 st.m.length c3) (st.m.map fun p => .string (bs p.1)))
    (h4 : GotR G (.slice ao4 got.length c4) got) (h5 : SlR G pv2 (sb.m.map fun p => .string (bs p.1))) (hgl : got.length = st.m.length) (hL : L.length = st.m.length) (hT : T.length = st.m.length) (hup : ∀ i (h : i + 1 < L.length), L[i] < L[i + 1]) (hsb : sb.m.length ≤ 1000) (hsx : ∀ q ∈ sb.m, q.1.length ≤ 1000)
    (hk : ∀ k (h : k < st.m.length), ∃ o, got[k]? = some (some o) ∧ SpP sb.m.length o ∧ (st.m[k]).1 ∈ L ∧ ∀ i (hi : i < L.length), L[i] = (st.m[k]).1 → T[i]? = some (shownT (nmG (sb.m.map (·.1))) o)) : LoopF W st.m.length L T (st.m.map (·.1)) ao1 ao2 ao3 ao4 pv2 := by
  refine ⟨?_, ?_, ?_, hL, hT, by simp, hup, ?_⟩
  · obtain ⟨ao, cap, e, h⟩ := h1
    injection e with e1 e2 e3
    intro i hi; rw [e1]; exact h i hi
  · obtain ⟨ao, cap, e, h⟩ := h2
    injection e with e1 e2 e3
    intro i hi; rw [e1]; exact h i hi
  · have h3' : SlR G (.slice ao3 st.m.length c3) ((st.m.map (·.1)).map fun n => .string (bs n)) := by rw [List.map_map]; exact h3
    obtain ⟨ao, cap, e, h⟩ := rowT_slr h3' hW
    injection e with e1 e2 e3
    intro i hi; rw [e1]; exact h i hi
  · intro k hk'
    have hk2 : k < st.m.length := by simpa using hk'
    obtain ⟨o, ho, hsp, hmem, hall⟩ := hk k hk2
    obtain ⟨os, ol, osl, oor⟩ := h4
    have hkg : k < got.length := by omega
    have hko : k < os.length := by omega
    have h6 := oor k hko hkg
    have h7 : got[k] = some o := by rw [List.getElem?_eq_getElem hkg] at ho; exact Option.some.inj ho
    rw [h7] at h6
    obtain ⟨kk, hkk, hr⟩ : ∃ kk, os[k] = some kk ∧ RTy G kk o := by
      cases e : os[k] with
      | none => rw [e] at h6; cases h6
      | some k => rw [e] at h6; cases h6 with | some h => exact ⟨k, rfl, h⟩
    obtain ⟨ao, cap, e, hc⟩ := slr_shp osl
    injection e with e1 e2 e3
    obtain ⟨lb, e4, hc⟩ := hc k (by simpa using hko)
    have h5' : SlR G pv2 ((sb.m.map (·.1)).map fun n => .string (bs n)) := by rw [List.map_map]; exact h5
    refine ⟨lb, kk, shownT (nmG (sb.m.map (·.1))) o, by rw [e1, e4], by rw [hc W hW]; simp [hkk, oV, ptr], fun m => tr_shown hr h5' (by simpa using (by omega : sb.m.length ≤ 1000000)) (fun x hx => by
      obtain ⟨q, hq, rfl⟩ := List.mem_map.1 hx
      exact hsx q hq) (fun v hv => by have := hsp.1 v hv; simp; omega) (by have := hsp.2; omega) _ (hW.keep0 (Keep.drewN _ _ _)), by simpa using hmem, fun i hi e => hall i hi (by simpa using e)⟩
end Go.Proofs.YtabikmkoajdhmaaDoor

set_option linter.unusedVariables false
set_option linter.unusedSimpArgs false
set_option linter.unnecessarySimpa false
namespace Go.Proofs.YtabikmkoajdhmaaDoor
open Go.RowKit

def IR (S T : Str) (w : World) (ne : Bool) (fw : Int) (L U : List Str) : Prop := Calls Tryd.prog 15 #[.string (bs S), .string (bs T)] w fun e w' => ∃ ao1 n1 c1 ao2 n2 c2, e = .returned (.tuple #[.slice ao1 n1 c1, .slice ao2 n2 c2, .bool ne, faultV fw 0 ⟨#[]⟩ 0 0]) ∧ Keep none' w w' ∧ RowT L (.slice ao1 n1 c1) w' ∧ RowT U (.slice ao2 n2 c2) w'
theorem pos_rd {s : Str} {t : Ty} {st : TS} (h : readTy s 0 = some (.ok (t, st))) : Pos t := fun _ hv => (readTy_has h hv).1
set_option maxRecDepth 100000 in
set_option maxHeartbeats 8000000 in
theorem instances_ok (S T : Str) (w : World) {a b : Ty} {st sb : TS} (hgd : readTy S 0 = some (.ok (a, st))) (hsd : readTy T 0 = some (.ok (b, sb))) (ne : Bool) (fw : Int) (L U : List Str) (hps : IR S T w ne fw L U)
    (hrd : ∀ G W, Keep none' w W → Holds G W → Calls Tryd.prog 13 #[.string (bs S)] W (PrPost G W (.ok (a, st)))) (hrd2 : ∀ G W, Keep none' w W → Holds G W → Calls Tryd.prog 13 #[.string (bs T)] W (PrPost G W (.ok (b, sb))))
    (hR : match matchR a b (List.replicate st.n none) with
      | none => ne = true ∧ fw = 11
      | some got => ne = false ∧ fw = 0 ∧ got.length = st.m.length ∧ L.length = st.m.length ∧ U.length = st.m.length ∧ (∀ i (h : i + 1 < L.length), L[i] < L[i + 1]) ∧ ∀ k (h : k < st.m.length), ∃ o, got[k]? = some (some o) ∧ SpP sb.m.length o ∧ (st.m[k]).1 ∈ L ∧ ∀ i (hi : i < L.length), L[i] = (st.m[k]).1 → U[i]? = some (shownT (nmG (sb.m.map (·.1))) o)) :
    Calls Tryd.prog 6 #[.string (bs S), .string (bs T)] w fun e w' => e = .returned (.bool true) ∧ Keep none' w w' := by
  have hps : Calls Tryd.prog 15 #[.string (bs S), .string (bs T)] w fun e w' => ∃ ao1 n1 c1 ao2 n2 c2, e = .returned (.tuple #[.slice ao1 n1 c1, .slice ao2 n2 c2, .bool ne, faultV fw 0 ⟨#[]⟩ 0 0]) ∧ Keep none' w w' ∧ RowT L (.slice ao1 n1 c1) w' ∧ RowT U (.slice ao2 n2 c2) w' := hps
  have hst := (readTy_w hgd).1.1
  have hmp : ∀ G1 ka kb gv, RTy G1 ka a → RTy G1 kb b → GotR G1 gv (List.replicate st.n none) → st.m.length ≤ 1000 → ∀ W, Holds G1 W → MtQ G1 ka kb gv (matchR a b (List.replicate st.n none)) W := fun G1 ka kb gv h1 h2 h3 h4 W hW =>
    tr_matched h1 G1 (GH.sub.refl _) kb b h2 (pos_rd hsd) gv _ h3 (fun t ht => by simp [List.mem_replicate] at ht) (fun v hv => by have := readTy_has hgd hv; simpa using this) (by rw [List.length_replicate]; omega) W hW
  have hsx : ∀ q ∈ sb.m, q.1.length ≤ 1000 := fun q hq => Nat.le_trans ((readTy_in hsd).txt q hq) (by decide)
  obtain ⟨R, hRR⟩ : ∃ R, R = matchR a b (List.replicate st.n none) := ⟨_, rfl⟩
  rw [← hRR] at hR hmp
  rw [hst] at hmp
  have HP2 := Lib.hid hps; have HRD := Lib.hid hrd; have HRD2 := Lib.hid hrd2; have HMP := Lib.hid hmp; have HR := Lib.hid hR; have HSX := Lib.hid hsx
  clear hps hrd hrd2 hmp hR hRR hst hsx hgd hsd
  go_enter Tryd.func6, Tryd.ntmps6
  go_wp2_with fail
  refine HP2.out.mono ?_
  rintro e w1 ⟨ao1, n1, x1, ao2, n2, x2, rfl, k1, hr1, hr2⟩
  have k2 : Keep none' w (w1.alloc (.cells #[.int .i64 fw, .int .i64 0, .string ⟨#[]⟩, .int .i64 0, .int .i64 0] 28)) := k1.trans (Keep.alloc _ _ _)
  have b2 : (w1.alloc (.cells #[.int .i64 fw, .int .i64 0, .string ⟨#[]⟩, .int .i64 0, .int .i64 0] 28)).heap[w1.heap.size]? = some (.cells #[.int .i64 fw, .int .i64 0, .string ⟨#[]⟩, .int .i64 0, .int .i64 0] 28) := heap_new _ _
  have hr3 := HRD.out noG _ k2 (noG_holds _)
  have HR3 := Lib.hid hr3; have HK2 := Lib.hid k2; have HB2 := Lib.hid b2
  have HL1 := Lib.hid (hr1.keep (Keep.alloc none' w1 (.cells #[.int .i64 fw, .int .i64 0, .string ⟨#[]⟩, .int .i64 0, .int .i64 0] 28))); have HL2 := Lib.hid (hr2.keep (Keep.alloc none' w1 (.cells #[.int .i64 fw, .int .i64 0, .string ⟨#[]⟩, .int .i64 0, .int .i64 0] 28)))
  clear k1 k2 b2 hr3 hr1 hr2
  unfold faultV
  go_wp2_with fail
  refine HR3.out.mono ?_
  rintro e w3 ⟨k3, pb, pv, G1, rfl, g1, h1, ra, sa, la⟩
  have k4 : Keep none' w3 (w3.alloc (.cells #[.int .i64 0, .int .i64 0, .string ⟨#[]⟩, .int .i64 0, .int .i64 0] 32)) := Keep.alloc _ _ _
  have hr5 := HRD2.out G1 _ ((HK2.out.trans k3).trans k4) (h1.keep0 k4)
  have b3 := (k3.trans k4).get HB2.out (fun x => x)
  have HR5 := Lib.hid hr5; have HK4 := Lib.hid ((HK2.out.trans k3).trans k4); have HB3 := Lib.hid b3
  have HB4 : Hid ((w3.alloc (.cells #[.int .i64 0, .int .i64 0, .string ⟨#[]⟩, .int .i64 0, .int .i64 0] 32)).heap[w3.heap.size]? = some (.cells #[.int .i64 0, .int .i64 0, .string ⟨#[]⟩, .int .i64 0, .int .i64 0] 32)) := Lib.hid (heap_new _ _)
  have HLT : Hid (w.heap.size ≤ w3.heap.size) := Lib.hid ((HK2.out.trans k3).size)
  have HNE : Hid (w1.heap.size ≠ w3.heap.size) := Lib.hid (by have := lt_of_heap (k3.get HB2.out (fun x => x)); omega)
  have HGF : Hid (G1 w3.heap.size = none) := Lib.hid (h1.fresh (Nat.le_refl _))
  have HRA := Lib.hid ra; have HLA := Lib.hid la
  have HK34 := Lib.hid (And.intro (k3.trans k4) k3.size)
  obtain ⟨ao3, x3, rfl, -⟩ := slr_shp sa
  have HSA := Lib.hid sa
  clear k3 k4 hr5 b3 g1 h1 ra sa la
  rw [List.length_map]
  unfold faultT
  go_wp2_with fail
  refine HR5.out.mono ?_
  rintro e w5 ⟨k5, pb2, pv2, G2, rfl, g2, h2, rb, sbb, lb⟩
  have b5 := k5.get HB3.out (fun x => x)
  have b6 := k5.get HB4.out (fun x => x)
  obtain ⟨hz, hfz⟩ := fz_cellsT b6
  have z0 := hz 0 _ rfl; have z1 := hz 1 _ rfl; have z2 := hz 2 _ rfl; have z3 := hz 3 _ rfl; have z4 := hz 4 _ rfl
  have HK5 := Lib.hid (HK4.out.trans k5)
  have HB5 := Lib.hid b5; have HB6 := Lib.hid b6
  have HG2 := Lib.hid g2; have HH2 := Lib.hid h2; have HRB := Lib.hid rb; have HLB := Lib.hid lb
  obtain ⟨ao5, x5, hpv, -⟩ := slr_shp sbb
  subst hpv
  have HSB := Lib.hid sbb
  have HK25 : Hid (Keep none' (w1.alloc (.cells #[.int .i64 fw, .int .i64 0, .string ⟨#[]⟩, .int .i64 0, .int .i64 0] 28)) w5 ∧ (w1.alloc (.cells #[.int .i64 fw, .int .i64 0, .string ⟨#[]⟩, .int .i64 0, .int .i64 0] 28)).heap.size ≤ w3.heap.size) := Lib.hid ⟨HK34.out.1.trans k5, HK34.out.2⟩
  have HG2F : Hid (G2 w3.heap.size = none) := Lib.hid ((g2.eq _ (by rw [size_alloc]; omega)).trans HGF.out)
  clear k5 b5 b6 g2 h2 rb sbb lb hz
  rw [List.length_map]
  unfold faultT
  have hmk := make_ptrs st.m.length HLA.out
  go_wp2_with fail
  obtain ⟨W4, hW4⟩ : ∃ W4, W4 = (((((w5.setCell ⟨w3.heap.size, 0, none⟩ (.int .i64 0)).setCell ⟨w3.heap.size, 1, none⟩ (.int .i64 0)).setCell ⟨w3.heap.size, 2, none⟩ (.string ⟨#[]⟩)).setCell ⟨w3.heap.size, 3, none⟩ (.int .i64 0)).setCell ⟨w3.heap.size, 4, none⟩ (.int .i64 0)) := ⟨_, rfl⟩
  have e3 : W4.heap[w1.heap.size]? = some (.cells #[.int .i64 fw, .int .i64 0, .string ⟨#[]⟩, .int .i64 0, .int .i64 0] 28) := by rw [hW4]; exact (keep5oT w5 w3.heap.size _ _ _ _ _).get HB5.out (fun e => HNE.out (by rw [show w1.heap.size = w3.heap.size from e]))
  have K4 : Keep none' w W4 := by
    rw [hW4]
    exact HK5.out.trans' (keep5oT w5 w3.heap.size _ _ _ _ _) (fun _ _ x => x) (fun b hb (e : b = w3.heap.size) => by have := HLT.out; omega)
  have K24 : Keep none' (w1.alloc (.cells #[.int .i64 fw, .int .i64 0, .string ⟨#[]⟩, .int .i64 0, .int .i64 0] 28)) W4 := by
    rw [hW4]
    exact HK25.out.1.trans' (keep5oT w5 w3.heap.size _ _ _ _ _) (fun _ _ x => x) (fun b hb (e : b = w3.heap.size) => by have := HK25.out.2; omega)
  have hH4 : Holds G2 W4 := by
    rw [hW4]
    exact HH2.out.keep (keep5oT w5 w3.heap.size _ _ _ _ _) (fun b o hb (e : b = w3.heap.size) => by subst e; rw [HG2F.out] at hb; cases hb)
  have hsz : W4.heap.size = w5.heap.size := by rw [hW4]; simp
  have HE3 := Lib.hid e3; have HK4' := Lib.hid K4
  have HL3 := Lib.hid (HL1.out.keep K24); have HL4 := Lib.hid (HL2.out.keep K24)
  have HH4 := Lib.hid hH4
  rw [← hW4]
  clear hW4 e3 K4 K24 hH4 z0 z1 z2 z3 z4 hfz
  have HF4 : Hid (G2 W4.heap.size = none) := Lib.hid (HH4.out.fresh (Nat.le_refl _))
  have hsub : G2.sub (G2.put W4.heap.size (.cells (rowP st.m.length) 38)) := GH.sub_put HF4.out
  have hh5 : Holds (G2.put W4.heap.size (.cells (rowP st.m.length) 38)) (W4.alloc (.cells (rowP st.m.length) 38)) := (HH4.out.keep0 (Keep.alloc _ _ _)).put (heap_new _ _)
  have hcall := HMP.out _ pb pb2 (.slice (some ⟨W4.heap.size, 0, none⟩) st.m.length st.m.length) ((HRA.out.sub HG2.out.sub).sub hsub) (HRB.out.sub hsub) (gotR_made (GH.put_same _ _ _)) HLA.out _ hh5
  unfold MtQ at hcall
  rw [hsz] at hcall hsub
  have HCALL := Lib.hid hcall
  have HSUB := Lib.hid hsub
  clear hcall hsub hh5 hmk hsz
  (with_reducible refine HCALL.out.mono ?_)
  cases R with
  | none =>
    rintro e w7 ⟨k7, yo, yn, yc, G4, g4, h4, rfl⟩
    have k8 := (Keep.alloc none' W4 (.cells (rowP st.m.length) 38)).trans k7
    have b8 := k8.get HE3.out (fun x => x)
    have HK8 := Lib.hid (HK4'.out.trans k8)
    obtain ⟨rfl, rfl⟩ := HR.out
    have c8 : w7.cell? ⟨w1.heap.size, 0, none⟩ = some (.int .i64 11) := cell_of_heap b8 rfl
    clear k7 g4 h4 k8 b8
    go_wp2_with fail
    go_ret
    exact ⟨rfl, HK8.out⟩
  | some got =>
    rintro e w7 ⟨k7, yo, yn, yc, G4, g4, h4, rfl, o4⟩
    have k8 := (Keep.alloc none' W4 (.cells (rowP st.m.length) 38)).trans k7
    have b8 := k8.get HE3.out (fun x => x)
    have HK8 := Lib.hid (HK4'.out.trans k8)
    obtain ⟨rfl, rfl, hgl, hLl, hUl, hup, hall⟩ := HR.out
    have c8 : w7.cell? ⟨w1.heap.size, 0, none⟩ = some (.int .i64 0) := cell_of_heap b8 rfl
    have hs4 := HSUB.out.trans g4.sub
    have hn1 : n1 = st.m.length := by
      obtain ⟨_, _, e, _⟩ := HL3.out
      injection e with e1 e2 e3; omega
    have hn2 : n2 = st.m.length := by
      obtain ⟨_, _, e, _⟩ := HL4.out
      injection e with e1 e2 e3; omega
    have hyn : yn = got.length := by
      obtain ⟨os, ol, osl, _⟩ := o4
      obtain ⟨_, _, e, _⟩ := slr_shp osl
      injection e with e1 e2 e3
      rw [e2, List.length_map, ol]
    subst hn1; subst hn2; subst hyn
    have hsa : SlR G4 (.slice ao3 st.m.length x3) (st.m.map fun p => .string (bs p.1)) := by
      have := (HSA.out.sub HG2.out.sub).sub hs4
      rwa [List.length_map] at this
    have hsb : SlR G4 (.slice ao5 sb.m.length x5) (sb.m.map fun p => .string (bs p.1)) := by
      have := HSB.out.sub hs4
      rwa [List.length_map] at this
    have hlf := loopF_of (pv2 := .slice ao5 sb.m.length x5) h4 (HL3.out.keep k8) (HL4.out.keep k8) hsa o4 hsb hgl hLl hUl hup HLB.out HSX.out hall
    have HLF := Lib.hid hlf
    rw [hgl]
    have hM := HLA.out
    obtain ⟨M, hMM⟩ : ∃ M, M = st.m.length := ⟨_, rfl⟩
    rw [← hMM] at HLF hM ⊢
    obtain ⟨N, hN⟩ : ∃ N, N = st.m.map (·.1) := ⟨_, rfl⟩
    rw [← hN] at HLF
    clear k7 g4 h4 k8 b8 o4 hgl hLl hUl hup hall hs4 hsa hsb hlf
    clear HP2 HRD HRD2 HMP HR HSX HR3 HK2 HB2 HL1 HL2 HR5 HK4 HB3 HB4 HLT HNE HGF HRA HLA HSA HK34 HK5 HB5 HB6 HG2 HH2 HRB HLB HSB HK25 HG2F HE3 HK4' HL3 HL4 HH4 HF4 HCALL HSUB
    clear hMM hN
    go_wp2_with fail
    go_loopg [98] M (fun gz s98 wr => ∃ k : Nat, k ≤ M ∧ Hid (gz = M - k) ∧ s98 = .int .i64 k ∧ Hid (∃ m, wr = w7.drewN m))
    case atStart => exact ⟨0, by omega, Lib.hid rfl, rfl, Lib.hid ⟨0, rfl⟩⟩
    case round =>
      obtain ⟨k, hk, HM, rfl, HWR⟩ := hrel
      have h0k : (0 : Int) ≤ (k : Int) := by omega
      by_cases hlt : k < M
      · have hkk : (k : Int) < (M : Int) := by omega
        have hkN : k < N.length := by rw [HLF.out.n3]; exact hlt
        obtain ⟨lb3, rfl, d3⟩ := HLF.out.l3 k hkN
        obtain ⟨lb4, kk, Sh, rfl, d4, hsh, hmem, hall⟩ := HLF.out.sh k hkN
        have c3 : wr.cell? ⟨lb3, k, none⟩ = some (.string (bs N[k])) := by obtain ⟨m, e⟩ := HWR.out; rw [e]; exact d3
        obtain ⟨nk, hnk⟩ : ∃ nk, nk = N[k] := ⟨_, rfl⟩
        rw [← hnk] at c3 hmem hall
        have HSH := Lib.hid hsh; have HMEM := Lib.hid hmem; have HALL := Lib.hid hall; have HD4 := Lib.hid d4
        clear hsh hmem hall d3 d4 hnk hkN c8
        go_wp2_with fail
        go_loopg [105] M (fun gy s105 wr => ∃ i : Nat, i ≤ M ∧ Hid (gy = M - i) ∧ s105 = .int .i64 i ∧ Hid (∃ m, wr = w7.drewN m))
        case atStart => exact ⟨0, by omega, Lib.hid rfl, rfl, HWR⟩
        case round =>
          obtain ⟨i, hi, HM2, rfl, HWR2⟩ := hrel
          have h0i : (0 : Int) ≤ (i : Int) := by omega
          by_cases hlt2 : i < M
          · have hii : (i : Int) < (M : Int) := by omega
            have hiL : i < L.length := by rw [HLF.out.n1]; exact hlt2
            have hiU : i < U.length := by rw [HLF.out.n2]; exact hlt2
            obtain ⟨lb1, rfl, d1⟩ := HLF.out.l1 i hiL
            obtain ⟨lb2, rfl, d2⟩ := HLF.out.l2 i hiU
            have hce : ∀ a : Addr, wr.cell? a = w7.cell? a := fun a => by obtain ⟨m, e⟩ := HWR2.out; rw [e]; rfl
            have f1 : wr.cell? ⟨lb1, i, none⟩ = some (.string (bs L[i])) := by rw [hce]; exact d1
            have f2 : wr.cell? ⟨lb2, i, none⟩ = some (.string (bs U[i])) := by rw [hce]; exact d2
            have f4 : wr.cell? ⟨lb4, k, none⟩ = some (.pointer (some ⟨kk, 0, none⟩)) := by rw [hce]; exact HD4.out
            have f0 : ∀ j (hj : j < L.length), wr.cell? ⟨lb1, j, none⟩ = some (.string (bs L[j])) := fun j hj => by
              obtain ⟨lb, e, d⟩ := HLF.out.l1 j hj
              injection e with e; injection e with e
              rw [hce, e]; exact d
            have hsq : ∀ n, ShQ kk (.slice ao5 sb.m.length x5) Sh (wr.drewN n) := fun n => by
              obtain ⟨m, e⟩ := HWR2.out
              rw [e, World.drewN_drewN]; exact HSH.out _
            have hnx : ∀ n, Hid (∃ m, wr.drewN n = w7.drewN m) := fun n => Lib.hid (by
              obtain ⟨m, e⟩ := HWR2.out
              exact ⟨_, by rw [e, World.drewN_drewN]⟩)
            have HSQ := Lib.hid hsq; have HNX := Lib.hid hnx
            have hui : L[i] = nk → U[i] = Sh := fun e => by
              have := HALL.out i hiL e
              rw [List.getElem?_eq_getElem hiU] at this
              exact Option.some.inj this
            have q1 : ((bs L[i]).toList == (bs nk).toList) = decide (L[i] = nk) := str_cc _ _
            obtain ⟨Li, hLi⟩ : ∃ Li, Li = L[i] := ⟨_, rfl⟩
            obtain ⟨Ui, hUi⟩ : ∃ Ui, Ui = U[i] := ⟨_, rfl⟩
            have hup : ∀ j (hj : i = j + 1), Op.bytesLess (bs (L[j]'(by omega))).toList (bs Li).toList = true := fun j hj => by
              have := HLF.out.up j (by omega)
              rw [bytesLess_eq, decide_eq_true_eq]
              have e : ∀ l : Str, (bs l).toList = l := fun l => by rw [ByteArray.toList_eq]; exact bs_toList l
              rw [e, e, hLi]
              simp only [hj]; exact this
            rw [← hLi] at f1 q1 hui; rw [← hUi] at f2 hui
            have hq4 : 0 < i → ∃ (j : Nat) (Lp : Str), i = j + 1 ∧ wr.cell? ⟨lb1, j, none⟩ = some (.string (bs Lp)) ∧ Op.bytesLess (bs Lp).toList (bs Li).toList = true := fun h =>
              ⟨i - 1, L[i - 1], by omega, f0 _ _, hup _ (by omega)⟩
            clear hsq hnx hce d1 d2 f0 hup hLi hUi
            by_cases hq : Li = nk
            · have hu2 := hui hq
              rw [decide_eq_true hq] at q1
              have q2 : ((bs Ui).toList == (bs Sh).toList) = true := by rw [str_cc, hu2]; simp
              clear hui hu2 hq
              by_cases hp : 0 < i
              · obtain ⟨j, Lp, rfl, f5, q4⟩ := hq4 hp
                have q3 : decide ((0 : Int) < ((j + 1 : Nat) : Int)) = true := by rw [decide_eq_true_eq]; omega
                go_wp2_with fail
                go_quiet (with_reducible exact (HSQ.out _).quiet)
                go_wp2_with fail
                go_roundg (M - (j + 1 + 1))
                case measure => have := HM2.out; omega
                case rel => exact ⟨j + 1 + 1, by omega, Lib.hid rfl, by go_num, HNX.out _⟩
              · have q3 : decide ((0 : Int) < (i : Int)) = false := by rw [decide_eq_false_iff_not]; omega
                clear hq4
                go_wp2_with fail
                go_quiet (with_reducible exact (HSQ.out _).quiet)
                go_wp2_with fail
                go_roundg (M - (i + 1))
                case measure => have := HM2.out; omega
                case rel => exact ⟨i + 1, by omega, Lib.hid rfl, by go_num, HNX.out _⟩
            · rw [decide_eq_false hq] at q1
              clear hui hq
              by_cases hp : 0 < i
              · obtain ⟨j, Lp, rfl, f5, q4⟩ := hq4 hp
                have q3 : decide ((0 : Int) < ((j + 1 : Nat) : Int)) = true := by rw [decide_eq_true_eq]; omega
                go_wp2_with fail
                go_quiet (fail)
                go_wp2_with fail
                go_roundg (M - (j + 1 + 1))
                case measure => have := HM2.out; omega
                case rel => exact ⟨j + 1 + 1, by omega, Lib.hid rfl, by go_num, HNX.out _⟩
              · have q3 : decide ((0 : Int) < (i : Int)) = false := by rw [decide_eq_false_iff_not]; omega
                clear hq4
                go_wp2_with fail
                go_quiet (fail)
                go_wp2_with fail
                go_roundg (M - (i + 1))
                case measure => have := HM2.out; omega
                case rel => exact ⟨i + 1, by omega, Lib.hid rfl, by go_num, HNX.out _⟩
          · have hie : M = i := by omega
            subst hie
            have hrow : RowT L (.slice ao1 M x1) wr := ⟨ao1, x1, by rw [HLF.out.n1], fun i hi => by
              obtain ⟨lb, e, d⟩ := HLF.out.l1 i hi
              obtain ⟨m, e2⟩ := HWR2.out
              exact ⟨lb, e, by rw [e2]; exact d⟩⟩
            have hin := tr_lin hrow (by rw [HLF.out.n1]; exact hM) nk
            rw [decide_eq_true HMEM.out] at hin
            have HIN := Lib.hid hin
            clear hrow hin
            go_wp2_with fail
            refine HIN.out.mono ?_
            rintro e w2 ⟨rfl, rfl⟩
            go_wp2_with fail
            go_roundg (M - (k + 1))
            case measure => have := HM.out; omega
            case rel => exact ⟨k + 1, by omega, Lib.hid rfl, by go_num, HWR2⟩
      · have hie : k = M := by omega
        subst hie
        clear c8
        go_wp2_with fail
        go_ret
        refine ⟨rfl, ?_⟩
        obtain ⟨m, e⟩ := HWR.out
        rw [e]; exact HK8.out.trans (Keep.drewN _ _ _)
end Go.Proofs.YtabikmkoajdhmaaDoor

set_option linter.unusedVariables false
set_option linter.unusedSimpArgs false
set_option linter.unnecessarySimpa false
namespace Go.Proofs.YtabikmkoajdhmaaDoor
open Go.RowKit

theorem instances_law (p : Nat → Addr) (S T : Str) (hm : S.length ≤ 9223372036854775807) (hm2 : T.length ≤ 9223372036854775807) (w : World) (hs : Sents p w) (hw : KindsL w) :
    Calls Tryd.prog 6 #[.string (bs S), .string (bs T)] w fun e w' => e = .returned (.bool true) ∧ Keep none' w w' := by
  obtain ⟨rg, hrg, -⟩ := tr_parsed noG S w (noG_holds _) hw
  obtain ⟨rs, hrs, -⟩ := tr_parsed noG T w (noG_holds _) hw
  have hpg : ∀ G W, Keep none' w W → Holds G W → Calls Tryd.prog 13 #[.string (bs S)] W (PrPost G W rg) := fun G W k hG => by
    obtain ⟨r', hr', h⟩ := tr_parsed G S W hG (hw.keep0 k)
    have e := hrg.symm.trans hr'
    injection e with e
    rw [e]; exact h
  have hpt : ∀ G W, Keep none' w W → Holds G W → Calls Tryd.prog 13 #[.string (bs T)] W (PrPost G W rs) := fun G W k hG => by
    obtain ⟨r', hr', h⟩ := tr_parsed G T W hG (hw.keep0 k)
    have e := hrs.symm.trans hr'
    injection e with e
    rw [e]; exact h
  have hI : ∀ r, instF S T = some r → Calls Tryd.prog 15 #[.string (bs S), .string (bs T)] w (PInstPost w r) := fun r hr => plain_inst p (bs S) (bs T) w hs (by rw [bs_size]; exact hm) (by rw [bs_size]; exact hm2) (by rw [bytes_bs, bytes_bs]; exact hr)
  cases rg with
  | error f =>
    obtain ⟨z1, z2, z3, z4⟩ := readTy_flt hrg
    have hv : fltV f = faultV f.what f.pos ⟨#[]⟩ 0 0 := by unfold fltV; rw [z1, z2, z3]; rfl
    refine instances_badG S T f.what f.pos z4 w ((hI _ (inst_bad1 hrg)).mono ?_) (fun W k => (hpg noG W k (noG_holds _)).mono ?_)
    · rintro e w' ⟨nv, tv, rfl, k, -, -⟩
      exact ⟨nv, tv, by rw [← hv]; rfl, k⟩
    · rintro e w' ⟨k, rfl⟩
      exact ⟨k, rfl⟩
  | ok ga =>
    obtain ⟨a, st⟩ := ga
    cases rs with
    | error f =>
      obtain ⟨z1, z2, z3, z4⟩ := readTy_flt hrs
      have hv : fltV f = faultV f.what f.pos ⟨#[]⟩ 0 0 := by unfold fltV; rw [z1, z2, z3]; rfl
      refine instances_badS S T f.what f.pos z4 w ((hI _ (inst_bad2 hrg hrs)).mono ?_) (fun W k => (hpg noG W k (noG_holds _)).mono ?_) (fun W k => (hpt noG W k (noG_holds _)).mono ?_)
      · rintro e w' ⟨nv, tv, rfl, k, -, -⟩
        exact ⟨nv, tv, by rw [← hv]; rfl, k⟩
      · rintro e w' ⟨k, b, nv, G', rfl, -, -, -, -, -⟩
        exact ⟨k, b, nv, rfl⟩
      · rintro e w' ⟨k, rfl⟩
        exact ⟨k, rfl⟩
    | ok gb =>
      obtain ⟨b, sb⟩ := gb
      have hir := inst_ref hrg hrs
      cases hR : matchR a b (List.replicate st.n none) with
      | none =>
        rw [hR] at hir
        simp only at hir
        refine instances_ok S T w hrg hrs true 11 [] [] ((hI _ hir).mono ?_) (fun G W k h => hpg G W k h) (fun G W k h => hpt G W k h) (by rw [hR]; exact ⟨rfl, rfl⟩)
        rintro e w' ⟨nv, tv, rfl, k, o1, o2⟩
        have e0 : instN (mOf (.error { what := 11 })) = [] := by simp [mOf, instN, sortS]
        have e1 : instT (mOf (.error { what := 11 })) = [] := by unfold instT; rw [e0]; rfl
        rw [e0] at o1 o2; rw [e1] at o2
        obtain ⟨ao1, c1, rfl, -⟩ := own_shape o1
        obtain ⟨ao2, c2, rfl, -⟩ := own_shape o2
        exact ⟨ao1, _, c1, ao2, _, c2, rfl, k, rowT_own rfl o1, rowT_own rfl o2⟩
      | some got =>
        obtain ⟨m, h1, h2, h3, h4, h5, h6⟩ := inst_law hrg hrs hR
        refine instances_ok S T w hrg hrs false 0 (instN m) (instT m) ((hI _ h1).mono ?_) (fun G W k h => hpg G W k h) (fun G W k h => hpt G W k h) (by rw [hR]; exact ⟨rfl, rfl, h2, h3, h4, h5, h6⟩)
        rintro e w' ⟨nv, tv, rfl, k, o1, o2⟩
        have o1' : w'.ownsRow w.heap.size 9 1 nv (instN m).length (strsV (instN m)) := o1
        have o2' : w'.ownsRow w.heap.size 9 1 tv (instN m).length (strsV (instT m)) := o2
        obtain ⟨ao1, c1, rfl, -⟩ := own_shape o1'
        obtain ⟨ao2, c2, rfl, -⟩ := own_shape o2'
        exact ⟨ao1, _, c1, ao2, _, c2, rfl, k, rowT_own rfl o1', rowT_own (by rw [h3, h4]) o2'⟩
end Go.Proofs.YtabikmkoajdhmaaDoor

set_option linter.unusedVariables false
set_option linter.unusedSimpArgs false
set_option linter.unnecessarySimpa false
namespace Go.Proofs.YtabikmkoajdhmaaDoor
open Go.ChangeShapes Go.WideShapes Go.RowKit Go.ChangeMaps

theorem instances_door (os : Os) (args : Array Value) : laidMetH Tryd.prog Rows.instancesRow.laid ((World.doorLaid Tryd.prog 400 os).forCall (fun _ _ => 0) ⟨#[], args, []⟩).memory :=
  laidMetH_of_parts3 (fuel := 8) (laidMet_of_run' 8 (by kernel_rfl) (by kernel_rfl)) (by kernel_rfl) (by kernel_rfl)

set_option maxRecDepth 100000 in
theorem instances_lifted (os : Os) (started : os.Started) (H : Type) (enc : TypeId × Value → H) :
    ReturnsInHanded {} Tryd.checked os 6 .any (fun w args => (Rows.instancesSpec.pre enc Tryd.prog Tryd.f6 [] false w args ∧ laidMetH Tryd.prog Rows.instancesRow.laid w) ∧ sizedMet enc Tryd.prog Tryd.f6 (OpenSpec.ofChange Rows.instancesSpec) false w args)
      (Rows.instancesSpec.post enc Tryd.prog Tryd.f6 false true false false) := by
  refine returnsInHanded_of_change_and (C := Tryd.checked) (X := fun w _ => laidMetH Tryd.prog Rows.instancesRow.laid w) (fun _ _ _ hh h => h.of_heap hh) lOwn started (by kernel_rfl) Tryd.func6
    (ChangeSpec.witness_shaped (enc := enc) (C := Tryd.checked) (os := os) (X := fun w _ => laidMetH Tryd.prog Rows.instancesRow.laid w) false (World.doorLaid Tryd.prog 400 os) #[.string ⟨#[]⟩, .string ⟨#[]⟩] 8 rfl (World.shaped_of_RefB (by kernel_rfl) (by kernel_rfl)) (by kernel_rfl) (by kernel_rfl) (by kernel_rfl) (instances_door os _)) ?_
  intro W base args ds gs before hval0 hW _ _ hL _
  have hW' := hW
  obtain ⟨p, q, hA0, hV0, rfl, hfz, hnd⟩ := hW
  have hA : DataW.TrodAll enc Tryd.prog W 0 (fun _ => true) true Tryd.f6.params.toList args.toList ds p := hA0
  have hV : DataW.TrodVars enc Tryd.prog W (fun _ => true) [] gs q := hV0
  rw [Tryd.params6] at hA
  obtain ⟨v0, vs0, d0, ds0, p0, q0, hargs, rfl, rfl, h0, r0⟩ := trodAll_cons hA
  obtain ⟨v1, vs1, d1, ds1, p1, q1, hargs1, rfl, rfl, h1, r1⟩ := trodAll_cons r0
  obtain ⟨rfl, rfl, rfl⟩ := trodAll_nil r1
  obtain rfl : args = #[v0, v1] := by cases args; simp_all
  have hval : ∀ (j : Nat) t v, Tryd.f6.params[j]? = some t → (#[v0, v1] : Array Value)[j]? = some v → Value.okWide Tryd.prog W .any base t v := hval0
  rw [Tryd.params6] at hval
  obtain ⟨s0, rfl, rfl, rfl, w0⟩ := open_string Tryd.underlying9 (hval 0 9 v0 rfl rfl) h0
  obtain ⟨s1, rfl, rfl, rfl, w1⟩ := open_string Tryd.underlying9 (hval 1 9 v1 rfl rfl) h1
  obtain ⟨rfl, rfl⟩ : gs = [] ∧ q = [] := by
    cases gs with
    | nil => exact ⟨rfl, hV⟩
    | cons g r => exact absurd hV (by intro h; cases h)
  obtain ⟨pp, hs⟩ := sents_of_laid (pre := [("typer/typerref.kinds", Rows.laid_typer_typerref_kinds)]) hL rfl rfl
  have hw := kinds_of_laid (pre := []) (r := SENT) hL rfl rfl
  have e1 : Rows.instancesSpec.fn H ([.lit (.string s0.data.toList), .lit (.string s1.data.toList)] ++ []) = { results := [.lit (.bool true)], args := [.lit (.string s0.data.toList), .lit (.string s1.data.toList)] } := by simp [Rows.instancesSpec]
  have z0 : s0.data.toList.length ≤ 9223372036854775807 := Nat.le_trans (Nat.le_of_eq (bytes_length s0)) w0
  have z1 : s1.data.toList.length ≤ 9223372036854775807 := Nat.le_trans (Nat.le_of_eq (bytes_length s1)) w1
  have hr := instances_law pp s0.data.toList s1.data.toList z0 z1 W hs hw
  rw [bs_eta, bs_eta] at hr
  refine hr.mono fun e W' ⟨he, hk⟩ => ?_
  subst he
  refine ⟨_, rfl, _, _, _, [], [], [], hW', ?_, ?_, ?_, hk.frame _, fun h => by cases h⟩
  · rw [e1]; exact trodAll_mk1 (shut_bool Tryd.underlying4 true)
  · rw [e1]; exact trodAll_mk2 (shut_string Tryd.underlying9 w0) (shut_string Tryd.underlying9 w1)
  · rw [e1]; rfl

theorem instances_holds : Rows.InstancesSaid :=
  OpenClaim.holds_of_wide 6 Tryd.f6 rfl rfl rfl rfl rfl rfl rfl ⟨rfl, rfl, rfl, rfl, rfl⟩ rfl rfl rfl rfl rfl (by kernel_rfl) Tryd.func6 (by kernel_rfl)
    (of_decide_eq_true (by kernel_rfl)) (by unfold Func.isWrapper; rw [if_neg (of_decide_eq_false (by kernel_rfl))]; exact ⟨rfl, rfl⟩)
    (fun os started H enc _ => instances_lifted os started H enc)

theorem instances_card : Rows.InstancesCardSaid :=
  Claim7.holds_tied_plain_at .later [] [.widerDeep, .handle, .sentinel, .sentinel, .sentinel, .sentinel, .sentinel, .sentinel, .sentinel, .sentinel] true Rows.instancesCard.stood.harness true
    instances_holds (fun _ h => by cases h) (by kernel_rfl) (fun _ h => by cases h) instances_row_tie rfl ⟨rfl, rfl⟩ (by kernel_rfl) rfl
    (fun f fn hf hfn => by
      obtain rfl : f = 6 := Option.some.inj ((show Tryd.prog.funcNamed "typer/typerlaw.Instances" = some 6 by kernel_rfl).symm.trans hf) |>.symm
      obtain rfl : fn = Tryd.f6 := (Option.some.inj (Tryd.func6.symm.trans hfn)).symm
      exact ⟨by kernel_rfl, fun j t ht => by
        rw [Tryd.params6] at ht
        cases j with
        | zero => simp at ht; subst ht; kernel_rfl
        | succ j =>
          cases j with
          | zero => simp at ht; subst ht; kernel_rfl
          | succ j => simp at ht⟩)
    (by kernel_rfl)
#print axioms instances_card
end Go.Proofs.YtabikmkoajdhmaaDoor
