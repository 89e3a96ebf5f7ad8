/- The switch of typerref.tokens by a contract: what a token is by its first byte, and where it ends. -/
import Derived.Test.YtabikmkoajdhmaaDoorTrTokP
set_option linter.unusedVariables false
set_option linter.unusedSimpArgs false
set_option linter.unnecessarySimpa false
namespace Go.Proofs.YtabikmkoajdhmaaDoor
open Go.RowKit

/-- A block of a body by its number. -/
def findB (n : Nat) : Code → Option Code
  | .block m c => if m = n then some (.block m c) else findB n c
  | .seq a b => (match findB n a with | some c => some c | none => findB n b)
  | .loop c => findB n c
  | .cond _ a b => (match findB n a with | some c => some c | none => findB n b)
  | _ => none
noncomputable def tokSw : Code := match Tryd.f23.body with
  | some c => (match findB 4 c with | some d => d | none => .skip)
  | none => .skip
set_option maxRecDepth 100000 in
set_option maxHeartbeats 8000000 in
theorem tok_sw {kw : Str → Bool} {S : Str} (hl : S.length ≤ 1000) (HSZ : Hid ((bs S).size = S.length)) {w wA W : World} {j : Nat} (hjl : j ≤ S.length) (c0 : W.cell? ⟨wA.heap.size, 0, none⟩ = some (.string (bs rNONE))) (f0 : W.frozen? ⟨wA.heap.size, 0, none⟩ = false) (HB : Hid (W.heap[wA.heap.size]? = some (TKO rNONE [] j))) (HKB : Hid (Keep none' wA W))
    (HPUT : Hid (∀ (W' : World) (k : Str), W'.heap[wA.heap.size]? = some (TKO rNONE [] j) → (W'.setCell ⟨wA.heap.size, 0, none⟩ (.string (bs k))).heap[wA.heap.size]? = some (TKO k [] j))) (HPUTK : Hid (∀ (W' : World) (k : Str), Keep none' wA W' → Keep none' wA (W'.setCell ⟨wA.heap.size, 0, none⟩ (.string (bs k)))))
    {K1 J K' : Act → World → Prop} {v1 v2 v3 v4 v5 v9 v10 v11 v12 v13 v14 v15 v16 v17 v18 v19 v20 v21 v22 v23 v24 v25 v26 v27 v28 v29 v30 v31 v32 v33 v34 v35 v36 v37 v38 v39 v40 v41 v42 v43 v44 v45 v46 v47 v48 v49 v50 v51 v52 v53 v54 v55 v56 v57 v58 v59 v60 v61 v62 v63 v64 v65 v66 v67 v68 v69 v70 v71 v72 v73 v74 v75 v76 v77 v78 v79 v80 v81 v82 v83 v84 v85 v86 v87 v88 v89 v90 v91 v92 v93 v94 v95 v96 v97 v98 v99 v100 v101 v102 v103 v104 v105 v106 v107 v108 v109 v110 v111 v112 v113 v114 v115 v116 v117 v118 v119 v120 v121 v122 v123 v124 v125 v126 v127 v128 v129 v130 v131 v132 v133 v134 v135 v136 v137 v138 v139 v140 v141 v142 v143 v144 v145 v146 v147 v148 v149 v150 v151 v152 v153 v154 v155 v156 v157 v158 v159 v160 v161 v162 v163 v164 v165 v166 v167 v168 v169 v170 v171 v172 v173 v174 v175 v176 : Value}
    (hJ : ∀ (a' : Act) (w' : World), (∃ u8 u10 u13 u14 u15 u16 u17 u18 u19 u20 u21 u22 u23 u24 u25 u26 u27 u28 u29 u30 u31 u32 u33 u34 u35 u36 u37 u38 u39 u40 u41 u42 u43 u44 u45 u46 u47 u48 u49 u50 u51 u52 u53 u54 u55 u56 u57 u58 u59 u60 u61 u62 u63 u64 u65 u66 u67 u68 u69 u70 u71 u72 u73 u74 u75 u76 u77 u78 u79 u80 u81 u82 u83 u84 u85 u86 u87 u88 u89 u90 u91 u92 u93 u94 u95 u96 u97 u98 u99 u100 u101 u102 u103 u104 u105 u106 u107 u108 u109 u110 u111 u112 u113 u114 u115 u116 u117 u118 u119 u120 u121 u122 u123 u124 u125 u126 u127 u128 u129 u130 u131 u132 u133 u134 u135 u136 u137 u138 u139 u140 u141 u142 u143 u144 u148 u149 u150 u151 u152 u153 u154 u155 u156 u157 u158 u159 u160 u161 u162 u163 u164 u165 u166 u167 u168 u169 u170 u171 u172 u173 u174 u175 u176, (u8 = .int .i64 (preK S j).2 ∧ Hid (w'.heap[wA.heap.size]? = some (TKO (preK S j).1 [] j)) ∧ Hid (Keep none' wA w')) ∧ a' = { tmps := #[.string (bs S), v1, v2, v3, v4, v5, .int .i64 j, .pointer (some ⟨wA.heap.size, 0, none⟩), u8, v9, u10, v11, v12, u13, u14, u15, u16, u17, u18, u19, u20, u21, u22, u23, u24, u25, u26, u27, u28, u29, u30, u31, u32, u33, u34, u35, u36, u37, u38, u39, u40, u41, u42, u43, u44, u45, u46, u47, u48, u49, u50, u51, u52, u53, u54, u55, u56, u57, u58, u59, u60, u61, u62, u63, u64, u65, u66, u67, u68, u69, u70, u71, u72, u73, u74, u75, u76, u77, u78, u79, u80, u81, u82, u83, u84, u85, u86, u87, u88, u89, u90, u91, u92, u93, u94, u95, u96, u97, u98, u99, u100, u101, u102, u103, u104, u105, u106, u107, u108, u109, u110, u111, u112, u113, u114, u115, u116, u117, u118, u119, u120, u121, u122, u123, u124, u125, u126, u127, u128, u129, u130, u131, u132, u133, u134, u135, u136, u137, u138, u139, u140, u141, u142, u143, u144, v145, v146, v147, u148, u149, u150, u151, u152, u153, u154, u155, u156, u157, u158, u159, u160, u161, u162, u163, u164, u165, u166, u167, u168, u169, u170, u171, u172, u173, u174, u175, u176], defers := [] }) → J a' w') (hK : ∀ (a' : Act) (w' : World), Met J a' w' → K' a' w') :
    Code.wp Tryd.prog tokSw (Exit.then K' (Exit.inBlock 1 (Exit.then K1 (Exit.inBlock 0 (bodyPost Tryd.prog Tryd.f23 (TokPost kw S w)))))) { tmps := #[.string (bs S), v1, v2, v3, v4, v5, .int .i64 j, .pointer (some ⟨wA.heap.size, 0, none⟩), .int .i64 j, v9, v10, v11, v12, v13, v14, v15, v16, v17, v18, v19, v20, v21, v22, v23, v24, v25, v26, v27, v28, v29, v30, v31, v32, v33, v34, v35, v36, v37, v38, v39, v40, v41, v42, v43, v44, v45, v46, v47, v48, v49, v50, v51, v52, v53, v54, v55, v56, v57, v58, v59, v60, v61, v62, v63, v64, v65, v66, v67, v68, v69, v70, v71, v72, v73, v74, v75, v76, v77, v78, v79, v80, v81, v82, v83, v84, v85, v86, v87, v88, v89, v90, v91, v92, v93, v94, v95, v96, v97, v98, v99, v100, v101, v102, v103, v104, v105, v106, v107, v108, v109, v110, v111, v112, v113, v114, v115, v116, v117, v118, v119, v120, v121, v122, v123, v124, v125, v126, v127, v128, v129, v130, v131, v132, v133, v134, v135, v136, v137, v138, v139, v140, v141, v142, v143, v144, v145, v146, v147, v148, v149, v150, v151, v152, v153, v154, v155, v156, v157, v158, v159, v160, v161, v162, v163, v164, v165, v166, v167, v168, v169, v170, v171, v172, v173, v174, v175, v176], defers := [] } W := by
  conv => arg 2; whnf
  have h0 : (0 : Int) ≤ (j : Int) := by omega
  by_cases hlt : j < S.length
  · have hz : j < (bs S).size := by rw [HSZ.out]; exact hlt
    have hzi : ((j : Int) < ((bs S).size : Int)) := by omega
    have hne : ((j : Int) == ((bs S).size : Int)) = false := by simp; omega
    have ec := bs_at S hlt hz
    have hd : S.drop j = S[j] :: S.drop (j + 1) := List.drop_eq_getElem_cons hlt
    have HEC := Lib.hid ec; have HD := Lib.hid hd
    clear ec hd
    go_wp2_with fail
    refine (tr_low _ _).mono ?_
    rintro e wy ⟨rfl, hwy⟩
    subst wy
    cases h1 : low (bs S)[j] with
    | true =>
      have hp := pre_low HD.out (by rw [← HEC.out]; exact h1)
      have HP := Lib.hid hp
      clear hp h1 hne
      go_wp2_with fail
      go_loopg [8] (S.length - j) (fun gn s8 wx => ∃ k : Nat, k ≤ S.length ∧ Hid (gn = S.length - k) ∧ s8 = .int .i64 k ∧ wx = W ∧ Hid ((preK S j).2 = k + spanN lowfig (S.drop k)))
      case atStart => exact ⟨j, by omega, Lib.hid rfl, rfl, rfl, Lib.hid (by rw [HP.out])⟩
      case round =>
        obtain ⟨k, hk2, HM2, rfl, rfl, HE⟩ := hrel
        have h0k : (0 : Int) ≤ (k : Int) := by omega
        by_cases hlt2 : k < S.length
        · have hz2 : k < (bs S).size := by rw [HSZ.out]; exact hlt2
          have hzi2 : ((k : Int) < ((bs S).size : Int)) := by omega
          have ec2 := bs_at S hlt2 hz2
          cases ha : lowfig S[k] with
          | true =>
            have hnx : (preK S j).2 = k + 1 + spanN lowfig (S.drop (k + 1)) := by have := spanN_hit lowfig S k hlt2 ha; have := HE.out; omega
            have HNX := Lib.hid hnx
            rw [← ec2] at ha
            unfold lowfig at ha
            clear hnx ec2
            cases hl1 : low (bs S)[k] with
            | true =>
              clear ha
              go_wp2_with (first | (go_at_call 45; refine (tr_low _ _).mono ?_; rintro _ _ ⟨rfl, rfl⟩) | (go_at_call 46; refine (tr_fig _ _).mono ?_; rintro _ _ ⟨rfl, rfl⟩))
              go_roundg (S.length - (k + 1))
              case measure => have := HM2.out; omega
              case rel => exact ⟨k + 1, by omega, Lib.hid rfl, by go_num, rfl, HNX⟩
            | false =>
              rw [hl1, Bool.false_or] at ha
              go_wp2_with (first | (go_at_call 45; refine (tr_low _ _).mono ?_; rintro _ _ ⟨rfl, rfl⟩) | (go_at_call 46; refine (tr_fig _ _).mono ?_; rintro _ _ ⟨rfl, rfl⟩))
              go_roundg (S.length - (k + 1))
              case measure => have := HM2.out; omega
              case rel => exact ⟨k + 1, by omega, Lib.hid rfl, by go_num, rfl, HNX⟩
          | false =>
            have hnx : (preK S j).2 = k := by have := spanN_miss lowfig S k hlt2 ha; have := HE.out; omega
            have HNX := Lib.hid hnx
            rw [← ec2] at ha
            unfold lowfig at ha
            rw [Bool.or_eq_false_iff] at ha
            obtain ⟨ha1, ha2⟩ := ha
            clear hnx ec2
            go_wp2_with (first | (go_at_call 45; refine (tr_low _ _).mono ?_; rintro _ _ ⟨rfl, rfl⟩) | (go_at_call 46; refine (tr_fig _ _).mono ?_; rintro _ _ ⟨rfl, rfl⟩))
            go_meet
            case rel => exact ⟨by rw [HNX.out], Lib.hid (by rw [HP.out]; exact HPUT.out _ rNAME HB.out), Lib.hid (HPUTK.out _ rNAME HKB.out)⟩
        · have hnx : (preK S j).2 = k := by have := spanN_end lowfig S k (by omega); have := HE.out; omega
          have HNX := Lib.hid hnx
          have hzi2 : ¬ ((k : Int) < ((bs S).size : Int)) := by rw [HSZ.out]; omega
          clear hnx
          go_wp2_with (first | (go_at_call 45; refine (tr_low _ _).mono ?_; rintro _ _ ⟨rfl, rfl⟩) | (go_at_call 46; refine (tr_fig _ _).mono ?_; rintro _ _ ⟨rfl, rfl⟩))
          go_meet
          case rel => exact ⟨by rw [HNX.out], Lib.hid (by rw [HP.out]; exact HPUT.out _ rNAME HB.out), Lib.hid (HPUTK.out _ rNAME HKB.out)⟩
    | false =>
      go_wp2_with fail
      refine (tr_fig _ _).mono ?_
      rintro e wz ⟨rfl, hwz⟩
      subst wz
      cases h2 : fig (bs S)[j] with
      | true =>
        have hp := pre_fig HD.out (by rw [← HEC.out]; exact h1) (by rw [← HEC.out]; exact h2)
        have HP := Lib.hid hp
        clear hp h1 h2 hne
        go_wp2_with fail
        go_loopg [8] (S.length - j) (fun gn s8 wx => ∃ k : Nat, k ≤ S.length ∧ Hid (gn = S.length - k) ∧ s8 = .int .i64 k ∧ wx = W ∧ Hid ((preK S j).2 = k + spanN fig (S.drop k)))
        case atStart => exact ⟨j, by omega, Lib.hid rfl, rfl, rfl, Lib.hid (by rw [HP.out])⟩
        case round =>
          obtain ⟨k, hk2, HM2, rfl, rfl, HE⟩ := hrel
          have h0k : (0 : Int) ≤ (k : Int) := by omega
          by_cases hlt2 : k < S.length
          · have hz2 : k < (bs S).size := by rw [HSZ.out]; exact hlt2
            have hzi2 : ((k : Int) < ((bs S).size : Int)) := by omega
            have ec2 := bs_at S hlt2 hz2
            cases ha : fig S[k] with
            | true =>
              have hnx : (preK S j).2 = k + 1 + spanN fig (S.drop (k + 1)) := by have := spanN_hit fig S k hlt2 ha; have := HE.out; omega
              have HNX := Lib.hid hnx
              rw [← ec2] at ha
              clear hnx ec2
              go_wp2_with (first | (go_at_call 45; refine (tr_low _ _).mono ?_; rintro _ _ ⟨rfl, rfl⟩) | (go_at_call 46; refine (tr_fig _ _).mono ?_; rintro _ _ ⟨rfl, rfl⟩))
              go_roundg (S.length - (k + 1))
              case measure => have := HM2.out; omega
              case rel => exact ⟨k + 1, by omega, Lib.hid rfl, by go_num, rfl, HNX⟩
            | false =>
              have hnx : (preK S j).2 = k := by have := spanN_miss fig S k hlt2 ha; have := HE.out; omega
              have HNX := Lib.hid hnx
              rw [← ec2] at ha
              clear hnx ec2
              go_wp2_with (first | (go_at_call 45; refine (tr_low _ _).mono ?_; rintro _ _ ⟨rfl, rfl⟩) | (go_at_call 46; refine (tr_fig _ _).mono ?_; rintro _ _ ⟨rfl, rfl⟩))
              go_meet
              case rel => exact ⟨by rw [HNX.out], Lib.hid (by rw [HP.out]; exact HPUT.out _ rNUM HB.out), Lib.hid (HPUTK.out _ rNUM HKB.out)⟩
          · have hnx : (preK S j).2 = k := by have := spanN_end fig S k (by omega); have := HE.out; omega
            have HNX := Lib.hid hnx
            have hzi2 : ¬ ((k : Int) < ((bs S).size : Int)) := by rw [HSZ.out]; omega
            clear hnx
            go_wp2_with (first | (go_at_call 45; refine (tr_low _ _).mono ?_; rintro _ _ ⟨rfl, rfl⟩) | (go_at_call 46; refine (tr_fig _ _).mono ?_; rintro _ _ ⟨rfl, rfl⟩))
            go_meet
            case rel => exact ⟨by rw [HNX.out], Lib.hid (by rw [HP.out]; exact HPUT.out _ rNUM HB.out), Lib.hid (HPUTK.out _ rNUM HKB.out)⟩
      | false =>
        go_upto_region 24 with fail
        go_cut [103] (fun s103 wx => s103 = .bool (arrB S j) ∧ wx = W)
        case first =>
          have hc0 : arrB S j = ((bs S)[j].toNat == 45 && ((S.drop (j + 1)).head?.map UInt8.toNat) == some 62) := by unfold arrB; rw [HD.out, HEC.out]
          have HC0 := Lib.hid hc0
          clear hc0
          by_cases h45 : (bs S)[j].toNat = 45
          · have q1 : (((bs S)[j].toNat : Int) == 45) = true := by simp [h45]
            by_cases hl2 : j + 1 < S.length
            · have hz3 : j + 1 < (bs S).size := by rw [HSZ.out]; exact hl2
              have hzi3 : ((j : Int) + 1 < ((bs S).size : Int)) := by omega
              have ec3 := bs_at S hl2 hz3
              have hd3 : S.drop (j + 1) = S[j + 1] :: S.drop (j + 1 + 1) := List.drop_eq_getElem_cons hl2
              by_cases h62 : (bs S)[j + 1].toNat = 62
              · have q2 : (((bs S)[j + 1].toNat : Int) == 62) = true := by simp [h62]
                have hc : arrB S j = true := by rw [HC0.out, hd3, List.head?_cons, Option.map_some, ← ec3, h45, h62]; rfl
                clear ec3 hd3 h62 h45 hne h1 h2
                go_wp2_with fail
                go_meet
                case rel => exact ⟨by rw [hc], rfl⟩
              · have q2 : (((bs S)[j + 1].toNat : Int) == 62) = false := by simp; omega
                have hc : arrB S j = false := by rw [HC0.out, hd3, List.head?_cons, Option.map_some, ← ec3, Bool.and_eq_false_iff]; right; simpa using h62
                clear ec3 hd3 h62 h45 hne h1 h2
                go_wp2_with fail
                go_meet
                case rel => exact ⟨by rw [hc], rfl⟩
            · have hzi3 : ¬ ((j : Int) + 1 < ((bs S).size : Int)) := by rw [HSZ.out]; omega
              have hc : arrB S j = false := by rw [HC0.out, List.drop_eq_nil_of_le (by omega), Bool.and_eq_false_iff]; right; simp
              clear h45 hne h1 h2
              go_wp2_with fail
              go_meet
              case rel => exact ⟨by rw [hc], rfl⟩
          · have q1 : (((bs S)[j].toNat : Int) == 45) = false := by simp; omega
            have hc : arrB S j = false := by rw [HC0.out, Bool.and_eq_false_iff]; left; simpa using h45
            clear h45 hne h1 h2
            go_wp2_with fail
            go_meet
            case rel => exact ⟨by rw [hc], rfl⟩
        case rest =>
          obtain ⟨rfl, hcw⟩ := hcut
          subst wc
          cases harr : arrB S j with
          | true =>
            have hp := pre_arr HD.out (by rw [← HEC.out]; exact h1) (by rw [← HEC.out]; exact h2) harr
            have HP := Lib.hid hp
            clear hp harr h1 h2 hne
            go_wp2_with fail
            go_meet
            case rel => exact ⟨by rw [HP.out]; rfl, Lib.hid (by rw [HP.out]; exact HPUT.out _ ARROW HB.out), Lib.hid (HPUTK.out _ ARROW HKB.out)⟩
          | false =>
            have hp := sg_pre hlt HD.out (HEC.out ▸ h1) (HEC.out ▸ h2) harr
            have HP := Lib.hid hp
            have kc := fun (w : World) (C : Array Value) (n c : Nat) => Lib.run_convert_bytes_const (P := Tryd.prog) w 123 5 C n c Tryd.underlying123 Tryd.underlying5
            clear hp harr h1 h2 hne
            go_wp2_with fail
            have hrow : (W.alloc BYO).heap[W.heap.size]? = some BYO := heap_new _ _
            have hb2 : (W.alloc BYO).heap[wA.heap.size]? = some (TKO (sgW (sgC S j 0) [S[j]]) [] j) := heap_old HB.out
            have hk2 : Keep none' wA (W.alloc BYO) := HKB.out.trans (Keep.alloc _ _ _)
            go_loopg [8, 37] 6 (fun gn s8 s37 wx => ∃ n : Nat, n ≤ 6 ∧ Hid (gn = 6 - n) ∧ s37 = .int .i64 n ∧ s8 = .int .i64 (sgN (sgC S j n) j : Nat) ∧ Hid (wx.heap[wA.heap.size]? = some (TKO (sgW (sgC S j n) [S[j]]) [] j)) ∧ Hid (Keep none' wA wx) ∧ Hid (wx.heap[W.heap.size]? = some BYO) ∧ Hid (wA.heap.size ≠ W.heap.size))
            case atStart => exact ⟨0, by omega, Lib.hid rfl, rfl, rfl, Lib.hid hb2, Lib.hid hk2, Lib.hid hrow, Lib.hid (by have := lt_of_heap HB.out; omega)⟩
            case round =>
              obtain ⟨n, hn, HM2, rfl, rfl, HX, HXK, HR, HNB⟩ := hrel
              have h0n : (0 : Int) ≤ (n : Int) := by omega
              clear hrow hb2 hk2
              by_cases hn6 : n < 6
              · have hni : ((n : Int) < 6) := by omega
                have hns : n < sgs.length := hn6
                have cn : wr.cell? ⟨W.heap.size, n, none⟩ = some (.int .u8 ((sgs[n] : Nat) : Int)) := cell_of_heap HR.out (byc_at n hns)
                have f0' : wr.frozen? ⟨wA.heap.size, 0, none⟩ = false := free_of_heap HX.out
                by_cases he : S[j].toNat = sgs[n]
                · have hq : (((bs S)[j].toNat : Int) == ((sgs[n] : Nat) : Int)) = true := by rw [HEC.out, he]; simp
                  obtain ⟨e1, e2⟩ := sg_hit hlt hns he
                  have hwr : IntKind.i64.wrap ((j : Int) + 1) = (j : Int) + 1 := by rw [IntKind.wrap_i64]; omega
                  have hw0 : (0 : Int) ≤ (j : Int) + 1 := by omega
                  have hw1 : (j : Int) + 1 ≤ ((bs S).size : Int) := by rw [HSZ.out]; omega
                  have hw2 : ((j : Int) + 1).toNat = j + 1 := by omega
                  have hex : (bs S).extract j (j + 1) = bs [S[j]] := by
                    rw [extract_bs, bytes_bs, HD.out]; simp
                  have hs8 : (sgN (sgC S j n) j : Nat) = j := by rw [e1]; rfl
                  have HE2 := Lib.hid e2
                  rw [hs8]
                  have hxn : sgW (sgC S j n) [S[j]] = rNONE := by rw [e1]; rfl
                  have c0' : wr.cell? ⟨wA.heap.size, 0, none⟩ = some (.string (bs rNONE)) := cell_of_heap (i := 0) (hxn ▸ HX.out) rfl
                  obtain ⟨sn, hsn⟩ : ∃ sn, sn = sgs[n] := ⟨_, rfl⟩
                  rw [← hsn] at cn hq
                  clear e1 e2 he hs8 hxn hsn
                  go_wp2_with fail
                  go_roundg (6 - (n + 1))
                  case measure => have := HM2.out; omega
                  case rel =>
                    exact ⟨n + 1, by omega, Lib.hid rfl, by go_num, by rw [HE2.out]; exact congrArg (Value.int .i64) (by simp [sgN]), Lib.hid (by rw [HE2.out]; exact heap_set_same (i := 0) HX.out), Lib.hid (keepTr HXK.out (Keep.setCell _ _ (fun _ => rfl)) (Nat.le_refl _)), Lib.hid (Keep.get (Keep.setCell (S := one' wA.heap.size) wr (p := ⟨wA.heap.size, 0, none⟩) (.string (bs [S[j]])) (fun _ => rfl)) HR.out (fun (e : W.heap.size = wA.heap.size) => HNB.out e.symm)), HNB⟩
                · have hq : (((bs S)[j].toNat : Int) == ((sgs[n] : Nat) : Int)) = false := by
                    have : ((S[j].toNat : Nat) : Int) ≠ ((sgs[n] : Nat) : Int) := by omega
                    rw [HEC.out]; simpa using this
                  have e2 := sg_miss hlt hns he
                  have HE2 := Lib.hid e2
                  obtain ⟨sn, hsn⟩ : ∃ sn, sn = sgs[n] := ⟨_, rfl⟩
                  rw [← hsn] at cn hq
                  clear e2 he hsn
                  go_wp2_with fail
                  go_roundg (6 - (n + 1))
                  case measure => have := HM2.out; omega
                  case rel => exact ⟨n + 1, by omega, Lib.hid rfl, by go_num, by rw [HE2.out], Lib.hid (by rw [HE2.out]; exact HX.out), HXK, HR, HNB⟩
              · have hne6 : n = 6 := by omega
                subst hne6
                go_wp2_with fail
                go_meet
                case rel =>
                  exact ⟨by rw [HP.out], Lib.hid (by rw [HP.out]; exact HX.out), HXK⟩
  · have hje : j = S.length := by omega
    have hne : ((j : Int) == ((bs S).size : Int)) = true := by rw [HSZ.out]; simp; omega
    have hp : preK S j = (rEND, j) := by unfold preK; rw [List.drop_eq_nil_of_le (by omega)]
    have HP := Lib.hid hp; clear hp hje
    go_wp2_with fail
    go_meet
    case rel =>
      rw [HP.out]
      exact ⟨rfl, Lib.hid (HPUT.out W rEND HB.out), Lib.hid (HPUTK.out W rEND HKB.out)⟩
end Go.Proofs.YtabikmkoajdhmaaDoor
