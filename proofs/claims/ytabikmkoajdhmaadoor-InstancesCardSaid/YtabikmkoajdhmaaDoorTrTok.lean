/- typerref.tokens by a contract: the tokens of a text. -/
import Derived.Test.YtabikmkoajdhmaaDoorTrSw
set_option linter.unusedVariables false
set_option linter.unusedSimpArgs false
set_option linter.unnecessarySimpa false
namespace Go.Proofs.YtabikmkoajdhmaaDoor
open Go.RowKit

set_option maxRecDepth 100000 in
set_option maxHeartbeats 8000000 in
theorem tr_tokens (kw : Str → Bool) (hk : ResB kw) (kws : List Str) (hkw : ∀ t, kw t = kws.contains t) (S : Str) (hl : S.length ≤ 1000) (hkl : kws.length ≤ 1000) (w : World) (kb ko kcap : Nat) (hkb : kb < w.heap.size) (hkc : ∀ W : World, Keep none' w W → ∀ j (h : j < kws.length), W.cell? ⟨kb, ko + j, none⟩ = some (.string (bs kws[j]))) : Calls Tryd.prog 23 #[.string (bs S), .slice (some ⟨kb, ko, none⟩) kws.length kcap] w (TokPost kw S w) := by
  obtain ⟨ity, hity, zs0, zs1, zs2⟩ := info_parts info_tok
  have hsz := bs_size S
  have HSZ := Lib.hid hsz; have HKC := Lib.hid hkc; have HKW := Lib.hid hkw; have HKB0 := Lib.hid hkb
  clear hsz hkc hkw
  go_enter Tryd.func23, Tryd.ntmps23
  go_wp2_with fail
  go_loopg [5, 6] (S.length + 1) (fun gn s5 s6 wr => ∃ (i : Nat) (acc : List Tok), i ≤ S.length ∧ Hid (gn = S.length + 1 - i) ∧ s6 = .int .i64 i ∧ Hid (wr.ownsRow w.heap.size 121 3 s5 acc.length (acc.flatMap (tokV []))) ∧ Hid (toks kw S 0 = acc ++ toks kw S i) ∧ acc.length ≤ i ∧ Hid (Keep none' w wr) ∧ Hid (∀ t ∈ acc, t.kind ≠ .bad))
  case atStart => exact ⟨0, [], by omega, Lib.hid rfl, rfl, Lib.hid (World.ownsRow_nil _ _ _ _), Lib.hid rfl, by simp, Lib.hid (Keep.refl _ _), Lib.hid (fun t ht => by cases ht)⟩
  case round =>
    obtain ⟨i, acc, hi, HM, rfl, HO, HT, hai, HKP, HNBD⟩ := hrel
    obtain ⟨j, hj⟩ : ∃ j, j = i + spanN blank (S.drop i) := ⟨_, rfl⟩
    have hjl : j ≤ S.length := by rw [hj]; exact spanN_drop_le blank S i hi
    have hij : i ≤ j := by omega
    have HJ := Lib.hid hj; clear hj
    go_upto_block 2 with fail
    go_cut [6] (fun s6 wx => s6 = .int .i64 j ∧ wx = wr)
    case first =>
      go_wp2_with fail
      go_loopg [6] (S.length - i) (fun gn s6 wx => ∃ i2 : Nat, i2 ≤ S.length ∧ Hid (gn = S.length - i2) ∧ s6 = .int .i64 i2 ∧ wx = wr ∧ Hid (j = i2 + spanN blank (S.drop i2)))
      case atStart => exact ⟨i, hi, Lib.hid rfl, rfl, rfl, HJ⟩
      case round =>
        obtain ⟨i2, hi2, HM2, rfl, rfl, HJ2⟩ := hrel
        have h0 : (0 : Int) ≤ (i2 : Int) := by omega
        by_cases hlt : i2 < S.length
        · have hz : i2 < (bs S).size := by rw [HSZ.out]; exact hlt
          have hzi : ((i2 : Int) < ((bs S).size : Int)) := by omega
          have ec := bs_at S hlt hz
          cases hb : blank S[i2] with
          | true =>
            have hnx : j = i2 + 1 + spanN blank (S.drop (i2 + 1)) := by have := spanN_hit blank S i2 hlt hb; have := HJ2.out; omega
            have HNX := Lib.hid hnx
            have hbb := (blank_int S[i2]).1 hb
            rw [← ec] at hbb
            clear hb hnx ec
            rcases hbb with q1 | ⟨q1, q2⟩
            all_goals
              go_wp2_with fail
              go_roundg (S.length - (i2 + 1))
              case measure => have := HM2.out; omega
              case rel => exact ⟨i2 + 1, by omega, Lib.hid rfl, by go_num, rfl, HNX⟩
          | false =>
            have hnx : j = i2 := by have := spanN_miss blank S i2 hlt hb; have := HJ2.out; omega
            subst hnx
            obtain ⟨q1, q2⟩ := (blank_int S[j]).2 hb
            rw [← ec] at q1 q2
            clear hb ec
            go_wp2_with fail
            go_meet
            case rel => exact ⟨rfl, rfl⟩
        · have hnx : j = i2 := by have := spanN_end blank S i2 (by omega); have := HJ2.out; omega
          subst hnx
          have hzi : ¬ ((j : Int) < ((bs S).size : Int)) := by rw [HSZ.out]; omega
          go_wp2_with fail
          go_meet
          case rel => exact ⟨rfl, rfl⟩
    case rest =>
      obtain ⟨rfl, hcw⟩ := hcut
      subst wc
      obtain ⟨wA, rfl⟩ : ∃ wA, wA = wr := ⟨_, rfl⟩
      go_upto_block 4 with fail
      have hB : (wA.alloc (TKO rNONE [] j)).heap[wA.heap.size]? = some (TKO rNONE [] j) := heap_new _ _
      have kB : Keep none' wA (wA.alloc (TKO rNONE [] j)) := Keep.alloc _ _ _
      have hw : wA.alloc (.cells #[.string ⟨#[110, 111, 110, 101]⟩, .string ⟨#[]⟩, .int .i64 j] 121) = wA.alloc (TKO rNONE [] j) := rfl
      rw [hw]
      clear hw
      obtain ⟨W, hW⟩ : ∃ W, W = wA.alloc (TKO rNONE [] j) := ⟨_, rfl⟩
      rw [← hW] at hB kB ⊢
      have c0 : W.cell? ⟨wA.heap.size, 0, none⟩ = some (.string (bs rNONE)) := cell_of_heap hB rfl
      have f0 : W.frozen? ⟨wA.heap.size, 0, none⟩ = false := free_of_heap hB
      have HB := Lib.hid hB; have HKB := Lib.hid kB
      clear hB kB hW
      have hput : ∀ (W' : World) (k : Str), W'.heap[wA.heap.size]? = some (TKO rNONE [] j) → (W'.setCell ⟨wA.heap.size, 0, none⟩ (.string (bs k))).heap[wA.heap.size]? = some (TKO k [] j) := fun W' k h => heap_set_same (i := 0) h
      have hputk : ∀ (W' : World) (k : Str), Keep none' wA W' → Keep none' wA (W'.setCell ⟨wA.heap.size, 0, none⟩ (.string (bs k))) := fun W' k h => keepTr h (Keep.setCell _ _ (fun _ => rfl)) (Nat.le_refl _)
      have HPUT := Lib.hid hput; have HPUTK := Lib.hid hputk
      clear hput hputk
      go_cut [8] (fun s8 wx => s8 = .int .i64 (preK S j).2 ∧ Hid (wx.heap[wA.heap.size]? = some (TKO (preK S j).1 [] j)) ∧ Hid (Keep none' wA wx))
      case first => exact tok_sw hl HSZ hjl c0 f0 HB HKB HPUT HPUTK (by assumption) (by assumption)
      case rest =>
        obtain ⟨rfl, HTK, HKX⟩ := hcut
        have hti := tok_is hk HJ.out.symm hjl
        have HTI := Lib.hid hti
        have hle := hti.le
        obtain ⟨p1, hp1⟩ : ∃ p1, p1 = (preK S j).1 := ⟨_, rfl⟩
        obtain ⟨p2, hp2⟩ : ∃ p2, p2 = (preK S j).2 := ⟨_, rfl⟩
        obtain ⟨tx, htx⟩ : ∃ tx, tx = (S.drop j).take (p2 - j) := ⟨_, rfl⟩
        have hmk : midK (preK S j) j = midK (p1, p2) j := by rw [hp1, hp2]
        have htk := HTK.out
        rw [← hp1] at htk
        rw [← hp2] at hle
        rw [← hp2]
        have hex : (bs S).extract j p2 = bs tx := by rw [extract_bs, bytes_bs, htx]
        have hs1 : (j : Int) ≤ (p2 : Int) := by omega
        have hs2 : (p2 : Int) ≤ ((bs S).size : Int) := by rw [HSZ.out]; omega
        have c1 := cell_of_heap (i := 1) htk rfl
        have f1 : wc.frozen? ⟨wA.heap.size, 1, none⟩ = false := free_of_heap htk
        have hb1 : (wc.setCell ⟨wA.heap.size, 1, none⟩ (.string (bs tx))).heap[wA.heap.size]? = some (TKO p1 tx j) := heap_set_same (i := 1) htk
        have hk1 : Keep none' wA (wc.setCell ⟨wA.heap.size, 1, none⟩ (.string (bs tx))) := keepTr HKX.out (Keep.setCell (S := one' wA.heap.size) wc (p := ⟨wA.heap.size, 1, none⟩) _ (fun _ => rfl)) (Nat.le_refl _)
        have HP1 := Lib.hid hp1; have HP2 := Lib.hid hp2; have HTX := Lib.hid htx; have HMK := Lib.hid hmk; have HB1 := Lib.hid hb1; have HK1 := Lib.hid hk1; have HLE := Lib.hid hle
        clear hti hle hp1 hp2 htx hmk htk hb1 hk1 HB HKB HTK HKX c0 f0
        go_upto_region 28 with fail
        obtain ⟨W1, hW1⟩ : ∃ W1, W1 = wc.setCell ⟨wA.heap.size, 1, none⟩ (.string (bs tx)) := ⟨_, rfl⟩
        have hb1 := HB1.out; have hk1 := HK1.out
        rw [← hW1] at hb1 hk1 ⊢
        clear hW1 HB1 HK1 c1 f1 hex hs1 hs2
        have c0 := cell_of_heap (i := 0) hb1 rfl
        have HB1 := Lib.hid hb1; have HK1 := Lib.hid hk1
        clear hb1 hk1
        go_cut [143] (fun s143 wx => s143 = .bool (decide ((p1 = rNAME ∨ p1 = rNUM) ∧ 8 < p2 - j)) ∧ wx = W1)
        case first =>
          have hle := HLE.out
          have q1 : ((bs p1).toList == [110, 97, 109, 101]) = decide (p1 = rNAME) := str_c _ _
          have q2 : ((bs p1).toList == [110, 117, 109]) = decide (p1 = rNUM) := str_c _ _
          by_cases h8 : 8 < p2 - j
          · have h8i : (8 : Int) < (p2 : Int) - (j : Int) := by omega
            by_cases hA : p1 = rNAME
            · rw [decide_eq_true hA] at q1; have HA := Lib.hid hA; clear hA
              clear q2
              go_wp2_with fail
              go_meet
              case rel => exact ⟨congrArg Value.bool (decide_eq_true ⟨.inl HA.out, h8⟩).symm, rfl⟩
            · rw [decide_eq_false hA] at q1
              by_cases hB : p1 = rNUM
              · rw [decide_eq_true hB] at q2; have HB := Lib.hid hB; clear hB
                go_wp2_with fail
                go_meet
                case rel => exact ⟨congrArg Value.bool (decide_eq_true ⟨.inr HB.out, h8⟩).symm, rfl⟩
              · rw [decide_eq_false hB] at q2
                go_wp2_with fail
                go_meet
                case rel => exact ⟨congrArg Value.bool (decide_eq_false (fun h => h.1.elim hA hB)).symm, rfl⟩
          · have h8i : ¬ (8 : Int) < (p2 : Int) - (j : Int) := by omega
            by_cases hA : p1 = rNAME
            · rw [decide_eq_true hA] at q1; have HA := Lib.hid hA; clear hA
              clear q2
              go_wp2_with fail
              go_meet
              case rel => exact ⟨congrArg Value.bool (decide_eq_false (fun h => h8 h.2)).symm, rfl⟩
            · rw [decide_eq_false hA] at q1
              by_cases hB : p1 = rNUM
              · rw [decide_eq_true hB] at q2; have HB := Lib.hid hB; clear hB
                go_wp2_with fail
                go_meet
                case rel => exact ⟨congrArg Value.bool (decide_eq_false (fun h => h8 h.2)).symm, rfl⟩
              · rw [decide_eq_false hB] at q2
                go_wp2_with fail
                go_meet
                case rel => exact ⟨congrArg Value.bool (decide_eq_false (fun h => h.1.elim hA hB)).symm, rfl⟩
        case rest =>
          obtain ⟨rfl, hcw⟩ := hcut
          subst wc
          obtain ⟨md, hmd⟩ : ∃ md, md = midK (p1, p2) j := ⟨_, rfl⟩
          obtain ⟨b8, hb8⟩ : ∃ b8, b8 = decide ((p1 = rNAME ∨ p1 = rNUM) ∧ 8 < p2 - j) := ⟨_, rfl⟩
          rw [← hb8]
          have hme : md = if b8 then rNONE else p1 := by rw [hmd, hb8]; unfold midK; simp
          have HMD := Lib.hid hmd; have HME := Lib.hid hme
          clear hmd hme hb8
          go_upto_if 143 with fail
          go_cut [8] (fun s8 wx => s8 = .int .i64 p2 ∧ Hid (wx.heap[wA.heap.size]? = some (TKO md tx j)) ∧ Hid (Keep none' wA wx))
          case first =>
            have f0 : W1.frozen? ⟨wA.heap.size, 0, none⟩ = false := free_of_heap HB1.out
            cases b8 with
            | true =>
              go_wp2_with fail
              go_meet
              case rel => exact ⟨rfl, Lib.hid (by rw [HME.out]; exact heap_set_same (i := 0) HB1.out), Lib.hid (keepTr HK1.out (Keep.setCell (S := one' wA.heap.size) W1 (p := ⟨wA.heap.size, 0, none⟩) _ (fun _ => rfl)) (Nat.le_refl _))⟩
            | false =>
              go_wp2_with fail
              go_meet
              case rel => exact ⟨rfl, Lib.hid (by rw [HME.out]; exact HB1.out), HK1⟩
          case rest =>
            obtain ⟨rfl, HB2, HK2⟩ := hcut
            have hkb' := HKB0.out
            have hk2 := HKP.out.trans HK2.out
            have hkk := fun (W : World) (kW : Keep none' w W) => HKC.out W kW
            clear c0 HB1 HK1
            go_wp2_with fail
            go_loopg [147] (kws.length) (fun gn s147 wx => ∃ n : Nat, n ≤ kws.length ∧ Hid (gn = kws.length - n) ∧ s147 = .int .i64 n ∧ Hid (wx.heap[wA.heap.size]? = some (TKO (kwW md tx (kwC kws md tx n)) tx j)) ∧ Hid (Keep none' wA wx))
            case atStart => exact ⟨0, by omega, Lib.hid rfl, rfl, Lib.hid (by simpa [kwW, kwC] using HB2.out), HK2⟩
            case round =>
              obtain ⟨n, hn, HM2, rfl, HX, HXK⟩ := hrel
              have h0n : (0 : Int) ≤ (n : Int) := by omega
              by_cases hnk : n < kws.length
              · have hni : ((n : Int) < (kws.length : Int)) := by omega
                have cw : wr.cell? ⟨kb, ko + n, none⟩ = some (.string (bs kws[n])) := HKC.out wr (HKP.out.trans HXK.out) n hnk
                have c0 := cell_of_heap (i := 0) HX.out rfl
                have c1 := cell_of_heap (i := 1) HX.out rfl
                have f0 : wr.frozen? ⟨wA.heap.size, 0, none⟩ = false := free_of_heap HX.out
                have hst := kw_step (m := md) (t := tx) hnk
                obtain ⟨kn, hkn⟩ : ∃ kn, kn = kws[n] := ⟨_, rfl⟩
                rw [← hkn] at cw hst
                clear hkn
                have q2 : ((bs tx).toList == (bs kn).toList) = decide (tx = kn) := str_cc _ _
                cases hc : kwC kws md tx n with
                | true =>
                  obtain ⟨e1, e2⟩ := kw_hit hc
                  have htk : kw tx = true := by rw [HKW.out]; exact e2
                  have hne := (hk _ htk).1
                  have hv : kwW md tx true = tx := rfl
                  have q1 : ((bs tx).toList == [110, 97, 109, 101]) = false := (str_c _ _).trans (decide_eq_false hne)
                  rw [hc, hv] at c0
                  have hs2 : kwC kws md tx (n + 1) = true := by rw [hst, hc]; rfl
                  have HS2 := Lib.hid hs2; have HX2 := Lib.hid (hc ▸ HX.out)
                  clear hs2 hst e1 e2 hne hv hc htk q2
                  go_wp2_with fail
                  go_roundg (kws.length - (n + 1))
                  case measure => have := HM2.out; omega
                  case rel => exact ⟨n + 1, by omega, Lib.hid rfl, by go_num, Lib.hid (by rw [HS2.out]; exact HX2.out), HXK⟩
                | false =>
                  have hv : kwW md tx false = md := rfl
                  rw [hc, hv] at c0
                  have hx2 := HX.out
                  rw [hc, hv] at hx2
                  by_cases hA : md = rNAME
                  · have q1 : ((bs md).toList == [110, 97, 109, 101]) = true := (str_c _ _).trans (decide_eq_true hA)
                    by_cases hB : tx = kn
                    · rw [decide_eq_true hB] at q2
                      have hs2 : kwC kws md tx (n + 1) = true := by rw [hst]; simp [hA, hB]
                      have hB2 : bs kn = bs tx := by rw [hB]
                      have HS2 := Lib.hid hs2; have HX2 := Lib.hid hx2; have HB2 := Lib.hid hB2
                      clear hs2 hst hv hc hx2 hA hB hB2
                      go_wp2_with fail
                      rw [HB2.out]
                      go_roundg (kws.length - (n + 1))
                      case measure => have := HM2.out; omega
                      case rel => exact ⟨n + 1, by omega, Lib.hid rfl, by go_num, Lib.hid (by rw [HS2.out]; exact heap_set_same (i := 0) HX2.out), Lib.hid (keepTr HXK.out (Keep.setCell (S := one' wA.heap.size) wr (p := ⟨wA.heap.size, 0, none⟩) _ (fun _ => rfl)) (Nat.le_refl _))⟩
                    · rw [decide_eq_false hB] at q2
                      have hs2 : kwC kws md tx (n + 1) = false := by rw [hst, hc]; simp [hB]
                      have HS2 := Lib.hid hs2; have HX2 := Lib.hid hx2
                      clear hs2 hst hv hc hx2 hA hB
                      go_wp2_with fail
                      go_roundg (kws.length - (n + 1))
                      case measure => have := HM2.out; omega
                      case rel => exact ⟨n + 1, by omega, Lib.hid rfl, by go_num, Lib.hid (by rw [HS2.out]; exact HX2.out), HXK⟩
                  · have q1 : ((bs md).toList == [110, 97, 109, 101]) = false := (str_c _ _).trans (decide_eq_false hA)
                    have hs2 : kwC kws md tx (n + 1) = false := by rw [hst, hc]; simp [hA]
                    have HS2 := Lib.hid hs2; have HX2 := Lib.hid hx2
                    clear hs2 hst hv hc hx2 hA q2
                    go_wp2_with fail
                    go_roundg (kws.length - (n + 1))
                    case measure => have := HM2.out; omega
                    case rel => exact ⟨n + 1, by omega, Lib.hid rfl, by go_num, Lib.hid (by rw [HS2.out]; exact HX2.out), HXK⟩
              · have hne : n = kws.length := by omega
                subst hne
                have hx := HX.out
                rw [kw_end HKW.out] at hx
                obtain ⟨en, hen⟩ : ∃ en, en = endK kw tx md := ⟨_, rfl⟩
                rw [← hen] at hx
                have hkd := HTI.out.kind
                rw [← HP2.out, ← HTX.out, HMK.out, ← HMD.out, ← hen] at hkd
                have hstp := rstr_stop hk (lex_kwn hk (s := S) (i := i))
                rw [hkd] at hstp
                have c0 := cell_of_heap (i := 0) hx rfl
                have c1 := cell_of_heap (i := 1) hx rfl
                have c2 := cell_of_heap (i := 2) hx rfl
                have own0 := own_keepT HO.out HXK.out
                obtain ⟨ao, cap, rfl⟩ := own_shapeT own0
                have hnb : ∀ b, (Value.slice ao acc.length cap).ownBlock = some b → ¬ wA.heap.size = b := fun b hb e => by have := (HO.out.lt b hb).2; omega
                have hszr := HXK.out.size
                have hszA := HKP.out.size
                have hbase : w.heap.size ≤ wr.heap.size := by omega
                have HEN := Lib.hid hen; have HX3 := Lib.hid hx; have HOW := Lib.hid own0; have HKW3 := Lib.hid (HKP.out.trans HXK.out); have HNB := Lib.hid hnb; have HSTP := Lib.hid hstp; have HKD := Lib.hid hkd
                have hal : acc.length ≤ 1000 := by omega
                have q1 : ((bs en).toList == [110, 111, 110, 101]) = decide (en = rNONE) := str_c _ _
                have q2 : ((bs en).toList == [101, 110, 100]) = decide (en = rEND) := str_c _ _
                have own5 : ∀ (W : World) (v : Value), W.ownsRow w.heap.size 121 3 v (acc.length + 1) (acc.flatMap (tokV []) ++ [.string (bs en), .string (bs tx), .int .i64 j]) → W.ownsRow w.heap.size 121 3 v (acc ++ [(lexAt kw S i).1]).length ((acc ++ [(lexAt kw S i).1]).flatMap (tokV tx)) := fun W v h => by
                  have e1 : acc.flatMap (tokV tx) = acc.flatMap (tokV []) := flat_congrT (fun t ht => by simp [tokV, HNBD.out t ht])
                  have e2 : tokV tx (lexAt kw S i).1 = [.string (bs en), .string (bs tx), .int .i64 j] := by
                    unfold tokV
                    rw [HKD.out, HTI.out.pos]
                    by_cases hb : (lexAt kw S i).1.kind = .bad
                    · rw [if_pos hb]
                    · rw [if_neg hb, (HTI.out.text hb).1, ← HP2.out, ← HTX.out]
                  rw [List.flatMap_append, List.flatMap_singleton, e1, e2, List.length_append]
                  exact h
                have HOW5 := Lib.hid own5
                have hts := toks_step kw S i hi
                have HTS := Lib.hid hts
                clear hx hen hszr hszA HX HXK HO hnb hstp hkd own0 own5 hts
                by_cases hst : (lexAt kw S i).1.stop = true
                · have hq : en = rNONE ∨ en = rEND := by
                    have := HSTP.out; rw [hst] at this
                    simpa using this.symm
                  have ht0 : toks kw S 0 = acc ++ [(lexAt kw S i).1] := by rw [HT.out, HTS.out, if_pos hst]
                  have HT0 := Lib.hid ht0
                  clear hst ht0
                  by_cases h1 : en = rNONE
                  · rw [decide_eq_true h1] at q1
                    clear h1 hq q2
                    go_wp2_with (first | (at_builtin; refine wpList_append_own_at _ rfl _ _ 67 rfl w.heap.size 121 ity (.agg #[.string ⟨#[]⟩, .string ⟨#[]⟩, .int .i64 0]) 3 40 und_toks hity zs0 zs1 zs2 rfl (by decide) (.slice ao acc.length cap) acc.length _ rfl (own_keepT HOW.out (Keep.alloc _ _ _)) ⟨wr.heap.size, 0, none⟩ 1 1 [.string (bs en), .string (bs tx), .int .i64 j] rfl rfl (cell_three_new _ _ _ _ _) (fun x hx => by simp at hx; rcases hx with rfl | rfl | rfl <;> rfl) (by unfold maxLen; omega) (by omega) (by simp; omega) ?_; intro v4 w4 own4 g4 _ at4; have x4 := (Keep.grown (S := fun b => (Value.slice ao acc.length cap).ownBlock = some b) g4 (fun k e _ => e)).get (heap_old HX3.out) (fun e => HNB.out _ e rfl); have d0 := cell_of_heap (i := 0) x4 rfl; have K4 := Keep.grown0 (HKW3.out.trans (Keep.alloc _ _ _)) g4 (fun b e => (HOW.out.lt b e).1)))
                    go_ret
                    exact ⟨_, tx, rfl, K4, by rw [HT0.out]; exact HOW5.out _ _ own4⟩
                  · have h2 : en = rEND := hq.resolve_left h1
                    rw [decide_eq_false h1] at q1
                    rw [decide_eq_true h2] at q2
                    clear h1 h2 hq
                    go_wp2_with (first | (at_builtin; refine wpList_append_own_at _ rfl _ _ 67 rfl w.heap.size 121 ity (.agg #[.string ⟨#[]⟩, .string ⟨#[]⟩, .int .i64 0]) 3 40 und_toks hity zs0 zs1 zs2 rfl (by decide) (.slice ao acc.length cap) acc.length _ rfl (own_keepT HOW.out (Keep.alloc _ _ _)) ⟨wr.heap.size, 0, none⟩ 1 1 [.string (bs en), .string (bs tx), .int .i64 j] rfl rfl (cell_three_new _ _ _ _ _) (fun x hx => by simp at hx; rcases hx with rfl | rfl | rfl <;> rfl) (by unfold maxLen; omega) (by omega) (by simp; omega) ?_; intro v4 w4 own4 g4 _ at4; have x4 := (Keep.grown (S := fun b => (Value.slice ao acc.length cap).ownBlock = some b) g4 (fun k e _ => e)).get (heap_old HX3.out) (fun e => HNB.out _ e rfl); have d0 := cell_of_heap (i := 0) x4 rfl; have K4 := Keep.grown0 (HKW3.out.trans (Keep.alloc _ _ _)) g4 (fun b e => (HOW.out.lt b e).1)))
                    go_ret
                    exact ⟨_, tx, rfl, K4, by rw [HT0.out]; exact HOW5.out _ _ own4⟩
                · have hst' : (lexAt kw S i).1.stop = false := by simpa using hst
                  have hq : ¬ en = rNONE ∧ ¬ en = rEND := by
                    have := HSTP.out; rw [hst'] at this
                    simpa using this.symm
                  rw [decide_eq_false hq.1] at q1
                  rw [decide_eq_false hq.2] at q2
                  have hnbad : (lexAt kw S i).1.kind ≠ .bad := fun e => by simp [Tok.stop, e] at hst'
                  have hnx : (lexAt kw S i).2 = p2 := by rw [(HTI.out.text hnbad).2, HP2.out]
                  have hlt := lexAt_le kw S i hi
                  have hgt := hlt.2.2.1 hst'
                  rw [hnx] at hgt
                  have ht0 : toks kw S 0 = (acc ++ [(lexAt kw S i).1]) ++ toks kw S p2 := by rw [HT.out, HTS.out, if_neg (by simp [hst']), hnx, List.append_assoc]; rfl
                  have own6 : ∀ (W : World) (v : Value), W.ownsRow w.heap.size 121 3 v (acc.length + 1) (acc.flatMap (tokV []) ++ [.string (bs en), .string (bs tx), .int .i64 j]) → W.ownsRow w.heap.size 121 3 v (acc ++ [(lexAt kw S i).1]).length ((acc ++ [(lexAt kw S i).1]).flatMap (tokV [])) := fun W v h => by
                    have h2 := HOW5.out W v h
                    have e : (acc ++ [(lexAt kw S i).1]).flatMap (tokV tx) = (acc ++ [(lexAt kw S i).1]).flatMap (tokV []) := flat_congrT (fun t ht => by
                      rcases List.mem_append.1 ht with ht | ht
                      · simp [tokV, HNBD.out t ht]
                      · simp only [List.mem_singleton] at ht; subst ht; simp [tokV, hnbad])
                    rw [e] at h2; exact h2
                  have hnb2 : ∀ t ∈ acc ++ [(lexAt kw S i).1], t.kind ≠ .bad := fun t ht => by
                    rcases List.mem_append.1 ht with ht | ht
                    · exact HNBD.out t ht
                    · simp only [List.mem_singleton] at ht; subst ht; exact hnbad
                  have HT0 := Lib.hid ht0; have HGT := Lib.hid hgt; have HOW6 := Lib.hid own6; have HNB2 := Lib.hid hnb2
                  clear hst hst' hq hnx hlt hgt ht0 own6 hnb2 hnbad
                  go_wp2_with (first | (at_builtin; refine wpList_append_own_at _ rfl _ _ 67 rfl w.heap.size 121 ity (.agg #[.string ⟨#[]⟩, .string ⟨#[]⟩, .int .i64 0]) 3 40 und_toks hity zs0 zs1 zs2 rfl (by decide) (.slice ao acc.length cap) acc.length _ rfl (own_keepT HOW.out (Keep.alloc _ _ _)) ⟨wr.heap.size, 0, none⟩ 1 1 [.string (bs en), .string (bs tx), .int .i64 j] rfl rfl (cell_three_new _ _ _ _ _) (fun x hx => by simp at hx; rcases hx with rfl | rfl | rfl <;> rfl) (by unfold maxLen; omega) (by omega) (by simp; omega) ?_; intro v4 w4 own4 g4 _ at4; have x4 := (Keep.grown (S := fun b => (Value.slice ao acc.length cap).ownBlock = some b) g4 (fun k e _ => e)).get (heap_old HX3.out) (fun e => HNB.out _ e rfl); have d0 := cell_of_heap (i := 0) x4 rfl; have K4 := Keep.grown0 (HKW3.out.trans (Keep.alloc _ _ _)) g4 (fun b e => (HOW.out.lt b e).1)))
                  go_roundg (S.length + 1 - p2)
                  case measure => have := HM.out; have := HGT.out; omega
                  case rel => exact ⟨p2, acc ++ [(lexAt kw S i).1], HLE.out.2, Lib.hid rfl, rfl, Lib.hid (HOW6.out _ _ own4), HT0, by have := HGT.out; simp; omega, Lib.hid K4, HNB2⟩
end Go.Proofs.YtabikmkoajdhmaaDoor
