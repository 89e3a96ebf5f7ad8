/- (*text.Reader).next by a contract: at a letter, the name up to the text's end. -/
import Derived.Test.YtabikmkoajdhmaaDoorQ04
set_option linter.unusedVariables false
set_option linter.unusedSimpArgs false
namespace Go.Proofs.YtabikmkoajdhmaaDoor
open Go.RowKit

set_option maxRecDepth 100000 in
set_option maxHeartbeats 4000000 in
theorem next_lowB (kw : Str → Bool) (kwf : Nat) (hkw : KwOk kwf kw) (w : World) (rb : Nat) (S : ByteArray) (i : Nat) (kind text : ByteArray) (pos : Nat) (hS : S.size ≤ 140737488351232) (hi : i ≤ S.size)
   (h : RdAt w rb S i kind text pos (.func (.func kwf) #[] #[]))
   (q : Nat) (hq : q = i + spanN blank ((bytes S).drop i)) (hqle : q ≤ S.size) (hcls : ∃ h : q < S.size, low S[q] = true) (hcp : q + spanN lowfig ((bytes S).drop q) = S.size) : Calls Tryd.prog 82 #[.pointer (some ⟨rb, 0, none⟩)] w fun e w' => e = .returned (.tuple #[]) ∧ NextPost kw w rb S i (.func (.func kwf) #[] #[]) w' := by
  have HK := Lib.hid hkw; have hen := hkw.1; clear hkw
  have hlen := bytes_length S
  have HL := Lib.hid hlen; clear hlen
  have HQ := Lib.hid hq; clear hq
  go_enter Tryd.func82, Tryd.ntmps82
  go_wp2
  go_loopg [] (S.size - i) (fun k wr => ∃ j, i ≤ j ∧ j ≤ S.size ∧ Hid (k = S.size - j) ∧ RdAt wr rb S j kind text pos (.func (.func kwf) #[] #[]) ∧ Keep (one' rb) w wr ∧ Hid (j + spanN blank ((bytes S).drop j) = q))
  case atStart => exact ⟨i, Nat.le_refl _, hi, Lib.hid rfl, h, Keep.refl _ _, Lib.hid HQ.out.symm⟩
  case round =>
    obtain ⟨j, h1, h2, H3, h4, h5, H6⟩ := hrel
    have c0 : wr.cell? ⟨rb, 0, none⟩ = some (.string S) := cell_of_heap h4 rfl
    have c1 : wr.cell? ⟨rb, 1, none⟩ = some (.int .i64 j) := cell_of_heap h4 rfl
    have f1 : wr.frozen? ⟨rb, 1, none⟩ = false := free_of_heap h4
    have f2 : wr.frozen? ⟨rb, 2, none⟩ = false := free_of_heap h4
    have f3 : wr.frozen? ⟨rb, 3, none⟩ = false := free_of_heap h4
    have f4 : wr.frozen? ⟨rb, 4, none⟩ = false := free_of_heap h4
    have c2 : wr.cell? ⟨rb, 2, none⟩ = some (.string kind) := cell_of_heap h4 rfl
    have c3 : wr.cell? ⟨rb, 3, none⟩ = some (.string text) := cell_of_heap h4 rfl
    have c4 : wr.cell? ⟨rb, 4, none⟩ = some (.int .i64 pos) := cell_of_heap h4 rfl
    have c5 : wr.cell? ⟨rb, 5, none⟩ = some (.func (.func kwf) #[] #[]) := cell_of_heap h4 rfl
    by_cases hjb : Hid (∃ hlt : j < S.size, blank S[j] = true)
    · obtain ⟨hlt, hb0⟩ := hjb.out
      clear hjb
      have hbl : blank S[j] = true → ((S[j].toNat : Int) == 32) = true ∨ ((S[j].toNat : Int) == 32) = false ∧ ((S[j].toNat : Int) == 10) = true := by
        intro hb
        simp only [blank, Bool.or_eq_true, beq_iff_eq] at hb
        rcases hb with hb | hb
        · left; simp [hb]
        · right; simp [hb]
      have hnx : Hid (j + 1 + spanN blank ((bytes S).drop (j + 1)) = q) := by
        have := spanN_hit blank (bytes S) j (by rw [HL.out]; exact hlt) hb0
        have h6 := H6.out
        exact Lib.hid (by omega)
      have HB := hbl hb0
      clear hbl hb0
      rcases HB with hb | ⟨hb, hb2⟩
      all_goals
        go_wp2
        go_quiet (fail)
        go_wp2
        go_roundg (S.size - (j + 1))
        case measure => have := H3.out; omega
        case rel => exact ⟨j + 1, by omega, by omega, Lib.hid rfl, by unfold RdAt at *; rw [heap_setC, heap_drewN, h4]; rfl, keep_set _ _ (keep_drewN _ h5), hnx⟩
    · have hjq : j = q := by
        have h6 := H6.out
        by_cases hlt : j < S.size
        · have hb : blank S[j] = false := by
            cases hc : blank S[j] with
            | false => rfl
            | true => exact absurd (Lib.hid ⟨hlt, hc⟩) hjb
          have := spanN_miss blank (bytes S) j (by rw [HL.out]; exact hlt) hb
          omega
        · have := spanN_end blank (bytes S) j (by rw [HL.out]; omega)
          omega
      have HNB : Hid (∀ hlt : j < S.size, ¬ blank S[j] = true) := Lib.hid fun hlt hb => hjb (Lib.hid ⟨hlt, hb⟩)
      clear hjb
      subst hjq
      have HE : Hid (i + spanN blank ((bytes S).drop i) = j) := Lib.hid HQ.out.symm
      obtain ⟨hlt, hc2⟩ := hcls
      have hb1 : ((S[j].toNat : Int) == 32) = false := by
        have := HNB.out hlt; simp [blank] at this; simp; omega
      have hb2 : ((S[j].toNat : Int) == 10) = false := by
        have := HNB.out hlt; simp [blank] at this; simp; omega
      have hne : ((j : Int) == (S.size : Int)) = false := by simp; omega
      obtain ⟨p, hp⟩ : ∃ p, p = j + spanN lowfig ((bytes S).drop j) := ⟨_, rfl⟩
      have hpe : p = S.size := by rw [hp]; exact hcp
      clear hcp
      have hple : p ≤ S.size := by rw [hp, ← HL.out]; exact spanN_drop_le _ _ _ (by rw [HL.out]; omega)
      have HP := Lib.hid hp; clear hp
      have HLW := Lib.hid hc2; clear hc2
      have hLJ : Hid (j < (bytes S).length) := Lib.hid (by rw [HL.out]; exact hlt)
      go_wp2
      go_quiet (fail)
      go_wp2
      go_quiet (fail)
      go_wp2_with (go_at_call 105; refine (small_is true S[j] _ HLW.out).mono ?_; rintro e w' ⟨rfl, rfl⟩)
      go_loopg [2] (S.size - j) (fun k s2 wl => ∃ m, j ≤ m ∧ m ≤ S.size ∧ s2 = .int .i64 m ∧ Hid (k = S.size - m) ∧ RdAt wl rb S j (bs (kstr .bad)) (bs []) j (.func (.func kwf) #[] #[]) ∧ Keep (one' rb) w wl ∧ Hid (m + spanN lowfig ((bytes S).drop m) = p))
      case atStart =>
        refine ⟨j, Nat.le_refl _, h2, rfl, Lib.hid rfl, ?_, ?_, Lib.hid HP.out.symm⟩
        · simp only [RdAt, heap_setC, heap_drewN]; unfold RdAt at h4; rw [h4]; rfl
        · repeat (first | exact h5 | apply keep_set | apply keep_drewN | apply keep_drew)
      case round =>
        clear h4 h5 c0 c1 f1 f2 f3 f4
        obtain ⟨m, g1, g2, rfl, G3, g4, g5, G6⟩ := hrel
        have c0 : wr.cell? ⟨rb, 0, none⟩ = some (.string S) := cell_of_heap g4 rfl
        have c1 : wr.cell? ⟨rb, 1, none⟩ = some (.int .i64 j) := cell_of_heap g4 rfl
        have c2 : wr.cell? ⟨rb, 2, none⟩ = some (.string (bs (kstr .bad))) := cell_of_heap g4 rfl
        have c3 : wr.cell? ⟨rb, 3, none⟩ = some (.string (bs [])) := cell_of_heap g4 rfl
        have c5 : wr.cell? ⟨rb, 5, none⟩ = some (.func (.func kwf) #[] #[]) := cell_of_heap g4 rfl
        have f1 : wr.frozen? ⟨rb, 1, none⟩ = false := free_of_heap g4
        have f2 : wr.frozen? ⟨rb, 2, none⟩ = false := free_of_heap g4
        have f3 : wr.frozen? ⟨rb, 3, none⟩ = false := free_of_heap g4
        have hnext : ∀ hm : m < S.size, lowfig S[m] = true → Hid (m + 1 + spanN lowfig ((bytes S).drop (m + 1)) = p) := fun hm hx => by
          have := spanN_hit lowfig (bytes S) m (by rw [HL.out]; exact hm) hx
          have h6 := G6.out
          exact Lib.hid (by omega)
        have HN := Lib.hid hnext; clear hnext
        have HMP : Hid ((∀ hm : m < S.size, lowfig S[m] = false) → m = p) := Lib.hid fun hx => by
          have h6 := G6.out
          by_cases hm : m < S.size
          · have := spanN_miss lowfig (bytes S) m (by rw [HL.out]; exact hm) (hx hm)
            omega
          · have := spanN_end lowfig (bytes S) m (by rw [HL.out]; omega)
            omega
        by_cases hm : m < S.size
        · by_cases hlm : low S[m] = true
          · have hn2 := HN.out hm (by simp [lowfig, hlm])
            have HLM := Lib.hid hlm; clear hlm
            go_wp2_with ((go_at_call 105; refine (small_is true S[m] _ HLM.out).mono ?_; rintro e w' ⟨rfl, rfl⟩))
            go_roundg (S.size - (m + 1))
            case measure => have := G3.out; omega
            case rel => exact ⟨m + 1, by omega, by omega, by go_num, Lib.hid rfl, g4, g5, hn2⟩
          · have hlm' : low S[m] = false := by simpa using hlm
            have HLM := Lib.hid hlm'; clear hlm hlm'
            by_cases hfm : fig S[m] = true
            · have hn2 := HN.out hm (by simp [lowfig, hfm])
              have HFM := Lib.hid hfm; clear hfm
              go_wp2_with (first | (go_at_call 105; refine (small_is false S[m] _ HLM.out).mono ?_; rintro e w' ⟨rfl, rfl⟩) | (go_at_call 106; refine (digit_is true S[m] _ HFM.out).mono ?_; rintro e w' ⟨rfl, rfl⟩))
              go_roundg (S.size - (m + 1))
              case measure => have := G3.out; omega
              case rel => exact ⟨m + 1, by omega, by omega, by go_num, Lib.hid rfl, g4, g5, hn2⟩
            · have hfm' : fig S[m] = false := by simpa using hfm
              have HFM := Lib.hid hfm'; clear hfm hfm'
              exact absurd (HMP.out (fun _ => by simp [lowfig, HLM.out, HFM.out])) (by omega)
        · have HM : Hid (m = p) := Lib.hid (HMP.out (fun h => absurd h hm))
          by_cases h8 : 8 < m - j
          · go_wp2_with (fail)
            exact bodyPost_ret (results_none rfl _ _ _) rfl ⟨rfl, NextPost.mk (t := ⟨.bad, [], j⟩) (j := j) (by rw [lex_low kw (bytes S) i j m HE.out hLJ.out HLW.out (by rw [HM.out, HP.out]), if_pos h8]) g5 g4⟩
          · have HX : Hid (lexAt kw (bytes S) i = (⟨if kw (bytes (S.extract j m)) then .kw (bytes (S.extract j m)) else .name, bytes (S.extract j m), j⟩, m)) := Lib.hid (by
              rw [lex_low kw (bytes S) i j m HE.out hLJ.out HLW.out (by rw [HM.out, HP.out]), if_neg h8, extract_bs, bytes_bs])
            have hsl := fun w => slice_str S j m g1 g2 w
            rcases Bool.eq_false_or_eq_true (kw (bytes (S.extract j m))) with hk | hk
            all_goals
              have HKb := Lib.hid (fun w => KwOk.at HK.out hk w)
              have HKV := Lib.hid hk
              clear hk
              go_wp2_with (fail)
              go_quiet ((exact Calls.quiet_of_same (HKb.out _)))
              go_wp2
              (refine region_tail 14 (by kernel_rfl) (by kernel_rfl) ?_; simp only [List.take_succ_cons, List.take_zero, List.drop_succ_cons, List.drop_zero]; repeat still_step; try refine wpStill_nil ?_)
              go_wp2
              try ((refine region_tail 14 (by kernel_rfl) (by kernel_rfl) ?_; simp only [List.take_succ_cons, List.take_zero, List.drop_succ_cons, List.drop_zero]; repeat still_step; try refine wpStill_nil ?_); go_wp2)
              first | go_end0 | refine bodyPost_ret (results_none rfl _ _ _) rfl ?_
              refine ⟨rfl, NextPost.mk (by rw [HX.out, HKV.out]) ?_ ?_⟩
              · repeat (first | exact g5 | apply keep_set | apply keep_drewN | apply keep_drew)
              · simp only [RdAt, heap_setC, heap_drewN, heap_drew]; unfold RdAt at g4; rw [g4]; simp [Obj.setC, kstr, bs_bytes]; all_goals rfl

end Go.Proofs.YtabikmkoajdhmaaDoor
