/- (*text.Reader).next by a contract: at what begins no token. -/
import Derived.Test.YtabikmkoajdhmaaDoorQ04
set_option linter.unusedVariables false
set_option linter.unusedSimpArgs false
namespace Go.Proofs.YtabikmkoajdhmaaDoor
open Go.RowKit

set_option maxRecDepth 100000 in
set_option maxHeartbeats 2000000 in
theorem next_bad1 (kw : Str → Bool) (kwf : Nat) (hkw : KwOk kwf kw) (w : World) (rb : Nat) (S : ByteArray) (i : Nat) (kind text : ByteArray) (pos : Nat) (hS : S.size ≤ 140737488351232) (hi : i ≤ S.size)
   (h : RdAt w rb S i kind text pos (.func (.func kwf) #[] #[]))
   (q : Nat) (hq : q = i + spanN blank ((bytes S).drop i)) (hqle : q ≤ S.size) (hcls : ∃ h : q < S.size, low S[q] = false ∧ fig S[q] = false ∧ sign S[q] = false ∧ S[q].toNat ≠ 45) : Calls Tryd.prog 82 #[.pointer (some ⟨rb, 0, none⟩)] w fun e w' => e = .returned (.tuple #[]) ∧ NextPost kw w rb S i (.func (.func kwf) #[] #[]) w' := by
  have HK := Lib.hid hkw; have hen := hkw.1; clear hkw
  have hlen := bytes_length S
  have HL := Lib.hid hlen; clear hlen
  have HQ := Lib.hid hq; clear hq
  go_enter Tryd.func82, Tryd.ntmps82
  go_wp2
  go_loopg [] (S.size - i) (fun k wr => ∃ j, i ≤ j ∧ j ≤ S.size ∧ Hid (k = S.size - j) ∧ RdAt wr rb S j kind text pos (.func (.func kwf) #[] #[]) ∧ Keep (one' rb) w wr ∧ Hid (j + spanN blank ((bytes S).drop j) = q))
  case atStart => exact ⟨i, Nat.le_refl _, hi, Lib.hid rfl, h, Keep.refl _ _, Lib.hid HQ.out.symm⟩
  case round =>
    obtain ⟨j, h1, h2, H3, h4, h5, H6⟩ := hrel
    have c0 : wr.cell? ⟨rb, 0, none⟩ = some (.string S) := cell_of_heap h4 rfl
    have c1 : wr.cell? ⟨rb, 1, none⟩ = some (.int .i64 j) := cell_of_heap h4 rfl
    have f1 : wr.frozen? ⟨rb, 1, none⟩ = false := free_of_heap h4
    have f2 : wr.frozen? ⟨rb, 2, none⟩ = false := free_of_heap h4
    have f3 : wr.frozen? ⟨rb, 3, none⟩ = false := free_of_heap h4
    have f4 : wr.frozen? ⟨rb, 4, none⟩ = false := free_of_heap h4
    have c2 : wr.cell? ⟨rb, 2, none⟩ = some (.string kind) := cell_of_heap h4 rfl
    have c3 : wr.cell? ⟨rb, 3, none⟩ = some (.string text) := cell_of_heap h4 rfl
    have c4 : wr.cell? ⟨rb, 4, none⟩ = some (.int .i64 pos) := cell_of_heap h4 rfl
    have c5 : wr.cell? ⟨rb, 5, none⟩ = some (.func (.func kwf) #[] #[]) := cell_of_heap h4 rfl
    by_cases hjb : Hid (∃ hlt : j < S.size, blank S[j] = true)
    · obtain ⟨hlt, hb0⟩ := hjb.out
      clear hjb
      have hbl : blank S[j] = true → ((S[j].toNat : Int) == 32) = true ∨ ((S[j].toNat : Int) == 32) = false ∧ ((S[j].toNat : Int) == 10) = true := by
        intro hb
        simp only [blank, Bool.or_eq_true, beq_iff_eq] at hb
        rcases hb with hb | hb
        · left; simp [hb]
        · right; simp [hb]
      have hnx : Hid (j + 1 + spanN blank ((bytes S).drop (j + 1)) = q) := by
        have := spanN_hit blank (bytes S) j (by rw [HL.out]; exact hlt) hb0
        have h6 := H6.out
        exact Lib.hid (by omega)
      have HB := hbl hb0
      clear hbl hb0
      rcases HB with hb | ⟨hb, hb2⟩
      all_goals
        go_wp2
        go_quiet (fail)
        go_wp2
        go_roundg (S.size - (j + 1))
        case measure => have := H3.out; omega
        case rel => exact ⟨j + 1, by omega, by omega, Lib.hid rfl, by unfold RdAt at *; rw [heap_setC, heap_drewN, h4]; rfl, keep_set _ _ (keep_drewN _ h5), hnx⟩
    · have hjq : j = q := by
        have h6 := H6.out
        by_cases hlt : j < S.size
        · have hb : blank S[j] = false := by
            cases hc : blank S[j] with
            | false => rfl
            | true => exact absurd (Lib.hid ⟨hlt, hc⟩) hjb
          have := spanN_miss blank (bytes S) j (by rw [HL.out]; exact hlt) hb
          omega
        · have := spanN_end blank (bytes S) j (by rw [HL.out]; omega)
          omega
      have HNB : Hid (∀ hlt : j < S.size, ¬ blank S[j] = true) := Lib.hid fun hlt hb => hjb (Lib.hid ⟨hlt, hb⟩)
      clear hjb
      subst hjq
      have HE : Hid (i + spanN blank ((bytes S).drop i) = j) := Lib.hid HQ.out.symm
      obtain ⟨hlt, hl0, hf0, hs, hc⟩ := hcls
      have hb1 : ((S[j].toNat : Int) == 32) = false := by
        have := HNB.out hlt; simp [blank] at this; simp; omega
      have hb2 : ((S[j].toNat : Int) == 10) = false := by
        have := HNB.out hlt; simp [blank] at this; simp; omega
      have hne : ((j : Int) == (S.size : Int)) = false := by simp; omega
      have HLW := Lib.hid hl0; have HFG := Lib.hid hf0; clear hl0 hf0
      have e61 : ((S[j].toNat : Int) == 61) = false := by simp [sign] at hs; simp; omega
      have e40 : ((S[j].toNat : Int) == 40) = false := by simp [sign] at hs; simp; omega
      have e41 : ((S[j].toNat : Int) == 41) = false := by simp [sign] at hs; simp; omega
      have e44 : ((S[j].toNat : Int) == 44) = false := by simp [sign] at hs; simp; omega
      have e91 : ((S[j].toNat : Int) == 91) = false := by simp [sign] at hs; simp; omega
      have e93 : ((S[j].toNat : Int) == 93) = false := by simp [sign] at hs; simp; omega
      have e45 : ((S[j].toNat : Int) == 45) = false := by simp; omega
      have HC := Lib.hid hc; clear hc
      have HS := Lib.hid hs; clear hs
      have hLJ : Hid (j < (bytes S).length) := Lib.hid (by rw [HL.out]; exact hlt)
      go_wp2
      go_quiet (fail)
      go_wp2
      go_quiet (fail)
      go_wp2_with (first | (go_at_call 105; refine (small_is false S[j] _ HLW.out).mono ?_; rintro e w' ⟨rfl, rfl⟩) | (go_at_call 106; refine (digit_is false S[j] _ HFG.out).mono ?_; rintro e w' ⟨rfl, rfl⟩))
      refine bodyPost_ret (results_none rfl _ _ _) rfl ?_
      refine ⟨rfl, NextPost.mk (lex_bad kw (bytes S) i j HE.out hLJ.out HLW.out HFG.out HS.out (fun h _ => absurd h HC.out)) ?_ ?_⟩
      · repeat (first | exact h5 | apply keep_set | apply keep_drewN | apply keep_drew)
      · simp only [RdAt, heap_setC, heap_drewN, heap_drew]; unfold RdAt at h4; rw [h4]; rfl

set_option maxRecDepth 100000 in
set_option maxHeartbeats 2000000 in
theorem next_bad2 (kw : Str → Bool) (kwf : Nat) (hkw : KwOk kwf kw) (w : World) (rb : Nat) (S : ByteArray) (i : Nat) (kind text : ByteArray) (pos : Nat) (hS : S.size ≤ 140737488351232) (hi : i ≤ S.size)
   (h : RdAt w rb S i kind text pos (.func (.func kwf) #[] #[]))
   (q : Nat) (hq : q = i + spanN blank ((bytes S).drop i)) (hqle : q ≤ S.size) (hcls : ∃ h : q < S.size, low S[q] = false ∧ fig S[q] = false ∧ sign S[q] = false ∧ S[q].toNat = 45 ∧ ¬ q + 1 < S.size) : Calls Tryd.prog 82 #[.pointer (some ⟨rb, 0, none⟩)] w fun e w' => e = .returned (.tuple #[]) ∧ NextPost kw w rb S i (.func (.func kwf) #[] #[]) w' := by
  have HK := Lib.hid hkw; have hen := hkw.1; clear hkw
  have hlen := bytes_length S
  have HL := Lib.hid hlen; clear hlen
  have HQ := Lib.hid hq; clear hq
  go_enter Tryd.func82, Tryd.ntmps82
  go_wp2
  go_loopg [] (S.size - i) (fun k wr => ∃ j, i ≤ j ∧ j ≤ S.size ∧ Hid (k = S.size - j) ∧ RdAt wr rb S j kind text pos (.func (.func kwf) #[] #[]) ∧ Keep (one' rb) w wr ∧ Hid (j + spanN blank ((bytes S).drop j) = q))
  case atStart => exact ⟨i, Nat.le_refl _, hi, Lib.hid rfl, h, Keep.refl _ _, Lib.hid HQ.out.symm⟩
  case round =>
    obtain ⟨j, h1, h2, H3, h4, h5, H6⟩ := hrel
    have c0 : wr.cell? ⟨rb, 0, none⟩ = some (.string S) := cell_of_heap h4 rfl
    have c1 : wr.cell? ⟨rb, 1, none⟩ = some (.int .i64 j) := cell_of_heap h4 rfl
    have f1 : wr.frozen? ⟨rb, 1, none⟩ = false := free_of_heap h4
    have f2 : wr.frozen? ⟨rb, 2, none⟩ = false := free_of_heap h4
    have f3 : wr.frozen? ⟨rb, 3, none⟩ = false := free_of_heap h4
    have f4 : wr.frozen? ⟨rb, 4, none⟩ = false := free_of_heap h4
    have c2 : wr.cell? ⟨rb, 2, none⟩ = some (.string kind) := cell_of_heap h4 rfl
    have c3 : wr.cell? ⟨rb, 3, none⟩ = some (.string text) := cell_of_heap h4 rfl
    have c4 : wr.cell? ⟨rb, 4, none⟩ = some (.int .i64 pos) := cell_of_heap h4 rfl
    have c5 : wr.cell? ⟨rb, 5, none⟩ = some (.func (.func kwf) #[] #[]) := cell_of_heap h4 rfl
    by_cases hjb : Hid (∃ hlt : j < S.size, blank S[j] = true)
    · obtain ⟨hlt, hb0⟩ := hjb.out
      clear hjb
      have hbl : blank S[j] = true → ((S[j].toNat : Int) == 32) = true ∨ ((S[j].toNat : Int) == 32) = false ∧ ((S[j].toNat : Int) == 10) = true := by
        intro hb
        simp only [blank, Bool.or_eq_true, beq_iff_eq] at hb
        rcases hb with hb | hb
        · left; simp [hb]
        · right; simp [hb]
      have hnx : Hid (j + 1 + spanN blank ((bytes S).drop (j + 1)) = q) := by
        have := spanN_hit blank (bytes S) j (by rw [HL.out]; exact hlt) hb0
        have h6 := H6.out
        exact Lib.hid (by omega)
      have HB := hbl hb0
      clear hbl hb0
      rcases HB with hb | ⟨hb, hb2⟩
      all_goals
        go_wp2
        go_quiet (fail)
        go_wp2
        go_roundg (S.size - (j + 1))
        case measure => have := H3.out; omega
        case rel => exact ⟨j + 1, by omega, by omega, Lib.hid rfl, by unfold RdAt at *; rw [heap_setC, heap_drewN, h4]; rfl, keep_set _ _ (keep_drewN _ h5), hnx⟩
    · have hjq : j = q := by
        have h6 := H6.out
        by_cases hlt : j < S.size
        · have hb : blank S[j] = false := by
            cases hc : blank S[j] with
            | false => rfl
            | true => exact absurd (Lib.hid ⟨hlt, hc⟩) hjb
          have := spanN_miss blank (bytes S) j (by rw [HL.out]; exact hlt) hb
          omega
        · have := spanN_end blank (bytes S) j (by rw [HL.out]; omega)
          omega
      have HNB : Hid (∀ hlt : j < S.size, ¬ blank S[j] = true) := Lib.hid fun hlt hb => hjb (Lib.hid ⟨hlt, hb⟩)
      clear hjb
      subst hjq
      have HE : Hid (i + spanN blank ((bytes S).drop i) = j) := Lib.hid HQ.out.symm
      obtain ⟨hlt, hl0, hf0, hs, hc, hn⟩ := hcls
      have hb1 : ((S[j].toNat : Int) == 32) = false := by
        have := HNB.out hlt; simp [blank] at this; simp; omega
      have hb2 : ((S[j].toNat : Int) == 10) = false := by
        have := HNB.out hlt; simp [blank] at this; simp; omega
      have hne : ((j : Int) == (S.size : Int)) = false := by simp; omega
      have HLW := Lib.hid hl0; have HFG := Lib.hid hf0; clear hl0 hf0
      have e61 : ((S[j].toNat : Int) == 61) = false := by simp [sign] at hs; simp; omega
      have e40 : ((S[j].toNat : Int) == 40) = false := by simp [sign] at hs; simp; omega
      have e41 : ((S[j].toNat : Int) == 41) = false := by simp [sign] at hs; simp; omega
      have e44 : ((S[j].toNat : Int) == 44) = false := by simp [sign] at hs; simp; omega
      have e91 : ((S[j].toNat : Int) == 91) = false := by simp [sign] at hs; simp; omega
      have e93 : ((S[j].toNat : Int) == 93) = false := by simp [sign] at hs; simp; omega
      have e45 : ((S[j].toNat : Int) == 45) = true := by rw [hc]; rfl
      have hd : decide ((j : Int) + 1 < (S.size : Int)) = false := by simp; omega
      have HC := Lib.hid hc; clear hc
      have HS := Lib.hid hs; clear hs
      have hLJ : Hid (j < (bytes S).length) := Lib.hid (by rw [HL.out]; exact hlt)
      go_wp2
      go_quiet (fail)
      go_wp2
      go_quiet (fail)
      go_wp2_with (first | (go_at_call 105; refine (small_is false S[j] _ HLW.out).mono ?_; rintro e w' ⟨rfl, rfl⟩) | (go_at_call 106; refine (digit_is false S[j] _ HFG.out).mono ?_; rintro e w' ⟨rfl, rfl⟩))
      refine bodyPost_ret (results_none rfl _ _ _) rfl ?_
      refine ⟨rfl, NextPost.mk (lex_bad kw (bytes S) i j HE.out hLJ.out HLW.out HFG.out HS.out (fun _ h => absurd (by rw [HL.out] at h; exact h) hn)) ?_ ?_⟩
      · repeat (first | exact h5 | apply keep_set | apply keep_drewN | apply keep_drew)
      · simp only [RdAt, heap_setC, heap_drewN, heap_drew]; unfold RdAt at h4; rw [h4]; rfl

set_option maxRecDepth 100000 in
set_option maxHeartbeats 2000000 in
theorem next_bad3 (kw : Str → Bool) (kwf : Nat) (hkw : KwOk kwf kw) (w : World) (rb : Nat) (S : ByteArray) (i : Nat) (kind text : ByteArray) (pos : Nat) (hS : S.size ≤ 140737488351232) (hi : i ≤ S.size)
   (h : RdAt w rb S i kind text pos (.func (.func kwf) #[] #[]))
   (q : Nat) (hq : q = i + spanN blank ((bytes S).drop i)) (hqle : q ≤ S.size) (hcls : ∃ h : q + 1 < S.size, low S[q] = false ∧ fig S[q] = false ∧ sign S[q] = false ∧ S[q].toNat = 45 ∧ S[q + 1].toNat ≠ 62) : Calls Tryd.prog 82 #[.pointer (some ⟨rb, 0, none⟩)] w fun e w' => e = .returned (.tuple #[]) ∧ NextPost kw w rb S i (.func (.func kwf) #[] #[]) w' := by
  have HK := Lib.hid hkw; have hen := hkw.1; clear hkw
  have hlen := bytes_length S
  have HL := Lib.hid hlen; clear hlen
  have HQ := Lib.hid hq; clear hq
  go_enter Tryd.func82, Tryd.ntmps82
  go_wp2
  go_loopg [] (S.size - i) (fun k wr => ∃ j, i ≤ j ∧ j ≤ S.size ∧ Hid (k = S.size - j) ∧ RdAt wr rb S j kind text pos (.func (.func kwf) #[] #[]) ∧ Keep (one' rb) w wr ∧ Hid (j + spanN blank ((bytes S).drop j) = q))
  case atStart => exact ⟨i, Nat.le_refl _, hi, Lib.hid rfl, h, Keep.refl _ _, Lib.hid HQ.out.symm⟩
  case round =>
    obtain ⟨j, h1, h2, H3, h4, h5, H6⟩ := hrel
    have c0 : wr.cell? ⟨rb, 0, none⟩ = some (.string S) := cell_of_heap h4 rfl
    have c1 : wr.cell? ⟨rb, 1, none⟩ = some (.int .i64 j) := cell_of_heap h4 rfl
    have f1 : wr.frozen? ⟨rb, 1, none⟩ = false := free_of_heap h4
    have f2 : wr.frozen? ⟨rb, 2, none⟩ = false := free_of_heap h4
    have f3 : wr.frozen? ⟨rb, 3, none⟩ = false := free_of_heap h4
    have f4 : wr.frozen? ⟨rb, 4, none⟩ = false := free_of_heap h4
    have c2 : wr.cell? ⟨rb, 2, none⟩ = some (.string kind) := cell_of_heap h4 rfl
    have c3 : wr.cell? ⟨rb, 3, none⟩ = some (.string text) := cell_of_heap h4 rfl
    have c4 : wr.cell? ⟨rb, 4, none⟩ = some (.int .i64 pos) := cell_of_heap h4 rfl
    have c5 : wr.cell? ⟨rb, 5, none⟩ = some (.func (.func kwf) #[] #[]) := cell_of_heap h4 rfl
    by_cases hjb : Hid (∃ hlt : j < S.size, blank S[j] = true)
    · obtain ⟨hlt, hb0⟩ := hjb.out
      clear hjb
      have hbl : blank S[j] = true → ((S[j].toNat : Int) == 32) = true ∨ ((S[j].toNat : Int) == 32) = false ∧ ((S[j].toNat : Int) == 10) = true := by
        intro hb
        simp only [blank, Bool.or_eq_true, beq_iff_eq] at hb
        rcases hb with hb | hb
        · left; simp [hb]
        · right; simp [hb]
      have hnx : Hid (j + 1 + spanN blank ((bytes S).drop (j + 1)) = q) := by
        have := spanN_hit blank (bytes S) j (by rw [HL.out]; exact hlt) hb0
        have h6 := H6.out
        exact Lib.hid (by omega)
      have HB := hbl hb0
      clear hbl hb0
      rcases HB with hb | ⟨hb, hb2⟩
      all_goals
        go_wp2
        go_quiet (fail)
        go_wp2
        go_roundg (S.size - (j + 1))
        case measure => have := H3.out; omega
        case rel => exact ⟨j + 1, by omega, by omega, Lib.hid rfl, by unfold RdAt at *; rw [heap_setC, heap_drewN, h4]; rfl, keep_set _ _ (keep_drewN _ h5), hnx⟩
    · have hjq : j = q := by
        have h6 := H6.out
        by_cases hlt : j < S.size
        · have hb : blank S[j] = false := by
            cases hc : blank S[j] with
            | false => rfl
            | true => exact absurd (Lib.hid ⟨hlt, hc⟩) hjb
          have := spanN_miss blank (bytes S) j (by rw [HL.out]; exact hlt) hb
          omega
        · have := spanN_end blank (bytes S) j (by rw [HL.out]; omega)
          omega
      have HNB : Hid (∀ hlt : j < S.size, ¬ blank S[j] = true) := Lib.hid fun hlt hb => hjb (Lib.hid ⟨hlt, hb⟩)
      clear hjb
      subst hjq
      have HE : Hid (i + spanN blank ((bytes S).drop i) = j) := Lib.hid HQ.out.symm
      obtain ⟨hlt2, hl0, hf0, hs, hc, hn⟩ := hcls
      have hlt : j < S.size := by omega
      have hb1 : ((S[j].toNat : Int) == 32) = false := by
        have := HNB.out hlt; simp [blank] at this; simp; omega
      have hb2 : ((S[j].toNat : Int) == 10) = false := by
        have := HNB.out hlt; simp [blank] at this; simp; omega
      have hne : ((j : Int) == (S.size : Int)) = false := by simp; omega
      have HLW := Lib.hid hl0; have HFG := Lib.hid hf0; clear hl0 hf0
      have e61 : ((S[j].toNat : Int) == 61) = false := by simp [sign] at hs; simp; omega
      have e40 : ((S[j].toNat : Int) == 40) = false := by simp [sign] at hs; simp; omega
      have e41 : ((S[j].toNat : Int) == 41) = false := by simp [sign] at hs; simp; omega
      have e44 : ((S[j].toNat : Int) == 44) = false := by simp [sign] at hs; simp; omega
      have e91 : ((S[j].toNat : Int) == 91) = false := by simp [sign] at hs; simp; omega
      have e93 : ((S[j].toNat : Int) == 93) = false := by simp [sign] at hs; simp; omega
      have e45 : ((S[j].toNat : Int) == 45) = true := by rw [hc]; rfl
      have e62 : ((S[j + 1].toNat : Int) == 62) = false := by simp; omega
      have hd : decide ((j : Int) + 1 < (S.size : Int)) = true := by simp; omega
      have HC := Lib.hid hc; clear hc
      have HN := Lib.hid hn; clear hn
      have HS := Lib.hid hs; clear hs
      have hLJ : Hid (j < (bytes S).length) := Lib.hid (by rw [HL.out]; exact hlt)
      go_wp2
      go_quiet (fail)
      go_wp2
      go_quiet (fail)
      go_wp2_with (first | (go_at_call 105; refine (small_is false S[j] _ HLW.out).mono ?_; rintro e w' ⟨rfl, rfl⟩) | (go_at_call 106; refine (digit_is false S[j] _ HFG.out).mono ?_; rintro e w' ⟨rfl, rfl⟩))
      refine bodyPost_ret (results_none rfl _ _ _) rfl ?_
      refine ⟨rfl, NextPost.mk (lex_bad kw (bytes S) i j HE.out hLJ.out HLW.out HFG.out HS.out (fun _ _ => HN.out)) ?_ ?_⟩
      · repeat (first | exact h5 | apply keep_set | apply keep_drewN | apply keep_drew)
      · simp only [RdAt, heap_setC, heap_drewN, heap_drew]; unfold RdAt at h4; rw [h4]; rfl

end Go.Proofs.YtabikmkoajdhmaaDoor
