/- (*text.Reader).next by a contract: the token that begins at its place, as the plain 'lexAt' has it. -/
import Derived.Test.YtabikmkoajdhmaaDoorQ07
import Derived.Test.YtabikmkoajdhmaaDoorQ08
import Derived.Test.YtabikmkoajdhmaaDoorQ09
import Derived.Test.YtabikmkoajdhmaaDoorQ10
import Derived.Test.YtabikmkoajdhmaaDoorQ11
import Derived.Test.YtabikmkoajdhmaaDoorQ12
import Derived.Test.YtabikmkoajdhmaaDoorQ13
import Derived.Test.YtabikmkoajdhmaaDoorQ14
import Derived.Test.YtabikmkoajdhmaaDoorQ15
import Derived.Test.YtabikmkoajdhmaaDoorQ16
import Derived.Test.YtabikmkoajdhmaaDoorQ17
import Derived.Test.YtabikmkoajdhmaaDoorQ18
import Derived.Test.YtabikmkoajdhmaaDoorQ19
import Derived.Test.YtabikmkoajdhmaaDoorQ04
set_option linter.unusedVariables false
set_option linter.unusedSimpArgs false
namespace Go.Proofs.YtabikmkoajdhmaaDoor
open Go.RowKit

theorem next_any (kw : Str → Bool) (kwf : Nat) (hkw : KwOk kwf kw) (w : World) (rb : Nat) (S : ByteArray) (i : Nat) (kind text : ByteArray) (pos : Nat) (hS : S.size ≤ 140737488351232) (hi : i ≤ S.size)
   (h : RdAt w rb S i kind text pos (.func (.func kwf) #[] #[])) : Calls Tryd.prog 82 #[.pointer (some ⟨rb, 0, none⟩)] w fun e w' => e = .returned (.tuple #[]) ∧ NextPost kw w rb S i (.func (.func kwf) #[] #[]) w' := by
  obtain ⟨q, hq⟩ : ∃ q, q = i + spanN blank ((bytes S).drop i) := ⟨_, rfl⟩
  have hqle : q ≤ S.size := by rw [hq, ← bytes_length]; exact spanN_drop_le _ _ _ (by rw [bytes_length]; exact hi)
  by_cases he : q = S.size
  · exact next_end kw kwf hkw w rb S i kind text pos hS hi h q hq hqle he
  have hlt : q < S.size := by omega
  cases hl : low S[q] with
  | true =>
    have hp : q + spanN lowfig ((bytes S).drop q) ≤ S.size := by rw [← bytes_length]; exact spanN_drop_le _ _ _ (by rw [bytes_length]; omega)
    by_cases hpe : q + spanN lowfig ((bytes S).drop q) = S.size
    · exact next_lowB kw kwf hkw w rb S i kind text pos hS hi h q hq hqle ⟨hlt, hl⟩ hpe
    · exact next_lowA kw kwf hkw w rb S i kind text pos hS hi h q hq hqle ⟨hlt, hl⟩ (by omega)
  | false =>
    cases hf : fig S[q] with
    | true =>
      have hp : q + spanN fig ((bytes S).drop q) ≤ S.size := by rw [← bytes_length]; exact spanN_drop_le _ _ _ (by rw [bytes_length]; omega)
      by_cases hpe : q + spanN fig ((bytes S).drop q) = S.size
      · exact next_figB kw kwf hkw w rb S i kind text pos hS hi h q hq hqle ⟨hlt, hl, hf⟩ hpe
      · exact next_figA kw kwf hkw w rb S i kind text pos hS hi h q hq hqle ⟨hlt, hl, hf⟩ (by omega)
    | false =>
      by_cases hs : sign S[q] = true
      · have hc : S[q].toNat = 61 ∨ S[q].toNat = 40 ∨ S[q].toNat = 41 ∨ S[q].toNat = 44 ∨ S[q].toNat = 91 ∨ S[q].toNat = 93 := by simpa [sign, or_assoc] using hs
        rcases hc with hc | hc | hc | hc | hc | hc
        · exact next_sign61 kw kwf hkw w rb S i kind text pos hS hi h q hq hqle ⟨hlt, hc⟩
        · exact next_sign40 kw kwf hkw w rb S i kind text pos hS hi h q hq hqle ⟨hlt, hc⟩
        · exact next_sign41 kw kwf hkw w rb S i kind text pos hS hi h q hq hqle ⟨hlt, hc⟩
        · exact next_sign44 kw kwf hkw w rb S i kind text pos hS hi h q hq hqle ⟨hlt, hc⟩
        · exact next_sign91 kw kwf hkw w rb S i kind text pos hS hi h q hq hqle ⟨hlt, hc⟩
        · exact next_sign93 kw kwf hkw w rb S i kind text pos hS hi h q hq hqle ⟨hlt, hc⟩
      · have hs' : sign S[q] = false := by simpa using hs
        by_cases h45 : S[q].toNat = 45
        · by_cases h2 : q + 1 < S.size
          · by_cases h62 : S[q + 1].toNat = 62
            · exact next_arrow kw kwf hkw w rb S i kind text pos hS hi h q hq hqle ⟨h2, h45, h62⟩
            · exact next_bad3 kw kwf hkw w rb S i kind text pos hS hi h q hq hqle ⟨h2, hl, hf, hs', h45, h62⟩
          · exact next_bad2 kw kwf hkw w rb S i kind text pos hS hi h q hq hqle ⟨hlt, hl, hf, hs', h45, h2⟩
        · exact next_bad1 kw kwf hkw w rb S i kind text pos hS hi h q hq hqle ⟨hlt, hl, hf, hs', h45⟩
end Go.Proofs.YtabikmkoajdhmaaDoor

/- The reader as a list of tokens: New, Want, Take, Fail by contracts. -/
namespace Go.Proofs.YtabikmkoajdhmaaDoor
open Go.RowKit

/-! ### the reader's state -/
/-- The reader in block rb has these tokens before it, the first one in hand. -/
def Rd (w : World) (rb : Nat) (S : ByteArray) (kw : Str → Bool) (kwf : Nat) (l : List Tok) : Prop :=
  ∃ i0, i0 ≤ S.size ∧ l = toks kw (bytes S) i0 ∧ RdAt w rb S (lexAt kw (bytes S) i0).2 (bs (kstr (lexAt kw (bytes S) i0).1.kind)) (bs (lexAt kw (bytes S) i0).1.text) (lexAt kw (bytes S) i0).1.pos (.func (.func kwf) #[] #[])

theorem Rd.keep {S' : Nat → Prop} {w w' : World} {rb : Nat} {S : ByteArray} {kw : Str → Bool} {kwf : Nat} {l : List Tok} (h : Rd w rb S kw kwf l) (k : Keep S' w w') (hn : ¬ S' rb) : Rd w' rb S kw kwf l := by
  obtain ⟨i, h1, h2, h3⟩ := h
  exact ⟨i, h1, h2, k.get h3 hn⟩
theorem Rd.lt {w : World} {rb : Nat} {S : ByteArray} {kw : Str → Bool} {kwf : Nat} {l : List Tok} (h : Rd w rb S kw kwf l) : rb < w.heap.size := let ⟨_, _, _, h3⟩ := h; lt_of_heap h3

/-- What text.Fail panics with. -/
def stopE (p : Nat) : List PanicEntry := [{ v := .iface 213 (.agg #[.int .i64 p]), recovered := false }]

set_option maxHeartbeats 1000000 in
theorem fail_any (p : Nat) (w : World) : Calls Tryd.prog 86 #[.int .i64 p] w fun e w' => e = .panicked (stopE p) ∧ w = w' := by
  go_enter Tryd.func86, Tryd.ntmps86
  go_wp2
  exact ⟨rfl, rfl, rfl⟩

/-- What is asked of a text and its keywords. -/
structure Lx (kw : Str → Bool) (kwf : Nat) (S : ByteArray) : Prop where
  ok : KwOk kwf kw
  good : KwGood kw
  size : S.size ≤ 140737488351232

def WantPost (w : World) (rb : Nat) (S : ByteArray) (kw : Str → Bool) (kwf : Nat) (r : Res (Str × List Tok)) (e : Ending) (w' : World) : Prop :=
  Keep (one' rb) w w' ∧ match r with
    | some (.ok (t, l)) => e = .returned (.string (bs t)) ∧ Rd w' rb S kw kwf l
    | some (.error p) => e = .panicked (stopE p)
    | none => False

theorem str_ne {a b : Str} : ((bs a).toList == (bs b).toList) = decide (a = b) := by
  have e : ∀ l : Str, (bs l).toList = l := fun l => by rw [ByteArray.toList_eq]; exact bs_toList l
  rw [e, e]
  by_cases h : a = b <;> simp [h]

theorem hd_toks (kw : Str → Bool) (s : Str) (i : Nat) (hi : i ≤ s.length) : hd (toks kw s i) = (lexAt kw s i).1 := by rw [toks_step kw s i hi]; rfl
theorem adv_toks (kw : Str → Bool) (s : Str) (i : Nat) (hi : i ≤ s.length) (hb : (lexAt kw s i).1.kind ≠ .bad) : adv (toks kw s i) = toks kw s (lexAt kw s i).2 := by
  have hle := lexAt_le kw s i hi
  rw [toks_step kw s i hi]
  cases hs : (lexAt kw s i).1.stop with
  | false =>
    simp only [Bool.false_eq_true, if_false]
    rw [toks_step kw s (lexAt kw s i).2 hle.2.1]
    rfl
  | true =>
    have hf : (lexAt kw s i).1.kind = .fin := by
      unfold Tok.stop at hs
      split at hs
      · assumption
      · rename_i h; exact absurd h hb
      · cases hs
    have e := hle.2.2.2 hf
    have e2 : lexAt kw s s.length = (⟨.fin, [], s.length⟩, s.length) := (lexAt_le kw s s.length (Nat.le_refl _)).2.2.2 (by
      have e : s.drop (s.length + spanN blank (s.drop s.length)) = [] := List.drop_eq_nil_of_le (by omega)
      unfold lexAt; rw [e]; rfl)
    rw [e]
    simp only [if_true]
    rw [toks_step kw s s.length (Nat.le_refl _), e2]
    rfl

set_option maxHeartbeats 1000000 in
theorem want_any {kw : Str → Bool} {kwf : Nat} {S : ByteArray} (hx : Lx kw kwf S) (k0 : TK) (hk : goodK k0) (hb : k0 ≠ .bad) (w : World) (rb : Nat) (l : List Tok) (h : Rd w rb S kw kwf l) :
    Calls Tryd.prog 69 #[.pointer (some ⟨rb, 0, none⟩), .string (bs (kstr k0))] w (WantPost w rb S kw kwf (want k0 l)) := by
  obtain ⟨i0, hi0, rfl, hr⟩ := h
  have hlen : i0 ≤ (bytes S).length := by rw [bytes_length]; exact hi0
  have hhd := hd_toks kw (bytes S) i0 hlen
  have hgood := lexAt_good hx.good (bytes S) i0
  have hle := lexAt_le kw (bytes S) i0 hlen
  unfold want
  rw [hhd]
  generalize hT : (lexAt kw (bytes S) i0).1 = T at *
  generalize hj : (lexAt kw (bytes S) i0).2 = j at *
  have c2 : w.cell? ⟨rb, 2, none⟩ = some (.string (bs (kstr T.kind))) := cell_of_heap hr rfl
  have c3 : w.cell? ⟨rb, 3, none⟩ = some (.string (bs T.text)) := cell_of_heap hr rfl
  have c4 : w.cell? ⟨rb, 4, none⟩ = some (.int .i64 T.pos) := cell_of_heap hr rfl
  by_cases he : T.kind = k0
  · rw [if_pos he]
    have hadv : adv (toks kw (bytes S) i0) = toks kw (bytes S) j := by rw [adv_toks kw (bytes S) i0 hlen (by rw [hT, he]; exact hb), hj]
    rw [hadv]
    have hcmp : ((bs (kstr T.kind)).toList == (bs (kstr k0)).toList) = true := by rw [str_ne, he]; simp
    have HH := Lib.hid hhd; have HJ := Lib.hid hj; have HT := Lib.hid hT; have HE := Lib.hid he; have HA := Lib.hid hadv
    clear hhd hj hT he hadv hgood
    go_enter Tryd.func69, Tryd.ntmps69
    go_wp2_with fail
    refine (next_any kw kwf hx.ok w rb S j _ _ _ hx.size (by rw [← bytes_length]; exact hle.2.1) hr).mono ?_
    rintro e w' ⟨rfl, hn⟩
    go_wp2_with fail
    go_ret
    exact ⟨hn.1, rfl, ⟨j, by rw [← bytes_length]; exact hle.2.1, rfl, hn.2⟩⟩
  · rw [if_neg he]
    have hcmp : ((bs (kstr T.kind)).toList == (bs (kstr k0)).toList) = false := by
      rw [str_ne]; simp; exact fun e => he (kstr_inj hgood hk e)
    have HH := Lib.hid hhd; have HJ := Lib.hid hj; have HT := Lib.hid hT; have HE := Lib.hid he
    clear hhd hj hT he hgood
    go_enter Tryd.func69, Tryd.ntmps69
    go_wp2_with fail
    refine (fail_any T.pos _).mono ?_
    rintro e w' ⟨rfl, rfl⟩
    go_wp2_with fail
    exact ⟨rfl, Keep.refl _ _, rfl⟩

/-- Take: is the token in hand of that kind? Then the next one is taken in hand. -/
def TakePost (w : World) (rb : Nat) (S : ByteArray) (kw : Str → Bool) (kwf : Nat) (k0 : TK) (l : List Tok) (e : Ending) (w' : World) : Prop :=
  Keep (one' rb) w w' ∧ if (hd l).kind = k0 then e = .returned (.bool true) ∧ Rd w' rb S kw kwf (adv l) else e = .returned (.bool false) ∧ w = w'
set_option maxHeartbeats 1000000 in
theorem take_any {kw : Str → Bool} {kwf : Nat} {S : ByteArray} (hx : Lx kw kwf S) (k0 : TK) (hk : goodK k0) (hb : k0 ≠ .bad) (w : World) (rb : Nat) (l : List Tok) (h : Rd w rb S kw kwf l) :
    Calls Tryd.prog 83 #[.pointer (some ⟨rb, 0, none⟩), .string (bs (kstr k0))] w (TakePost w rb S kw kwf k0 l) := by
  obtain ⟨i0, hi0, rfl, hr⟩ := h
  have hlen : i0 ≤ (bytes S).length := by rw [bytes_length]; exact hi0
  have hhd := hd_toks kw (bytes S) i0 hlen
  have hgood := lexAt_good hx.good (bytes S) i0
  have hle := lexAt_le kw (bytes S) i0 hlen
  have hP : TakePost w rb S kw kwf k0 (toks kw (bytes S) i0) = fun e w' => Keep (one' rb) w w' ∧ if (lexAt kw (bytes S) i0).1.kind = k0 then e = .returned (.bool true) ∧ Rd w' rb S kw kwf (adv (toks kw (bytes S) i0)) else e = .returned (.bool false) ∧ w = w' := by
    funext e w'; unfold TakePost; rw [hhd]
  rw [hP]
  clear hP
  generalize hT : (lexAt kw (bytes S) i0).1 = T at *
  generalize hj : (lexAt kw (bytes S) i0).2 = j at *
  have c2 : w.cell? ⟨rb, 2, none⟩ = some (.string (bs (kstr T.kind))) := cell_of_heap hr rfl
  by_cases he : T.kind = k0
  · have hadv : adv (toks kw (bytes S) i0) = toks kw (bytes S) j := by rw [adv_toks kw (bytes S) i0 hlen (by rw [hT, he]; exact hb), hj]
    rw [hadv]
    have hcmp : ((bs (kstr T.kind)).toList == (bs (kstr k0)).toList) = true := by rw [str_ne, he]; simp
    have HH := Lib.hid hhd; have HJ := Lib.hid hj; have HT := Lib.hid hT; have HE := Lib.hid he; have HA := Lib.hid hadv
    clear hhd hj hT he hadv hgood
    go_enter Tryd.func83, Tryd.ntmps83
    go_wp2_with fail
    refine (next_any kw kwf hx.ok w rb S j _ _ _ hx.size (by rw [← bytes_length]; exact hle.2.1) hr).mono ?_
    rintro e w' ⟨rfl, hn⟩
    go_wp2_with fail
    go_ret
    exact ⟨hn.1, rfl, ⟨j, by rw [← bytes_length]; exact hle.2.1, rfl, hn.2⟩⟩
  · have hcmp : ((bs (kstr T.kind)).toList == (bs (kstr k0)).toList) = false := by
      rw [str_ne]; simp; exact fun e => he (kstr_inj hgood hk e)
    have HH := Lib.hid hhd; have HJ := Lib.hid hj; have HT := Lib.hid hT; have HE := Lib.hid he
    clear hhd hj hT he hgood
    go_enter Tryd.func83, Tryd.ntmps83
    go_wp2_with fail
    go_ret
    exact ⟨Keep.refl _ _, rfl, rfl⟩

/-- text.New: a reader of its own, the first token in hand. -/
theorem new_any {kw : Str → Bool} {kwf : Nat} {S : ByteArray} (hx : Lx kw kwf S) (w : World) :
    Calls Tryd.prog 66 #[.string S, .func (.func kwf) #[] #[]] w fun e w' => e = .returned (.pointer (some ⟨w.heap.size, 0, none⟩)) ∧ Keep none' w w' ∧ Rd w' w.heap.size S kw kwf (toks kw (bytes S) 0) := by
  have hr : RdAt (w.alloc (.cells #[.string S, .int .i64 0, .string ⟨#[]⟩, .string ⟨#[]⟩, .int .i64 0, .func (.func kwf) #[] #[]] 217)) w.heap.size S 0 ⟨#[]⟩ ⟨#[]⟩ 0 (.func (.func kwf) #[] #[]) := heap_new _ _
  go_enter Tryd.func66, Tryd.ntmps66
  go_wp2_with fail
  refine (next_any kw kwf hx.ok _ w.heap.size S 0 _ _ _ hx.size (Nat.zero_le _) hr).mono ?_
  rintro e w' ⟨rfl, hn⟩
  go_wp2_with fail
  go_ret
  refine ⟨rfl, ?_, ⟨0, Nat.zero_le _, rfl, hn.2⟩⟩
  exact (Keep.alloc none' w _).trans' hn.1 (fun _ _ x => x) (fun i hi (x : i = _) => by omega)

/-! ### the two tellers of keywords -/
theorem words_good : KwGood wordsB := fun w h => by
  simp only [wordsB, Bool.or_eq_true, beq_iff_eq] at h
  rcases h with ((((((rfl | rfl) | rfl) | rfl) | rfl) | rfl) | rfl) | rfl <;> (unfold reserved; decide)
theorem kinds_good : KwGood kindsB := fun w h => by
  simp only [kindsB, Bool.or_eq_true, beq_iff_eq] at h
  rcases h with rfl | rfl <;> (unfold reserved; decide)
end Go.Proofs.YtabikmkoajdhmaaDoor

/- ast.Keyword and types.Read's own teller of keywords, by contracts. -/
namespace Go.Proofs.YtabikmkoajdhmaaDoor
open Go.RowKit

set_option maxHeartbeats 1000000 in
theorem keyword_ok : KwOk 67 wordsB := by
  refine ⟨fun args w => by kernel_rfl, fun s w => ?_⟩
  have he : bytes s = s.toList := (ByteArray.toList_eq s).symm
  rw [he]
  generalize hl : s.toList = l
  have HL := Lib.hid hl; clear hl he
  have e : ∀ (k : Str) (b : Bool), (l == k) = b → (s.toList == k) = b := fun k b h => by rw [HL.out]; exact h
  have E := Lib.hid e; clear e
  unfold wordsB
  cases h1 : l == FUN with
  | true =>
    have t1 := E.out _ _ h1; clear h1
    unfold FUN at t1
    go_enter Tryd.func67, Tryd.ntmps67
    go_wp2
    go_ret
    exact ⟨by simp, rfl⟩
  | false =>
  have t1 := E.out _ _ h1; clear h1
  unfold FUN at t1
  cases h2 : l == LET with
  | true =>
    have t2 := E.out _ _ h2; clear h2
    unfold LET at t2
    go_enter Tryd.func67, Tryd.ntmps67
    go_wp2
    go_ret
    exact ⟨by simp, rfl⟩
  | false =>
  have t2 := E.out _ _ h2; clear h2
  unfold LET at t2
  cases h3 : l == REC with
  | true =>
    have t3 := E.out _ _ h3; clear h3
    unfold REC at t3
    go_enter Tryd.func67, Tryd.ntmps67
    go_wp2
    go_ret
    exact ⟨by simp, rfl⟩
  | false =>
  have t3 := E.out _ _ h3; clear h3
  unfold REC at t3
  cases h4 : l == AND with
  | true =>
    have t4 := E.out _ _ h4; clear h4
    unfold AND at t4
    go_enter Tryd.func67, Tryd.ntmps67
    go_wp2
    go_ret
    exact ⟨by simp, rfl⟩
  | false =>
  have t4 := E.out _ _ h4; clear h4
  unfold AND at t4
  cases h5 : l == IN with
  | true =>
    have t5 := E.out _ _ h5; clear h5
    unfold IN at t5
    go_enter Tryd.func67, Tryd.ntmps67
    go_wp2
    go_ret
    exact ⟨by simp, rfl⟩
  | false =>
  have t5 := E.out _ _ h5; clear h5
  unfold IN at t5
  cases h6 : l == IF with
  | true =>
    have t6 := E.out _ _ h6; clear h6
    unfold IF at t6
    go_enter Tryd.func67, Tryd.ntmps67
    go_wp2
    go_ret
    exact ⟨by simp, rfl⟩
  | false =>
  have t6 := E.out _ _ h6; clear h6
  unfold IF at t6
  cases h7 : l == THEN with
  | true =>
    have t7 := E.out _ _ h7; clear h7
    unfold THEN at t7
    go_enter Tryd.func67, Tryd.ntmps67
    go_wp2
    go_ret
    exact ⟨by simp, rfl⟩
  | false =>
  have t7 := E.out _ _ h7; clear h7
  unfold THEN at t7
  cases h8 : l == ELSE with
  | true =>
    have t8 := E.out _ _ h8; clear h8
    unfold ELSE at t8
    go_enter Tryd.func67, Tryd.ntmps67
    go_wp2
    go_ret
    exact ⟨by simp, rfl⟩
  | false =>
    have t8 := E.out _ _ h8; clear h8
    unfold ELSE at t8
    go_enter Tryd.func67, Tryd.ntmps67
    go_wp2
    go_ret
    exact ⟨by simp, rfl⟩

set_option maxHeartbeats 1000000 in
theorem kinds_ok : KwOk 74 kindsB := by
  refine ⟨fun args w => by kernel_rfl, fun s w => ?_⟩
  have he : bytes s = s.toList := (ByteArray.toList_eq s).symm
  rw [he]
  generalize hl : s.toList = l
  have HL := Lib.hid hl; clear hl he
  have e : ∀ (k : Str) (b : Bool), (l == k) = b → (s.toList == k) = b := fun k b h => by rw [HL.out]; exact h
  have E := Lib.hid e; clear e
  unfold kindsB
  cases h1 : l == INT with
  | true =>
    have t1 := E.out _ _ h1; clear h1
    unfold INT at t1
    go_enter Tryd.func74, Tryd.ntmps74
    go_wp2
    go_ret
    exact ⟨by simp, rfl⟩
  | false =>
    have t1 := E.out _ _ h1; clear h1
    unfold INT at t1
    cases h2 : l == BOOL with
    | true =>
      have t2 := E.out _ _ h2; clear h2
      unfold BOOL at t2
      go_enter Tryd.func74, Tryd.ntmps74
      go_wp2
      go_ret
      exact ⟨by simp, rfl⟩
    | false =>
      have t2 := E.out _ _ h2; clear h2
      unfold BOOL at t2
      go_enter Tryd.func74, Tryd.ntmps74
      go_wp2
      go_ret
      exact ⟨by simp, rfl⟩
end Go.Proofs.YtabikmkoajdhmaaDoor

/- Expressions in memory, and what the readers of expressions leave ('ParsePost'): words and plain lemmas. -/
namespace Go.Proofs.YtabikmkoajdhmaaDoor
open Go.RowKit

/-- A slice value holds these values (its spare is not spoken of). -/
def SlR (G : GH) (v : Value) (xs : List Value) : Prop :=
  (v = .slice none 0 0 ∧ xs = []) ∨ ∃ b arr T cap, v = .slice (some ⟨b, 0, none⟩) xs.length cap ∧ G b = some (.cells arr T) ∧ ∀ i (h : i < xs.length), arr[i]? = some xs[i]
theorem SlR.sub {G G' : GH} (hs : G.sub G') {v : Value} {xs : List Value} (h : SlR G v xs) : SlR G' v xs := by
  rcases h with h | ⟨b, arr, T, cap, h1, h2, h3⟩
  · exact .inl h
  · exact .inr ⟨b, arr, T, cap, h1, hs _ _ h2, h3⟩

def ptr (b : Nat) : Value := .pointer (some ⟨b, 0, none⟩)

mutual
inductive ExR (G : GH) : Value → Ex → Prop
  | name {b p : Nat} {n : Str} : G b = some (.cells #[.int .i64 p, .string (bs n)] 175) → ExR G (.iface 172 (.pointer (some ⟨b, 0, none⟩))) (.name p n)
  | num {b : Nat} {p : Int} {t : Str} : G b = some (.cells #[.int .i64 p, .string (bs t)] 178) → ExR G (.iface 176 (.pointer (some ⟨b, 0, none⟩))) (.num t)
  | fn {b : Nat} {p : Int} {n : Str} {v : Value} {x : Ex} : G b = some (.cells #[.int .i64 p, .string (bs n), v] 181) → ExR G v x → ExR G (.iface 179 (.pointer (some ⟨b, 0, none⟩))) (.fn n x)
  | app {b : Nat} {p : Int} {v u : Value} {x y : Ex} : G b = some (.cells #[.int .i64 p, v, u] 198) → ExR G v x → ExR G u y → ExR G (.iface 196 (.pointer (some ⟨b, 0, none⟩))) (.app x y)
  | pair {b : Nat} {p : Int} {v u : Value} {x y : Ex} : G b = some (.cells #[.int .i64 p, v, u] 184) → ExR G v x → ExR G u y → ExR G (.iface 182 (.pointer (some ⟨b, 0, none⟩))) (.pair x y)
  | lt {b : Nat} {p : Int} {n : Str} {v u : Value} {x y : Ex} : G b = some (.cells #[.int .i64 p, .string (bs n), v, u] 187) → ExR G v x → ExR G u y → ExR G (.iface 185 (.pointer (some ⟨b, 0, none⟩))) (.lt n x y)
  | ite {b : Nat} {p : Int} {v u z : Value} {x y q : Ex} : G b = some (.cells #[.int .i64 p, v, u, z] 190) → ExR G v x → ExR G u y → ExR G z q → ExR G (.iface 188 (.pointer (some ⟨b, 0, none⟩))) (.ite x y q)
  | rc {b : Nat} {p : Int} {nv lv e : Value} {vs : List Value} {bd : Bs} {x : Ex} : G b = some (.cells #[.int .i64 p, nv, lv, e] 194) → SlR G nv (bd.names.map fun n => .string (bs n)) → SlR G lv vs → BsR G vs bd → vs ≠ [] ∧ vs.length ≤ 1000000000 → ExR G e x →
      ExR G (.iface 191 (.pointer (some ⟨b, 0, none⟩))) (.rc bd x)
inductive BsR (G : GH) : List Value → Bs → Prop
  | nil : BsR G [] .nil
  | cons {v : Value} {vs : List Value} {n : Str} {x : Ex} {r : Bs} : ExR G v x → BsR G vs r → BsR G (v :: vs) (.cons n x r)
end

mutual
theorem ExR.sub {G G' : GH} (hs : G.sub G') : ∀ {v : Value} {x : Ex}, ExR G v x → ExR G' v x
  | _, _, .name h => .name (hs _ _ h)
  | _, _, .num h => .num (hs _ _ h)
  | _, _, .fn h a => .fn (hs _ _ h) (a.sub hs)
  | _, _, .app h a b => .app (hs _ _ h) (a.sub hs) (b.sub hs)
  | _, _, .pair h a b => .pair (hs _ _ h) (a.sub hs) (b.sub hs)
  | _, _, .lt h a b => .lt (hs _ _ h) (a.sub hs) (b.sub hs)
  | _, _, .ite h a b c => .ite (hs _ _ h) (a.sub hs) (b.sub hs) (c.sub hs)
  | _, _, .rc h n l b q e => .rc (hs _ _ h) (n.sub hs) (l.sub hs) (b.sub hs) q (e.sub hs)
theorem BsR.sub {G G' : GH} (hs : G.sub G') : ∀ {vs : List Value} {r : Bs}, BsR G vs r → BsR G' vs r
  | _, _, .nil => .nil
  | _, _, .cons a b => .cons (a.sub hs) (b.sub hs)
end

theorem ExR.shape {G : GH} {v : Value} {x : Ex} (h : ExR G v x) : ∃ T b, v = .iface T (.pointer (some ⟨b, 0, none⟩)) := by
  cases h <;> exact ⟨_, _, rfl⟩

/-- G' is G and blocks that are new since w. -/
structure Grew (G : GH) (w : World) (G' : GH) : Prop where
  sub : G.sub G'
  eq : ∀ b, b < w.heap.size → G' b = G b
theorem Grew.refl (G : GH) (w : World) : Grew G w G := ⟨GH.sub.refl G, fun _ _ => rfl⟩
theorem Grew.trans {S : Nat → Prop} {G G1 G2 : GH} {w w1 : World} (h : Grew G w G1) (k : Keep S w w1) (h' : Grew G1 w1 G2) : Grew G w G2 :=
  ⟨h.sub.trans h'.sub, fun b hb => (h'.eq b (Nat.lt_of_lt_of_le hb k.size)).trans (h.eq b hb)⟩
theorem Grew.keep {S : Nat → Prop} {G G1 : GH} {w w1 : World} (k : Keep S w w1) (h' : Grew G w1 G1) : Grew G w G1 := (Grew.refl G w).trans k h'

/-- The state of the reader of expressions: its block ab leads to the token reader's block rb; G's blocks are laid, rb is none of them. -/
structure AInv (G : GH) (w : World) (ab rb : Nat) (S : ByteArray) (kw : Str → Bool) (kwf : Nat) (l : List Tok) : Prop where
  holds : Holds G w
  ar : G ab = some (.cells #[.pointer (some ⟨rb, 0, none⟩)] 169)
  off : G rb = none
  rd : Rd w rb S kw kwf l

def ParsePost (G : GH) (w : World) (ab rb : Nat) (S : ByteArray) (kw : Str → Bool) (kwf : Nat) (r : Res (Ex × List Tok)) (e : Ending) (w' : World) : Prop :=
  Keep (one' rb) w w' ∧ match r with
    | some (.ok (x, l)) => ∃ v G', e = .returned v ∧ Grew G w G' ∧ AInv G' w' ab rb S kw kwf l ∧ ExR G' v x
    | some (.error p) => e = .panicked (stopE p)
    | none => False

theorem AInv.off1 {G : GH} {w : World} {ab rb : Nat} {S : ByteArray} {kw : Str → Bool} {kwf : Nat} {l : List Tok} (h : AInv G w ab rb S kw kwf l) : G.off (one' rb) := fun b o hb (e : b = rb) => by
  subst e; rw [h.off] at hb; cases hb
/-- Behind a call that touched the token reader alone. -/
theorem AInv.step {G : GH} {w w' : World} {ab rb : Nat} {S : ByteArray} {kw : Str → Bool} {kwf : Nat} {l l' : List Tok} (h : AInv G w ab rb S kw kwf l) (k : Keep (one' rb) w w') (r : Rd w' rb S kw kwf l') : AInv G w' ab rb S kw kwf l' :=
  ⟨h.holds.keep k h.off1, h.ar, h.off, r⟩
theorem AInv.cell {G : GH} {w : World} {ab rb : Nat} {S : ByteArray} {kw : Str → Bool} {kwf : Nat} {l : List Tok} (h : AInv G w ab rb S kw kwf l) : w.cell? ⟨ab, 0, none⟩ = some (.pointer (some ⟨rb, 0, none⟩)) :=
  cell_of_heap (h.holds _ _ h.ar) rfl
/-- A new block, laid behind all. -/
theorem AInv.alloc {G : GH} {w : World} {ab rb : Nat} {S : ByteArray} {kw : Str → Bool} {kwf : Nat} {l : List Tok} (h : AInv G w ab rb S kw kwf l) (o : Obj) :
    Grew G w (G.put w.heap.size o) ∧ AInv (G.put w.heap.size o) (w.alloc o) ab rb S kw kwf l := by
  have hf : G w.heap.size = none := h.holds.fresh (Nat.le_refl _)
  have hab : ab ≠ w.heap.size := by have := h.holds.lt h.ar; omega
  have hrb : rb ≠ w.heap.size := by have := h.rd.lt; omega
  refine ⟨⟨GH.sub_put hf, fun b hb => GH.put_other _ _ (by omega)⟩, ?_, ?_, ?_, ?_⟩
  · exact (h.holds.keep0 (Keep.alloc none' w o)).put (heap_new w o)
  · rw [GH.put_other _ _ hab]; exact h.ar
  · rw [GH.put_other _ _ hrb]; exact h.off
  · exact h.rd.keep (Keep.alloc none' w o) (fun x => x)
/-- The token in hand, in memory. -/
theorem AInv.tok {G : GH} {w : World} {ab rb : Nat} {S : ByteArray} {kw : Str → Bool} {kwf : Nat} {l : List Tok} (h : AInv G w ab rb S kw kwf l) :
    w.cell? ⟨rb, 2, none⟩ = some (.string (bs (kstr (hd l).kind))) ∧ w.cell? ⟨rb, 4, none⟩ = some (.int .i64 (hd l).pos) := by
  obtain ⟨i0, hi0, rfl, hr⟩ := h.rd
  rw [hd_toks kw (bytes S) i0 (by rw [bytes_length]; exact hi0)]
  exact ⟨cell_of_heap hr rfl, cell_of_heap hr rfl⟩
theorem AInv.good {G : GH} {w : World} {ab rb : Nat} {S : ByteArray} {kw : Str → Bool} {kwf : Nat} {l : List Tok} (h : AInv G w ab rb S kw kwf l) (hk : KwGood kw) : goodK (hd l).kind := by
  obtain ⟨i0, hi0, rfl, hr⟩ := h.rd
  rw [hd_toks kw (bytes S) i0 (by rw [bytes_length]; exact hi0)]
  exact lexAt_good hk _ _
theorem str_is {a l : Str} : ((bs a).toList == l) = decide (a = l) := by
  have e : (bs a).toList = a := by rw [ByteArray.toList_eq]; exact bs_toList a
  rw [e]
  by_cases h : a = l <;> simp [h]
theorem kind_is {k k0 : TK} (h : goodK k) (h0 : goodK k0) : ((bs (kstr k)).toList == kstr k0) = decide (k = k0) := by
  rw [str_is]
  by_cases e : k = k0
  · subst e; simp
  · have : ¬ kstr k = kstr k0 := fun x => e (kstr_inj h h0 x)
    simp [e, this]
theorem good_kw {w : Str} (h : ¬ reserved w) : goodK (.kw w) := fun v e => by cases e; exact h
theorem good_name : goodK .name := fun v e => by cases e
theorem good_num : goodK .num := fun v e => by cases e
theorem good_fin : goodK .fin := fun v e => by cases e
end Go.Proofs.YtabikmkoajdhmaaDoor

/- (*ast.reader).atom by a contract, given the contract of expr one step down. -/
namespace Go.Proofs.YtabikmkoajdhmaaDoor
open Go.RowKit

def ExprOk (kwf : Nat) (kw : Str → Bool) (S : ByteArray) (k : Nat) : Prop := ∀ (G : GH) (w : World) (ab rb : Nat) (l : List Tok) (r : Res (Ex × List Tok)), pExp k l = r → r ≠ none → AInv G w ab rb S kw kwf l →
  Calls Tryd.prog 68 #[.pointer (some ⟨ab, 0, none⟩)] w (ParsePost G w ab rb S kw kwf r)
def AtomOk (kwf : Nat) (kw : Str → Bool) (S : ByteArray) (k : Nat) : Prop := ∀ (G : GH) (w : World) (ab rb : Nat) (l : List Tok) (r : Res (Ex × List Tok)), pAtom k l = r → r ≠ none → AInv G w ab rb S kw kwf l →
  Calls Tryd.prog 85 #[.pointer (some ⟨ab, 0, none⟩)] w (ParsePost G w ab rb S kw kwf r)

set_option maxRecDepth 100000 in
set_option maxHeartbeats 2000000 in
theorem atom_name {kw : Str → Bool} {kwf : Nat} {S : ByteArray} (hx : Lx kw kwf S) (G : GH) (w : World) (ab rb : Nat) (l : List Tok) (hi : AInv G w ab rb S kw kwf l) (hk : (hd l).kind = .name) :
    Calls Tryd.prog 85 #[.pointer (some ⟨ab, 0, none⟩)] w (ParsePost G w ab rb S kw kwf (some (.ok (.name (hd l).pos (hd l).text, adv l)))) := by
  have c0 := hi.cell
  obtain ⟨t2, t4⟩ := hi.tok
  have q1 : ((bs (kstr (hd l).kind)).toList == [97, 32, 110, 97, 109, 101]) = true := by rw [hk]; exact (kind_is good_name good_name).trans (by simp)
  have hw : want .name l = some (.ok ((hd l).text, adv l)) := by unfold want; rw [if_pos hk]
  have HW := Lib.hid hw; have HK := Lib.hid hk; clear hw hk
  go_enter Tryd.func85, Tryd.ntmps85
  go_wp2_with fail
  refine (want_any hx .name good_name (by decide) _ rb l hi.rd).mono ?_
  rw [HW.out]
  rintro e w1 ⟨k1, rfl, r1⟩
  have i1 := hi.step k1 r1
  go_wp2_with fail
  go_ret
  obtain ⟨s2, i2⟩ := i1.alloc (.cells #[.int .i64 (hd l).pos, .string (bs (hd l).text)] 175)
  refine ⟨k1.trans (Keep.alloc _ _ _), _, _, rfl, Grew.keep k1 s2, i2, ?_⟩
  exact ExR.name (GH.put_same _ _ _)

set_option maxRecDepth 100000 in
set_option maxHeartbeats 2000000 in
theorem atom_num {kw : Str → Bool} {kwf : Nat} {S : ByteArray} (hx : Lx kw kwf S) (G : GH) (w : World) (ab rb : Nat) (l : List Tok) (hi : AInv G w ab rb S kw kwf l) (hk : (hd l).kind = .num) :
    Calls Tryd.prog 85 #[.pointer (some ⟨ab, 0, none⟩)] w (ParsePost G w ab rb S kw kwf (some (.ok (.num (hd l).text, adv l)))) := by
  have c0 := hi.cell
  obtain ⟨t2, t4⟩ := hi.tok
  have q1 : ((bs (kstr (hd l).kind)).toList == [97, 32, 110, 97, 109, 101]) = false := by rw [hk]; exact (kind_is good_num good_name).trans (by simp)
  have q2 : ((bs (kstr (hd l).kind)).toList == [97, 32, 110, 117, 109, 98, 101, 114]) = true := by rw [hk]; exact (kind_is good_num good_num).trans (by simp)
  have hw : want .num l = some (.ok ((hd l).text, adv l)) := by unfold want; rw [if_pos hk]
  have HW := Lib.hid hw; have HK := Lib.hid hk; clear hw hk
  go_enter Tryd.func85, Tryd.ntmps85
  go_wp2_with fail
  refine (want_any hx .num good_num (by decide) _ rb l hi.rd).mono ?_
  rw [HW.out]
  rintro e w1 ⟨k1, rfl, r1⟩
  have i1 := hi.step k1 r1
  go_wp2_with fail
  go_ret
  obtain ⟨s2, i2⟩ := i1.alloc (.cells #[.int .i64 (hd l).pos, .string (bs (hd l).text)] 178)
  refine ⟨k1.trans (Keep.alloc _ _ _), _, _, rfl, Grew.keep k1 s2, i2, ?_⟩
  exact ExR.num (GH.put_same _ _ _)

theorem want_yes {k : TK} {l : List Tok} (h : (hd l).kind = k) : want k l = some (.ok ((hd l).text, adv l)) := by unfold want; rw [if_pos h]
theorem want_no {k : TK} {l : List Tok} (h : ¬ (hd l).kind = k) : want k l = some (.error (hd l).pos) := by unfold want; rw [if_neg h]
theorem good_LP : goodK (.kw LP) := good_kw (sign_good 40)
theorem good_RP : goodK (.kw RP) := good_kw (sign_good 41)
theorem good_COMMA : goodK (.kw COMMA) := good_kw (sign_good 44)
theorem ne_bad {w : Str} : TK.kw w ≠ .bad := fun h => by cases h
theorem keepT {w a b : World} {rb : Nat} (h : Keep (one' rb) w a) (k : Keep (one' rb) a b) : Keep (one' rb) w b := h.trans k

set_option maxRecDepth 100000 in
set_option maxHeartbeats 4000000 in
theorem atom_paren {kw : Str → Bool} {kwf : Nat} {S : ByteArray} (hx : Lx kw kwf S) (k : Nat) (ih : ExprOk kwf kw S k) (G : GH) (w : World) (ab rb : Nat) (l : List Tok) (r : Res (Ex × List Tok)) (hr : pAtom (k + 1) l = r) (hne : r ≠ none)
    (hi : AInv G w ab rb S kw kwf l) (hn : ¬ (hd l).kind = .name) (hm : ¬ (hd l).kind = .num) :
    Calls Tryd.prog 85 #[.pointer (some ⟨ab, 0, none⟩)] w (ParsePost G w ab rb S kw kwf r) := by
  have c0 := hi.cell
  obtain ⟨t2, t4⟩ := hi.tok
  have hg := hi.good hx.good
  have q1 : ((bs (kstr (hd l).kind)).toList == [97, 32, 110, 97, 109, 101]) = false := (kind_is hg good_name).trans (by simpa using hn)
  have q2 : ((bs (kstr (hd l).kind)).toList == [97, 32, 110, 117, 109, 98, 101, 114]) = false := (kind_is hg good_num).trans (by simpa using hm)
  simp only [pAtom, if_neg hn, if_neg hm] at hr
  have IH := Lib.hid ih; have HR := Lib.hid hr; have HNE := Lib.hid hne
  clear ih hr hne hn hm hg
  go_enter Tryd.func85, Tryd.ntmps85
  go_wp2_with fail
  refine (want_any hx (.kw LP) good_LP ne_bad _ rb l hi.rd).mono ?_
  by_cases h1 : (hd l).kind = .kw LP
  · rw [want_yes h1]
    have hr := HR.out; rw [want_yes h1] at hr; clear HR
    have HR := Lib.hid hr; clear hr
    rintro e w1 ⟨k1, rfl, r1⟩
    have i1 := hi.step k1 r1
    have c1 := i1.cell
    clear h1 t2 t4 q1 q2
    go_wp2_with fail
    cases hp : pExp k (adv l) with
    | none => exact absurd (by rw [← HR.out]; simp only [Res.bind, hp]) HNE.out
    | some rr =>
      refine (IH.out G w1 ab rb (adv l) (some rr) hp (by simp) i1).mono ?_
      cases rr with
      | error p =>
        have hr : r = some (.error p) := by rw [← HR.out]; simp only [Res.bind, hp]
        clear HR
        rintro e w2 ⟨k2, rfl⟩
        go_wp2_with fail
        exact ⟨rfl, keepT k1 k2, rfl⟩
      | ok xl =>
        obtain ⟨x, l2⟩ := xl
        have hr := HR.out; simp only [Res.bind, hp] at hr; clear HR
        have HR := Lib.hid hr; have HP := Lib.hid hp; clear hr hp
        rintro e w2 ⟨k2, v, G2, rfl, s2, i2, x2⟩
        obtain ⟨Tv, bv, rfl⟩ := x2.shape
        have c2 := i2.cell
        go_wp2_with fail
        refine (take_any hx (.kw COMMA) good_COMMA ne_bad _ rb l2 i2.rd).mono ?_
        by_cases h3 : (hd l2).kind = .kw COMMA
        · rintro e w3 ⟨k3, h3'⟩
          rw [if_pos h3] at h3'
          obtain ⟨rfl, r3⟩ := h3'
          have i3 := i2.step k3 r3
          have c3 := i3.cell
          have hr := HR.out; rw [if_pos h3] at hr; clear HR
          have HR := Lib.hid hr; clear hr h3
          go_wp2_with fail
          cases hp2 : pExp k (adv l2) with
          | none => exact absurd (by rw [← HR.out]; simp only [Res.bind, hp2]) HNE.out
          | some rr =>
            refine (IH.out G2 w3 ab rb (adv l2) (some rr) hp2 (by simp) i3).mono ?_
            cases rr with
            | error p =>
              have hr : r = some (.error p) := by rw [← HR.out]; simp only [Res.bind, hp2]
              clear HR
              rintro e w4 ⟨k4, rfl⟩
              go_wp2_with fail
              exact ⟨rfl, keepT k1 (keepT k2 (keepT k3 k4)), rfl⟩
            | ok yl =>
              obtain ⟨y, l4⟩ := yl
              have hr := HR.out; simp only [Res.bind, hp2] at hr; clear HR
              have HR := Lib.hid hr; have HP2 := Lib.hid hp2; clear hr hp2
              rintro e w4 ⟨k4, u, G4, rfl, s4, i4, y4⟩
              obtain ⟨Tu, bu, rfl⟩ := y4.shape
              obtain ⟨s5, i5⟩ := i4.alloc (.cells #[.int .i64 (hd l).pos, .iface Tv (.pointer (some ⟨bv, 0, none⟩)), .iface Tu (.pointer (some ⟨bu, 0, none⟩))] 184)
              have c5 := i5.cell
              go_wp2_with fail
              refine (want_any hx (.kw RP) good_RP ne_bad _ rb l4 i5.rd).mono ?_
              by_cases h6 : (hd l4).kind = .kw RP
              · rw [want_yes h6]
                have hr := HR.out; rw [want_yes h6] at hr; simp only at hr; clear HR h6
                rintro e w6 ⟨k6, rfl, r6⟩
                have i6 := i5.step k6 r6
                go_wp2_with fail
                go_ret
                refine ⟨keepT k1 (keepT k2 (keepT k3 (keepT k4 (keepT (Keep.alloc _ _ _) k6)))), ?_⟩
                subst hr
                exact ⟨_, _, rfl, Grew.keep k1 (s2.trans k2 (Grew.keep k3 (s4.trans k4 s5))), i6, ExR.pair (GH.put_same _ _ _) ((x2.sub s4.sub).sub s5.sub) (y4.sub s5.sub)⟩
              · rw [want_no h6]
                have hr : r = some (.error (hd l4).pos) := by rw [← HR.out, want_no h6]
                clear HR h6
                rintro e w6 ⟨k6, rfl⟩
                go_wp2_with fail
                exact ⟨rfl, keepT k1 (keepT k2 (keepT k3 (keepT k4 (keepT (Keep.alloc _ _ _) k6)))), rfl⟩
        · rintro e w3 ⟨k3, h3'⟩
          rw [if_neg h3] at h3'
          obtain ⟨rfl, rfl⟩ := h3'
          have hr := HR.out; rw [if_neg h3] at hr; clear HR
          have HR := Lib.hid hr; clear hr h3
          go_wp2_with fail
          refine (want_any hx (.kw RP) good_RP ne_bad _ rb l2 i2.rd).mono ?_
          by_cases h6 : (hd l2).kind = .kw RP
          · rw [want_yes h6]
            have hr := HR.out; rw [want_yes h6] at hr; simp only at hr; clear HR h6
            rintro e w6 ⟨k6, rfl, r6⟩
            have i6 := i2.step k6 r6
            go_wp2_with fail
            go_ret
            refine ⟨keepT k1 (keepT k2 (keepT k3 k6)), ?_⟩
            subst hr
            exact ⟨_, _, rfl, Grew.keep k1 s2, i6, x2⟩
          · rw [want_no h6]
            have hr : r = some (.error (hd l2).pos) := by rw [← HR.out, want_no h6]
            clear HR h6
            rintro e w6 ⟨k6, rfl⟩
            go_wp2_with fail
            exact ⟨rfl, keepT k1 (keepT k2 (keepT k3 k6)), rfl⟩
  · rw [want_no h1]
    have hr : r = some (.error (hd l).pos) := by rw [← HR.out, want_no h1]; rfl
    clear HR h1
    rintro e w1 ⟨k1, rfl⟩
    go_wp2_with fail
    exact ⟨rfl, k1, rfl⟩
end Go.Proofs.YtabikmkoajdhmaaDoor

/- (*ast.reader).expr by a contract: fun and let, given the contracts one step down. -/
namespace Go.Proofs.YtabikmkoajdhmaaDoor
open Go.RowKit

theorem good_FUN : goodK (.kw FUN) := good_kw (by unfold reserved; decide)
theorem good_IF : goodK (.kw IF) := good_kw (by unfold reserved; decide)
theorem good_THEN : goodK (.kw THEN) := good_kw (by unfold reserved; decide)
theorem good_ELSE : goodK (.kw ELSE) := good_kw (by unfold reserved; decide)
theorem good_LET : goodK (.kw LET) := good_kw (by unfold reserved; decide)
theorem good_REC : goodK (.kw REC) := good_kw (by unfold reserved; decide)
theorem good_AND : goodK (.kw AND) := good_kw (by unfold reserved; decide)
theorem good_IN : goodK (.kw IN) := good_kw (by unfold reserved; decide)
theorem good_EQ : goodK (.kw EQ) := good_kw (sign_good 61)
theorem good_ARROW : goodK (.kw ARROW) := good_kw (by unfold reserved; decide)

set_option maxRecDepth 100000 in
set_option maxHeartbeats 4000000 in
theorem expr_fun {kw : Str → Bool} {kwf : Nat} {S : ByteArray} (hx : Lx kw kwf S) (k : Nat) (ih : ExprOk kwf kw S k) (G : GH) (w : World) (ab rb : Nat) (l : List Tok) (r : Res (Ex × List Tok)) (hr : pExp (k + 1) l = r) (hne : r ≠ none)
    (hi : AInv G w ab rb S kw kwf l) (hk : (hd l).kind = .kw FUN) :
    Calls Tryd.prog 68 #[.pointer (some ⟨ab, 0, none⟩)] w (ParsePost G w ab rb S kw kwf r) := by
  have c0 := hi.cell
  obtain ⟨t2, t4⟩ := hi.tok
  simp only [pExp, if_pos hk] at hr
  have IH := Lib.hid ih; have HR := Lib.hid hr; have HNE := Lib.hid hne
  clear ih hr hne
  go_enter Tryd.func68, Tryd.ntmps68
  go_wp2_with fail
  refine (take_any hx (.kw FUN) good_FUN ne_bad _ rb l hi.rd).mono ?_
  rintro e w1 ⟨k1, h1⟩
  rw [if_pos hk] at h1
  obtain ⟨rfl, r1⟩ := h1
  have i1 := hi.step k1 r1
  have c1 := i1.cell
  clear t2 t4 hk
  go_wp2_with fail
  refine (want_any hx .name good_name (by decide) _ rb _ i1.rd).mono ?_
  by_cases h2 : (hd (adv l)).kind = .name
  · rw [want_yes h2]
    have hr := HR.out; rw [want_yes h2] at hr; simp only [Res.bind] at hr; clear HR h2
    have HR := Lib.hid hr; clear hr
    rintro e w2 ⟨k2, rfl, r2⟩
    have i2 := i1.step k2 r2
    have c2 := i2.cell
    go_wp2_with fail
    refine (want_any hx (.kw ARROW) good_ARROW ne_bad _ rb _ i2.rd).mono ?_
    by_cases h3 : (hd (adv (adv l))).kind = .kw ARROW
    · rw [want_yes h3]
      have hr := HR.out; rw [want_yes h3] at hr; simp only at hr; clear HR h3
      have HR := Lib.hid hr; clear hr
      rintro e w3 ⟨k3, rfl, r3⟩
      have i3 := i2.step k3 r3
      have c3 := i3.cell
      go_wp2_with fail
      cases hp : pExp k (adv (adv (adv l))) with
      | none => exact absurd (by rw [← HR.out, hp]) HNE.out
      | some rr =>
        refine (IH.out G w3 ab rb _ (some rr) hp (by simp) i3).mono ?_
        have hr := HR.out; rw [hp] at hr; clear HR
        cases rr with
        | error p =>
          simp only at hr
          rintro e w4 ⟨k4, rfl⟩
          go_wp2_with fail
          subst hr
          exact ⟨rfl, keepT k1 (keepT k2 (keepT k3 k4)), rfl⟩
        | ok xl =>
          obtain ⟨x, l4⟩ := xl
          simp only at hr
          have HR := Lib.hid hr; clear hr hp
          rintro e w4 ⟨k4, v, G4, rfl, s4, i4, x4⟩
          obtain ⟨Tv, bv, rfl⟩ := x4.shape
          obtain ⟨s5, i5⟩ := i4.alloc (.cells #[.int .i64 (hd l).pos, .string (bs (hd (adv l)).text), .iface Tv (.pointer (some ⟨bv, 0, none⟩))] 181)
          go_wp2_with fail
          go_ret
          refine ⟨keepT k1 (keepT k2 (keepT k3 (keepT k4 (Keep.alloc _ _ _)))), ?_⟩
          rw [← HR.out]
          exact ⟨_, _, rfl, Grew.keep (keepT k1 (keepT k2 k3)) (s4.trans k4 s5), i5, ExR.fn (GH.put_same _ _ _) (x4.sub s5.sub)⟩
    · rw [want_no h3]
      have hr := HR.out; rw [want_no h3] at hr; simp only at hr; clear HR h3
      rintro e w3 ⟨k3, rfl⟩
      go_wp2_with fail
      subst hr
      exact ⟨rfl, keepT k1 (keepT k2 k3), rfl⟩
  · rw [want_no h2]
    have hr := HR.out; rw [want_no h2] at hr; simp only [Res.bind] at hr; clear HR h2
    rintro e w2 ⟨k2, rfl⟩
    go_wp2_with fail
    subst hr
    exact ⟨rfl, keepT k1 k2, rfl⟩
end Go.Proofs.YtabikmkoajdhmaaDoor
