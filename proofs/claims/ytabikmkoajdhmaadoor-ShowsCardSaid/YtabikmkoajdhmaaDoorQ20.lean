/- (*text.Reader).next by a contract: the token that begins at its place, as the plain 'lexAt' has it. -/
import Derived.Test.YtabikmkoajdhmaaDoorQ07
import Derived.Test.YtabikmkoajdhmaaDoorQ08
import Derived.Test.YtabikmkoajdhmaaDoorQ09
import Derived.Test.YtabikmkoajdhmaaDoorQ10
import Derived.Test.YtabikmkoajdhmaaDoorQ11
import Derived.Test.YtabikmkoajdhmaaDoorQ12
import Derived.Test.YtabikmkoajdhmaaDoorQ13
import Derived.Test.YtabikmkoajdhmaaDoorQ14
import Derived.Test.YtabikmkoajdhmaaDoorQ15
import Derived.Test.YtabikmkoajdhmaaDoorQ16
import Derived.Test.YtabikmkoajdhmaaDoorQ17
import Derived.Test.YtabikmkoajdhmaaDoorQ18
import Derived.Test.YtabikmkoajdhmaaDoorQ19
import Derived.Test.YtabikmkoajdhmaaDoorQ04
set_option linter.unusedVariables false
set_option linter.unusedSimpArgs false
namespace Go.Proofs.YtabikmkoajdhmaaDoor
open Go.RowKit

theorem next_any (kw : Str → Bool) (kwf : Nat) (hkw : KwOk kwf kw) (w : World) (rb : Nat) (S : ByteArray) (i : Nat) (kind text : ByteArray) (pos : Nat) (hS : S.size ≤ 140737488351232) (hi : i ≤ S.size)
   (h : RdAt w rb S i kind text pos (.func (.func kwf) #[] #[])) : Calls Tryd.prog 82 #[.pointer (some ⟨rb, 0, none⟩)] w fun e w' => e = .returned (.tuple #[]) ∧ NextPost kw w rb S i (.func (.func kwf) #[] #[]) w' := by
  obtain ⟨q, hq⟩ : ∃ q, q = i + spanN blank ((bytes S).drop i) := ⟨_, rfl⟩
  have hqle : q ≤ S.size := by rw [hq, ← bytes_length]; exact spanN_drop_le _ _ _ (by rw [bytes_length]; exact hi)
  by_cases he : q = S.size
  · exact next_end kw kwf hkw w rb S i kind text pos hS hi h q hq hqle he
  have hlt : q < S.size := by omega
  cases hl : low S[q] with
  | true =>
    have hp : q + spanN lowfig ((bytes S).drop q) ≤ S.size := by rw [← bytes_length]; exact spanN_drop_le _ _ _ (by rw [bytes_length]; omega)
    by_cases hpe : q + spanN lowfig ((bytes S).drop q) = S.size
    · exact next_lowB kw kwf hkw w rb S i kind text pos hS hi h q hq hqle ⟨hlt, hl⟩ hpe
    · exact next_lowA kw kwf hkw w rb S i kind text pos hS hi h q hq hqle ⟨hlt, hl⟩ (by omega)
  | false =>
    cases hf : fig S[q] with
    | true =>
      have hp : q + spanN fig ((bytes S).drop q) ≤ S.size := by rw [← bytes_length]; exact spanN_drop_le _ _ _ (by rw [bytes_length]; omega)
      by_cases hpe : q + spanN fig ((bytes S).drop q) = S.size
      · exact next_figB kw kwf hkw w rb S i kind text pos hS hi h q hq hqle ⟨hlt, hl, hf⟩ hpe
      · exact next_figA kw kwf hkw w rb S i kind text pos hS hi h q hq hqle ⟨hlt, hl, hf⟩ (by omega)
    | false =>
      by_cases hs : sign S[q] = true
      · have hc : S[q].toNat = 61 ∨ S[q].toNat = 40 ∨ S[q].toNat = 41 ∨ S[q].toNat = 44 ∨ S[q].toNat = 91 ∨ S[q].toNat = 93 := by simpa [sign, or_assoc] using hs
        rcases hc with hc | hc | hc | hc | hc | hc
        · exact next_sign61 kw kwf hkw w rb S i kind text pos hS hi h q hq hqle ⟨hlt, hc⟩
        · exact next_sign40 kw kwf hkw w rb S i kind text pos hS hi h q hq hqle ⟨hlt, hc⟩
        · exact next_sign41 kw kwf hkw w rb S i kind text pos hS hi h q hq hqle ⟨hlt, hc⟩
        · exact next_sign44 kw kwf hkw w rb S i kind text pos hS hi h q hq hqle ⟨hlt, hc⟩
        · exact next_sign91 kw kwf hkw w rb S i kind text pos hS hi h q hq hqle ⟨hlt, hc⟩
        · exact next_sign93 kw kwf hkw w rb S i kind text pos hS hi h q hq hqle ⟨hlt, hc⟩
      · have hs' : sign S[q] = false := by simpa using hs
        by_cases h45 : S[q].toNat = 45
        · by_cases h2 : q + 1 < S.size
          · by_cases h62 : S[q + 1].toNat = 62
            · exact next_arrow kw kwf hkw w rb S i kind text pos hS hi h q hq hqle ⟨h2, h45, h62⟩
            · exact next_bad3 kw kwf hkw w rb S i kind text pos hS hi h q hq hqle ⟨h2, hl, hf, hs', h45, h62⟩
          · exact next_bad2 kw kwf hkw w rb S i kind text pos hS hi h q hq hqle ⟨hlt, hl, hf, hs', h45, h2⟩
        · exact next_bad1 kw kwf hkw w rb S i kind text pos hS hi h q hq hqle ⟨hlt, hl, hf, hs', h45⟩
end Go.Proofs.YtabikmkoajdhmaaDoor

/- The reader as a list of tokens: New, Want, Take, Fail by contracts. -/
namespace Go.Proofs.YtabikmkoajdhmaaDoor
open Go.RowKit

/-! ### the reader's state -/
/-- The reader in block rb has these tokens before it, the first one in hand. -/
def Rd (w : World) (rb : Nat) (S : ByteArray) (kw : Str → Bool) (kwf : Nat) (l : List Tok) : Prop :=
  ∃ i0, i0 ≤ S.size ∧ l = toks kw (bytes S) i0 ∧ RdAt w rb S (lexAt kw (bytes S) i0).2 (bs (kstr (lexAt kw (bytes S) i0).1.kind)) (bs (lexAt kw (bytes S) i0).1.text) (lexAt kw (bytes S) i0).1.pos (.func (.func kwf) #[] #[])

theorem Rd.keep {S' : Nat → Prop} {w w' : World} {rb : Nat} {S : ByteArray} {kw : Str → Bool} {kwf : Nat} {l : List Tok} (h : Rd w rb S kw kwf l) (k : Keep S' w w') (hn : ¬ S' rb) : Rd w' rb S kw kwf l := by
  obtain ⟨i, h1, h2, h3⟩ := h
  exact ⟨i, h1, h2, k.get h3 hn⟩
theorem Rd.lt {w : World} {rb : Nat} {S : ByteArray} {kw : Str → Bool} {kwf : Nat} {l : List Tok} (h : Rd w rb S kw kwf l) : rb < w.heap.size := let ⟨_, _, _, h3⟩ := h; lt_of_heap h3

/-- What text.Fail panics with. -/
def stopE (p : Nat) : List PanicEntry := [{ v := .iface 213 (.agg #[.int .i64 p]), recovered := false }]

set_option maxHeartbeats 1000000 in
theorem fail_any (p : Nat) (w : World) : Calls Tryd.prog 86 #[.int .i64 p] w fun e w' => e = .panicked (stopE p) ∧ w = w' := by
  go_enter Tryd.func86, Tryd.ntmps86
  go_wp2
  exact ⟨rfl, rfl, rfl⟩

/-- What is asked of a text and its keywords. -/
structure Lx (kw : Str → Bool) (kwf : Nat) (S : ByteArray) : Prop where
  ok : KwOk kwf kw
  good : KwGood kw
  size : S.size ≤ 140737488351232

def WantPost (w : World) (rb : Nat) (S : ByteArray) (kw : Str → Bool) (kwf : Nat) (r : Res (Str × List Tok)) (e : Ending) (w' : World) : Prop :=
  Keep (one' rb) w w' ∧ match r with
    | some (.ok (t, l)) => e = .returned (.string (bs t)) ∧ Rd w' rb S kw kwf l
    | some (.error p) => e = .panicked (stopE p)
    | none => False

theorem str_ne {a b : Str} : ((bs a).toList == (bs b).toList) = decide (a = b) := by
  have e : ∀ l : Str, (bs l).toList = l := fun l => by rw [ByteArray.toList_eq]; exact bs_toList l
  rw [e, e]
  by_cases h : a = b <;> simp [h]

theorem hd_toks (kw : Str → Bool) (s : Str) (i : Nat) (hi : i ≤ s.length) : hd (toks kw s i) = (lexAt kw s i).1 := by rw [toks_step kw s i hi]; rfl
theorem adv_toks (kw : Str → Bool) (s : Str) (i : Nat) (hi : i ≤ s.length) (hb : (lexAt kw s i).1.kind ≠ .bad) : adv (toks kw s i) = toks kw s (lexAt kw s i).2 := by
  have hle := lexAt_le kw s i hi
  rw [toks_step kw s i hi]
  cases hs : (lexAt kw s i).1.stop with
  | false =>
    simp only [Bool.false_eq_true, if_false]
    rw [toks_step kw s (lexAt kw s i).2 hle.2.1]
    rfl
  | true =>
    have hf : (lexAt kw s i).1.kind = .fin := by
      unfold Tok.stop at hs
      split at hs
      · assumption
      · rename_i h; exact absurd h hb
      · cases hs
    have e := hle.2.2.2 hf
    have e2 : lexAt kw s s.length = (⟨.fin, [], s.length⟩, s.length) := (lexAt_le kw s s.length (Nat.le_refl _)).2.2.2 (by
      have e : s.drop (s.length + spanN blank (s.drop s.length)) = [] := List.drop_eq_nil_of_le (by omega)
      unfold lexAt; rw [e]; rfl)
    rw [e]
    simp only [if_true]
    rw [toks_step kw s s.length (Nat.le_refl _), e2]
    rfl

set_option maxHeartbeats 1000000 in
theorem want_any {kw : Str → Bool} {kwf : Nat} {S : ByteArray} (hx : Lx kw kwf S) (k0 : TK) (hk : goodK k0) (hb : k0 ≠ .bad) (w : World) (rb : Nat) (l : List Tok) (h : Rd w rb S kw kwf l) :
    Calls Tryd.prog 69 #[.pointer (some ⟨rb, 0, none⟩), .string (bs (kstr k0))] w (WantPost w rb S kw kwf (want k0 l)) := by
  obtain ⟨i0, hi0, rfl, hr⟩ := h
  have hlen : i0 ≤ (bytes S).length := by rw [bytes_length]; exact hi0
  have hhd := hd_toks kw (bytes S) i0 hlen
  have hgood := lexAt_good hx.good (bytes S) i0
  have hle := lexAt_le kw (bytes S) i0 hlen
  unfold want
  rw [hhd]
  generalize hT : (lexAt kw (bytes S) i0).1 = T at *
  generalize hj : (lexAt kw (bytes S) i0).2 = j at *
  have c2 : w.cell? ⟨rb, 2, none⟩ = some (.string (bs (kstr T.kind))) := cell_of_heap hr rfl
  have c3 : w.cell? ⟨rb, 3, none⟩ = some (.string (bs T.text)) := cell_of_heap hr rfl
  have c4 : w.cell? ⟨rb, 4, none⟩ = some (.int .i64 T.pos) := cell_of_heap hr rfl
  by_cases he : T.kind = k0
  · rw [if_pos he]
    have hadv : adv (toks kw (bytes S) i0) = toks kw (bytes S) j := by rw [adv_toks kw (bytes S) i0 hlen (by rw [hT, he]; exact hb), hj]
    rw [hadv]
    have hcmp : ((bs (kstr T.kind)).toList == (bs (kstr k0)).toList) = true := by rw [str_ne, he]; simp
    have HH := Lib.hid hhd; have HJ := Lib.hid hj; have HT := Lib.hid hT; have HE := Lib.hid he; have HA := Lib.hid hadv
    clear hhd hj hT he hadv hgood
    go_enter Tryd.func69, Tryd.ntmps69
    go_wp2_with fail
    refine (next_any kw kwf hx.ok w rb S j _ _ _ hx.size (by rw [← bytes_length]; exact hle.2.1) hr).mono ?_
    rintro e w' ⟨rfl, hn⟩
    go_wp2_with fail
    go_ret
    exact ⟨hn.1, rfl, ⟨j, by rw [← bytes_length]; exact hle.2.1, rfl, hn.2⟩⟩
  · rw [if_neg he]
    have hcmp : ((bs (kstr T.kind)).toList == (bs (kstr k0)).toList) = false := by
      rw [str_ne]; simp; exact fun e => he (kstr_inj hgood hk e)
    have HH := Lib.hid hhd; have HJ := Lib.hid hj; have HT := Lib.hid hT; have HE := Lib.hid he
    clear hhd hj hT he hgood
    go_enter Tryd.func69, Tryd.ntmps69
    go_wp2_with fail
    refine (fail_any T.pos _).mono ?_
    rintro e w' ⟨rfl, rfl⟩
    go_wp2_with fail
    exact ⟨rfl, Keep.refl _ _, rfl⟩

/-- Take: is the token in hand of that kind? Then the next one is taken in hand. -/
def TakePost (w : World) (rb : Nat) (S : ByteArray) (kw : Str → Bool) (kwf : Nat) (k0 : TK) (l : List Tok) (e : Ending) (w' : World) : Prop :=
  Keep (one' rb) w w' ∧ if (hd l).kind = k0 then e = .returned (.bool true) ∧ Rd w' rb S kw kwf (adv l) else e = .returned (.bool false) ∧ w = w'
set_option maxHeartbeats 1000000 in
theorem take_any {kw : Str → Bool} {kwf : Nat} {S : ByteArray} (hx : Lx kw kwf S) (k0 : TK) (hk : goodK k0) (hb : k0 ≠ .bad) (w : World) (rb : Nat) (l : List Tok) (h : Rd w rb S kw kwf l) :
    Calls Tryd.prog 83 #[.pointer (some ⟨rb, 0, none⟩), .string (bs (kstr k0))] w (TakePost w rb S kw kwf k0 l) := by
  obtain ⟨i0, hi0, rfl, hr⟩ := h
  have hlen : i0 ≤ (bytes S).length := by rw [bytes_length]; exact hi0
  have hhd := hd_toks kw (bytes S) i0 hlen
  have hgood := lexAt_good hx.good (bytes S) i0
  have hle := lexAt_le kw (bytes S) i0 hlen
  have hP : TakePost w rb S kw kwf k0 (toks kw (bytes S) i0) = fun e w' => Keep (one' rb) w w' ∧ if (lexAt kw (bytes S) i0).1.kind = k0 then e = .returned (.bool true) ∧ Rd w' rb S kw kwf (adv (toks kw (bytes S) i0)) else e = .returned (.bool false) ∧ w = w' := by
    funext e w'; unfold TakePost; rw [hhd]
  rw [hP]
  clear hP
  generalize hT : (lexAt kw (bytes S) i0).1 = T at *
  generalize hj : (lexAt kw (bytes S) i0).2 = j at *
  have c2 : w.cell? ⟨rb, 2, none⟩ = some (.string (bs (kstr T.kind))) := cell_of_heap hr rfl
  by_cases he : T.kind = k0
  · have hadv : adv (toks kw (bytes S) i0) = toks kw (bytes S) j := by rw [adv_toks kw (bytes S) i0 hlen (by rw [hT, he]; exact hb), hj]
    rw [hadv]
    have hcmp : ((bs (kstr T.kind)).toList == (bs (kstr k0)).toList) = true := by rw [str_ne, he]; simp
    have HH := Lib.hid hhd; have HJ := Lib.hid hj; have HT := Lib.hid hT; have HE := Lib.hid he; have HA := Lib.hid hadv
    clear hhd hj hT he hadv hgood
    go_enter Tryd.func83, Tryd.ntmps83
    go_wp2_with fail
    refine (next_any kw kwf hx.ok w rb S j _ _ _ hx.size (by rw [← bytes_length]; exact hle.2.1) hr).mono ?_
    rintro e w' ⟨rfl, hn⟩
    go_wp2_with fail
    go_ret
    exact ⟨hn.1, rfl, ⟨j, by rw [← bytes_length]; exact hle.2.1, rfl, hn.2⟩⟩
  · have hcmp : ((bs (kstr T.kind)).toList == (bs (kstr k0)).toList) = false := by
      rw [str_ne]; simp; exact fun e => he (kstr_inj hgood hk e)
    have HH := Lib.hid hhd; have HJ := Lib.hid hj; have HT := Lib.hid hT; have HE := Lib.hid he
    clear hhd hj hT he hgood
    go_enter Tryd.func83, Tryd.ntmps83
    go_wp2_with fail
    go_ret
    exact ⟨Keep.refl _ _, rfl, rfl⟩

/-- text.New: a reader of its own, the first token in hand. -/
theorem new_any {kw : Str → Bool} {kwf : Nat} {S : ByteArray} (hx : Lx kw kwf S) (w : World) :
    Calls Tryd.prog 66 #[.string S, .func (.func kwf) #[] #[]] w fun e w' => e = .returned (.pointer (some ⟨w.heap.size, 0, none⟩)) ∧ Keep none' w w' ∧ Rd w' w.heap.size S kw kwf (toks kw (bytes S) 0) := by
  have hr : RdAt (w.alloc (.cells #[.string S, .int .i64 0, .string ⟨#[]⟩, .string ⟨#[]⟩, .int .i64 0, .func (.func kwf) #[] #[]] 217)) w.heap.size S 0 ⟨#[]⟩ ⟨#[]⟩ 0 (.func (.func kwf) #[] #[]) := heap_new _ _
  go_enter Tryd.func66, Tryd.ntmps66
  go_wp2_with fail
  refine (next_any kw kwf hx.ok _ w.heap.size S 0 _ _ _ hx.size (Nat.zero_le _) hr).mono ?_
  rintro e w' ⟨rfl, hn⟩
  go_wp2_with fail
  go_ret
  refine ⟨rfl, ?_, ⟨0, Nat.zero_le _, rfl, hn.2⟩⟩
  exact (Keep.alloc none' w _).trans' hn.1 (fun _ _ x => x) (fun i hi (x : i = _) => by omega)

/-! ### the two tellers of keywords -/
theorem words_good : KwGood wordsB := fun w h => by
  simp only [wordsB, Bool.or_eq_true, beq_iff_eq] at h
  rcases h with ((((((rfl | rfl) | rfl) | rfl) | rfl) | rfl) | rfl) | rfl <;> (unfold reserved; decide)
theorem kinds_good : KwGood kindsB := fun w h => by
  simp only [kindsB, Bool.or_eq_true, beq_iff_eq] at h
  rcases h with rfl | rfl <;> (unfold reserved; decide)
end Go.Proofs.YtabikmkoajdhmaaDoor

/- ast.Keyword and types.Read's own teller of keywords, by contracts. -/
namespace Go.Proofs.YtabikmkoajdhmaaDoor
open Go.RowKit

set_option maxHeartbeats 1000000 in
theorem keyword_ok : KwOk 67 wordsB := by
  refine ⟨fun args w => by kernel_rfl, fun s w => ?_⟩
  have he : bytes s = s.toList := (ByteArray.toList_eq s).symm
  rw [he]
  generalize hl : s.toList = l
  have HL := Lib.hid hl; clear hl he
  have e : ∀ (k : Str) (b : Bool), (l == k) = b → (s.toList == k) = b := fun k b h => by rw [HL.out]; exact h
  have E := Lib.hid e; clear e
  unfold wordsB
  cases h1 : l == FUN with
  | true =>
    have t1 := E.out _ _ h1; clear h1
    unfold FUN at t1
    go_enter Tryd.func67, Tryd.ntmps67
    go_wp2
    go_ret
    exact ⟨by simp, rfl⟩
  | false =>
  have t1 := E.out _ _ h1; clear h1
  unfold FUN at t1
  cases h2 : l == LET with
  | true =>
    have t2 := E.out _ _ h2; clear h2
    unfold LET at t2
    go_enter Tryd.func67, Tryd.ntmps67
    go_wp2
    go_ret
    exact ⟨by simp, rfl⟩
  | false =>
  have t2 := E.out _ _ h2; clear h2
  unfold LET at t2
  cases h3 : l == REC with
  | true =>
    have t3 := E.out _ _ h3; clear h3
    unfold REC at t3
    go_enter Tryd.func67, Tryd.ntmps67
    go_wp2
    go_ret
    exact ⟨by simp, rfl⟩
  | false =>
  have t3 := E.out _ _ h3; clear h3
  unfold REC at t3
  cases h4 : l == AND with
  | true =>
    have t4 := E.out _ _ h4; clear h4
    unfold AND at t4
    go_enter Tryd.func67, Tryd.ntmps67
    go_wp2
    go_ret
    exact ⟨by simp, rfl⟩
  | false =>
  have t4 := E.out _ _ h4; clear h4
  unfold AND at t4
  cases h5 : l == IN with
  | true =>
    have t5 := E.out _ _ h5; clear h5
    unfold IN at t5
    go_enter Tryd.func67, Tryd.ntmps67
    go_wp2
    go_ret
    exact ⟨by simp, rfl⟩
  | false =>
  have t5 := E.out _ _ h5; clear h5
  unfold IN at t5
  cases h6 : l == IF with
  | true =>
    have t6 := E.out _ _ h6; clear h6
    unfold IF at t6
    go_enter Tryd.func67, Tryd.ntmps67
    go_wp2
    go_ret
    exact ⟨by simp, rfl⟩
  | false =>
  have t6 := E.out _ _ h6; clear h6
  unfold IF at t6
  cases h7 : l == THEN with
  | true =>
    have t7 := E.out _ _ h7; clear h7
    unfold THEN at t7
    go_enter Tryd.func67, Tryd.ntmps67
    go_wp2
    go_ret
    exact ⟨by simp, rfl⟩
  | false =>
  have t7 := E.out _ _ h7; clear h7
  unfold THEN at t7
  cases h8 : l == ELSE with
  | true =>
    have t8 := E.out _ _ h8; clear h8
    unfold ELSE at t8
    go_enter Tryd.func67, Tryd.ntmps67
    go_wp2
    go_ret
    exact ⟨by simp, rfl⟩
  | false =>
    have t8 := E.out _ _ h8; clear h8
    unfold ELSE at t8
    go_enter Tryd.func67, Tryd.ntmps67
    go_wp2
    go_ret
    exact ⟨by simp, rfl⟩

set_option maxHeartbeats 1000000 in
theorem kinds_ok : KwOk 74 kindsB := by
  refine ⟨fun args w => by kernel_rfl, fun s w => ?_⟩
  have he : bytes s = s.toList := (ByteArray.toList_eq s).symm
  rw [he]
  generalize hl : s.toList = l
  have HL := Lib.hid hl; clear hl he
  have e : ∀ (k : Str) (b : Bool), (l == k) = b → (s.toList == k) = b := fun k b h => by rw [HL.out]; exact h
  have E := Lib.hid e; clear e
  unfold kindsB
  cases h1 : l == INT with
  | true =>
    have t1 := E.out _ _ h1; clear h1
    unfold INT at t1
    go_enter Tryd.func74, Tryd.ntmps74
    go_wp2
    go_ret
    exact ⟨by simp, rfl⟩
  | false =>
    have t1 := E.out _ _ h1; clear h1
    unfold INT at t1
    cases h2 : l == BOOL with
    | true =>
      have t2 := E.out _ _ h2; clear h2
      unfold BOOL at t2
      go_enter Tryd.func74, Tryd.ntmps74
      go_wp2
      go_ret
      exact ⟨by simp, rfl⟩
    | false =>
      have t2 := E.out _ _ h2; clear h2
      unfold BOOL at t2
      go_enter Tryd.func74, Tryd.ntmps74
      go_wp2
      go_ret
      exact ⟨by simp, rfl⟩
end Go.Proofs.YtabikmkoajdhmaaDoor

/- Expressions in memory, and what the readers of expressions leave ('ParsePost'): words and plain lemmas. -/
namespace Go.Proofs.YtabikmkoajdhmaaDoor
open Go.RowKit

/-- A slice value holds these values (its spare is not spoken of). -/
def SlR (G : GH) (v : Value) (xs : List Value) : Prop :=
  (v = .slice none 0 0 ∧ xs = []) ∨ ∃ b arr T cap, v = .slice (some ⟨b, 0, none⟩) xs.length cap ∧ G b = some (.cells arr T) ∧ ∀ i (h : i < xs.length), arr[i]? = some xs[i]
theorem SlR.sub {G G' : GH} (hs : G.sub G') {v : Value} {xs : List Value} (h : SlR G v xs) : SlR G' v xs := by
  rcases h with h | ⟨b, arr, T, cap, h1, h2, h3⟩
  · exact .inl h
  · exact .inr ⟨b, arr, T, cap, h1, hs _ _ h2, h3⟩

def ptr (b : Nat) : Value := .pointer (some ⟨b, 0, none⟩)

mutual
inductive ExR (G : GH) : Value → Ex → Prop
  | name {b p : Nat} {n : Str} : G b = some (.cells #[.int .i64 p, .string (bs n)] 175) → ExR G (.iface 172 (.pointer (some ⟨b, 0, none⟩))) (.name p n)
  | num {b : Nat} {p : Int} {t : Str} : G b = some (.cells #[.int .i64 p, .string (bs t)] 178) → ExR G (.iface 176 (.pointer (some ⟨b, 0, none⟩))) (.num t)
  | fn {b : Nat} {p : Int} {n : Str} {v : Value} {x : Ex} : G b = some (.cells #[.int .i64 p, .string (bs n), v] 181) → ExR G v x → ExR G (.iface 179 (.pointer (some ⟨b, 0, none⟩))) (.fn n x)
  | app {b : Nat} {p : Int} {v u : Value} {x y : Ex} : G b = some (.cells #[.int .i64 p, v, u] 198) → ExR G v x → ExR G u y → ExR G (.iface 196 (.pointer (some ⟨b, 0, none⟩))) (.app x y)
  | pair {b : Nat} {p : Int} {v u : Value} {x y : Ex} : G b = some (.cells #[.int .i64 p, v, u] 184) → ExR G v x → ExR G u y → ExR G (.iface 182 (.pointer (some ⟨b, 0, none⟩))) (.pair x y)
  | lt {b : Nat} {p : Int} {n : Str} {v u : Value} {x y : Ex} : G b = some (.cells #[.int .i64 p, .string (bs n), v, u] 187) → ExR G v x → ExR G u y → ExR G (.iface 185 (.pointer (some ⟨b, 0, none⟩))) (.lt n x y)
  | ite {b : Nat} {p : Int} {v u z : Value} {x y q : Ex} : G b = some (.cells #[.int .i64 p, v, u, z] 190) → ExR G v x → ExR G u y → ExR G z q → ExR G (.iface 188 (.pointer (some ⟨b, 0, none⟩))) (.ite x y q)
  | rc {b : Nat} {p : Int} {nv lv e : Value} {vs : List Value} {bd : Bs} {x : Ex} : G b = some (.cells #[.int .i64 p, nv, lv, e] 194) → SlR G nv (bd.names.map fun n => .string (bs n)) → SlR G lv vs → BsR G vs bd → vs ≠ [] ∧ vs.length ≤ 1000000000 → ExR G e x →
      ExR G (.iface 191 (.pointer (some ⟨b, 0, none⟩))) (.rc bd x)
inductive BsR (G : GH) : List Value → Bs → Prop
  | nil : BsR G [] .nil
  | cons {v : Value} {vs : List Value} {n : Str} {x : Ex} {r : Bs} : ExR G v x → BsR G vs r → BsR G (v :: vs) (.cons n x r)
end

mutual
theorem ExR.sub {G G' : GH} (hs : G.sub G') : ∀ {v : Value} {x : Ex}, ExR G v x → ExR G' v x
  | _, _, .name h => .name (hs _ _ h)
  | _, _, .num h => .num (hs _ _ h)
  | _, _, .fn h a => .fn (hs _ _ h) (a.sub hs)
  | _, _, .app h a b => .app (hs _ _ h) (a.sub hs) (b.sub hs)
  | _, _, .pair h a b => .pair (hs _ _ h) (a.sub hs) (b.sub hs)
  | _, _, .lt h a b => .lt (hs _ _ h) (a.sub hs) (b.sub hs)
  | _, _, .ite h a b c => .ite (hs _ _ h) (a.sub hs) (b.sub hs) (c.sub hs)
  | _, _, .rc h n l b q e => .rc (hs _ _ h) (n.sub hs) (l.sub hs) (b.sub hs) q (e.sub hs)
theorem BsR.sub {G G' : GH} (hs : G.sub G') : ∀ {vs : List Value} {r : Bs}, BsR G vs r → BsR G' vs r
  | _, _, .nil => .nil
  | _, _, .cons a b => .cons (a.sub hs) (b.sub hs)
end

theorem ExR.shape {G : GH} {v : Value} {x : Ex} (h : ExR G v x) : ∃ T b, v = .iface T (.pointer (some ⟨b, 0, none⟩)) := by
  cases h <;> exact ⟨_, _, rfl⟩

/-- G' is G and blocks that are new since w. -/
structure Grew (G : GH) (w : World) (G' : GH) : Prop where
  sub : G.sub G'
  eq : ∀ b, b < w.heap.size → G' b = G b
theorem Grew.refl (G : GH) (w : World) : Grew G w G := ⟨GH.sub.refl G, fun _ _ => rfl⟩
theorem Grew.trans {S : Nat → Prop} {G G1 G2 : GH} {w w1 : World} (h : Grew G w G1) (k : Keep S w w1) (h' : Grew G1 w1 G2) : Grew G w G2 :=
  ⟨h.sub.trans h'.sub, fun b hb => (h'.eq b (Nat.lt_of_lt_of_le hb k.size)).trans (h.eq b hb)⟩
theorem Grew.keep {S : Nat → Prop} {G G1 : GH} {w w1 : World} (k : Keep S w w1) (h' : Grew G w1 G1) : Grew G w G1 := (Grew.refl G w).trans k h'

/-- The state of the reader of expressions: its block ab leads to the token reader's block rb; G's blocks are laid, rb is none of them. -/
structure AInv (G : GH) (w : World) (ab rb : Nat) (S : ByteArray) (kw : Str → Bool) (kwf : Nat) (l : List Tok) : Prop where
  holds : Holds G w
  ar : G ab = some (.cells #[.pointer (some ⟨rb, 0, none⟩)] 169)
  off : G rb = none
  rd : Rd w rb S kw kwf l

def ParsePost (G : GH) (w : World) (ab rb : Nat) (S : ByteArray) (kw : Str → Bool) (kwf : Nat) (r : Res (Ex × List Tok)) (e : Ending) (w' : World) : Prop :=
  Keep (one' rb) w w' ∧ match r with
    | some (.ok (x, l)) => ∃ v G', e = .returned v ∧ Grew G w G' ∧ AInv G' w' ab rb S kw kwf l ∧ ExR G' v x
    | some (.error p) => e = .panicked (stopE p)
    | none => False

theorem AInv.off1 {G : GH} {w : World} {ab rb : Nat} {S : ByteArray} {kw : Str → Bool} {kwf : Nat} {l : List Tok} (h : AInv G w ab rb S kw kwf l) : G.off (one' rb) := fun b o hb (e : b = rb) => by
  subst e; rw [h.off] at hb; cases hb
/-- Behind a call that touched the token reader alone. -/
theorem AInv.step {G : GH} {w w' : World} {ab rb : Nat} {S : ByteArray} {kw : Str → Bool} {kwf : Nat} {l l' : List Tok} (h : AInv G w ab rb S kw kwf l) (k : Keep (one' rb) w w') (r : Rd w' rb S kw kwf l') : AInv G w' ab rb S kw kwf l' :=
  ⟨h.holds.keep k h.off1, h.ar, h.off, r⟩
theorem AInv.cell {G : GH} {w : World} {ab rb : Nat} {S : ByteArray} {kw : Str → Bool} {kwf : Nat} {l : List Tok} (h : AInv G w ab rb S kw kwf l) : w.cell? ⟨ab, 0, none⟩ = some (.pointer (some ⟨rb, 0, none⟩)) :=
  cell_of_heap (h.holds _ _ h.ar) rfl
/-- A new block, laid behind all. -/
theorem AInv.alloc {G : GH} {w : World} {ab rb : Nat} {S : ByteArray} {kw : Str → Bool} {kwf : Nat} {l : List Tok} (h : AInv G w ab rb S kw kwf l) (o : Obj) :
    Grew G w (G.put w.heap.size o) ∧ AInv (G.put w.heap.size o) (w.alloc o) ab rb S kw kwf l := by
  have hf : G w.heap.size = none := h.holds.fresh (Nat.le_refl _)
  have hab : ab ≠ w.heap.size := by have := h.holds.lt h.ar; omega
  have hrb : rb ≠ w.heap.size := by have := h.rd.lt; omega
  refine ⟨⟨GH.sub_put hf, fun b hb => GH.put_other _ _ (by omega)⟩, ?_, ?_, ?_, ?_⟩
  · exact (h.holds.keep0 (Keep.alloc none' w o)).put (heap_new w o)
  · rw [GH.put_other _ _ hab]; exact h.ar
  · rw [GH.put_other _ _ hrb]; exact h.off
  · exact h.rd.keep (Keep.alloc none' w o) (fun x => x)
/-- The token in hand, in memory. -/
theorem AInv.tok {G : GH} {w : World} {ab rb : Nat} {S : ByteArray} {kw : Str → Bool} {kwf : Nat} {l : List Tok} (h : AInv G w ab rb S kw kwf l) :
    w.cell? ⟨rb, 2, none⟩ = some (.string (bs (kstr (hd l).kind))) ∧ w.cell? ⟨rb, 4, none⟩ = some (.int .i64 (hd l).pos) := by
  obtain ⟨i0, hi0, rfl, hr⟩ := h.rd
  rw [hd_toks kw (bytes S) i0 (by rw [bytes_length]; exact hi0)]
  exact ⟨cell_of_heap hr rfl, cell_of_heap hr rfl⟩
theorem AInv.good {G : GH} {w : World} {ab rb : Nat} {S : ByteArray} {kw : Str → Bool} {kwf : Nat} {l : List Tok} (h : AInv G w ab rb S kw kwf l) (hk : KwGood kw) : goodK (hd l).kind := by
  obtain ⟨i0, hi0, rfl, hr⟩ := h.rd
  rw [hd_toks kw (bytes S) i0 (by rw [bytes_length]; exact hi0)]
  exact lexAt_good hk _ _
theorem str_is {a l : Str} : ((bs a).toList == l) = decide (a = l) := by
  have e : (bs a).toList = a := by rw [ByteArray.toList_eq]; exact bs_toList a
  rw [e]
  by_cases h : a = l <;> simp [h]
theorem kind_is {k k0 : TK} (h : goodK k) (h0 : goodK k0) : ((bs (kstr k)).toList == kstr k0) = decide (k = k0) := by
  rw [str_is]
  by_cases e : k = k0
  · subst e; simp
  · have : ¬ kstr k = kstr k0 := fun x => e (kstr_inj h h0 x)
    simp [e, this]
theorem good_kw {w : Str} (h : ¬ reserved w) : goodK (.kw w) := fun v e => by cases e; exact h
theorem good_name : goodK .name := fun v e => by cases e
theorem good_num : goodK .num := fun v e => by cases e
theorem good_fin : goodK .fin := fun v e => by cases e
end Go.Proofs.YtabikmkoajdhmaaDoor

/- Types in memory: variables' blocks (by a map of numbers to blocks) and constructors' blocks (in the ghost heap); what a value stands for with all that has been found out (TR); binding a variable and shortening a way, as changes of the world. Words and plain lemmas. -/
namespace Go.Proofs.YtabikmkoajdhmaaDoor
open Go.RowKit

def sList : Str := [108, 105, 115, 116]
def sPair : Str := [112, 97, 105, 114]
def sFun : Str := [102, 117, 110]
def Ty.con : Ty → Bool | .var _ => false | _ => true
def Ty.kind : Ty → Str | .var _ => [] | .int => INT | .bool => BOOL | .list _ => sList | .pair _ _ => sPair | .fn _ _ => sFun
def Ty.args : Ty → List Ty | .list a => [a] | .pair a b => [a, b] | .fn a b => [a, b] | _ => []
/-- One variable's new meaning. -/
def Ty.sub (N : Nat) (s : Ty) : Ty → Ty
  | .var n => if n = N then s else .var n
  | .int => .int | .bool => .bool
  | .list a => .list (Ty.sub N s a) | .pair a b => .pair (Ty.sub N s a) (Ty.sub N s b) | .fn a b => .fn (Ty.sub N s a) (Ty.sub N s b)
def Ty.has (N : Nat) : Ty → Bool
  | .var n => n = N
  | .int => false | .bool => false
  | .list a => a.has N | .pair a b => a.has N || b.has N | .fn a b => a.has N || b.has N
/-- What has been found out, in turn. -/
abbrev Dl := List (Nat × Ty)
def app : Dl → Ty → Ty
  | [], t => t
  | (N, s) :: r, t => app r (Ty.sub N s t)
theorem app_append (d e : Dl) : ∀ t, app (d ++ e) t = app e (app d t) := by
  induction d with
  | nil => intro t; rfl
  | cons x r ih => intro t; obtain ⟨N, s⟩ := x; exact ih _
theorem app_int : ∀ d : Dl, app d .int = .int
  | [] => rfl
  | (_, _) :: r => app_int r
theorem app_bool : ∀ d : Dl, app d .bool = .bool
  | [] => rfl
  | (_, _) :: r => app_bool r
theorem app_list (a : Ty) : ∀ d : Dl, app d (.list a) = .list (app d a)
  | [] => rfl
  | (_, _) :: r => app_list _ r
theorem app_pair : ∀ (d : Dl) (a b : Ty), app d (.pair a b) = .pair (app d a) (app d b)
  | [], _, _ => rfl
  | (_, _) :: r, _, _ => app_pair r _ _
theorem app_fn : ∀ (d : Dl) (a b : Ty), app d (.fn a b) = .fn (app d a) (app d b)
  | [], _, _ => rfl
  | (_, _) :: r, _, _ => app_fn r _ _
theorem Ty.sub_not {N : Nat} {s : Ty} : ∀ {t : Ty}, t.has N = false → Ty.sub N s t = t
  | .var n, h => by have : ¬ n = N := by simpa [Ty.has] using h
                    simp [Ty.sub, this]
  | .int, _ => rfl
  | .bool, _ => rfl
  | .list a, h => by rw [Ty.sub, Ty.sub_not (t := a) h]
  | .pair a b, h => by simp only [Ty.has, Bool.or_eq_false_iff] at h; rw [Ty.sub, Ty.sub_not h.1, Ty.sub_not h.2]
  | .fn a b, h => by simp only [Ty.has, Bool.or_eq_false_iff] at h; rw [Ty.sub, Ty.sub_not h.1, Ty.sub_not h.2]
theorem Ty.con_sub {N : Nat} {s t : Ty} (h : t.con = true) : (Ty.sub N s t).con = true ∧ (Ty.sub N s t).kind = t.kind ∧ (Ty.sub N s t).args = t.args.map (Ty.sub N s) := by
  cases t <;> simp_all [Ty.con, Ty.sub, Ty.kind, Ty.args]
theorem Ty.con_ext {t u : Ty} (ht : t.con = true) (hu : u.con = true) (hk : t.kind = u.kind) (ha : t.args = u.args) : t = u := by
  cases t <;> cases u <;> simp_all [Ty.con, Ty.kind, Ty.args, INT, BOOL, sList, sPair, sFun]
theorem Ty.arg_sz {t a : Ty} (h : a ∈ t.args) : a.size < t.size := by
  cases t <;> simp [Ty.args] at h
  · subst h; simp [Ty.size]
  · rcases h with rfl | rfl <;> simp [Ty.size] <;> omega
  · rcases h with rfl | rfl <;> simp [Ty.size] <;> omega
theorem Ty.arg_has {t a : Ty} {N : Nat} (h : a ∈ t.args) (hn : t.has N = false) : a.has N = false := by
  cases t <;> simp [Ty.args] at h <;> simp [Ty.has] at hn
  · subst h; exact hn
  · rcases h with rfl | rfl; exact hn.1; exact hn.2
  · rcases h with rfl | rfl; exact hn.1; exact hn.2
theorem Ty.args_len {t : Ty} : t.args.length ≤ 2 := by cases t <;> simp [Ty.args]

/-- The variables' blocks and names, by their numbers. -/
abbrev GV := Nat → Option (Nat × Str)
def GV.sub (A B : GV) : Prop := ∀ N x, A N = some x → B N = some x
def GV.put (A : GV) (N : Nat) (x : Nat × Str) : GV := fun k => if k = N then some x else A k
theorem GV.sub.refl (A : GV) : A.sub A := fun _ _ h => h
theorem GV.sub.trans {A B C : GV} (h : A.sub B) (k : B.sub C) : A.sub C := fun N x e => k N x (h N x e)
theorem GV.put_same (A : GV) (N : Nat) (x : Nat × Str) : A.put N x N = some x := by simp [GV.put]
theorem GV.put_other (A : GV) {N k : Nat} (x : Nat × Str) (h : k ≠ N) : A.put N x k = A k := by simp [GV.put, h]
theorem GV.sub_put {A : GV} {N : Nat} {x : Nat × Str} (h : A N = none) : A.sub (A.put N x) := fun k y e => by
  by_cases hk : k = N
  · subst hk; rw [h] at e; cases e
  · rw [GV.put_other _ _ hk]; exact e

def varV (b : Nat) : Value := .iface 137 (.pointer (some ⟨b, 0, none⟩))
def conV (b : Nat) : Value := .iface 143 (.pointer (some ⟨b, 0, none⟩))
def varObj (N : Nat) (is : Value) (nm : Str) : Obj := .cells #[.int .i64 N, is, .string (bs nm)] 139

mutual
/-- v stands for the type t, all that has been found out put in. -/
inductive TR (G : GH) (A : GV) (w : World) : Value → Ty → Prop
  | free {N b : Nat} {nm : Str} : A N = some (b, nm) → w.heap[b]? = some (varObj N .nilIface nm) → TR G A w (varV b) (.var N)
  | link {N b b' : Nat} {nm : Str} {T : TypeId} {t : Ty} : A N = some (b, nm) → w.heap[b]? = some (varObj N (.iface T (.pointer (some ⟨b', 0, none⟩))) nm) → TR G A w (.iface T (.pointer (some ⟨b', 0, none⟩))) t → TR G A w (varV b) t
  | con {b : Nat} {lv : Value} {vs : List Value} {t : Ty} : t.con = true → G b = some (.cells #[.string (bs t.kind), lv] 147) → SlR G lv vs → TRs G A w vs t.args → TR G A w (conV b) t
inductive TRs (G : GH) (A : GV) (w : World) : List Value → List Ty → Prop
  | nil : TRs G A w [] []
  | cons {v : Value} {vs : List Value} {t : Ty} {ts : List Ty} : TR G A w v t → TRs G A w vs ts → TRs G A w (v :: vs) (t :: ts)
end
theorem TR.shape {G : GH} {A : GV} {w : World} {v : Value} {t : Ty} (h : TR G A w v t) : ∃ b, v = varV b ∨ v = conV b := by
  cases h with
  | free => exact ⟨_, .inl rfl⟩
  | link => exact ⟨_, .inl rfl⟩
  | con => exact ⟨_, .inr rfl⟩
theorem TRs.len {G : GH} {A : GV} {w : World} : ∀ {vs : List Value} {ts : List Ty}, TRs G A w vs ts → vs.length = ts.length
  | _, _, .nil => rfl
  | _, _, .cons _ h => by simp [h.len]
theorem TRs.get {G : GH} {A : GV} {w : World} : ∀ {vs : List Value} {ts : List Ty}, TRs G A w vs ts → ∀ i (h : i < vs.length) (h' : i < ts.length), TR G A w vs[i] ts[i]
  | _, _, .nil, i, h, _ => absurd h (Nat.not_lt_zero _)
  | _, _, .cons a _, 0, _, _ => a
  | _, _, .cons _ r, i + 1, h, h' => by simpa using r.get i (by simpa using h) (by simpa using h')

mutual
/-- What leaves every variable's block as it was leaves the meaning. -/
theorem TR.mono {G G' : GH} {A A' : GV} {w w' : World} (hG : G.sub G') (hA : A.sub A') (hw : ∀ N b nm, A N = some (b, nm) → w'.heap[b]? = w.heap[b]?) : ∀ {v : Value} {t : Ty}, TR G A w v t → TR G' A' w' v t
  | _, _, .free h k => .free (hA _ _ h) ((hw _ _ _ h).trans k)
  | _, _, .link h k r => .link (hA _ _ h) ((hw _ _ _ h).trans k) (r.mono hG hA hw)
  | _, _, .con c g s r => .con c (hG _ _ g) (s.sub hG) (r.mono hG hA hw)
theorem TRs.mono {G G' : GH} {A A' : GV} {w w' : World} (hG : G.sub G') (hA : A.sub A') (hw : ∀ N b nm, A N = some (b, nm) → w'.heap[b]? = w.heap[b]?) : ∀ {vs : List Value} {ts : List Ty}, TRs G A w vs ts → TRs G' A' w' vs ts
  | _, _, .nil => .nil
  | _, _, .cons a b => .cons (a.mono hG hA hw) (b.mono hG hA hw)
end

theorem SlR.det {G : GH} {v : Value} {xs ys : List Value} (h : SlR G v xs) (k : SlR G v ys) : xs = ys := by
  rcases h with ⟨rfl, rfl⟩ | ⟨b, arr, T, cap, rfl, h2, h3⟩
  · rcases k with ⟨_, rfl⟩ | ⟨b', arr', T', cap', e, k2, k3⟩
    · rfl
    · cases e
  · rcases k with ⟨e, rfl⟩ | ⟨b', arr', T', cap', e, k2, k3⟩
    · cases e
    · injection e with e1 e2 e3
      injection e1 with e1
      injection e1 with e1
      subst e1
      rw [h2] at k2
      injection k2 with k2
      injection k2 with k2
      subst k2
      refine List.ext_getElem e2 (fun i hi hi' => ?_)
      have := (h3 i hi).symm.trans (k3 i hi')
      injection this

mutual
/-- A value stands for one type. -/
theorem TR.det {G : GH} {A : GV} {w : World} : ∀ {v : Value} {t u : Ty}, TR G A w v t → TR G A w v u → t = u
  | _, _, u, .free (N := N) (b := b) h k, h2 => by
    cases h2 with
    | free h' k' => rw [k] at k'; simp [varObj] at k'; rw [Int.ofNat.inj k'.1]
    | link h' k' r' => rw [k] at k'; simp [varObj] at k'
  | _, _, u, .link h k r, h2 => by
    cases h2 with
    | free h' k' => rw [k] at k'; simp [varObj] at k'
    | link h' k' r' =>
      rw [k] at k'; simp [varObj] at k'
      obtain ⟨_, ⟨rfl, rfl⟩, _⟩ := k'
      exact r.det r'
  | _, _, u, .con c g s r, h2 => by
    cases h2 with
    | con c' g' s' r' =>
      rw [g] at g'
      simp at g'
      obtain ⟨e1, rfl⟩ := g'
      have e := s.det s'
      subst e
      exact Ty.con_ext c c' (bs_inj e1) (r.det r')
theorem TRs.det {G : GH} {A : GV} {w : World} : ∀ {vs : List Value} {ts us : List Ty}, TRs G A w vs ts → TRs G A w vs us → ts = us
  | _, _, _, .nil, .nil => rfl
  | _, _, _, .cons a b, .cons a' b' => by rw [a.det a', b.det b']
end
end Go.Proofs.YtabikmkoajdhmaaDoor

/- Types in memory: what shortening a way and binding a variable do to the meaning of all values. -/
namespace Go.Proofs.YtabikmkoajdhmaaDoor
open Go.RowKit

/-- A value that has become nothing further. -/
inductive Root (G : GH) (A : GV) (w : World) : Value → Ty → Prop
  | var {N b : Nat} {nm : Str} : A N = some (b, nm) → w.heap[b]? = some (varObj N .nilIface nm) → Root G A w (varV b) (.var N)
  | con {b : Nat} {lv : Value} {vs : List Value} {t : Ty} : t.con = true → G b = some (.cells #[.string (bs t.kind), lv] 147) → SlR G lv vs → TRs G A w vs t.args → Root G A w (conV b) t
theorem Root.tr {G : GH} {A : GV} {w : World} {v : Value} {t : Ty} (h : Root G A w v t) : TR G A w v t := by
  cases h with
  | var a b => exact .free a b
  | con a b c d => exact .con a b c d
theorem TR.iface {G : GH} {A : GV} {w : World} {v : Value} {t : Ty} (h : TR G A w v t) : ∃ T b, v = .iface T (.pointer (some ⟨b, 0, none⟩)) := by
  obtain ⟨b, rfl | rfl⟩ := h.shape
  · exact ⟨_, b, rfl⟩
  · exact ⟨_, b, rfl⟩
theorem Root.mono {G G' : GH} {A A' : GV} {w w' : World} (hG : G.sub G') (hA : A.sub A') (hw : ∀ N b nm, A N = some (b, nm) → w'.heap[b]? = w.heap[b]?) {v : Value} {t : Ty} (h : Root G A w v t) : Root G' A' w' v t := by
  cases h with
  | var a b => exact .var (hA _ _ a) ((hw _ _ _ a).trans b)
  | con a b c d => exact .con a (hG _ _ b) (c.sub hG) (d.mono hG hA hw)

/-- The blocks of variables. -/
def isV (A : GV) : Nat → Prop := fun b => ∃ N nm, A N = some (b, nm)

structure TInv (G : GH) (A : GV) (w : World) (n : Nat) : Prop where
  holds : Holds G w
  vars : ∀ N b nm, A N = some (b, nm) → 1 ≤ N ∧ N ≤ n ∧ G b = none ∧ ∃ is, w.heap[b]? = some (varObj N is nm)
theorem TInv.off {G : GH} {A : GV} {w : World} {n : Nat} (h : TInv G A w n) : G.off (isV A) := fun b o hb ⟨N, nm, e⟩ => by
  rw [(h.vars N b nm e).2.2.1] at hb; cases hb
theorem TInv.old {G : GH} {A : GV} {w : World} {n b : Nat} (h : TInv G A w n) (hb : isV A b) : b < w.heap.size := by
  obtain ⟨N, nm, e⟩ := hb
  obtain ⟨_, _, _, i, hi⟩ := h.vars N b nm e
  exact lt_of_heap hi
theorem TInv.one {G : GH} {A : GV} {w : World} {n N M b : Nat} {nm nm' : Str} (h : TInv G A w n) (hN : A N = some (b, nm)) (hM : A M = some (b, nm')) : N = M := by
  obtain ⟨_, _, _, i, e⟩ := h.vars N b nm hN
  obtain ⟨_, _, _, j, f⟩ := h.vars M b nm' hM
  rw [e] at f
  simp [varObj] at f
  exact Int.ofNat.inj f.1
theorem TInv.keep {G : GH} {A : GV} {w w' : World} {n : Nat} (h : TInv G A w n) {S : Nat → Prop} (k : Keep S w w') (hG : G.off S) (hS : ∀ b, isV A b → ¬ S b) : TInv G A w' n :=
  ⟨h.holds.keep k hG, fun N b nm e => let ⟨a, b', c, i, hi⟩ := h.vars N b nm e; ⟨a, b', c, i, k.get hi (hS b ⟨N, nm, e⟩)⟩⟩
theorem TInv.keep0 {G : GH} {A : GV} {w w' : World} {n : Nat} (h : TInv G A w n) (k : Keep none' w w') : TInv G A w' n := h.keep k (fun _ _ _ x => x) (fun _ _ x => x)
theorem TInv.up {G : GH} {A : GV} {w : World} {n m : Nat} (h : TInv G A w n) (hn : n ≤ m) : TInv G A w m :=
  ⟨h.holds, fun N b nm e => let ⟨a, b', c, i⟩ := h.vars N b nm e; ⟨a, Nat.le_trans b' hn, c, i⟩⟩
theorem TInv.blk {G : GH} {A : GV} {w w' : World} {n : Nat} (h : TInv G A w n) {S : Nat → Prop} (k : Keep S w w') (hS : ∀ b, isV A b → ¬ S b) : ∀ N b nm, A N = some (b, nm) → w'.heap[b]? = w.heap[b]? := fun N b nm e => by
  obtain ⟨_, _, _, i, hi⟩ := h.vars N b nm e
  rw [hi]; exact k.get hi (hS b ⟨N, nm, e⟩)
theorem TR.keep {G : GH} {A : GV} {w w' : World} {n : Nat} {v : Value} {t : Ty} (r : TR G A w v t) (h : TInv G A w n) {S : Nat → Prop} (k : Keep S w w') (hS : ∀ b, isV A b → ¬ S b) : TR G A w' v t :=
  r.mono (GH.sub.refl G) (GV.sub.refl A) (h.blk k hS)
theorem TR.keep0 {G : GH} {A : GV} {w w' : World} {n : Nat} {v : Value} {t : Ty} (r : TR G A w v t) (h : TInv G A w n) (k : Keep none' w w') : TR G A w' v t := r.keep h k (fun _ _ x => x)

/-- A free variable's block. -/
theorem TR.var_free {G : GH} {A : GV} {w : World} {N b : Nat} {nm : Str} (hN : A N = some (b, nm)) : ∀ {v : Value} {t : Ty}, TR G A w v t → t = .var N → w.heap[b]? = some (varObj N .nilIface nm)
  | _, _, .free h k, e => by
    injection e with e; subst e
    rw [hN] at h; injection h with h; injection h with h1 h2; subst h1; subst h2
    exact k
  | _, _, .link _ _ r, e => r.var_free hN e
  | _, _, .con c _ _ _, e => by subst e; cases c
/-- The one root that a variable leads to. -/
theorem TR.var_root {G : GH} {A : GV} {w : World} {N : Nat} : ∀ {v : Value} {t : Ty}, TR G A w v t → t = .var N → ∃ b nm, A N = some (b, nm) ∧ w.heap[b]? = some (varObj N .nilIface nm)
  | _, _, .free h k, e => by injection e with e; subst e; exact ⟨_, _, h, k⟩
  | _, _, .link _ _ r, e => r.var_root e
  | _, _, .con c _ _ _, e => by subst e; cases c

/-- The same meaning of all that has been there; nothing but variables' blocks is touched. -/
structure Same (G : GH) (A : GV) (n : Nat) (w w' : World) : Prop where
  keep : Keep (isV A) w w'
  inv : TInv G A w' n
  tr : ∀ v t, TR G A w v t → TR G A w' v t
theorem Same.refl {G : GH} {A : GV} {n : Nat} {w : World} (h : TInv G A w n) : Same G A n w w := ⟨Keep.refl _ _, h, fun _ _ r => r⟩
theorem Same.trans {G : GH} {A : GV} {n : Nat} {a b c : World} (h : Same G A n a b) (k : Same G A n b c) : Same G A n a c := ⟨h.keep.trans k.keep, k.inv, fun v t r => k.tr v t (h.tr v t r)⟩
theorem Same.of0 {G : GH} {A : GV} {n : Nat} {w w' : World} (h : TInv G A w n) (k : Keep none' w w') : Same G A n w w' := ⟨k.of_none, h.keep0 k, fun _ _ r => r.keep0 h k⟩
theorem Same.trs {G : GH} {A : GV} {n : Nat} {w w' : World} (h : Same G A n w w') : ∀ {vs : List Value} {ts : List Ty}, TRs G A w vs ts → TRs G A w' vs ts
  | _, _, .nil => .nil
  | _, _, .cons a b => .cons (h.tr _ _ a) (h.trs b)
/-- A free variable stays free. -/
theorem Same.free {G : GH} {A : GV} {n N b : Nat} {nm : Str} {w w' : World} (h : Same G A n w w') (hN : A N = some (b, nm)) (hf : w.heap[b]? = some (varObj N .nilIface nm)) : w'.heap[b]? = some (varObj N .nilIface nm) :=
  (h.tr _ _ (.free hN hf)).var_free hN rfl
theorem Same.root {G : GH} {A : GV} {n : Nat} {w w' : World} (h : Same G A n w w') {v : Value} {t : Ty} (r : Root G A w v t) : Root G A w' v t := by
  cases r with
  | var a b => exact .var a (h.free a b)
  | con a b c d => exact .con a b c (h.trs d)

theorem set_var {w : World} {b N : Nat} {is u : Value} {nm : Str} (h : w.heap[b]? = some (varObj N is nm)) : (w.setCell ⟨b, 1, none⟩ u).heap[b]? = some (varObj N u nm) := heap_set_same (c := #[.int .i64 N, is, .string (bs nm)]) h
theorem lt_of_mem {t : Ty} {ts : List Ty} {n : Nat} (h : ∀ a ∈ t :: ts, a.size < n) : t.size < n ∧ ∀ a ∈ ts, a.size < n := ⟨h t (by simp), fun a ha => h a (by simp [ha])⟩

/-! ### a way made shorter -/
section
variable {G : GH} {A : GV} {w : World} {N b b' : Nat} {nm : Str} {T : TypeId} {t : Ty}
mutual
theorem comp_small (hb : w.heap[b]? = some (varObj N (.iface T (.pointer (some ⟨b', 0, none⟩))) nm)) (ht : TR G A w (varV b) t) (u : Value) : ∀ {x : Value} {s : Ty}, TR G A w x s → s.size < t.size → TR G A (w.setCell ⟨b, 1, none⟩ u) x s
  | _, _, .free (b := b0) h k, _ => by
    refine .free h (heap_set_other k ?_)
    rintro rfl
    rw [k] at hb; simp [varObj] at hb
  | _, _, .link (b := b0) (t := s) h k r, hs => by
    by_cases e : b0 = b
    · subst e
      have := ht.det (.link h k r)
      subst this
      exact absurd hs (Nat.lt_irrefl _)
    · exact .link h (heap_set_other k e) (comp_small hb ht u r hs)
  | _, _, .con c g s r, hs => .con c g s (comp_smalls hb ht u r (fun a ha => Nat.lt_trans (Ty.arg_sz ha) hs))
theorem comp_smalls (hb : w.heap[b]? = some (varObj N (.iface T (.pointer (some ⟨b', 0, none⟩))) nm)) (ht : TR G A w (varV b) t) (u : Value) : ∀ {xs : List Value} {ss : List Ty}, TRs G A w xs ss → (∀ a ∈ ss, a.size < t.size) → TRs G A (w.setCell ⟨b, 1, none⟩ u) xs ss
  | _, _, .nil, _ => .nil
  | _, _, .cons a r, h => .cons (comp_small hb ht u a (lt_of_mem h).1) (comp_smalls hb ht u r (lt_of_mem h).2)
end
theorem comp_root (hb : w.heap[b]? = some (varObj N (.iface T (.pointer (some ⟨b', 0, none⟩))) nm)) (ht : TR G A w (varV b) t) {r : Value} (u : Value) (hr : Root G A w r t) : Root G A (w.setCell ⟨b, 1, none⟩ u) r t := by
  cases hr with
  | var h k =>
    refine .var h (heap_set_other k ?_)
    rintro rfl
    rw [k] at hb; simp [varObj] at hb
  | con c g s r => exact .con c g s (comp_smalls hb ht u r (fun a ha => Ty.arg_sz ha))
mutual
theorem comp_all (hN : A N = some (b, nm)) (hb : w.heap[b]? = some (varObj N (.iface T (.pointer (some ⟨b', 0, none⟩))) nm)) (ht : TR G A w (varV b) t) {r : Value} (hr : Root G A w r t) : ∀ {x : Value} {s : Ty}, TR G A w x s → TR G A (w.setCell ⟨b, 1, none⟩ r) x s
  | _, _, .free (b := b0) h k => by
    refine .free h (heap_set_other k ?_)
    rintro rfl
    rw [k] at hb; simp [varObj] at hb
  | _, _, .link (b := b0) (t := s) h k q => by
    by_cases e : b0 = b
    · subst e
      have := ht.det (.link h k q)
      subst this
      have hq := (comp_root hb ht r hr).tr
      obtain ⟨c, rfl | rfl⟩ := hq.shape
      · exact .link hN (set_var hb) hq
      · exact .link hN (set_var hb) hq
    · exact .link h (heap_set_other k e) (comp_all hN hb ht hr q)
  | _, _, .con c g s q => .con c g s (comp_alls hN hb ht hr q)
theorem comp_alls (hN : A N = some (b, nm)) (hb : w.heap[b]? = some (varObj N (.iface T (.pointer (some ⟨b', 0, none⟩))) nm)) (ht : TR G A w (varV b) t) {r : Value} (hr : Root G A w r t) : ∀ {xs : List Value} {ss : List Ty}, TRs G A w xs ss → TRs G A (w.setCell ⟨b, 1, none⟩ r) xs ss
  | _, _, .nil => .nil
  | _, _, .cons a q => .cons (comp_all hN hb ht hr a) (comp_alls hN hb ht hr q)
end
end
theorem set_inv {G : GH} {A : GV} {w : World} {n N b : Nat} {nm : Str} {is : Value} (h : TInv G A w n) (hN : A N = some (b, nm)) (hb : w.heap[b]? = some (varObj N is nm)) (u : Value) : TInv G A (w.setCell ⟨b, 1, none⟩ u) n := by
  refine ⟨h.holds.keep (S := one' b) (Keep.setCell _ _ (fun _ => rfl)) (fun k o hk (e : k = b) => ?_), fun M c nm' e => ?_⟩
  · subst e; rw [(h.vars N k nm hN).2.2.1] at hk; cases hk
  · obtain ⟨x1, x2, x3, i, hi⟩ := h.vars M c nm' e
    refine ⟨x1, x2, x3, ?_⟩
    by_cases hc : c = b
    · subst hc
      rw [hb] at hi
      simp [varObj] at hi
      have e1 := Int.ofNat.inj hi.1
      subst e1
      rw [hN] at e
      simp at e
      subst e
      exact ⟨u, set_var hb⟩
    · exact ⟨i, heap_set_other hi hc⟩
theorem set_keep {A : GV} {w : World} {N b : Nat} {nm : Str} (hN : A N = some (b, nm)) (u : Value) : Keep (isV A) w (w.setCell ⟨b, 1, none⟩ u) := Keep.setCell _ _ (fun _ => ⟨N, nm, hN⟩)
/-- A variable's way is made shorter: nothing has another meaning. -/
theorem Same.comp {G : GH} {A : GV} {w : World} {n N b b' : Nat} {nm : Str} {T : TypeId} {t : Ty} {r : Value} (h : TInv G A w n) (hN : A N = some (b, nm)) (hb : w.heap[b]? = some (varObj N (.iface T (.pointer (some ⟨b', 0, none⟩))) nm)) (ht : TR G A w (varV b) t) (hr : Root G A w r t) : Same G A n w (w.setCell ⟨b, 1, none⟩ r) :=
  ⟨set_keep hN r, set_inv h hN hb r, fun _ _ q => comp_all hN hb ht hr q⟩

/-! ### a variable bound -/
section
variable {G : GH} {A : GV} {w : World} {n N b : Nat} {nm : Str} {u : Value} {s : Ty}
mutual
theorem bind_not (hi : TInv G A w n) (hN : A N = some (b, nm)) (hb : w.heap[b]? = some (varObj N .nilIface nm)) (u : Value) : ∀ {x : Value} {t : Ty}, TR G A w x t → t.has N = false → TR G A (w.setCell ⟨b, 1, none⟩ u) x t
  | _, _, .free (b := b0) h k, hs => by
    refine .free h (heap_set_other k ?_)
    rintro rfl
    have := hi.one hN h
    subst this
    simp [Ty.has] at hs
  | _, _, .link (b := b0) h k r, hs => by
    refine .link h (heap_set_other k ?_) (bind_not hi hN hb u r hs)
    rintro rfl
    rw [k] at hb; simp [varObj] at hb
  | _, _, .con c g l r, hs => .con c g l (bind_nots hi hN hb u r (fun a ha => Ty.arg_has ha hs))
theorem bind_nots (hi : TInv G A w n) (hN : A N = some (b, nm)) (hb : w.heap[b]? = some (varObj N .nilIface nm)) (u : Value) : ∀ {xs : List Value} {ts : List Ty}, TRs G A w xs ts → (∀ a ∈ ts, a.has N = false) → TRs G A (w.setCell ⟨b, 1, none⟩ u) xs ts
  | _, _, .nil, _ => .nil
  | _, _, .cons a r, h => .cons (bind_not hi hN hb u a (h _ (by simp))) (bind_nots hi hN hb u r (fun x hx => h x (by simp [hx])))
end
mutual
theorem bind_all (hi : TInv G A w n) (hN : A N = some (b, nm)) (hb : w.heap[b]? = some (varObj N .nilIface nm)) (hu : TR G A w u s) (hs : s.has N = false) : ∀ {x : Value} {t : Ty}, TR G A w x t → TR G A (w.setCell ⟨b, 1, none⟩ u) x (Ty.sub N s t)
  | _, _, .free (N := M) (b := b0) h k => by
    by_cases e : M = N
    · subst e
      rw [hN] at h
      simp at h
      obtain ⟨rfl, rfl⟩ := h
      simp only [Ty.sub, if_true]
      have hq := bind_not hi hN hb u hu hs
      obtain ⟨c, rfl | rfl⟩ := hu.shape
      · exact .link hN (set_var hb) hq
      · exact .link hN (set_var hb) hq
    · simp only [Ty.sub, e, if_false]
      refine .free h (heap_set_other k ?_)
      rintro rfl
      exact e (hi.one h hN)
  | _, _, .link (b := b0) h k r => by
    refine .link h (heap_set_other k ?_) (bind_all hi hN hb hu hs r)
    rintro rfl
    rw [k] at hb; simp [varObj] at hb
  | _, _, .con (t := t) c g l r => by
    obtain ⟨e1, e2, e3⟩ := Ty.con_sub (N := N) (s := s) c
    refine .con e1 (by rw [e2]; exact g) l ?_
    rw [e3]
    exact bind_alls hi hN hb hu hs r
theorem bind_alls (hi : TInv G A w n) (hN : A N = some (b, nm)) (hb : w.heap[b]? = some (varObj N .nilIface nm)) (hu : TR G A w u s) (hs : s.has N = false) : ∀ {xs : List Value} {ts : List Ty}, TRs G A w xs ts → TRs G A (w.setCell ⟨b, 1, none⟩ u) xs (ts.map (Ty.sub N s))
  | _, _, .nil => .nil
  | _, _, .cons a r => .cons (bind_all hi hN hb hu hs a) (bind_alls hi hN hb hu hs r)
end
end
end Go.Proofs.YtabikmkoajdhmaaDoor
