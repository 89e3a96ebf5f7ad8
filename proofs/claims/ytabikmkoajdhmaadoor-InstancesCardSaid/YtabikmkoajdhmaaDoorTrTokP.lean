/- What the walk of typerref.tokens leans on: the reference's tokens, plain; small contracts. -/
import Derived.Test.YtabikmkoajdhmaaDoorQ04
import Derived.Deep.DeepCutAuto
import Derived.Deep.CutBlock
import Derived.Laws.AppendOwn
import Derived.Maps.AppendAt
import Derived.Lib.SlBytesConst
set_option linter.unusedVariables false
set_option linter.unusedSimpArgs false
set_option linter.unnecessarySimpa false
namespace Go.Proofs.YtabikmkoajdhmaaDoor
open Go.RowKit

theorem tr_low (c : UInt8) (w : World) : Calls Tryd.prog 45 #[.int .u8 c.toNat] w fun e w' => e = .returned (.bool (low c)) ∧ w' = w := by
  by_cases h1 : 97 ≤ c.toNat
  · by_cases h2 : c.toNat ≤ 122
    · have e : low c = true := by simp [low, h1, h2]
      have q1 : (97 : Int) ≤ (c.toNat : Int) := by omega
      have q2 : (c.toNat : Int) ≤ 122 := by omega
      go_enter Tryd.func45, Tryd.ntmps45
      go_wp2_with fail
      go_ret
      exact ⟨by first | rfl | (rw [e]; rfl), rfl⟩
    · have e : low c = false := by simp [low, h1, h2]
      have q1 : (97 : Int) ≤ (c.toNat : Int) := by omega
      have q2 : ¬ (c.toNat : Int) ≤ 122 := by omega
      go_enter Tryd.func45, Tryd.ntmps45
      go_wp2_with fail
      go_ret
      exact ⟨by first | rfl | (rw [e]; rfl), rfl⟩
  · have e : low c = false := by simp [low, h1]
    have q1 : ¬ (97 : Int) ≤ (c.toNat : Int) := by omega
    go_enter Tryd.func45, Tryd.ntmps45
    go_wp2_with fail
    go_ret
    exact ⟨by first | rfl | (rw [e]; rfl), rfl⟩
theorem tr_fig (c : UInt8) (w : World) : Calls Tryd.prog 46 #[.int .u8 c.toNat] w fun e w' => e = .returned (.bool (fig c)) ∧ w' = w := by
  by_cases h1 : 48 ≤ c.toNat
  · by_cases h2 : c.toNat ≤ 57
    · have e : fig c = true := by simp [fig, h1, h2]
      have q1 : (48 : Int) ≤ (c.toNat : Int) := by omega
      have q2 : (c.toNat : Int) ≤ 57 := by omega
      go_enter Tryd.func46, Tryd.ntmps46
      go_wp2_with fail
      go_ret
      exact ⟨by first | rfl | (rw [e]; rfl), rfl⟩
    · have e : fig c = false := by simp [fig, h1, h2]
      have q1 : (48 : Int) ≤ (c.toNat : Int) := by omega
      have q2 : ¬ (c.toNat : Int) ≤ 57 := by omega
      go_enter Tryd.func46, Tryd.ntmps46
      go_wp2_with fail
      go_ret
      exact ⟨by first | rfl | (rw [e]; rfl), rfl⟩
  · have e : fig c = false := by simp [fig, h1]
    have q1 : ¬ (48 : Int) ≤ (c.toNat : Int) := by omega
    go_enter Tryd.func46, Tryd.ntmps46
    go_wp2_with fail
    go_ret
    exact ⟨by first | rfl | (rw [e]; rfl), rfl⟩

/-! ### plain -/
def rEND : Str := [101, 110, 100]
def rNAME : Str := [110, 97, 109, 101]
def rNUM : Str := [110, 117, 109]
def rNONE : Str := [110, 111, 110, 101]
/-- The text of a token's kind, as the document's answer has it. -/
def rstr : TK → Str
  | .fin => rEND
  | .name => rNAME
  | .num => rNUM
  | .bad => rNONE
  | .kw w => w
/-- A token's kind by its first byte, and the place behind it. -/
def preK (s : Str) (j : Nat) : Str × Nat :=
  match s.drop j with
  | [] => (rEND, j)
  | c :: r =>
    if low c then (rNAME, j + spanN lowfig (c :: r))
    else if fig c then (rNUM, j + spanN fig (c :: r))
    else if c.toNat == 45 && (r.head?.map UInt8.toNat) == some 62 then (ARROW, j + 2)
    else if sign c then ([c], j + 1)
    else (rNONE, j)
/-- .. that no name is too long. -/
def midK (p : Str × Nat) (j : Nat) : Str := if (p.1 = rNAME ∨ p.1 = rNUM) ∧ 8 < p.2 - j then rNONE else p.1
def endK (kw : Str → Bool) (t is : Str) : Str := if is = rNAME ∧ kw t = true then t else is
def ResB (kw : Str → Bool) : Prop := ∀ w, kw w = true → w ≠ rNAME ∧ w ≠ rNUM ∧ w ≠ rNONE ∧ w ≠ rEND
structure TokIs (kw : Str → Bool) (s : Str) (i j : Nat) : Prop where
  le : j ≤ (preK s j).2 ∧ (preK s j).2 ≤ s.length
  kind : rstr (lexAt kw s i).1.kind = endK kw ((s.drop j).take ((preK s j).2 - j)) (midK (preK s j) j)
  pos : (lexAt kw s i).1.pos = j
  text : (lexAt kw s i).1.kind ≠ .bad → (lexAt kw s i).1.text = (s.drop j).take ((preK s j).2 - j) ∧ (lexAt kw s i).2 = (preK s j).2
theorem tok_is {kw : Str → Bool} (hk : ResB kw) {s : Str} {i j : Nat} (hj : i + spanN blank (s.drop i) = j) (hjl : j ≤ s.length) : TokIs kw s i j := by
  have hat := lex_at kw s i j hj
  have hle := spanN_le
  rcases hd : s.drop j with _ | ⟨c, r⟩
  · have hz : preK s j = (rEND, j) := by unfold preK; rw [hd]
    have hlx : lexAt kw s i = (⟨.fin, [], j⟩, j) := by rw [hat, hd]; rfl
    refine ⟨by rw [hz]; exact ⟨Nat.le_refl _, hjl⟩, ?_, by rw [hlx], ?_⟩
    · rw [hlx, hz]; simp [rstr, midK, endK, rEND, rNAME, rNUM]
    · intro _; rw [hlx, hz]; simp
  · have hlen : (c :: r).length = s.length - j := by rw [← hd]; simp
    have hlt : j < s.length := by simp at hlen; omega
    by_cases h1 : low c = true
    · have hz : preK s j = (rNAME, j + spanN lowfig (c :: r)) := by unfold preK; rw [hd]; simp [h1]
      have hsp := hle lowfig (c :: r)
      have e : j + spanN lowfig (c :: r) - j = spanN lowfig (c :: r) := by omega
      rw [hlen] at hsp
      by_cases h8 : 8 < spanN lowfig (c :: r)
      · have hlx : lexAt kw s i = (⟨.bad, [], j⟩, j) := by rw [hat, hd]; simp [lexFrom, h1, h8]
        refine ⟨by rw [hz]; simp only; omega, ?_, by rw [hlx], fun h => by rw [hlx] at h; exact absurd rfl h⟩
        rw [hlx, hz]; simp [rstr, midK, endK, e, h8]; simp [rNONE, rNAME]
      · have hlx : lexAt kw s i = (⟨if kw ((c :: r).take (spanN lowfig (c :: r))) then .kw ((c :: r).take (spanN lowfig (c :: r))) else .name, (c :: r).take (spanN lowfig (c :: r)), j⟩, j + spanN lowfig (c :: r)) := by rw [hat, hd]; simp [lexFrom, h1, h8]
        refine ⟨by rw [hz]; simp only; omega, ?_, by rw [hlx], fun _ => by rw [hlx, hz, hd]; simp only [e]; exact ⟨trivial, trivial⟩⟩
        rw [hlx, hz, hd]
        simp only [midK, e, h8, and_false, if_false, endK]
        by_cases hkw : kw ((c :: r).take (spanN lowfig (c :: r))) = true
        · simp [hkw, rstr]
        · simp [hkw, rstr]
    · by_cases h2 : fig c = true
      · have hz : preK s j = (rNUM, j + spanN fig (c :: r)) := by unfold preK; rw [hd]; simp [h1, h2]
        have hsp := hle fig (c :: r)
        have e : j + spanN fig (c :: r) - j = spanN fig (c :: r) := by omega
        rw [hlen] at hsp
        have hne : rNUM ≠ rNAME := by decide
        by_cases h8 : 8 < spanN fig (c :: r)
        · have hlx : lexAt kw s i = (⟨.bad, [], j⟩, j) := by rw [hat, hd]; simp [lexFrom, h1, h2, h8]
          refine ⟨by rw [hz]; simp only; omega, ?_, by rw [hlx], fun h => by rw [hlx] at h; exact absurd rfl h⟩
          rw [hlx, hz]; simp [rstr, midK, endK, e, h8]; simp [rNONE, rNAME]
        · have hlx : lexAt kw s i = (⟨.num, (c :: r).take (spanN fig (c :: r)), j⟩, j + spanN fig (c :: r)) := by rw [hat, hd]; simp [lexFrom, h1, h2, h8]
          refine ⟨by rw [hz]; simp only; omega, ?_, by rw [hlx], fun _ => by rw [hlx, hz, hd]; simp only [e]; exact ⟨trivial, trivial⟩⟩
          rw [hlx, hz]
          simp only [midK, e, h8, and_false, if_false, endK, hne, false_and, rstr]
      · by_cases h3 : (c.toNat == 45 && (r.head?.map UInt8.toNat) == some 62) = true
        · have hz : preK s j = (ARROW, j + 2) := by unfold preK; rw [hd]; simp only [h1, h2, h3, if_true, if_false, Bool.false_eq_true]
          have hlx : lexAt kw s i = (⟨.kw ARROW, ARROW, j⟩, j + 2) := by rw [hat, hd]; simp only [lexFrom, h1, h2, h3, if_true, if_false, Bool.false_eq_true]
          simp only [Bool.and_eq_true, beq_iff_eq] at h3
          obtain ⟨h45, h62⟩ := h3
          cases r with
          | nil => simp at h62
          | cons d r2 =>
            simp only [List.head?_cons, Option.map_some, Option.some.injEq] at h62
            simp only [List.length_cons] at hlen
            refine ⟨by rw [hz]; simp only; omega, ?_, by rw [hlx], fun _ => ?_⟩
            · rw [hlx, hz]
              simp [rstr, midK, endK, ARROW, rNAME, rNUM]
            · rw [hlx, hz, hd]
              have e : j + 2 - j = 2 := by omega
              simp only [e, List.take_succ_cons, List.take_zero, and_true]
              rw [show c = 45 from UInt8.toNat_inj.1 h45, show d = 62 from UInt8.toNat_inj.1 h62]; rfl
        · by_cases h4 : sign c = true
          · have hz : preK s j = ([c], j + 1) := by unfold preK; rw [hd]; simp only [h1, h2, h3, h4, if_true, if_false, Bool.false_eq_true]
            have hlx : lexAt kw s i = (⟨.kw [c], [c], j⟩, j + 1) := by rw [hat, hd]; simp only [lexFrom, h1, h2, h3, h4, if_true, if_false, Bool.false_eq_true]
            refine ⟨by rw [hz]; simp only; omega, ?_, by rw [hlx], fun _ => ?_⟩
            · rw [hlx, hz]; simp [rstr, midK, endK, rNAME, rNUM]
            · rw [hlx, hz, hd]
              have e : j + 1 - j = 1 := by omega
              simp only [e, List.take_succ_cons, List.take_zero, and_self]
          · have hz : preK s j = (rNONE, j) := by unfold preK; rw [hd]; simp only [h1, h2, h3, h4, if_false, Bool.false_eq_true]
            have hlx : lexAt kw s i = (⟨.bad, [], j⟩, j) := by rw [hat, hd]; simp only [lexFrom, h1, h2, h3, h4, if_false, Bool.false_eq_true]
            refine ⟨by rw [hz]; simp only; omega, ?_, by rw [hlx], fun h => by rw [hlx] at h; exact absurd rfl h⟩
            rw [hlx, hz]; simp [rstr, midK, endK, rNONE, rNAME, rNUM]

def TKO (is t : Str) (j : Nat) : Obj := .cells #[.string (bs is), .string (bs t), .int .i64 j] 121
def tokV (x : Str) (t : Tok) : List Value := [.string (bs (rstr t.kind)), .string (bs (if t.kind = .bad then x else t.text)), .int .i64 t.pos]
theorem bs_at (S : Str) {j : Nat} (h : j < S.length) (h2 : j < (bs S).size) : (bs S)[j] = S[j] := by simp [bs]; rfl
theorem blank_int (c : UInt8) : (blank c = true → ((c.toNat : Int) == 32) = true ∨ ((c.toNat : Int) == 32) = false ∧ ((c.toNat : Int) == 10) = true) ∧ (blank c = false → ((c.toNat : Int) == 32) = false ∧ ((c.toNat : Int) == 10) = false) := by
  refine ⟨fun hb => ?_, fun hb => ?_⟩
  · simp only [blank, Bool.or_eq_true, beq_iff_eq] at hb
    rcases hb with hb | hb
    · left; simp [hb]
    · right; simp [hb]
  · simp only [blank, Bool.or_eq_false_iff, beq_eq_false_iff_ne] at hb
    simp; omega
theorem keepTr {w a b : World} {x : Nat} (k : Keep none' w a) (h : Keep (one' x) a b) (hx : w.heap.size ≤ x) : Keep none' w b :=
  k.trans' h (fun _ _ x => x) (fun i hi (e : i = x) => by omega)
theorem pre_low {S : Str} {j : Nat} {c : UInt8} {r : Str} (hd : S.drop j = c :: r) (h : low c = true) : preK S j = (rNAME, j + spanN lowfig (S.drop j)) := by unfold preK; rw [hd]; simp [h]
theorem pre_fig {S : Str} {j : Nat} {c : UInt8} {r : Str} (hd : S.drop j = c :: r) (h : low c = false) (h2 : fig c = true) : preK S j = (rNUM, j + spanN fig (S.drop j)) := by unfold preK; rw [hd]; simp [h, h2]
def arrB (S : Str) (j : Nat) : Bool := match S.drop j with
  | c :: r => c.toNat == 45 && (r.head?.map UInt8.toNat) == some 62
  | [] => false
def sgs : List Nat := [61, 40, 41, 44, 91, 93]
theorem sgs_sign (c : UInt8) : sgs.contains c.toNat = sign c := by
  rw [Bool.eq_iff_iff]; simp [sgs, sign, or_assoc]
theorem pre_arr {S : Str} {j : Nat} {c : UInt8} {r : Str} (hd : S.drop j = c :: r) (h : low c = false) (h2 : fig c = false) (h3 : arrB S j = true) : preK S j = (ARROW, j + 2) := by
  unfold arrB at h3; rw [hd] at h3; unfold preK; rw [hd]; simp only [h, h2, h3, if_true, if_false, Bool.false_eq_true]
theorem pre_sgn {S : Str} {j : Nat} {c : UInt8} {r : Str} (hd : S.drop j = c :: r) (h : low c = false) (h2 : fig c = false) (h3 : arrB S j = false) : preK S j = (if sgs.contains c.toNat then [c] else rNONE, if sgs.contains c.toNat then j + 1 else j) := by
  unfold arrB at h3; rw [hd] at h3; unfold preK; rw [hd, sgs_sign]; simp only [h, h2, h3, if_false, Bool.false_eq_true]
  split <;> rfl
def BYC : Array Value := #[.int .u8 61, .int .u8 40, .int .u8 41, .int .u8 44, .int .u8 91, .int .u8 93]
def BYO : Obj := .cells BYC 5 (6, 7)
theorem byc_at : ∀ n (h : n < sgs.length), BYC[n]? = some (.int .u8 ((sgs[n] : Nat) : Int))
  | 0, _ => rfl
  | 1, _ => rfl
  | 2, _ => rfl
  | 3, _ => rfl
  | 4, _ => rfl
  | 5, _ => rfl
  | n + 6, h => by simp [sgs] at h; omega
theorem sgs_step {n : Nat} (h : n < sgs.length) (x : Nat) : (sgs.take (n + 1)).contains x = ((sgs.take n).contains x || x == sgs[n]) := by
  rw [List.take_succ_eq_append_getElem h, List.contains_eq_any_beq, List.any_append, ← List.contains_eq_any_beq]; simp
theorem sgs_new {n : Nat} (h : n < sgs.length) {x : Nat} (hx : x = sgs[n]) : (sgs.take n).contains x = false := by
  subst hx
  match n, h with
  | 0, _ => rfl
  | 1, _ => rfl
  | 2, _ => rfl
  | 3, _ => rfl
  | 4, _ => rfl
  | 5, _ => rfl
  | n + 6, h => simp [sgs] at h; omega
theorem own_keepT {w w' : World} {base : Nat} {e : TypeId} {size : Nat} {v : Value} {n : Nat} {xs : List Value} (h : w.ownsRow base e size v n xs) (k : Keep none' w w') : w'.ownsRow base e size v n xs := by
  refine ⟨h.1, ?_⟩
  rcases h.2 with hz | ⟨g, cap, cur, rfl, hb, hgg, rest⟩
  · exact .inl hz
  · exact .inr ⟨g, cap, cur, rfl, hb, k.get hgg (fun x => x), rest⟩
theorem own_shapeT {w : World} {base : Nat} {e : TypeId} {size : Nat} {v : Value} {n : Nat} {xs : List Value} (h : w.ownsRow base e size v n xs) : ∃ ao cap, v = .slice ao n cap := by
  rcases h.2 with ⟨rfl, rfl⟩ | ⟨g, cap, cur, rfl, rest⟩
  · exact ⟨none, 0, rfl⟩
  · exact ⟨some ⟨g, 0, none⟩, cap, rfl⟩
theorem flat_congrT {α β : Type} {f g : α → List β} : ∀ {l : List α}, (∀ a ∈ l, f a = g a) → l.flatMap f = l.flatMap g
  | [], _ => rfl
  | a :: r, h => by rw [List.flatMap_cons, List.flatMap_cons, h a (by simp), flat_congrT (fun b hb => h b (by simp [hb]))]
def kwC (kws : List Str) (m t : Str) (n : Nat) : Bool := decide (m = rNAME) && (kws.take n).contains t
def kwW (m t : Str) (c : Bool) : Str := if c then t else m
theorem kw_step {kws : List Str} {m t : Str} {n : Nat} (h : n < kws.length) : kwC kws m t (n + 1) = (kwC kws m t n || (decide (m = rNAME) && decide (t = kws[n]))) := by
  unfold kwC
  rw [List.take_succ_eq_append_getElem h, List.contains_eq_any_beq, List.any_append, ← List.contains_eq_any_beq]
  simp only [List.any_cons, List.any_nil, Bool.or_false]
  have : (t == kws[n]) = decide (t = kws[n]) := by rw [Bool.eq_iff_iff]; simp
  rw [this]
  cases decide (m = rNAME) <;> simp
theorem kw_hit {kws : List Str} {m t : Str} {n : Nat} (h : kwC kws m t n = true) : m = rNAME ∧ kws.contains t = true := by
  unfold kwC at h
  simp only [Bool.and_eq_true, decide_eq_true_eq] at h
  refine ⟨h.1, ?_⟩
  have := h.2
  simp only [List.contains_iff_mem] at this ⊢
  exact List.mem_of_mem_take this
theorem kw_end {kw : Str → Bool} {kws : List Str} (hkw : ∀ t, kw t = kws.contains t) (m t : Str) : kwW m t (kwC kws m t kws.length) = endK kw t m := by
  unfold kwW kwC endK
  rw [List.take_length, hkw]
  by_cases h : m = rNAME
  · simp [h]
  · simp [h]
theorem str_c (a l : Str) : ((bs a).toList == l) = decide (a = l) := by
  have e : (bs a).toList = a := by rw [ByteArray.toList_eq]; exact bs_toList a
  rw [e, Bool.eq_iff_iff]; simp
theorem str_cc (a b : Str) : ((bs a).toList == (bs b).toList) = decide (a = b) := by
  have e : (bs b).toList = b := by rw [ByteArray.toList_eq]; exact bs_toList b
  rw [e]; exact str_c a b
theorem cell_three_new (w : World) (x y z : Value) (t : TypeId) : ∀ j u, [x, y, z][j]? = some u → (w.alloc (.cells #[x, y, z] t)).cell? ((⟨w.heap.size, 0, none⟩ : Addr).add j) = some u := by
  intro j u hj
  have hb : (w.alloc (.cells #[x, y, z] t)).heap[w.heap.size]? = some (.cells #[x, y, z] t) := heap_new _ _
  match j, hj with
  | 0, hj => simp at hj; subst hj; exact cell_of_heap (i := 0) hb rfl
  | 1, hj => simp at hj; subst hj; exact cell_of_heap (i := 1) hb rfl
  | 2, hj => simp at hj; subst hj; exact cell_of_heap (i := 2) hb rfl
  | j + 3, hj => simp at hj
theorem rstr_stop {kw : Str → Bool} (hk : ResB kw) {t : Tok} (h : ∀ w, t.kind = .kw w → ¬ (w = rNONE ∨ w = rEND)) : t.stop = (decide (rstr t.kind = rNONE) || decide (rstr t.kind = rEND)) := by
  cases t with
  | mk k x p =>
    cases k with
    | fin => rfl
    | bad => rfl
    | name => rfl
    | num => rfl
    | kw w =>
      have := h w rfl
      simp only [Tok.stop, rstr]
      simp only [not_or] at this
      simp [this.1, this.2]
theorem lex_kwn {kw : Str → Bool} (hk : ResB kw) {s : Str} {i : Nat} : ∀ w, (lexAt kw s i).1.kind = .kw w → ¬ (w = rNONE ∨ w = rEND) := by
  intro w h
  unfold lexAt lexFrom at h
  split at h
  · cases h
  · split at h
    · split at h
      · cases h
      · simp only at h
        split at h
        · rename_i h2
          injection h with h; subst h
          have := hk _ h2
          simp [this.2.2.1, this.2.2.2]
        · cases h
    · split at h
      · split at h <;> cases h
      · split at h
        · injection h with h; subst h; simp [ARROW, rNONE, rEND]
        · split at h
          · injection h with h; subst h; simp [rNONE, rEND]
          · cases h
theorem und_toks : Tryd.prog.underlying 67 = some (.slice 121) := by kernel_rfl
theorem info_tok : (Tryd.prog.info? 121).map (fun i => (i.zero, i.size, i.bytes)) = some (some (.agg #[.string ⟨#[]⟩, .string ⟨#[]⟩, .int .i64 0]), 3, 40) := by kernel_rfl
/-- What the loop over the signs has found. -/
def sgC (S : Str) (j n : Nat) : Bool := (sgs.take n).contains (S.getD j 0).toNat
def sgN (c : Bool) (j : Nat) : Nat := if c then j + 1 else j
def sgW (c : Bool) (x : Str) : Str := if c then x else rNONE
theorem getD_at {S : Str} {j : Nat} (h : j < S.length) : S.getD j 0 = S[j] := by simp [List.getD_eq_getElem?_getD, h]
theorem sg_pre {S : Str} {j : Nat} {r : Str} (h : j < S.length) (hd : S.drop j = S[j] :: r) (h1 : low S[j] = false) (h2 : fig S[j] = false) (h3 : arrB S j = false) : preK S j = (sgW (sgC S j 6) [S[j]], sgN (sgC S j 6) j) := by
  rw [pre_sgn hd h1 h2 h3]
  have e : sgC S j 6 = sgs.contains S[j].toNat := by unfold sgC; rw [getD_at h]; rfl
  rw [e]; rfl
theorem sg_hit {S : Str} {j n : Nat} (h : j < S.length) (hn : n < sgs.length) (he : S[j].toNat = sgs[n]) : sgC S j n = false ∧ sgC S j (n + 1) = true := by
  unfold sgC; rw [getD_at h]
  exact ⟨sgs_new hn he, by rw [sgs_step hn]; simp [he]⟩
theorem sg_miss {S : Str} {j n : Nat} (h : j < S.length) (hn : n < sgs.length) (he : S[j].toNat ≠ sgs[n]) : sgC S j (n + 1) = sgC S j n := by
  unfold sgC; rw [getD_at h, sgs_step hn]
  have : (S[j].toNat == sgs[n]) = false := by simpa using he
  rw [this, Bool.or_false]
def TokPost (kw : Str → Bool) (S : Str) (w : World) (e : Ending) (w' : World) : Prop := ∃ v x, e = .returned v ∧ Keep none' w w' ∧ w'.ownsRow w.heap.size 121 3 v (toks kw S 0).length ((toks kw S 0).flatMap (tokV x))
end Go.Proofs.YtabikmkoajdhmaaDoor
