/- types.Letters, types.Namer and the closure that it hands out, by contracts. -/
import Derived.Test.YtabikmkoajdhmaaDoorQ24
import Derived.Test.YtabikmkoajdhmaaDoorShelf
import Derived.Test.YtabikmkoajdhmaaDoorQ22
import Derived.Laws.IdiomStrings
import Derived.Test.YtabikmkoajdhmaaDoorQ23
import Derived.Test.YtabikmkoajdhmaaDoorQ04
set_option linter.unusedVariables false
set_option linter.unusedSimpArgs false
namespace Go.Proofs.YtabikmkoajdhmaaDoor
open Go.RowKit

theorem digits_dec (n : Nat) (h : n < 100) : digits n = Lib.decDigits n := by
  unfold digits
  rw [Lib.decDigits]
  by_cases h1 : n < 10
  · simp [h1]
  · simp only [h1, if_false, dite_false]
    rw [Lib.decDigits]
    have : n / 10 < 10 := by omega
    simp [this]
theorem letters_len (n : Nat) : (letters n).length ≤ 3 := by
  unfold letters digits
  split
  · simp
  · split <;> simp

theorem und_bytes : Tryd.prog.underlying 123 = some (.slice 5) := by kernel_rfl
theorem und_u8 : Tryd.prog.underlying 5 = some (.int .u8) := by kernel_rfl
theorem und_str : Tryd.prog.underlying 9 = some .string := by kernel_rfl
theorem letter_conv (n : Nat) (w : World) : (convert 123 9 (.slice (some ⟨w.heap.size, 0, none⟩) 1 1)).run Tryd.prog (w.alloc (.cells #[.int .u8 (97 + (n : Int) % 26)] 5)) = .ok (.string ⟨#[UInt8.ofNat (97 + n % 26)]⟩) (w.alloc (.cells #[.int .u8 (97 + (n : Int) % 26)] 5)) := by
  refine run_convert_bytes_back _ _ _ 5 ⟨w.heap.size, 0, none⟩ 1 [UInt8.ofNat (97 + n % 26)] und_bytes und_u8 und_str ?_
  intro j hj
  have : j = 0 := by simpa using hj
  subst this
  have e : ((UInt8.ofNat (97 + n % 26)).toNat : Int) = 97 + (n : Int) % 26 := by
    rw [UInt8.toNat_ofNat']
    omega
  have : (⟨w.heap.size, 0, none⟩ : Addr).add 0 = ⟨w.heap.size, 0, none⟩ := by simp [Addr.add]
  rw [this]
  simp only [List.getElem_cons_zero, e]
  exact cell_of_heap (heap_new _ _) rfl

set_option maxRecDepth 100000 in
set_option maxHeartbeats 1000000 in
theorem letters_ok (n : Nat) (h : n < 2600) (w : World) : Calls Tryd.prog 78 #[.int .i64 n] w (fun e w' => e = .returned (.string (bs (letters n))) ∧ Keep none' w w') := by
  have h0 : (0 : Int) ≤ (n : Int) := by omega
  have hcv := letter_conv n w
  have hit := Tryd.strconv_Itoa_small (n / 26) (by omega)
  have HIT := Lib.hid hit; clear hit
  by_cases hn : n < 26
  · have hn' : (n : Int) < 26 := by omega
    go_enter Tryd.func78, Tryd.ntmps78
    go_wp2_with fail
    go_ret
    refine ⟨?_, Keep.alloc _ _ _⟩
    simp [letters, hn, bs]
  · have hn' : (26 : Int) ≤ (n : Int) := by omega
    go_enter Tryd.func78, Tryd.ntmps78
    go_wp2_with fail
    rw [show ((n : Int) / 26) = ((n / 26 : Nat) : Int) by omega]
    refine (HIT.out _).mono ?_
    rintro e w1 ⟨rfl, rfl⟩
    obtain ⟨dd, hdd⟩ : ∃ dd, dd = Lib.decDigits (n / 26) := ⟨_, rfl⟩
    have hl : dd.length ≤ 2 := by
      rw [hdd, ← digits_dec _ (by omega)]; unfold digits; split <;> simp
    rw [← hdd]
    have HD := Lib.hid hdd; clear hdd
    have q1 : ¬ 9223372036854775807 < 1 + dd.length := by omega
    have q2 : ¬ 9223372036854775807 < dd.length + 1 := by omega
    go_wp2_with fail
    go_ret
    refine ⟨?_, Keep.alloc _ _ _⟩
    have hd := HD.out
    rw [← digits_dec _ (by omega)] at hd
    subst hd
    have e : letters n = [UInt8.ofNat (97 + n % 26)] ++ digits (n / 26) := by simp [letters, hn]
    rw [e, ← bs_append]
    congr 1
    congr 1
    simp [bs]

def nments : Nat → List Nat → List (Int × Value)
  | _, [] => []
  | i, N :: r => ((N : Int), .int .i64 i) :: nments (i + 1) r
theorem nments_len : ∀ (i : Nat) (s : List Nat), (nments i s).length = s.length
  | _, [] => rfl
  | i, N :: r => by simp [nments, nments_len (i + 1) r]
theorem nments_snoc : ∀ (i : Nat) (s : List Nat) (N : Nat), nments i (s ++ [N]) = nments i s ++ [((N : Int), .int .i64 ((i + s.length : Nat) : Int))]
  | i, [], N => by simp [nments]
  | i, M :: r, N => by
    simp only [List.cons_append, nments, nments_snoc (i + 1) r N]
    rw [show i + 1 + r.length = i + (M :: r).length by simp; omega]
theorem nments_look : ∀ (s : List Nat) (i N : Nat), (nments i s).lookup (N : Int) = (s.idxOf? N).map (fun k => .int .i64 ((i + k : Nat) : Int))
  | [], i, N => by simp [nments]
  | M :: r, i, N => by
    simp only [nments, List.lookup_cons, List.idxOf?_cons]
    by_cases h : N = M
    · subst h; simp
    · have h1 : ((N : Int) == (M : Int)) = false := by
        have : ¬ (N : Int) = (M : Int) := by omega
        simpa using this
      have h2 : (M == N) = false := by simpa using fun e => h e.symm
      rw [h1, h2]
      simp only [Bool.false_eq_true, if_false, nments_look r (i + 1) N, Option.map_map]
      congr 1
      funext k
      simp only [Function.comp]
      congr 2
      omega

/-- A namer's state: the numbers that have been met, in order; all of them in F. -/
structure NamerR (G : GH) (A : GV) (F : List Nat) (c r : Nat) (s : List Nat) (w : World) : Prop where
  cel : w.heap[c]? = some (.cells #[.map (some r)] 206)
  mp : w.heap[r]? = some (kmap kInt (nments 0 s))
  nd : s.Nodup
  sub : ∀ x ∈ s, x ∈ F
  gr : G r = none
  vr : ¬ isV A r
  vc : ¬ isV A c
theorem nodup_len {s F : List Nat} (hn : s.Nodup) (hs : ∀ x ∈ s, x ∈ F) : s.length ≤ F.length := by
  induction s generalizing F with
  | nil => simp
  | cons a r ih =>
    have ha := hs a (by simp)
    have hn' := List.nodup_cons.1 hn
    have := ih (F := F.erase a) hn'.2 (fun x hx => (List.mem_erase_of_ne (fun e => hn'.1 (by rw [e] at hx; exact hx))).2 (hs x (by simp [hx])))
    have := List.length_erase_of_mem ha
    have := List.length_pos_of_mem ha
    simp only [List.length_cons]
    omega
theorem NamerR.stable {G : GH} {A : GV} {F : List Nat} {c r n : Nat} {s : List Nat} {w w' : World} (h : NamerR G A F c r s w) (k : Same G A n w w') : NamerR G A F c r s w' :=
  ⟨k.keep.get h.cel h.vc, k.keep.get h.mp h.vr, h.nd, h.sub, h.gr, h.vr, h.vc⟩
theorem und_mii : Tryd.prog.underlying 206 = some (.map 3 3) := by kernel_rfl
theorem zero_int : ∀ w, (zeroValue 3).run Tryd.prog w = .ok (.int .i64 0) w := fun w => by kernel_rfl

set_option maxRecDepth 100000 in
set_option maxHeartbeats 1000000 in
theorem namer_old {G : GH} {A : GV} {F : List Nat} {c r n N b k : Nat} {nm : Str} {is : Value} {s : List Nat} {w : World} (hF : F.length ≤ 2600) (h : NamerR G A F c r s w) (hb : w.heap[b]? = some (varObj N is nm)) (hk : s.idxOf? N = some k) :
    Calls Tryd.prog 77 #[.pointer (some ⟨b, 0, none⟩), .pointer (some ⟨c, 0, none⟩)] w (fun e w' => e = .returned (.string (bs (letters k))) ∧ Keep none' w w') := by
  have hkl : k < 2600 := by
    have h1 := nodup_len h.nd h.sub
    have h2 : k < s.length := by
      obtain ⟨h', _⟩ := List.findIdx?_eq_some_iff_getElem.1 (by simpa [List.idxOf?] using hk)
      exact h'
    omega
  have hlk : ∀ w', w'.heap[r]? = w.heap[r]? → (Instr.lookup 206 (.map (some r)) (.int .i64 N) true).run Tryd.prog w' = .ok (.tuple #[.int .i64 k, .bool true]) w' := fun w' e => by
    have := run_look_some (P := Tryd.prog) und_mii key_int (k := (N : Int)) (v := .int .i64 k) (w := w') (e.trans h.mp) (by rw [nments_look, hk]; simp) true
    exact this
  have l0 := hlk w rfl
  have c0 : w.cell? ⟨c, 0, none⟩ = some (.map (some r)) := cell_of_heap h.cel rfl
  have c1 : w.cell? ⟨b, 0, none⟩ = some (.int .i64 N) := cell_of_heap hb rfl
  have HL := Lib.hid hlk; have HB := Lib.hid hb; have HH := Lib.hid h; have HK := Lib.hid hk
  clear hlk hb h hk
  go_enter Tryd.func77, Tryd.ntmps77
  go_wp2_with fail
  refine wp_region_float (fun w' => w'.cell? ⟨c, 0, none⟩ = some (.map (some r)) ∧ w'.cell? ⟨b, 0, none⟩ = some (.int .i64 N) ∧ (Instr.lookup 206 (.map (some r)) (.int .i64 N) true).run Tryd.prog w' = .ok (.tuple #[.int .i64 k, .bool true]) w') [1, 2, 3, 6, 7, 8] [0, 4, 5] (by kernel_rfl) ?_
  have S0 : w.drew.cell? ⟨c, 0, none⟩ = some (.map (some r)) ∧ w.drew.cell? ⟨b, 0, none⟩ = some (.int .i64 N) ∧ (Instr.lookup 206 (.map (some r)) (.int .i64 N) true).run Tryd.prog w.drew = .ok (.tuple #[.int .i64 k, .bool true]) w.drew := ⟨c0, c1, HL.out w.drew rfl⟩
  (refine floatS (i := 0) (v := ?_) rfl (by kernel_rfl) (by kernel_rfl) (by kernel_rfl) (by kernel_rfl) (fun _ _ _ h => h) (by assumption) (by rfl) ?_ ?_); rotate_left
  (intro wF hF; (try dsimp only at hF); go_simp; try with_reducible rfl)
  (try simp only [Act.put, List.setIfInBounds_toArray, List.set_cons_zero, List.set_cons_succ])
  (refine float0 (i := 1) (v := ?_) rfl (by kernel_rfl) (by kernel_rfl) (by kernel_rfl) (by kernel_rfl) (fun _ _ _ h => h) (by rfl) ?_ ?_); rotate_left
  (intro wF; go_simp; try with_reducible rfl)
  (try simp only [Act.put, List.setIfInBounds_toArray, List.set_cons_zero, List.set_cons_succ])
  (refine float0 (i := 2) (v := ?_) rfl (by kernel_rfl) (by kernel_rfl) (by kernel_rfl) (by kernel_rfl) (fun _ _ _ h => h) (by rfl) ?_ ?_); rotate_left
  (intro wF; go_simp; try with_reducible rfl)
  (try simp only [Act.put, List.setIfInBounds_toArray, List.set_cons_zero, List.set_cons_succ])
  (refine float0 (i := 3) (v := ?_) rfl (by kernel_rfl) (by kernel_rfl) (by kernel_rfl) (by kernel_rfl) (fun _ _ _ h => h) (by rfl) ?_ ?_); rotate_left
  (intro wF; go_simp; try with_reducible rfl)
  (try simp only [Act.put, List.setIfInBounds_toArray, List.set_cons_zero, List.set_cons_succ])
  (refine floatS (i := 4) (v := ?_) rfl (by kernel_rfl) (by kernel_rfl) (by kernel_rfl) (by kernel_rfl) (fun _ _ _ h => h) (by assumption) (by rfl) ?_ ?_); rotate_left
  (intro wF hF; (try dsimp only at hF); go_simp; try with_reducible rfl)
  (try simp only [Act.put, List.setIfInBounds_toArray, List.set_cons_zero, List.set_cons_succ])
  (refine floatS (i := 5) (v := ?_) rfl (by kernel_rfl) (by kernel_rfl) (by kernel_rfl) (by kernel_rfl) (fun _ _ _ h => h) (by assumption) (by rfl) ?_ ?_); rotate_left
  (intro wF hF; (try dsimp only at hF); go_simp; try with_reducible rfl)
  (try simp only [Act.put, List.setIfInBounds_toArray, List.set_cons_zero, List.set_cons_succ])
  (refine float0 (i := 6) (v := ?_) rfl (by kernel_rfl) (by kernel_rfl) (by kernel_rfl) (by kernel_rfl) (fun _ _ _ h => h) (by rfl) ?_ ?_); rotate_left
  (intro wF; go_simp; try with_reducible rfl)
  (try simp only [Act.put, List.setIfInBounds_toArray, List.set_cons_zero, List.set_cons_succ])
  (refine float0 (i := 7) (v := ?_) rfl (by kernel_rfl) (by kernel_rfl) (by kernel_rfl) (by kernel_rfl) (fun _ _ _ h => h) (by rfl) ?_ ?_); rotate_left
  (intro wF; go_simp; try with_reducible rfl)
  (try simp only [Act.put, List.setIfInBounds_toArray, List.set_cons_zero, List.set_cons_succ])
  (refine float0 (i := 8) (v := ?_) rfl (by kernel_rfl) (by kernel_rfl) (by kernel_rfl) (by kernel_rfl) (fun _ _ _ h => h) (by rfl) ?_ ?_); rotate_left
  (intro wF; go_simp; try with_reducible rfl)
  (try simp only [Act.put, List.setIfInBounds_toArray, List.set_cons_zero, List.set_cons_succ])
  (refine floatT (l := _) (k := 9) rfl rfl (by kernel_rfl) ?_)
  go_wp2_with fail
  refine (letters_ok k hkl _).mono ?_
  rintro e w1 ⟨rfl, k1⟩
  go_wp2_with fail
  go_ret
  exact ⟨rfl, (Keep.drew _ _).trans k1⟩

set_option maxRecDepth 100000 in
set_option maxHeartbeats 1000000 in
theorem namer_new {G : GH} {A : GV} {F : List Nat} {c r n N b : Nat} {nm : Str} {is : Value} {s : List Nat} {w : World} (hF : F.length ≤ 2600) (h : NamerR G A F c r s w) (hb : w.heap[b]? = some (varObj N is nm)) (hNF : N ∈ F) (hbA : isV A b) (hk : s.idxOf? N = none) :
    Calls Tryd.prog 77 #[.pointer (some ⟨b, 0, none⟩), .pointer (some ⟨c, 0, none⟩)] w (fun e w' => e = .returned (.string (bs (letters s.length))) ∧ NamerR G A F c r (s ++ [N]) w' ∧ Keep (one' r) w w') := by
  have hNs : N ∉ s := by
    intro hm
    rw [List.idxOf?_eq_none_iff] at hk
    exact hk hm
  have hkl : s.length < 2600 := by
    have h1 := nodup_len (s := N :: s) (F := F) (List.nodup_cons.2 ⟨hNs, h.nd⟩) (fun x hx => by
      rcases List.mem_cons.1 hx with rfl | hx
      · exact hNF
      · exact h.sub x hx)
    simp only [List.length_cons] at h1
    omega
  have hlk : ∀ w', w'.heap[r]? = w.heap[r]? → (Instr.lookup 206 (.map (some r)) (.int .i64 N) true).run Tryd.prog w' = .ok (.tuple #[.int .i64 0, .bool false]) w' := fun w' e => by
    have := run_look_none (P := Tryd.prog) und_mii key_int zero_int (k := (N : Int)) (w := w') (e.trans h.mp) (by rw [nments_look, hk]; rfl) true
    exact this
  have c0 : w.cell? ⟨c, 0, none⟩ = some (.map (some r)) := cell_of_heap h.cel rfl
  have c1 : w.cell? ⟨b, 0, none⟩ = some (.int .i64 N) := cell_of_heap hb rfl
  have hup : (Instr.mapUpdate 206 (.map (some r)) (.int .i64 N) (.int .i64 s.length)).run Tryd.prog w.drew.drew = .ok () (World.lay w.drew.drew r (kmap kInt (nments 0 (s ++ [N])))) := by
    have := run_upd_new (P := Tryd.prog) und_mii key_int (k := (N : Int)) (v := .int .i64 s.length) (w := w.drew.drew) h.mp (by rw [nments_look, hk]; rfl)
    rw [nments_snoc]
    simpa using this
  have hlen : (Builtin.len_ #[206] 3 #[.map (some r)]).run Tryd.prog w.drew = .ok (.int .i64 s.length) w.drew := by
    have := run_len_map (P := Tryd.prog) und_mii (w := w.drew) h.mp 3
    rwa [nments_len] at this
  have HL := Lib.hid hlk; have HB := Lib.hid hb; have HH := Lib.hid h; have HK := Lib.hid hk; have HUP := Lib.hid hup
  clear hlk hb h hk hup
  go_enter Tryd.func77, Tryd.ntmps77
  go_wp2_with fail
  refine wp_region_float (fun w' => w'.cell? ⟨c, 0, none⟩ = some (.map (some r)) ∧ w'.cell? ⟨b, 0, none⟩ = some (.int .i64 N) ∧ (Instr.lookup 206 (.map (some r)) (.int .i64 N) true).run Tryd.prog w' = .ok (.tuple #[.int .i64 0, .bool false]) w') [1, 2, 3, 6, 7, 8] [0, 4, 5] (by kernel_rfl) ?_
  have S0 : w.drew.cell? ⟨c, 0, none⟩ = some (.map (some r)) ∧ w.drew.cell? ⟨b, 0, none⟩ = some (.int .i64 N) ∧ (Instr.lookup 206 (.map (some r)) (.int .i64 N) true).run Tryd.prog w.drew = .ok (.tuple #[.int .i64 0, .bool false]) w.drew := ⟨c0, c1, HL.out w.drew rfl⟩
  (refine floatS (i := 0) (v := ?_) rfl (by kernel_rfl) (by kernel_rfl) (by kernel_rfl) (by kernel_rfl) (fun _ _ _ h => h) (by assumption) (by rfl) ?_ ?_); rotate_left
  (intro wF hF; (try dsimp only at hF); go_simp; try with_reducible rfl)
  (try simp only [Act.put, List.setIfInBounds_toArray, List.set_cons_zero, List.set_cons_succ])
  (refine float0 (i := 1) (v := ?_) rfl (by kernel_rfl) (by kernel_rfl) (by kernel_rfl) (by kernel_rfl) (fun _ _ _ h => h) (by rfl) ?_ ?_); rotate_left
  (intro wF; go_simp; try with_reducible rfl)
  (try simp only [Act.put, List.setIfInBounds_toArray, List.set_cons_zero, List.set_cons_succ])
  (refine float0 (i := 2) (v := ?_) rfl (by kernel_rfl) (by kernel_rfl) (by kernel_rfl) (by kernel_rfl) (fun _ _ _ h => h) (by rfl) ?_ ?_); rotate_left
  (intro wF; go_simp; try with_reducible rfl)
  (try simp only [Act.put, List.setIfInBounds_toArray, List.set_cons_zero, List.set_cons_succ])
  (refine float0 (i := 3) (v := ?_) rfl (by kernel_rfl) (by kernel_rfl) (by kernel_rfl) (by kernel_rfl) (fun _ _ _ h => h) (by rfl) ?_ ?_); rotate_left
  (intro wF; go_simp; try with_reducible rfl)
  (try simp only [Act.put, List.setIfInBounds_toArray, List.set_cons_zero, List.set_cons_succ])
  (refine floatS (i := 4) (v := ?_) rfl (by kernel_rfl) (by kernel_rfl) (by kernel_rfl) (by kernel_rfl) (fun _ _ _ h => h) (by assumption) (by rfl) ?_ ?_); rotate_left
  (intro wF hF; (try dsimp only at hF); go_simp; try with_reducible rfl)
  (try simp only [Act.put, List.setIfInBounds_toArray, List.set_cons_zero, List.set_cons_succ])
  (refine floatS (i := 5) (v := ?_) rfl (by kernel_rfl) (by kernel_rfl) (by kernel_rfl) (by kernel_rfl) (fun _ _ _ h => h) (by assumption) (by rfl) ?_ ?_); rotate_left
  (intro wF hF; (try dsimp only at hF); go_simp; try with_reducible rfl)
  (try simp only [Act.put, List.setIfInBounds_toArray, List.set_cons_zero, List.set_cons_succ])
  (refine float0 (i := 6) (v := ?_) rfl (by kernel_rfl) (by kernel_rfl) (by kernel_rfl) (by kernel_rfl) (fun _ _ _ h => h) (by rfl) ?_ ?_); rotate_left
  (intro wF; go_simp; try with_reducible rfl)
  (try simp only [Act.put, List.setIfInBounds_toArray, List.set_cons_zero, List.set_cons_succ])
  (refine float0 (i := 7) (v := ?_) rfl (by kernel_rfl) (by kernel_rfl) (by kernel_rfl) (by kernel_rfl) (fun _ _ _ h => h) (by rfl) ?_ ?_); rotate_left
  (intro wF; go_simp; try with_reducible rfl)
  (try simp only [Act.put, List.setIfInBounds_toArray, List.set_cons_zero, List.set_cons_succ])
  (refine float0 (i := 8) (v := ?_) rfl (by kernel_rfl) (by kernel_rfl) (by kernel_rfl) (by kernel_rfl) (fun _ _ _ h => h) (by rfl) ?_ ?_); rotate_left
  (intro wF; go_simp; try with_reducible rfl)
  (try simp only [Act.put, List.setIfInBounds_toArray, List.set_cons_zero, List.set_cons_succ])
  (refine floatT (l := _) (k := 9) rfl rfl (by kernel_rfl) ?_)
  clear S0
  go_wp2_with fail
  (refine region_tail 6 (by kernel_rfl) (by kernel_rfl) ?_; simp only [List.take_succ_cons, List.take_zero, List.drop_succ_cons, List.drop_zero]; repeat still_step; try refine wpStill_nil ?_)
  have hup := HUP.out
  clear hlen
  go_wp2_with fail
  refine (letters_ok s.length hkl _).mono ?_
  rintro e w1 ⟨rfl, k1⟩
  go_wp2_with fail
  go_ret
  have k0 : Keep (one' r) w (World.lay w.drew.drew r (kmap kInt (nments 0 (s ++ [N])))) := ((Keep.drew _ _).trans (Keep.drew _ _)).trans (lay_keep w.drew.drew r _)
  have hcr : c ≠ r := by
    rintro rfl
    have e1 := HH.out.cel; rw [HH.out.mp] at e1; simp [kmap] at e1
  refine ⟨rfl, ⟨?_, ?_, ?_, ?_, HH.out.gr, HH.out.vr, HH.out.vc⟩, k0.trans k1.of_none⟩
  · exact k1.get (k0.get HH.out.cel hcr) (fun x => x)
  · exact k1.get (lay_same (lt_of_heap (w := w.drew.drew) HH.out.mp)) (fun x => x)
  · rw [List.nodup_append]
    refine ⟨HH.out.nd, by simp, fun a ha b hb => ?_⟩
    simp only [List.mem_singleton] at hb
    subst hb
    rintro rfl
    exact hNs ha
  · intro x hx
    rcases List.mem_append.1 hx with hx | hx
    · exact HH.out.sub x hx
    · simp only [List.mem_singleton] at hx
      subst hx
      exact hNF

theorem SameS.of_keep {S : Nat → Prop} {G : GH} {A : GV} {n : Nat} {w w' : World} (h : TInv G A w n) (k : Keep S w w') (hG : G.off S) (hS : ∀ b, isV A b → ¬ S b) : SameS S G A n w w' :=
  ⟨k.mono (fun _ _ x => .inr x), h.keep k hG hS, fun _ _ r => r.keep h k hS⟩
theorem off_one {G : GH} {r : Nat} (h : G r = none) : G.off (one' r) := fun b o hb (e : b = r) => by subst e; rw [h] at hb; cases hb

/-- The closure that types.Namer hands out. -/
theorem namer_ok {G : GH} {A : GV} {F : List Nat} {c r n : Nat} (hF : F.length ≤ 2600) : NmOk G A n (one' r) (fun N => N ∈ F) namer (NamerR G A F c r) 77 #[.pointer (some ⟨c, 0, none⟩)] where
  enter := fun args w => by kernel_rfl
  len := fun s N => by
    unfold namer
    split
    · exact Nat.le_trans (letters_len _) (by omega)
    · exact Nat.le_trans (letters_len _) (by omega)
  stable := fun s w w' h k => h.stable k
  call := fun s w N b name hN hR hi hA ht => by
    obtain ⟨_, _, _, is, hb⟩ := hi.vars N b name hA
    have hoff := off_one hR.gr
    have hvs : ∀ b, isV A b → ¬ one' r b := fun x hx (e : x = r) => hR.vr (e ▸ hx)
    cases hk : s.idxOf? N with
    | some k =>
      refine (namer_old (n := n) hF hR hb hk).mono ?_
      rintro e w' ⟨rfl, kk⟩
      have hs := Same.of0 hi kk
      have e1 : namer s N = (letters k, s) := by simp [namer, hk]
      rw [e1]
      exact ⟨rfl, hR.stable hs, hs.s⟩
    | none =>
      refine (namer_new (n := n) hF hR hb hN ⟨N, name, hA⟩ hk).mono ?_
      rintro e w' ⟨rfl, hr, kk⟩
      have e1 : namer s N = (letters s.length, s ++ [N]) := by simp [namer, hk]
      rw [e1]
      exact ⟨rfl, hr, SameS.of_keep hi kk hoff hvs⟩

theorem run_mk (w : World) : (Instr.makeMap 206 none).run Tryd.prog w = .ok (.map (some w.heap.size)) (w.alloc (kmap kInt [])) := rfl
/-- types.Namer. -/
theorem namer_fresh {G : GH} {A : GV} {n : Nat} (F : List Nat) {w : World} (hi : TInv G A w n) : Calls Tryd.prog 53 #[] w (fun e w' => ∃ c r, e = .returned (.func (.func 77) #[] #[.pointer (some ⟨c, 0, none⟩)]) ∧ NamerR G A F c r [] w' ∧ Keep none' w w' ∧ w.heap.size ≤ c ∧ w.heap.size ≤ r) := by
  have hmk := run_mk w
  have HI := Lib.hid hi; clear hi
  go_enter Tryd.func53, Tryd.ntmps53
  go_wp2_with fail
  go_ret
  refine ⟨_, _, rfl, ⟨?_, ?_, by simp, by simp, ?_, ?_, ?_⟩, (Keep.alloc _ _ _).trans (Keep.alloc _ _ _), by omega, Nat.le_refl _⟩
  · have : (w.alloc (kmap kInt [])).heap.size = w.heap.size + 1 := by simp
    rw [← this]; exact heap_new _ _
  · exact heap_old (heap_new _ _)
  · exact HI.out.holds.fresh (Nat.le_refl _)
  · intro h; have := HI.out.old h; omega
  · intro h; have := HI.out.old h; omega
end Go.Proofs.YtabikmkoajdhmaaDoor

/- ast.Show by a contract, given the contract one step down: names, numbers, fun, pairs, let, if. -/
namespace Go.Proofs.YtabikmkoajdhmaaDoor
open Go.RowKit

def EShowPost (w : World) (x : Ex) (e : Ending) (w' : World) : Prop := e = .returned (.string (bs x.show)) ∧ Keep none' w w'
def EShowOk (n : Nat) : Prop := ∀ (G : GH) (w : World) (v : Value) (x : Ex), Holds G w → ExR G v x → x.depth ≤ n → x.show.length ≤ 1000000000000 → Calls Tryd.prog 43 #[v] w (EShowPost w x)

set_option maxRecDepth 100000 in
set_option maxHeartbeats 4000000 in
theorem eshow_name (G : GH) (w : World) (b p : Nat) (s : Str) (hG : Holds G w) (h : G b = some (.cells #[.int .i64 p, .string (bs s)] 175)) : Calls Tryd.prog 43 #[.iface 172 (.pointer (some ⟨b, 0, none⟩))] w (EShowPost w (.name p s)) := by
  have c1 : w.cell? ⟨b, 1, none⟩ = some (.string (bs s)) := cell_of_heap (hG _ _ h) rfl
  clear hG h
  have aNameName := taNameName
  go_enter Tryd.func43, Tryd.ntmps43
  go_wp2_with fail
  go_ret
  exact ⟨rfl, Keep.refl _ _⟩

set_option maxRecDepth 100000 in
set_option maxHeartbeats 4000000 in
theorem eshow_num (G : GH) (w : World) (b : Nat) (p : Int) (s : Str) (hG : Holds G w) (h : G b = some (.cells #[.int .i64 p, .string (bs s)] 178)) : Calls Tryd.prog 43 #[.iface 176 (.pointer (some ⟨b, 0, none⟩))] w (EShowPost w (.num s)) := by
  have c1 : w.cell? ⟨b, 1, none⟩ = some (.string (bs s)) := cell_of_heap (hG _ _ h) rfl
  clear hG h
  have aNumName := taNumName
  have aNumNum := taNumNum
  go_enter Tryd.func43, Tryd.ntmps43
  go_wp2_with fail
  go_ret
  exact ⟨rfl, Keep.refl _ _⟩

set_option maxRecDepth 100000 in
set_option maxHeartbeats 4000000 in
theorem eshow_fn (n : Nat) (ih : EShowOk n) (G : GH) (w : World) (b : Nat) (p : Int) (s : Str) (x : Ex) (vx : Value) (hG : Holds G w) (h : G b = some (.cells #[.int .i64 p, .string (bs s), vx] 181)) (hx : ExR G vx x) (hd : (Ex.fn s x).depth ≤ n + 1) (hl : (Ex.fn s x).show.length ≤ 1000000000000) :
    Calls Tryd.prog 43 #[.iface 179 (.pointer (some ⟨b, 0, none⟩))] w (EShowPost w (Ex.fn s x)) := by
  have hK : ∀ w', Holds G w' → w'.cell? ⟨b, 1, none⟩ = some (.string (bs s)) ∧ w'.cell? ⟨b, 2, none⟩ = some vx := fun w' hw => ⟨cell_of_heap (hw _ _ h) rfl, cell_of_heap (hw _ _ h) rfl⟩
  obtain ⟨Tx, bx, rfl⟩ := hx.shape
  have hT : 4 + s.length + 4 + x.show.length ≤ 1000000000000 := by
    have := hl
    simp [Ex.show, FUN, LP, RP, LET, IF, List.length_append] at this
    omega
  have hdx : x.depth ≤ n := by simp only [Ex.depth] at hd; omega
  have q1 : ¬ 9223372036854775807 < 4 + (bs s).size := by (try simp only [bs_size]); omega
  have q2 : ¬ 9223372036854775807 < 4 + (bs s).size + 4 := by (try simp only [bs_size]); omega
  have q3 : ¬ 9223372036854775807 < 4 + (bs s).size + 4 + (bs x.show).size := by (try simp only [bs_size]); omega
  have hlx : x.show.length ≤ 1000000000000 := by omega
  have IH := Lib.hid ih; have HG := Lib.hid hG; have HK := Lib.hid hK; have HL := Lib.hid hl
  have HXx := Lib.hid hx
  clear ih hG hK h hl hd hx
  have aFunName := taFunName
  have aFunNum := taFunNum
  have aFunFun := taFunFun
  go_enter Tryd.func43, Tryd.ntmps43
  go_wp2_with fail
  have S0 := HK.out w.drew (HG.out.keep0 (Keep.drew _ _))
  refine wp_region_float (fun w' => w'.cell? ⟨b, 1, none⟩ = some (.string (bs s)) ∧ w'.cell? ⟨b, 2, none⟩ = some (.iface Tx (.pointer (some ⟨bx, 0, none⟩)))) [0, 1, 2, 4, 5, 6, 7, 8, 11] [3, 9] (by kernel_rfl) ?_
  (refine float0 (i := 0) (v := ?_) rfl (by kernel_rfl) (by kernel_rfl) (by kernel_rfl) (by kernel_rfl) (fun _ _ _ h => h) (by rfl) ?_ ?_); rotate_left
  (intro wF; go_simp; try with_reducible rfl)
  (try simp only [Act.put, List.setIfInBounds_toArray, List.set_cons_zero, List.set_cons_succ])
  (refine float0 (i := 1) (v := ?_) rfl (by kernel_rfl) (by kernel_rfl) (by kernel_rfl) (by kernel_rfl) (fun _ _ _ h => h) (by rfl) ?_ ?_); rotate_left
  (intro wF; go_simp; try with_reducible rfl)
  (try simp only [Act.put, List.setIfInBounds_toArray, List.set_cons_zero, List.set_cons_succ])
  (refine float0 (i := 2) (v := ?_) rfl (by kernel_rfl) (by kernel_rfl) (by kernel_rfl) (by kernel_rfl) (fun _ _ _ h => h) (by rfl) ?_ ?_); rotate_left
  (intro wF; go_simp; try with_reducible rfl)
  (try simp only [Act.put, List.setIfInBounds_toArray, List.set_cons_zero, List.set_cons_succ])
  (refine floatS (i := 3) (v := ?_) rfl (by kernel_rfl) (by kernel_rfl) (by kernel_rfl) (by kernel_rfl) (fun _ _ _ h => h) (by assumption) (by rfl) ?_ ?_); rotate_left
  (intro wF hF; (try dsimp only at hF); go_simp; try with_reducible rfl)
  (try simp only [Act.put, List.setIfInBounds_toArray, List.set_cons_zero, List.set_cons_succ])
  (refine float0 (i := 4) (v := ?_) rfl (by kernel_rfl) (by kernel_rfl) (by kernel_rfl) (by kernel_rfl) (fun _ _ _ h => h) (by rfl) ?_ ?_); rotate_left
  (intro wF; go_simp; try with_reducible rfl)
  (try simp only [Act.put, List.setIfInBounds_toArray, List.set_cons_zero, List.set_cons_succ])
  (refine float0 (i := 5) (v := ?_) rfl (by kernel_rfl) (by kernel_rfl) (by kernel_rfl) (by kernel_rfl) (fun _ _ _ h => h) (by rfl) ?_ ?_); rotate_left
  (intro wF; go_simp; try with_reducible rfl)
  (try simp only [Act.put, List.setIfInBounds_toArray, List.set_cons_zero, List.set_cons_succ])
  (refine float0 (i := 6) (v := ?_) rfl (by kernel_rfl) (by kernel_rfl) (by kernel_rfl) (by kernel_rfl) (fun _ _ _ h => h) (by rfl) ?_ ?_); rotate_left
  (intro wF; go_simp; try with_reducible rfl)
  (try simp only [Act.put, List.setIfInBounds_toArray, List.set_cons_zero, List.set_cons_succ])
  (refine float0 (i := 7) (v := ?_) rfl (by kernel_rfl) (by kernel_rfl) (by kernel_rfl) (by kernel_rfl) (fun _ _ _ h => h) (by rfl) ?_ ?_); rotate_left
  (intro wF; go_simp; try with_reducible rfl)
  (try simp only [Act.put, List.setIfInBounds_toArray, List.set_cons_zero, List.set_cons_succ])
  (refine float0 (i := 8) (v := ?_) rfl (by kernel_rfl) (by kernel_rfl) (by kernel_rfl) (by kernel_rfl) (fun _ _ _ h => h) (by rfl) ?_ ?_); rotate_left
  (intro wF; go_simp; try with_reducible rfl)
  (try simp only [Act.put, List.setIfInBounds_toArray, List.set_cons_zero, List.set_cons_succ])
  (refine floatS (i := 9) (v := ?_) rfl (by kernel_rfl) (by kernel_rfl) (by kernel_rfl) (by kernel_rfl) (fun _ _ _ h => h) (by assumption) (by rfl) ?_ ?_); rotate_left
  (intro wF hF; (try dsimp only at hF); go_simp; try with_reducible rfl)
  (try simp only [Act.put, List.setIfInBounds_toArray, List.set_cons_zero, List.set_cons_succ])
  (refine floatM (i := 10) rfl (by kernel_rfl) (by kernel_rfl) (fun K hK => ?_)); go_simp
  refine (IH.out G _ _ x (HG.out.keep0 (Keep.drew _ _)) HXx.out hdx hlx).mono ?_
  rintro e w2 ⟨rfl, k2⟩
  have K2 := Lib.hid ((Keep.drew _ _).trans k2)
  clear k2
  go_wp2_with fail
  refine hK.out _ _ (fun _ => HK.out _ (HG.out.keep0 K2.out)) ?_
  clear hK K
  (try simp only [Act.put, List.setIfInBounds_toArray, List.set_cons_zero, List.set_cons_succ])
  (refine float0 (i := 11) (v := ?_) rfl (by kernel_rfl) (by kernel_rfl) (by kernel_rfl) (by kernel_rfl) (fun _ _ _ h => h) (by rfl) ?_ ?_); rotate_left
  (intro wF; go_simp; try with_reducible rfl)
  (try simp only [Act.put, List.setIfInBounds_toArray, List.set_cons_zero, List.set_cons_succ])
  (refine floatM (i := 12) rfl (by kernel_rfl) (by kernel_rfl) (fun K hK => ?_)); go_simp
  refine hK.out _ _ (fun _ => HK.out _ (HG.out.keep0 K2.out)) ?_
  clear hK K
  (try simp only [Act.put, List.setIfInBounds_toArray, List.set_cons_zero, List.set_cons_succ])
  (refine floatE (by kernel_rfl) ?_)
  go_wp2_with fail
  go_ret
  refine ⟨?_, K2.out⟩
  show Ending.returned (.string (bs [102, 117, 110, 32] ++ bs s ++ bs [32, 45, 62, 32] ++ bs x.show)) = _
  rw [bs_append, bs_append, bs_append]
  simp [Ex.show, FUN, LP, RP, LET, IF]

set_option maxRecDepth 100000 in
set_option maxHeartbeats 4000000 in
theorem eshow_pair (n : Nat) (ih : EShowOk n) (G : GH) (w : World) (b : Nat) (p : Int) (x : Ex) (u : Ex) (vx : Value) (vu : Value) (hG : Holds G w) (h : G b = some (.cells #[.int .i64 p, vx, vu] 184)) (hx : ExR G vx x) (hu : ExR G vu u) (hd : (Ex.pair x u).depth ≤ n + 1) (hl : (Ex.pair x u).show.length ≤ 1000000000000) :
    Calls Tryd.prog 43 #[.iface 182 (.pointer (some ⟨b, 0, none⟩))] w (EShowPost w (Ex.pair x u)) := by
  have hK : ∀ w', Holds G w' → w'.cell? ⟨b, 1, none⟩ = some vx ∧ w'.cell? ⟨b, 2, none⟩ = some vu := fun w' hw => ⟨cell_of_heap (hw _ _ h) rfl, cell_of_heap (hw _ _ h) rfl⟩
  obtain ⟨Tx, bx, rfl⟩ := hx.shape
  obtain ⟨Tu, bu, rfl⟩ := hu.shape
  have hT : 1 + x.show.length + 2 + u.show.length + 1 ≤ 1000000000000 := by
    have := hl
    simp [Ex.show, FUN, LP, RP, LET, IF, List.length_append] at this
    omega
  have hdx : x.depth ≤ n := by simp only [Ex.depth] at hd; omega
  have hdu : u.depth ≤ n := by simp only [Ex.depth] at hd; omega
  have q1 : ¬ 9223372036854775807 < 1 + (bs x.show).size := by (try simp only [bs_size]); omega
  have q2 : ¬ 9223372036854775807 < 1 + (bs x.show).size + 2 := by (try simp only [bs_size]); omega
  have q3 : ¬ 9223372036854775807 < 1 + (bs x.show).size + 2 + (bs u.show).size := by (try simp only [bs_size]); omega
  have q4 : ¬ 9223372036854775807 < 1 + (bs x.show).size + 2 + (bs u.show).size + 1 := by (try simp only [bs_size]); omega
  have hlx : x.show.length ≤ 1000000000000 := by omega
  have hlu : u.show.length ≤ 1000000000000 := by omega
  have IH := Lib.hid ih; have HG := Lib.hid hG; have HK := Lib.hid hK; have HL := Lib.hid hl
  have HXx := Lib.hid hx
  have HXu := Lib.hid hu
  clear ih hG hK h hl hd hx hu
  have aPairName := taPairName
  have aPairNum := taPairNum
  have aPairFun := taPairFun
  have aPairPair := taPairPair
  go_enter Tryd.func43, Tryd.ntmps43
  go_wp2_with fail
  have S0 := HK.out w.drew (HG.out.keep0 (Keep.drew _ _))
  refine wp_region_float (fun w' => w'.cell? ⟨b, 1, none⟩ = some (.iface Tx (.pointer (some ⟨bx, 0, none⟩))) ∧ w'.cell? ⟨b, 2, none⟩ = some (.iface Tu (.pointer (some ⟨bu, 0, none⟩)))) [0, 1, 2, 5, 6, 7, 8, 9, 12, 13] [3, 10] (by kernel_rfl) ?_
  (refine float0 (i := 0) (v := ?_) rfl (by kernel_rfl) (by kernel_rfl) (by kernel_rfl) (by kernel_rfl) (fun _ _ _ h => h) (by rfl) ?_ ?_); rotate_left
  (intro wF; go_simp; try with_reducible rfl)
  (try simp only [Act.put, List.setIfInBounds_toArray, List.set_cons_zero, List.set_cons_succ])
  (refine float0 (i := 1) (v := ?_) rfl (by kernel_rfl) (by kernel_rfl) (by kernel_rfl) (by kernel_rfl) (fun _ _ _ h => h) (by rfl) ?_ ?_); rotate_left
  (intro wF; go_simp; try with_reducible rfl)
  (try simp only [Act.put, List.setIfInBounds_toArray, List.set_cons_zero, List.set_cons_succ])
  (refine float0 (i := 2) (v := ?_) rfl (by kernel_rfl) (by kernel_rfl) (by kernel_rfl) (by kernel_rfl) (fun _ _ _ h => h) (by rfl) ?_ ?_); rotate_left
  (intro wF; go_simp; try with_reducible rfl)
  (try simp only [Act.put, List.setIfInBounds_toArray, List.set_cons_zero, List.set_cons_succ])
  (refine floatS (i := 3) (v := ?_) rfl (by kernel_rfl) (by kernel_rfl) (by kernel_rfl) (by kernel_rfl) (fun _ _ _ h => h) (by assumption) (by rfl) ?_ ?_); rotate_left
  (intro wF hF; (try dsimp only at hF); go_simp; try with_reducible rfl)
  (try simp only [Act.put, List.setIfInBounds_toArray, List.set_cons_zero, List.set_cons_succ])
  (refine float0 (i := 7) (v := ?_) rfl (by kernel_rfl) (by kernel_rfl) (by kernel_rfl) (by kernel_rfl) (fun _ _ _ h => h) (by rfl) ?_ ?_); rotate_left
  (intro wF; go_simp; try with_reducible rfl)
  (try simp only [Act.put, List.setIfInBounds_toArray, List.set_cons_zero, List.set_cons_succ])
  (refine float0 (i := 8) (v := ?_) rfl (by kernel_rfl) (by kernel_rfl) (by kernel_rfl) (by kernel_rfl) (fun _ _ _ h => h) (by rfl) ?_ ?_); rotate_left
  (intro wF; go_simp; try with_reducible rfl)
  (try simp only [Act.put, List.setIfInBounds_toArray, List.set_cons_zero, List.set_cons_succ])
  (refine float0 (i := 9) (v := ?_) rfl (by kernel_rfl) (by kernel_rfl) (by kernel_rfl) (by kernel_rfl) (fun _ _ _ h => h) (by rfl) ?_ ?_); rotate_left
  (intro wF; go_simp; try with_reducible rfl)
  (try simp only [Act.put, List.setIfInBounds_toArray, List.set_cons_zero, List.set_cons_succ])
  (refine floatS (i := 10) (v := ?_) rfl (by kernel_rfl) (by kernel_rfl) (by kernel_rfl) (by kernel_rfl) (fun _ _ _ h => h) (by assumption) (by rfl) ?_ ?_); rotate_left
  (intro wF hF; (try dsimp only at hF); go_simp; try with_reducible rfl)
  (try simp only [Act.put, List.setIfInBounds_toArray, List.set_cons_zero, List.set_cons_succ])
  (refine floatM (i := 4) rfl (by kernel_rfl) (by kernel_rfl) (fun K hK => ?_)); go_simp
  refine (IH.out G _ _ x (HG.out.keep0 (Keep.drew _ _)) HXx.out hdx hlx).mono ?_
  rintro e w2 ⟨rfl, k2⟩
  have K2 := Lib.hid ((Keep.drew _ _).trans k2)
  clear k2
  go_wp2_with fail
  refine hK.out _ _ (fun _ => HK.out _ (HG.out.keep0 K2.out)) ?_
  clear hK K
  (try simp only [Act.put, List.setIfInBounds_toArray, List.set_cons_zero, List.set_cons_succ])
  (refine float0 (i := 5) (v := ?_) rfl (by kernel_rfl) (by kernel_rfl) (by kernel_rfl) (by kernel_rfl) (fun _ _ _ h => h) (by rfl) ?_ ?_); rotate_left
  (intro wF; go_simp; try with_reducible rfl)
  (try simp only [Act.put, List.setIfInBounds_toArray, List.set_cons_zero, List.set_cons_succ])
  (refine float0 (i := 6) (v := ?_) rfl (by kernel_rfl) (by kernel_rfl) (by kernel_rfl) (by kernel_rfl) (fun _ _ _ h => h) (by rfl) ?_ ?_); rotate_left
  (intro wF; go_simp; try with_reducible rfl)
  (try simp only [Act.put, List.setIfInBounds_toArray, List.set_cons_zero, List.set_cons_succ])
  (refine floatM (i := 11) rfl (by kernel_rfl) (by kernel_rfl) (fun K hK => ?_)); go_simp
  refine (IH.out G _ _ u (HG.out.keep0 K2.out) HXu.out hdu hlu).mono ?_
  rintro e w3 ⟨rfl, k3⟩
  have K3 := Lib.hid (K2.out.trans k3)
  clear k3
  go_wp2_with fail
  refine hK.out _ _ (fun _ => HK.out _ (HG.out.keep0 K3.out)) ?_
  clear hK K
  (try simp only [Act.put, List.setIfInBounds_toArray, List.set_cons_zero, List.set_cons_succ])
  (refine float0 (i := 12) (v := ?_) rfl (by kernel_rfl) (by kernel_rfl) (by kernel_rfl) (by kernel_rfl) (fun _ _ _ h => h) (by rfl) ?_ ?_); rotate_left
  (intro wF; go_simp; try with_reducible rfl)
  (try simp only [Act.put, List.setIfInBounds_toArray, List.set_cons_zero, List.set_cons_succ])
  (refine float0 (i := 13) (v := ?_) rfl (by kernel_rfl) (by kernel_rfl) (by kernel_rfl) (by kernel_rfl) (fun _ _ _ h => h) (by rfl) ?_ ?_); rotate_left
  (intro wF; go_simp; try with_reducible rfl)
  (try simp only [Act.put, List.setIfInBounds_toArray, List.set_cons_zero, List.set_cons_succ])
  (refine floatM (i := 14) rfl (by kernel_rfl) (by kernel_rfl) (fun K hK => ?_)); go_simp
  refine hK.out _ _ (fun _ => HK.out _ (HG.out.keep0 K3.out)) ?_
  clear hK K
  (try simp only [Act.put, List.setIfInBounds_toArray, List.set_cons_zero, List.set_cons_succ])
  (refine floatE (by kernel_rfl) ?_)
  go_wp2_with fail
  go_ret
  refine ⟨?_, K3.out⟩
  show Ending.returned (.string (bs LP ++ bs x.show ++ bs [44, 32] ++ bs u.show ++ bs RP)) = _
  rw [bs_append, bs_append, bs_append, bs_append]
  simp [Ex.show, FUN, LP, RP, LET, IF]

set_option maxRecDepth 100000 in
set_option maxHeartbeats 4000000 in
theorem eshow_lt (n : Nat) (ih : EShowOk n) (G : GH) (w : World) (b : Nat) (p : Int) (s : Str) (x : Ex) (u : Ex) (vx : Value) (vu : Value) (hG : Holds G w) (h : G b = some (.cells #[.int .i64 p, .string (bs s), vx, vu] 187)) (hx : ExR G vx x) (hu : ExR G vu u) (hd : (Ex.lt s x u).depth ≤ n + 1) (hl : (Ex.lt s x u).show.length ≤ 1000000000000) :
    Calls Tryd.prog 43 #[.iface 185 (.pointer (some ⟨b, 0, none⟩))] w (EShowPost w (Ex.lt s x u)) := by
  have hK : ∀ w', Holds G w' → w'.cell? ⟨b, 1, none⟩ = some (.string (bs s)) ∧ w'.cell? ⟨b, 2, none⟩ = some vx ∧ w'.cell? ⟨b, 3, none⟩ = some vu := fun w' hw => ⟨cell_of_heap (hw _ _ h) rfl, cell_of_heap (hw _ _ h) rfl, cell_of_heap (hw _ _ h) rfl⟩
  obtain ⟨Tx, bx, rfl⟩ := hx.shape
  obtain ⟨Tu, bu, rfl⟩ := hu.shape
  have hT : 4 + s.length + 3 + x.show.length + 4 + u.show.length ≤ 1000000000000 := by
    have := hl
    simp [Ex.show, FUN, LP, RP, LET, IF, List.length_append] at this
    omega
  have hdx : x.depth ≤ n := by simp only [Ex.depth] at hd; omega
  have hdu : u.depth ≤ n := by simp only [Ex.depth] at hd; omega
  have q1 : ¬ 9223372036854775807 < 4 + (bs s).size := by (try simp only [bs_size]); omega
  have q2 : ¬ 9223372036854775807 < 4 + (bs s).size + 3 := by (try simp only [bs_size]); omega
  have q3 : ¬ 9223372036854775807 < 4 + (bs s).size + 3 + (bs x.show).size := by (try simp only [bs_size]); omega
  have q4 : ¬ 9223372036854775807 < 4 + (bs s).size + 3 + (bs x.show).size + 4 := by (try simp only [bs_size]); omega
  have q5 : ¬ 9223372036854775807 < 4 + (bs s).size + 3 + (bs x.show).size + 4 + (bs u.show).size := by (try simp only [bs_size]); omega
  have hlx : x.show.length ≤ 1000000000000 := by omega
  have hlu : u.show.length ≤ 1000000000000 := by omega
  have IH := Lib.hid ih; have HG := Lib.hid hG; have HK := Lib.hid hK; have HL := Lib.hid hl
  have HXx := Lib.hid hx
  have HXu := Lib.hid hu
  clear ih hG hK h hl hd hx hu
  have aLetName := taLetName
  have aLetNum := taLetNum
  have aLetFun := taLetFun
  have aLetPair := taLetPair
  have aLetLet := taLetLet
  go_enter Tryd.func43, Tryd.ntmps43
  go_wp2_with fail
  have S0 := HK.out w.drew (HG.out.keep0 (Keep.drew _ _))
  refine wp_region_float (fun w' => w'.cell? ⟨b, 1, none⟩ = some (.string (bs s)) ∧ w'.cell? ⟨b, 2, none⟩ = some (.iface Tx (.pointer (some ⟨bx, 0, none⟩))) ∧ w'.cell? ⟨b, 3, none⟩ = some (.iface Tu (.pointer (some ⟨bu, 0, none⟩)))) [0, 1, 2, 4, 5, 6, 7, 8, 11, 12, 13, 14, 15, 18] [3, 9, 16] (by kernel_rfl) ?_
  (refine float0 (i := 0) (v := ?_) rfl (by kernel_rfl) (by kernel_rfl) (by kernel_rfl) (by kernel_rfl) (fun _ _ _ h => h) (by rfl) ?_ ?_); rotate_left
  (intro wF; go_simp; try with_reducible rfl)
  (try simp only [Act.put, List.setIfInBounds_toArray, List.set_cons_zero, List.set_cons_succ])
  (refine float0 (i := 1) (v := ?_) rfl (by kernel_rfl) (by kernel_rfl) (by kernel_rfl) (by kernel_rfl) (fun _ _ _ h => h) (by rfl) ?_ ?_); rotate_left
  (intro wF; go_simp; try with_reducible rfl)
  (try simp only [Act.put, List.setIfInBounds_toArray, List.set_cons_zero, List.set_cons_succ])
  (refine float0 (i := 2) (v := ?_) rfl (by kernel_rfl) (by kernel_rfl) (by kernel_rfl) (by kernel_rfl) (fun _ _ _ h => h) (by rfl) ?_ ?_); rotate_left
  (intro wF; go_simp; try with_reducible rfl)
  (try simp only [Act.put, List.setIfInBounds_toArray, List.set_cons_zero, List.set_cons_succ])
  (refine floatS (i := 3) (v := ?_) rfl (by kernel_rfl) (by kernel_rfl) (by kernel_rfl) (by kernel_rfl) (fun _ _ _ h => h) (by assumption) (by rfl) ?_ ?_); rotate_left
  (intro wF hF; (try dsimp only at hF); go_simp; try with_reducible rfl)
  (try simp only [Act.put, List.setIfInBounds_toArray, List.set_cons_zero, List.set_cons_succ])
  (refine float0 (i := 4) (v := ?_) rfl (by kernel_rfl) (by kernel_rfl) (by kernel_rfl) (by kernel_rfl) (fun _ _ _ h => h) (by rfl) ?_ ?_); rotate_left
  (intro wF; go_simp; try with_reducible rfl)
  (try simp only [Act.put, List.setIfInBounds_toArray, List.set_cons_zero, List.set_cons_succ])
  (refine float0 (i := 5) (v := ?_) rfl (by kernel_rfl) (by kernel_rfl) (by kernel_rfl) (by kernel_rfl) (fun _ _ _ h => h) (by rfl) ?_ ?_); rotate_left
  (intro wF; go_simp; try with_reducible rfl)
  (try simp only [Act.put, List.setIfInBounds_toArray, List.set_cons_zero, List.set_cons_succ])
  (refine float0 (i := 6) (v := ?_) rfl (by kernel_rfl) (by kernel_rfl) (by kernel_rfl) (by kernel_rfl) (fun _ _ _ h => h) (by rfl) ?_ ?_); rotate_left
  (intro wF; go_simp; try with_reducible rfl)
  (try simp only [Act.put, List.setIfInBounds_toArray, List.set_cons_zero, List.set_cons_succ])
  (refine float0 (i := 7) (v := ?_) rfl (by kernel_rfl) (by kernel_rfl) (by kernel_rfl) (by kernel_rfl) (fun _ _ _ h => h) (by rfl) ?_ ?_); rotate_left
  (intro wF; go_simp; try with_reducible rfl)
  (try simp only [Act.put, List.setIfInBounds_toArray, List.set_cons_zero, List.set_cons_succ])
  (refine float0 (i := 8) (v := ?_) rfl (by kernel_rfl) (by kernel_rfl) (by kernel_rfl) (by kernel_rfl) (fun _ _ _ h => h) (by rfl) ?_ ?_); rotate_left
  (intro wF; go_simp; try with_reducible rfl)
  (try simp only [Act.put, List.setIfInBounds_toArray, List.set_cons_zero, List.set_cons_succ])
  (refine floatS (i := 9) (v := ?_) rfl (by kernel_rfl) (by kernel_rfl) (by kernel_rfl) (by kernel_rfl) (fun _ _ _ h => h) (by assumption) (by rfl) ?_ ?_); rotate_left
  (intro wF hF; (try dsimp only at hF); go_simp; try with_reducible rfl)
  (try simp only [Act.put, List.setIfInBounds_toArray, List.set_cons_zero, List.set_cons_succ])
  (refine float0 (i := 13) (v := ?_) rfl (by kernel_rfl) (by kernel_rfl) (by kernel_rfl) (by kernel_rfl) (fun _ _ _ h => h) (by rfl) ?_ ?_); rotate_left
  (intro wF; go_simp; try with_reducible rfl)
  (try simp only [Act.put, List.setIfInBounds_toArray, List.set_cons_zero, List.set_cons_succ])
  (refine float0 (i := 14) (v := ?_) rfl (by kernel_rfl) (by kernel_rfl) (by kernel_rfl) (by kernel_rfl) (fun _ _ _ h => h) (by rfl) ?_ ?_); rotate_left
  (intro wF; go_simp; try with_reducible rfl)
  (try simp only [Act.put, List.setIfInBounds_toArray, List.set_cons_zero, List.set_cons_succ])
  (refine float0 (i := 15) (v := ?_) rfl (by kernel_rfl) (by kernel_rfl) (by kernel_rfl) (by kernel_rfl) (fun _ _ _ h => h) (by rfl) ?_ ?_); rotate_left
  (intro wF; go_simp; try with_reducible rfl)
  (try simp only [Act.put, List.setIfInBounds_toArray, List.set_cons_zero, List.set_cons_succ])
  (refine floatS (i := 16) (v := ?_) rfl (by kernel_rfl) (by kernel_rfl) (by kernel_rfl) (by kernel_rfl) (fun _ _ _ h => h) (by assumption) (by rfl) ?_ ?_); rotate_left
  (intro wF hF; (try dsimp only at hF); go_simp; try with_reducible rfl)
  (try simp only [Act.put, List.setIfInBounds_toArray, List.set_cons_zero, List.set_cons_succ])
  (refine floatM (i := 10) rfl (by kernel_rfl) (by kernel_rfl) (fun K hK => ?_)); go_simp
  refine (IH.out G _ _ x (HG.out.keep0 (Keep.drew _ _)) HXx.out hdx hlx).mono ?_
  rintro e w2 ⟨rfl, k2⟩
  have K2 := Lib.hid ((Keep.drew _ _).trans k2)
  clear k2
  go_wp2_with fail
  refine hK.out _ _ (fun _ => HK.out _ (HG.out.keep0 K2.out)) ?_
  clear hK K
  (try simp only [Act.put, List.setIfInBounds_toArray, List.set_cons_zero, List.set_cons_succ])
  (refine float0 (i := 11) (v := ?_) rfl (by kernel_rfl) (by kernel_rfl) (by kernel_rfl) (by kernel_rfl) (fun _ _ _ h => h) (by rfl) ?_ ?_); rotate_left
  (intro wF; go_simp; try with_reducible rfl)
  (try simp only [Act.put, List.setIfInBounds_toArray, List.set_cons_zero, List.set_cons_succ])
  (refine float0 (i := 12) (v := ?_) rfl (by kernel_rfl) (by kernel_rfl) (by kernel_rfl) (by kernel_rfl) (fun _ _ _ h => h) (by rfl) ?_ ?_); rotate_left
  (intro wF; go_simp; try with_reducible rfl)
  (try simp only [Act.put, List.setIfInBounds_toArray, List.set_cons_zero, List.set_cons_succ])
  (refine floatM (i := 17) rfl (by kernel_rfl) (by kernel_rfl) (fun K hK => ?_)); go_simp
  refine (IH.out G _ _ u (HG.out.keep0 K2.out) HXu.out hdu hlu).mono ?_
  rintro e w3 ⟨rfl, k3⟩
  have K3 := Lib.hid (K2.out.trans k3)
  clear k3
  go_wp2_with fail
  refine hK.out _ _ (fun _ => HK.out _ (HG.out.keep0 K3.out)) ?_
  clear hK K
  (try simp only [Act.put, List.setIfInBounds_toArray, List.set_cons_zero, List.set_cons_succ])
  (refine float0 (i := 18) (v := ?_) rfl (by kernel_rfl) (by kernel_rfl) (by kernel_rfl) (by kernel_rfl) (fun _ _ _ h => h) (by rfl) ?_ ?_); rotate_left
  (intro wF; go_simp; try with_reducible rfl)
  (try simp only [Act.put, List.setIfInBounds_toArray, List.set_cons_zero, List.set_cons_succ])
  (refine floatM (i := 19) rfl (by kernel_rfl) (by kernel_rfl) (fun K hK => ?_)); go_simp
  refine hK.out _ _ (fun _ => HK.out _ (HG.out.keep0 K3.out)) ?_
  clear hK K
  (try simp only [Act.put, List.setIfInBounds_toArray, List.set_cons_zero, List.set_cons_succ])
  (refine floatE (by kernel_rfl) ?_)
  go_wp2_with fail
  go_ret
  refine ⟨?_, K3.out⟩
  show Ending.returned (.string (bs [108, 101, 116, 32] ++ bs s ++ bs [32, 61, 32] ++ bs x.show ++ bs [32, 105, 110, 32] ++ bs u.show)) = _
  rw [bs_append, bs_append, bs_append, bs_append, bs_append]
  simp [Ex.show, FUN, LP, RP, LET, IF]

set_option maxRecDepth 100000 in
set_option maxHeartbeats 4000000 in
theorem eshow_ite (n : Nat) (ih : EShowOk n) (G : GH) (w : World) (b : Nat) (p : Int) (x : Ex) (u : Ex) (q : Ex) (vx : Value) (vu : Value) (vq : Value) (hG : Holds G w) (h : G b = some (.cells #[.int .i64 p, vx, vu, vq] 190)) (hx : ExR G vx x) (hu : ExR G vu u) (hq : ExR G vq q) (hd : (Ex.ite x u q).depth ≤ n + 1) (hl : (Ex.ite x u q).show.length ≤ 1000000000000) :
    Calls Tryd.prog 43 #[.iface 188 (.pointer (some ⟨b, 0, none⟩))] w (EShowPost w (Ex.ite x u q)) := by
  have hK : ∀ w', Holds G w' → w'.cell? ⟨b, 1, none⟩ = some vx ∧ w'.cell? ⟨b, 2, none⟩ = some vu ∧ w'.cell? ⟨b, 3, none⟩ = some vq := fun w' hw => ⟨cell_of_heap (hw _ _ h) rfl, cell_of_heap (hw _ _ h) rfl, cell_of_heap (hw _ _ h) rfl⟩
  obtain ⟨Tx, bx, rfl⟩ := hx.shape
  obtain ⟨Tu, bu, rfl⟩ := hu.shape
  obtain ⟨Tq, bq, rfl⟩ := hq.shape
  have hT : 3 + x.show.length + 6 + u.show.length + 6 + q.show.length ≤ 1000000000000 := by
    have := hl
    simp [Ex.show, FUN, LP, RP, LET, IF, List.length_append] at this
    omega
  have hdx : x.depth ≤ n := by simp only [Ex.depth] at hd; omega
  have hdu : u.depth ≤ n := by simp only [Ex.depth] at hd; omega
  have hdq : q.depth ≤ n := by simp only [Ex.depth] at hd; omega
  have q1 : ¬ 9223372036854775807 < 3 + (bs x.show).size := by (try simp only [bs_size]); omega
  have q2 : ¬ 9223372036854775807 < 3 + (bs x.show).size + 6 := by (try simp only [bs_size]); omega
  have q3 : ¬ 9223372036854775807 < 3 + (bs x.show).size + 6 + (bs u.show).size := by (try simp only [bs_size]); omega
  have q4 : ¬ 9223372036854775807 < 3 + (bs x.show).size + 6 + (bs u.show).size + 6 := by (try simp only [bs_size]); omega
  have q5 : ¬ 9223372036854775807 < 3 + (bs x.show).size + 6 + (bs u.show).size + 6 + (bs q.show).size := by (try simp only [bs_size]); omega
  have hlx : x.show.length ≤ 1000000000000 := by omega
  have hlu : u.show.length ≤ 1000000000000 := by omega
  have hlq : q.show.length ≤ 1000000000000 := by omega
  have IH := Lib.hid ih; have HG := Lib.hid hG; have HK := Lib.hid hK; have HL := Lib.hid hl
  have HXx := Lib.hid hx
  have HXu := Lib.hid hu
  have HXq := Lib.hid hq
  clear ih hG hK h hl hd hx hu hq
  have aIfName := taIfName
  have aIfNum := taIfNum
  have aIfFun := taIfFun
  have aIfPair := taIfPair
  have aIfLet := taIfLet
  have aIfIf := taIfIf
  go_enter Tryd.func43, Tryd.ntmps43
  go_wp2_with fail
  have S0 := HK.out w.drew (HG.out.keep0 (Keep.drew _ _))
  refine wp_region_float (fun w' => w'.cell? ⟨b, 1, none⟩ = some (.iface Tx (.pointer (some ⟨bx, 0, none⟩))) ∧ w'.cell? ⟨b, 2, none⟩ = some (.iface Tu (.pointer (some ⟨bu, 0, none⟩))) ∧ w'.cell? ⟨b, 3, none⟩ = some (.iface Tq (.pointer (some ⟨bq, 0, none⟩)))) [0, 1, 2, 5, 6, 7, 8, 9, 12, 13, 14, 15, 16, 19] [3, 10, 17] (by kernel_rfl) ?_
  (refine float0 (i := 0) (v := ?_) rfl (by kernel_rfl) (by kernel_rfl) (by kernel_rfl) (by kernel_rfl) (fun _ _ _ h => h) (by rfl) ?_ ?_); rotate_left
  (intro wF; go_simp; try with_reducible rfl)
  (try simp only [Act.put, List.setIfInBounds_toArray, List.set_cons_zero, List.set_cons_succ])
  (refine float0 (i := 1) (v := ?_) rfl (by kernel_rfl) (by kernel_rfl) (by kernel_rfl) (by kernel_rfl) (fun _ _ _ h => h) (by rfl) ?_ ?_); rotate_left
  (intro wF; go_simp; try with_reducible rfl)
  (try simp only [Act.put, List.setIfInBounds_toArray, List.set_cons_zero, List.set_cons_succ])
  (refine float0 (i := 2) (v := ?_) rfl (by kernel_rfl) (by kernel_rfl) (by kernel_rfl) (by kernel_rfl) (fun _ _ _ h => h) (by rfl) ?_ ?_); rotate_left
  (intro wF; go_simp; try with_reducible rfl)
  (try simp only [Act.put, List.setIfInBounds_toArray, List.set_cons_zero, List.set_cons_succ])
  (refine floatS (i := 3) (v := ?_) rfl (by kernel_rfl) (by kernel_rfl) (by kernel_rfl) (by kernel_rfl) (fun _ _ _ h => h) (by assumption) (by rfl) ?_ ?_); rotate_left
  (intro wF hF; (try dsimp only at hF); go_simp; try with_reducible rfl)
  (try simp only [Act.put, List.setIfInBounds_toArray, List.set_cons_zero, List.set_cons_succ])
  (refine float0 (i := 7) (v := ?_) rfl (by kernel_rfl) (by kernel_rfl) (by kernel_rfl) (by kernel_rfl) (fun _ _ _ h => h) (by rfl) ?_ ?_); rotate_left
  (intro wF; go_simp; try with_reducible rfl)
  (try simp only [Act.put, List.setIfInBounds_toArray, List.set_cons_zero, List.set_cons_succ])
  (refine float0 (i := 8) (v := ?_) rfl (by kernel_rfl) (by kernel_rfl) (by kernel_rfl) (by kernel_rfl) (fun _ _ _ h => h) (by rfl) ?_ ?_); rotate_left
  (intro wF; go_simp; try with_reducible rfl)
  (try simp only [Act.put, List.setIfInBounds_toArray, List.set_cons_zero, List.set_cons_succ])
  (refine float0 (i := 9) (v := ?_) rfl (by kernel_rfl) (by kernel_rfl) (by kernel_rfl) (by kernel_rfl) (fun _ _ _ h => h) (by rfl) ?_ ?_); rotate_left
  (intro wF; go_simp; try with_reducible rfl)
  (try simp only [Act.put, List.setIfInBounds_toArray, List.set_cons_zero, List.set_cons_succ])
  (refine floatS (i := 10) (v := ?_) rfl (by kernel_rfl) (by kernel_rfl) (by kernel_rfl) (by kernel_rfl) (fun _ _ _ h => h) (by assumption) (by rfl) ?_ ?_); rotate_left
  (intro wF hF; (try dsimp only at hF); go_simp; try with_reducible rfl)
  (try simp only [Act.put, List.setIfInBounds_toArray, List.set_cons_zero, List.set_cons_succ])
  (refine float0 (i := 14) (v := ?_) rfl (by kernel_rfl) (by kernel_rfl) (by kernel_rfl) (by kernel_rfl) (fun _ _ _ h => h) (by rfl) ?_ ?_); rotate_left
  (intro wF; go_simp; try with_reducible rfl)
  (try simp only [Act.put, List.setIfInBounds_toArray, List.set_cons_zero, List.set_cons_succ])
  (refine float0 (i := 15) (v := ?_) rfl (by kernel_rfl) (by kernel_rfl) (by kernel_rfl) (by kernel_rfl) (fun _ _ _ h => h) (by rfl) ?_ ?_); rotate_left
  (intro wF; go_simp; try with_reducible rfl)
  (try simp only [Act.put, List.setIfInBounds_toArray, List.set_cons_zero, List.set_cons_succ])
  (refine float0 (i := 16) (v := ?_) rfl (by kernel_rfl) (by kernel_rfl) (by kernel_rfl) (by kernel_rfl) (fun _ _ _ h => h) (by rfl) ?_ ?_); rotate_left
  (intro wF; go_simp; try with_reducible rfl)
  (try simp only [Act.put, List.setIfInBounds_toArray, List.set_cons_zero, List.set_cons_succ])
  (refine floatS (i := 17) (v := ?_) rfl (by kernel_rfl) (by kernel_rfl) (by kernel_rfl) (by kernel_rfl) (fun _ _ _ h => h) (by assumption) (by rfl) ?_ ?_); rotate_left
  (intro wF hF; (try dsimp only at hF); go_simp; try with_reducible rfl)
  (try simp only [Act.put, List.setIfInBounds_toArray, List.set_cons_zero, List.set_cons_succ])
  (refine floatM (i := 4) rfl (by kernel_rfl) (by kernel_rfl) (fun K hK => ?_)); go_simp
  refine (IH.out G _ _ x (HG.out.keep0 (Keep.drew _ _)) HXx.out hdx hlx).mono ?_
  rintro e w2 ⟨rfl, k2⟩
  have K2 := Lib.hid ((Keep.drew _ _).trans k2)
  clear k2
  go_wp2_with fail
  refine hK.out _ _ (fun _ => HK.out _ (HG.out.keep0 K2.out)) ?_
  clear hK K
  (try simp only [Act.put, List.setIfInBounds_toArray, List.set_cons_zero, List.set_cons_succ])
  (refine float0 (i := 5) (v := ?_) rfl (by kernel_rfl) (by kernel_rfl) (by kernel_rfl) (by kernel_rfl) (fun _ _ _ h => h) (by rfl) ?_ ?_); rotate_left
  (intro wF; go_simp; try with_reducible rfl)
  (try simp only [Act.put, List.setIfInBounds_toArray, List.set_cons_zero, List.set_cons_succ])
  (refine float0 (i := 6) (v := ?_) rfl (by kernel_rfl) (by kernel_rfl) (by kernel_rfl) (by kernel_rfl) (fun _ _ _ h => h) (by rfl) ?_ ?_); rotate_left
  (intro wF; go_simp; try with_reducible rfl)
  (try simp only [Act.put, List.setIfInBounds_toArray, List.set_cons_zero, List.set_cons_succ])
  (refine floatM (i := 11) rfl (by kernel_rfl) (by kernel_rfl) (fun K hK => ?_)); go_simp
  refine (IH.out G _ _ u (HG.out.keep0 K2.out) HXu.out hdu hlu).mono ?_
  rintro e w3 ⟨rfl, k3⟩
  have K3 := Lib.hid (K2.out.trans k3)
  clear k3
  go_wp2_with fail
  refine hK.out _ _ (fun _ => HK.out _ (HG.out.keep0 K3.out)) ?_
  clear hK K
  (try simp only [Act.put, List.setIfInBounds_toArray, List.set_cons_zero, List.set_cons_succ])
  (refine float0 (i := 12) (v := ?_) rfl (by kernel_rfl) (by kernel_rfl) (by kernel_rfl) (by kernel_rfl) (fun _ _ _ h => h) (by rfl) ?_ ?_); rotate_left
  (intro wF; go_simp; try with_reducible rfl)
  (try simp only [Act.put, List.setIfInBounds_toArray, List.set_cons_zero, List.set_cons_succ])
  (refine float0 (i := 13) (v := ?_) rfl (by kernel_rfl) (by kernel_rfl) (by kernel_rfl) (by kernel_rfl) (fun _ _ _ h => h) (by rfl) ?_ ?_); rotate_left
  (intro wF; go_simp; try with_reducible rfl)
  (try simp only [Act.put, List.setIfInBounds_toArray, List.set_cons_zero, List.set_cons_succ])
  (refine floatM (i := 18) rfl (by kernel_rfl) (by kernel_rfl) (fun K hK => ?_)); go_simp
  refine (IH.out G _ _ q (HG.out.keep0 K3.out) HXq.out hdq hlq).mono ?_
  rintro e w4 ⟨rfl, k4⟩
  have K4 := Lib.hid (K3.out.trans k4)
  clear k4
  go_wp2_with fail
  refine hK.out _ _ (fun _ => HK.out _ (HG.out.keep0 K4.out)) ?_
  clear hK K
  (try simp only [Act.put, List.setIfInBounds_toArray, List.set_cons_zero, List.set_cons_succ])
  (refine float0 (i := 19) (v := ?_) rfl (by kernel_rfl) (by kernel_rfl) (by kernel_rfl) (by kernel_rfl) (fun _ _ _ h => h) (by rfl) ?_ ?_); rotate_left
  (intro wF; go_simp; try with_reducible rfl)
  (try simp only [Act.put, List.setIfInBounds_toArray, List.set_cons_zero, List.set_cons_succ])
  (refine floatM (i := 20) rfl (by kernel_rfl) (by kernel_rfl) (fun K hK => ?_)); go_simp
  refine hK.out _ _ (fun _ => HK.out _ (HG.out.keep0 K4.out)) ?_
  clear hK K
  (try simp only [Act.put, List.setIfInBounds_toArray, List.set_cons_zero, List.set_cons_succ])
  (refine floatE (by kernel_rfl) ?_)
  go_wp2_with fail
  go_ret
  refine ⟨?_, K4.out⟩
  show Ending.returned (.string (bs [105, 102, 32] ++ bs x.show ++ bs [32, 116, 104, 101, 110, 32] ++ bs u.show ++ bs [32, 101, 108, 115, 101, 32] ++ bs q.show)) = _
  rw [bs_append, bs_append, bs_append, bs_append, bs_append]
  simp [Ex.show, FUN, LP, RP, LET, IF]

end Go.Proofs.YtabikmkoajdhmaaDoor

/- ast.atom, and ast.Show at App and Rec, by contracts; ast.Show at every expression. -/
namespace Go.Proofs.YtabikmkoajdhmaaDoor
open Go.RowKit

def Ex.atomS (x : Ex) : Str := if isFlat x then x.show else LP ++ x.show ++ RP
set_option maxRecDepth 100000 in
set_option maxHeartbeats 4000000 in
theorem eatom (n : Nat) (ih : EShowOk n) (G : GH) (w : World) (v : Value) (x : Ex) (hG : Holds G w) (hx : ExR G v x) (hd : x.depth ≤ n) (hl : x.atomS.length ≤ 1000000000000) : Calls Tryd.prog 72 #[v] w fun e w' => e = .returned (.string (bs x.atomS)) ∧ Keep none' w w' := by
  have hls : x.show.length ≤ 1000000000000 := by
    unfold Ex.atomS at hl
    split at hl
    · exact hl
    · simp at hl; omega
  have hc := ih G w v x hG hx hd hls
  have HC := Lib.hid hc; have HL := Lib.hid hl
  have q1 : ¬ 9223372036854775807 < 1 + (bs x.show).size := by rw [bs_size]; omega
  have q2 : ¬ 9223372036854775807 < 1 + (bs x.show).size + 1 := by rw [bs_size]; omega
  clear hc ih hl hd
  cases hx with
  | name h =>
    clear hG
    have aNameName := taNameName
    have aNameNum := taNameNum
    have aNamePair := taNamePair
    clear hls
    go_enter Tryd.func72, Tryd.ntmps72
    go_wp2_with fail
    refine HC.out.mono ?_
    rintro e w2 ⟨rfl, k2⟩
    go_wp2_with fail
    go_ret
    exact ⟨by simp [Ex.atomS, isFlat], k2⟩
  | num h =>
    clear hG
    have aNumName := taNumName
    have aNumNum := taNumNum
    have aNumPair := taNumPair
    clear hls
    go_enter Tryd.func72, Tryd.ntmps72
    go_wp2_with fail
    refine HC.out.mono ?_
    rintro e w2 ⟨rfl, k2⟩
    go_wp2_with fail
    go_ret
    exact ⟨by simp [Ex.atomS, isFlat], k2⟩
  | fn h _ =>
    clear hG
    have aFunName := taFunName
    have aFunNum := taFunNum
    have aFunPair := taFunPair
    clear hls
    go_enter Tryd.func72, Tryd.ntmps72
    go_wp2_with fail
    refine HC.out.mono ?_
    rintro e w2 ⟨rfl, k2⟩
    go_wp2_with fail
    go_ret
    refine ⟨?_, k2⟩
    show Ending.returned (.string (bs LP ++ bs _ ++ bs RP)) = _
    rw [bs_append, bs_append]
    simp [Ex.atomS, isFlat]
  | app h _ _ =>
    clear hG
    have aAppName := taAppName
    have aAppNum := taAppNum
    have aAppPair := taAppPair
    clear hls
    go_enter Tryd.func72, Tryd.ntmps72
    go_wp2_with fail
    refine HC.out.mono ?_
    rintro e w2 ⟨rfl, k2⟩
    go_wp2_with fail
    go_ret
    refine ⟨?_, k2⟩
    show Ending.returned (.string (bs LP ++ bs _ ++ bs RP)) = _
    rw [bs_append, bs_append]
    simp [Ex.atomS, isFlat]
  | pair h _ _ =>
    clear hG
    have aPairName := taPairName
    have aPairNum := taPairNum
    have aPairPair := taPairPair
    clear hls
    go_enter Tryd.func72, Tryd.ntmps72
    go_wp2_with fail
    refine HC.out.mono ?_
    rintro e w2 ⟨rfl, k2⟩
    go_wp2_with fail
    go_ret
    exact ⟨by simp [Ex.atomS, isFlat], k2⟩
  | lt h _ _ =>
    clear hG
    have aLetName := taLetName
    have aLetNum := taLetNum
    have aLetPair := taLetPair
    clear hls
    go_enter Tryd.func72, Tryd.ntmps72
    go_wp2_with fail
    refine HC.out.mono ?_
    rintro e w2 ⟨rfl, k2⟩
    go_wp2_with fail
    go_ret
    refine ⟨?_, k2⟩
    show Ending.returned (.string (bs LP ++ bs _ ++ bs RP)) = _
    rw [bs_append, bs_append]
    simp [Ex.atomS, isFlat]
  | ite h _ _ _ =>
    clear hG
    have aIfName := taIfName
    have aIfNum := taIfNum
    have aIfPair := taIfPair
    clear hls
    go_enter Tryd.func72, Tryd.ntmps72
    go_wp2_with fail
    refine HC.out.mono ?_
    rintro e w2 ⟨rfl, k2⟩
    go_wp2_with fail
    go_ret
    refine ⟨?_, k2⟩
    show Ending.returned (.string (bs LP ++ bs _ ++ bs RP)) = _
    rw [bs_append, bs_append]
    simp [Ex.atomS, isFlat]
  | rc h _ _ _ _ _ =>
    clear hG
    have aRecName := taRecName
    have aRecNum := taRecNum
    have aRecPair := taRecPair
    clear hls
    go_enter Tryd.func72, Tryd.ntmps72
    go_wp2_with fail
    refine HC.out.mono ?_
    rintro e w2 ⟨rfl, k2⟩
    go_wp2_with fail
    go_ret
    refine ⟨?_, k2⟩
    show Ending.returned (.string (bs LP ++ bs _ ++ bs RP)) = _
    rw [bs_append, bs_append]
    simp [Ex.atomS, isFlat]

theorem ta_app {G : GH} {T : TypeId} {b : Nat} {x : Ex} (hx : ExR G (.iface T (.pointer (some ⟨b, 0, none⟩))) x) (w : World) :
    (Instr.typeAssert (.iface T (.pointer (some ⟨b, 0, none⟩))) 109 196 true).run Tryd.prog w = .ok (.tuple #[if isApp x then .pointer (some ⟨b, 0, none⟩) else .pointer none, .bool (isApp x)]) w := by
  cases hx
  · exact taNameApp _ _
  · exact taNumApp _ _
  · exact taFunApp _ _
  · exact taAppApp _ _
  · exact taPairApp _ _
  · exact taLetApp _ _
  · exact taIfApp _ _
  · exact taRecApp _ _

def appL (f : Ex) : Str := if isApp f then f.show else f.atomS
theorem app_show (f a : Ex) : (Ex.app f a).show = appL f ++ [32] ++ a.atomS := by
  simp only [Ex.show, appL, Ex.atomS]

set_option maxRecDepth 100000 in
set_option maxHeartbeats 4000000 in
theorem eshow_app (n : Nat) (ih : EShowOk n) (G : GH) (w : World) (b : Nat) (p : Int) (f a : Ex) (vf va : Value) (hG : Holds G w) (h : G b = some (.cells #[.int .i64 p, vf, va] 198)) (hf : ExR G vf f) (ha : ExR G va a) (hd : (Ex.app f a).depth ≤ n + 1) (hl : (Ex.app f a).show.length ≤ 1000000000000) :
    Calls Tryd.prog 43 #[.iface 196 (.pointer (some ⟨b, 0, none⟩))] w (EShowPost w (.app f a)) := by
  have hK : ∀ w', Holds G w' → w'.cell? ⟨b, 1, none⟩ = some vf ∧ w'.cell? ⟨b, 2, none⟩ = some va := fun w' hw => ⟨cell_of_heap (hw _ _ h) rfl, cell_of_heap (hw _ _ h) rfl⟩
  obtain ⟨Tf, bf, rfl⟩ := hf.shape
  obtain ⟨Ta, ba, rfl⟩ := ha.shape
  rw [app_show] at hl
  simp only [List.length_append, List.length_cons, List.length_nil] at hl
  have hfs : f.show.length ≤ 1000000000000 := by
    have : f.show.length ≤ (appL f).length := by
      unfold appL Ex.atomS
      split
      · exact Nat.le_refl _
      · split
        · exact Nat.le_refl _
        · simp; omega
    omega
  have hdf : f.depth ≤ n := by simp only [Ex.depth] at hd; omega
  have hda : a.depth ≤ n := by simp only [Ex.depth] at hd; omega
  have hta := ta_app hf
  have q1 : ¬ 9223372036854775807 < (bs (appL f)).size + 1 := by rw [bs_size]; omega
  have q2 : ¬ 9223372036854775807 < (bs (appL f)).size + 1 + (bs a.atomS).size := by rw [bs_size, bs_size]; omega
  have IH := Lib.hid ih; have HG := Lib.hid hG; have HK := Lib.hid hK; have HL := Lib.hid hl; have HF := Lib.hid hf; have HA := Lib.hid ha
  obtain ⟨c1, c2⟩ := hK w hG
  clear ih hG hK h hl hd hf ha
  have aAppName := taAppName
  have aAppNum := taAppNum
  have aAppFun := taAppFun
  have aAppPair := taAppPair
  have aAppLet := taAppLet
  have aAppIf := taAppIf
  have aAppRec := taAppRec
  have aAppApp := taAppApp
  go_enter Tryd.func43, Tryd.ntmps43
  go_wp2_with fail
  refine (IH.out G _ _ f HG.out HF.out hdf hfs).mono ?_
  rintro e w2 ⟨rfl, k2⟩
  obtain ⟨d1, d2⟩ := HK.out w2 (HG.out.keep0 k2)
  have K2 := Lib.hid k2; clear k2 c1 c2
  cases hfa : isApp f with
  | true =>
    simp only [hfa, if_true] at hta
    have HFA := Lib.hid hfa; clear hfa
    have e1 : appL f = f.show := by unfold appL; rw [if_pos HFA.out]
    rw [e1] at q1 q2
    have E1 := Lib.hid e1; clear e1
    go_wp2_with fail
    refine (eatom n IH.out G _ _ a (HG.out.keep0 K2.out) HA.out hda (by have := HL.out; omega)).mono ?_
    rintro e w3 ⟨rfl, k3⟩
    go_wp2_with fail
    go_ret
    refine ⟨?_, K2.out.trans k3⟩
    show Ending.returned (.string (bs _ ++ bs [32] ++ bs _)) = _
    rw [bs_append, bs_append, app_show, E1.out]
  | false =>
    simp only [hfa, Bool.false_eq_true, if_false] at hta
    have e1 : appL f = f.atomS := by unfold appL; rw [hfa]; simp
    have HFA := Lib.hid hfa; have E1 := Lib.hid e1; clear hfa
    rw [e1] at q1 q2
    clear e1
    go_wp2_with fail
    refine (eatom n IH.out G _ _ f (HG.out.keep0 K2.out) HF.out hdf (by have := HL.out; rw [E1.out] at this; omega)).mono ?_
    rintro e w3 ⟨rfl, k3⟩
    obtain ⟨c1, c2⟩ := HK.out w3 ((HG.out.keep0 K2.out).keep0 k3)
    have K3 := Lib.hid (K2.out.trans k3); clear k3 d1 d2
    go_wp2_with fail
    refine (eatom n IH.out G _ _ a (HG.out.keep0 K3.out) HA.out hda (by have := HL.out; omega)).mono ?_
    rintro e w4 ⟨rfl, k4⟩
    go_wp2_with fail
    go_ret
    refine ⟨?_, K3.out.trans k4⟩
    show Ending.returned (.string (bs _ ++ bs [32] ++ bs _)) = _
    rw [bs_append, bs_append, app_show, E1.out]

def Bs.items : Bs → List Str
  | .nil => []
  | .cons n x r => (n ++ [32, 61, 32] ++ x.show) :: r.items
theorem Bs.join : ∀ bd : Bs, bd.show = Lib.join bd.items [32, 97, 110, 100, 32]
  | .nil => rfl
  | .cons n x .nil => by simp [Bs.show, Bs.items, Lib.join, List.intercalate]
  | .cons n x (.cons m y r) => by
    have := Bs.join (.cons m y r)
    simp only [Bs.show, Bs.items, Lib.join, List.intercalate] at this ⊢
    rw [this]
    simp [List.intersperse]
theorem Bs.items_len : ∀ bd : Bs, bd.items.length = bd.exprs.length ∧ bd.names.length = bd.exprs.length
  | .nil => ⟨rfl, rfl⟩
  | .cons n x r => ⟨by simp [Bs.items, Bs.exprs, (Bs.items_len r).1], by simp [Bs.names, Bs.exprs, (Bs.items_len r).2]⟩
theorem Bs.item_at : ∀ (bd : Bs) (j : Nat) (h : j < bd.items.length) (h1 : j < bd.names.length) (h2 : j < bd.exprs.length), bd.items[j] = bd.names[j] ++ [32, 61, 32] ++ (bd.exprs[j]).show
  | .cons n x r, 0, _, _, _ => rfl
  | .cons n x r, j + 1, h, h1, h2 => by
    simp only [Bs.items, Bs.names, Bs.exprs, List.getElem_cons_succ]
    exact Bs.item_at r j _ _ _
theorem Bs.depth_at : ∀ (bd : Bs) (x : Ex), x ∈ bd.exprs → x.depth ≤ bd.depth
  | .cons n y r, x, h => by
    simp only [Bs.exprs, List.mem_cons] at h
    simp only [Bs.depth]
    rcases h with rfl | h
    · omega
    · have := Bs.depth_at r x h; omega
theorem join_mem (sep : Str) : ∀ (l : List Str) (a : Str), a ∈ l → a.length ≤ (Lib.join l sep).length
  | [a], b, h => by simp at h; subst h; simp [Lib.join, List.intercalate]
  | a :: c :: r, b, h => by
    have e : Lib.join (a :: c :: r) sep = a ++ sep ++ Lib.join (c :: r) sep := by simp [Lib.join, List.intercalate, List.intersperse]
    rw [e]
    simp only [List.length_append]
    rcases List.mem_cons.1 h with rfl | h
    · omega
    · have := join_mem sep (c :: r) b h; omega
theorem own_cells {w : World} {base : Nat} {e : TypeId} {v : Value} {n : Nat} {xs : List Value} (h : w.ownsRow base e 1 v n xs) (hn : 0 < n) : ∃ g cap, v = .slice (some ⟨g, 0, none⟩) n cap ∧ n ≤ cap ∧ g < w.heap.size ∧ ∀ (j : Nat) u, xs[j]? = some u → w.cell? ⟨g, j, none⟩ = some u := by
  have h1 := h
  rcases h.2 with ⟨_, rfl⟩ | ⟨g, cap, cur, rfl, rest⟩
  · omega
  · refine ⟨g, cap, rfl, ?_, (h1.lt g rfl).2, fun j u hu => ?_⟩
    · exact rest.2.2.1
    · have hadd : (⟨g, 0, none⟩ : Addr).add j = ⟨g, j, none⟩ := by unfold Addr.add; split <;> simp_all
      rw [← hadd]
      exact h1.cells (g := g) rfl j u hu

set_option maxRecDepth 100000 in
set_option maxHeartbeats 4000000 in
theorem eshow_rc (n : Nat) (ih : EShowOk n) (G : GH) (w : World) (b : Nat) (p : Int) (nv lv ev : Value) (vs : List Value) (bd : Bs) (x : Ex) (hG : Holds G w) (h : G b = some (.cells #[.int .i64 p, nv, lv, ev] 194))
    (hns : SlR G nv (bd.names.map fun n => .string (bs n))) (hls : SlR G lv vs) (hbs : BsR G vs bd) (hne : vs ≠ [] ∧ vs.length ≤ 1000000000) (hx : ExR G ev x) (hd : (Ex.rc bd x).depth ≤ n + 1) (hl : (Ex.rc bd x).show.length ≤ 1000000000000) :
    Calls Tryd.prog 43 #[.iface 191 (.pointer (some ⟨b, 0, none⟩))] w (EShowPost w (.rc bd x)) := by
  have hK : ∀ w', Holds G w' → w'.cell? ⟨b, 1, none⟩ = some nv ∧ w'.cell? ⟨b, 2, none⟩ = some lv ∧ w'.cell? ⟨b, 3, none⟩ = some ev := fun w' hw => ⟨cell_of_heap (hw _ _ h) rfl, cell_of_heap (hw _ _ h) rfl, cell_of_heap (hw _ _ h) rfl⟩
  obtain ⟨Te, be, rfl⟩ := hx.shape
  obtain ⟨an, cn, rfl, hcn⟩ := hns.shape
  obtain ⟨al, cl, rfl, hcl⟩ := hls.shape
  have hbl := hbs.list
  have hlen : vs.length = bd.exprs.length := hbl.1
  obtain ⟨li, ln⟩ := bd.items_len
  have hnl : (bd.names.map fun n => Value.string (bs n)).length = vs.length := by simp [ln, hlen]
  rw [hnl] at hK
  have hvl : vs.length ≤ 1000000000 := hne.2
  have hvp : 0 < vs.length := List.length_pos_iff.2 hne.1
  have hT : bd.show.length + x.show.length + 12 ≤ 1000000000000 + 12 := by
    have := hl
    simp [Ex.show, LET, REC, List.length_append] at this
    omega
  have hdx : x.depth ≤ n := by simp only [Ex.depth] at hd; omega
  have hdb : bd.depth ≤ n := by simp only [Ex.depth] at hd; omega
  obtain ⟨is, his, zs0, zs1, zs2⟩ := info_parts info_str
  obtain ⟨c1, c2, c3⟩ := hK w hG
  have IH := Lib.hid ih; have HG := Lib.hid hG; have HK := Lib.hid hK; have HL := Lib.hid hl; have HX := Lib.hid hx; have HCN := Lib.hid hcn; have HCL := Lib.hid hcl; have HBL := Lib.hid hbl; have HLI := Lib.hid li; have HLN := Lib.hid ln; have HLen := Lib.hid hlen
  clear ih hG hK h hl hx hns hls hcn hcl hbl hbs li ln hlen hd hne hnl
  have aRecName := taRecName
  have aRecNum := taRecNum
  have aRecFun := taRecFun
  have aRecPair := taRecPair
  have aRecLet := taRecLet
  have aRecIf := taRecIf
  have aRecRec := taRecRec
  go_enter Tryd.func43, Tryd.ntmps43
  go_wp2_with fail
  go_loopg [10, 117] vs.length (fun gn s10 s117 wr => ∃ j : Nat, j ≤ vs.length ∧ Hid (gn = vs.length - j) ∧ s117 = .int .i64 j ∧ Hid (wr.ownsRow w.heap.size 9 1 s10 j ((bd.items.take j).map fun s => .string (bs s))) ∧ Hid (Keep none' w wr))
  case atStart => exact ⟨0, by omega, Lib.hid rfl, rfl, Lib.hid (World.ownsRow_nil _ _ _ _), Lib.hid (Keep.refl _ _)⟩
  case round =>
    obtain ⟨j, hj, HM, rfl, HO, HK2⟩ := hrel
    have hjj : (0 : Int) ≤ (j : Int) := by omega
    have hGr := HG.out.keep0 HK2.out
    obtain ⟨d1, d2, d3⟩ := HK.out wr hGr
    by_cases hlt : j < vs.length
    · have hltn : j < bd.names.length := by have := HLen.out; have := HLN.out; omega
      have hlte : j < bd.exprs.length := by have := HLen.out; omega
      have hlti : j < bd.items.length := by have := HLen.out; have := HLI.out; omega
      obtain ⟨bn, rfl, cn1⟩ := HCN.out wr hGr j (.string (bs bd.names[j])) (by simp [hltn])
      obtain ⟨bl, rfl, cl1⟩ := HCL.out wr hGr j vs[j] (by simp [hlt])
      have hxj := HBL.out.2 j vs[j] (bd.exprs[j]) (by simp [hlt]) (by simp [hlte])
      obtain ⟨Tj, bj, e⟩ := hxj.shape
      rw [e] at cl1 hxj
      have hji : ((j : Int) < (vs.length : Int)) := by omega
      have hdj : (bd.exprs[j]).depth ≤ n := Nat.le_trans (bd.depth_at _ (List.getElem_mem hlte)) hdb
      have hil : (bd.items[j]).length ≤ bd.show.length := by rw [Bs.join]; exact join_mem _ _ _ (List.getElem_mem hlti)
      have hie := bd.item_at j hlti hltn hlte
      have hie' := congrArg List.length hie
      simp only [List.length_append, List.length_cons, List.length_nil] at hie'
      have q1 : ¬ 9223372036854775807 < (bs bd.names[j]).size + 3 := by rw [bs_size]; omega
      have q2 : ¬ 9223372036854775807 < (bs bd.names[j]).size + 3 + (bs (bd.exprs[j]).show).size := by rw [bs_size, bs_size]; omega
      have hsj : (bd.exprs[j]).show.length ≤ 1000000000000 := by omega
      have HXJ := Lib.hid hxj; have HIE := Lib.hid hie
      clear hxj e hie hie' hil
      go_wp2_with fail
      refine (IH.out G wr _ _ hGr HXJ.out hdj hsj).mono ?_
      rintro e w2 ⟨rfl, k2⟩
      have own2 := own_keep HO.out k2 (fun _ _ x => x)
      obtain ⟨ao, cap, rfl, _⟩ := own_shape own2
      have HK3 := Lib.hid (HK2.out.trans k2)
      have hsz := HK3.out.size
      clear k2 hGr
      have hb : w.heap.size ≤ w2.heap.size := by have := HK3.out.size; omega
      go_wp2_with (first | (at_builtin; refine wpList_append_own_at _ rfl _ _ 39 rfl w.heap.size 9 is (.string ByteArray.empty) 1 16 und_strs his zs0 zs1 zs2 rfl (by decide) (.slice ao j cap) j _ rfl (own2.alloc _) ⟨w2.heap.size, 0, none⟩ 1 1 [.string (bs bd.names[j] ++ bs [32, 61, 32] ++ bs (bd.exprs[j]).show)] rfl rfl (cell_one_new _ _ _) (fun x hx => by simp at hx; subst hx; rfl) (by unfold maxLen; omega) (by omega) (by simp; omega) ?_; intro v4 w4 own4 g4 _ at4))
      have k4 : Keep none' w w4 := Keep.grown0 (HK3.out.trans (Keep.alloc _ _ _)) g4 (fun b e => (own2.lt b e).1)
      have own5 : w4.ownsRow w.heap.size 9 1 v4 (j + 1) ((bd.items.take (j + 1)).map fun s => .string (bs s)) := by
        rw [List.take_succ_eq_append_getElem hlti, List.map_append, HIE.out]
        rw [bs_append, bs_append] at own4
        exact own4
      have HO5 := Lib.hid own5; have HK5 := Lib.hid k4
      clear own2 own4 own5 g4 at4 k4 hb
      go_wp2_with fail
      go_roundg (vs.length - (j + 1))
      case measure => have := HM.out; omega
      case rel => exact ⟨j + 1, by omega, Lib.hid rfl, by go_num, HO5, HK5⟩
    · have hje : j = vs.length := by omega
      subst hje
      have ht : bd.items.take vs.length = bd.items := by rw [HLen.out, ← HLI.out, List.take_length]
      have own := HO.out
      rw [ht] at own
      obtain ⟨g, cap, rfl, hcap, hgl, hcells⟩ := own_cells own hvp
      have hil : vs.length = bd.items.length := by have := HLen.out; have := HLI.out; omega
      have HJ := Lib.hid (Tryd.strings_Join g 0 cap (bd.items.map bs) (bs [32, 97, 110, 100, 32]))
      have HCELLS := Lib.hid hcells; have HIL := Lib.hid hil
      clear hcells own HO ht hil
      go_wp2_with fail
      have S0 := (HK.out wr.drew (hGr.keep0 (Keep.drew _ _))).2.2
      refine wp_region_float (fun w' => w'.cell? ⟨b, 3, none⟩ = some (.iface Te (.pointer (some ⟨be, 0, none⟩)))) [0, 2, 3, 4, 5, 6, 9] [7] (by kernel_rfl) ?_
      (refine float0 (i := 0) (v := ?_) rfl (by kernel_rfl) (by kernel_rfl) (by kernel_rfl) (by kernel_rfl) (fun _ _ _ h => h) (by rfl) ?_ ?_); rotate_left
      (intro wF; go_simp; try with_reducible rfl)
      (try simp only [Act.put, List.setIfInBounds_toArray, List.set_cons_zero, List.set_cons_succ])
      (refine float0 (i := 4) (v := ?_) rfl (by kernel_rfl) (by kernel_rfl) (by kernel_rfl) (by kernel_rfl) (fun _ _ _ h => h) (by rfl) ?_ ?_); rotate_left
      (intro wF; go_simp; try with_reducible rfl)
      (try simp only [Act.put, List.setIfInBounds_toArray, List.set_cons_zero, List.set_cons_succ])
      (refine float0 (i := 5) (v := ?_) rfl (by kernel_rfl) (by kernel_rfl) (by kernel_rfl) (by kernel_rfl) (fun _ _ _ h => h) (by rfl) ?_ ?_); rotate_left
      (intro wF; go_simp; try with_reducible rfl)
      (try simp only [Act.put, List.setIfInBounds_toArray, List.set_cons_zero, List.set_cons_succ])
      (refine float0 (i := 6) (v := ?_) rfl (by kernel_rfl) (by kernel_rfl) (by kernel_rfl) (by kernel_rfl) (fun _ _ _ h => h) (by rfl) ?_ ?_); rotate_left
      (intro wF; go_simp; try with_reducible rfl)
      (try simp only [Act.put, List.setIfInBounds_toArray, List.set_cons_zero, List.set_cons_succ])
      (refine floatS (i := 7) (v := ?_) rfl (by kernel_rfl) (by kernel_rfl) (by kernel_rfl) (by kernel_rfl) (fun _ _ _ h => h) (by assumption) (by rfl) ?_ ?_); rotate_left
      (intro wF hF; (try dsimp only at hF); go_simp; try with_reducible rfl)
      (try simp only [Act.put, List.setIfInBounds_toArray, List.set_cons_zero, List.set_cons_succ])
      have hj := HJ.out wr.drew (fun j u hu => by
        rw [List.getElem?_map] at hu
        obtain ⟨s, hs, rfl⟩ := Option.map_eq_some_iff.1 hu
        have := HCELLS.out j (.string (bs s)) (by rw [List.getElem?_map, hs]; rfl)
        rw [Nat.zero_add]; exact this) hgl (by rw [List.length_map, ← HIL.out]; omega) (by rw [List.length_map, ← HIL.out]; exact hcap) (by
          rw [List.map_map, show ((fun x : ByteArray => x.data.toList) ∘ bs) = id from funext bs_toList, List.map_id, bs_toList, ← Bs.join]; omega)
      rw [List.map_map, show ((fun x : ByteArray => x.data.toList) ∘ bs) = id from funext bs_toList, List.map_id, bs_toList, ← Bs.join, List.length_map, ← HIL.out] at hj
      have HJ2 := Lib.hid hj; clear hj HJ
      (refine floatM (i := 1) rfl (by kernel_rfl) (by kernel_rfl) (fun K hK => ?_)); go_simp
      refine HJ2.out.mono ?_
      rintro e w3 ⟨rfl, hbw⟩
      have k3 : Keep none' w w3 := (HK2.out.trans (Keep.drew _ _)).trans (Keep.of_below hbw)
      have hH3 := HG.out.keep0 k3
      have hsh : (⟨bd.show.toArray⟩ : ByteArray) = bs bd.show := rfl
      rw [hsh]
      have q1 : ¬ 9223372036854775807 < 8 + (bs bd.show).size := by rw [bs_size]; omega
      have q2 : ¬ 9223372036854775807 < 8 + (bs bd.show).size + 4 := by rw [bs_size]; omega
      have q3 : ¬ 9223372036854775807 < 8 + (bs bd.show).size + 4 + (bs x.show).size := by rw [bs_size, bs_size]; omega
      have hsx : x.show.length ≤ 1000000000000 := by omega
      have HK3 := Lib.hid k3; clear k3 hbw hsh HJ2
      go_wp2_with fail
      refine hK.out _ _ (fun _ => (HK.out _ hH3).2.2) ?_
      clear hK K
      (try simp only [Act.put, List.setIfInBounds_toArray, List.set_cons_zero, List.set_cons_succ])
      (refine float0 (i := 2) (v := ?_) rfl (by kernel_rfl) (by kernel_rfl) (by kernel_rfl) (by kernel_rfl) (fun _ _ _ h => h) (by rfl) ?_ ?_); rotate_left
      (intro wF; go_simp; try with_reducible rfl)
      (try simp only [Act.put, List.setIfInBounds_toArray, List.set_cons_zero, List.set_cons_succ])
      (refine float0 (i := 3) (v := ?_) rfl (by kernel_rfl) (by kernel_rfl) (by kernel_rfl) (by kernel_rfl) (fun _ _ _ h => h) (by rfl) ?_ ?_); rotate_left
      (intro wF; go_simp; try with_reducible rfl)
      (try simp only [Act.put, List.setIfInBounds_toArray, List.set_cons_zero, List.set_cons_succ])
      (refine floatM (i := 8) rfl (by kernel_rfl) (by kernel_rfl) (fun K hK => ?_)); go_simp
      refine (IH.out G w3 _ x hH3 HX.out hdx hsx).mono ?_
      rintro e w4 ⟨rfl, k4⟩
      have hH4 := hH3.keep0 k4
      have HK4 := Lib.hid (HK3.out.trans k4); clear k4 hH3
      go_wp2_with fail
      refine hK.out _ _ (fun _ => (HK.out _ hH4).2.2) ?_
      clear hK K
      (try simp only [Act.put, List.setIfInBounds_toArray, List.set_cons_zero, List.set_cons_succ])
      (refine float0 (i := 9) (v := ?_) rfl (by kernel_rfl) (by kernel_rfl) (by kernel_rfl) (by kernel_rfl) (fun _ _ _ h => h) (by rfl) ?_ ?_); rotate_left
      (intro wF; go_simp; try with_reducible rfl)
      (try simp only [Act.put, List.setIfInBounds_toArray, List.set_cons_zero, List.set_cons_succ])
      (refine floatM (i := 10) rfl (by kernel_rfl) (by kernel_rfl) (fun K hK => ?_)); go_simp
      refine hK.out _ _ (fun _ => (HK.out _ hH4).2.2) ?_
      clear hK K
      (try simp only [Act.put, List.setIfInBounds_toArray, List.set_cons_zero, List.set_cons_succ])
      (refine floatE (by kernel_rfl) ?_)
      go_wp2_with fail
      go_ret
      refine ⟨?_, HK4.out⟩
      show Ending.returned (.string (bs [108, 101, 116, 32, 114, 101, 99, 32] ++ bs bd.show ++ bs [32, 105, 110, 32] ++ bs x.show)) = _
      rw [bs_append, bs_append, bs_append]
      simp [Ex.show, LET, REC]

theorem eshow_ok : ∀ n, n ≤ 1000000000 → EShowOk n
  | 0, _ => fun G w v x hG hx hd hl => by cases x <;> simp [Ex.depth] at hd
  | n + 1, h => fun G w v x hG hx hd hl => by
    have ih := eshow_ok n (by omega)
    cases hx with
    | name h => exact eshow_name G w _ _ _ hG h
    | num h => exact eshow_num G w _ _ _ hG h
    | fn h a => exact eshow_fn n ih G w _ _ _ _ _ hG h a hd hl
    | app h a b => exact eshow_app n ih G w _ _ _ _ _ _ hG h a b hd hl
    | pair h a b => exact eshow_pair n ih G w _ _ _ _ _ _ hG h a b hd hl
    | lt h a b => exact eshow_lt n ih G w _ _ _ _ _ _ _ hG h a b hd hl
    | ite h a b c => exact eshow_ite n ih G w _ _ _ _ _ _ _ _ hG h a b c hd hl
    | rc h a b c d e => exact eshow_rc n ih G w _ _ _ _ _ _ _ _ hG h a b c d e hd hl
end Go.Proofs.YtabikmkoajdhmaaDoor

/- types.occurs by a contract. -/
namespace Go.Proofs.YtabikmkoajdhmaaDoor
open Go.RowKit

end Go.Proofs.YtabikmkoajdhmaaDoor

/- types.Unify: its plain function, on types with all that has been found out put in; what it leaves; words and plain lemmas. -/
namespace Go.Proofs.YtabikmkoajdhmaaDoor
open Go.RowKit
/-- What has been found out is d. -/
structure DSame (G : GH) (A : GV) (n : Nat) (w : World) (d : Dl) (w' : World) : Prop where
  keep : Keep (isV A) w w'
  inv : TInv G A w' n
  tr : ∀ v t, TR G A w v t → TR G A w' v (app d t)
theorem DSame.trans {G : GH} {A : GV} {n : Nat} {a b c : World} {d e : Dl} (h : DSame G A n a d b) (k : DSame G A n b e c) : DSame G A n a (d ++ e) c :=
  ⟨h.keep.trans k.keep, k.inv, fun v t r => by rw [app_append]; exact k.tr _ _ (h.tr _ _ r)⟩
theorem DSame.trs {G : GH} {A : GV} {n : Nat} {w w' : World} {d : Dl} (h : DSame G A n w d w') : ∀ {vs : List Value} {ts : List Ty}, TRs G A w vs ts → TRs G A w' vs (ts.map (app d))
  | _, _, .nil => .nil
  | _, _, .cons a b => .cons (h.tr _ _ a) (h.trs b)
/-- A variable bound. -/
theorem DSame.bind {G : GH} {A : GV} {w : World} {n N b : Nat} {nm : Str} {u : Value} {s : Ty} (hi : TInv G A w n) (hN : A N = some (b, nm)) (hb : w.heap[b]? = some (varObj N .nilIface nm)) (hu : TR G A w u s) (hs : s.has N = false) : DSame G A n w [(N, s)] (w.setCell ⟨b, 1, none⟩ u) :=
  ⟨set_keep hN u, set_inv hi hN hb u, fun v t r => bind_all hi hN hb hu hs r⟩

end Go.Proofs.YtabikmkoajdhmaaDoor

/- types.Unify and types.same by contracts. -/
namespace Go.Proofs.YtabikmkoajdhmaaDoor
open Go.RowKit
theorem str_eq2 (a b : Str) : ((bs a).toList == (bs b).toList) = decide (a = b) := by
  have e : (bs b).toList = b := by rw [ByteArray.toList_eq]; exact bs_toList b
  rw [e, str_is]
theorem drop_cons {α : Type} {l : List α} {j : Nat} (h : j < l.length) : l.drop j = l[j] :: l.drop (j + 1) := by rw [List.drop_eq_getElem_cons h]
end Go.Proofs.YtabikmkoajdhmaaDoor
