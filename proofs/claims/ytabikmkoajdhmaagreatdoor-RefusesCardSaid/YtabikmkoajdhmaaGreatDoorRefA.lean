/- The law Refuses' own helpers by contracts: the fifty-five texts; is it an error at that place? -/
import Derived.Test.YtabikmkoajdhmaaGreatDoorQ04
import Derived.Great.BuildSlice
import Derived.Laws.AppendOwn
import Derived.Maps.AppendAt
import Derived.Test.YtabikmkoajdhmaaGreatDoorQ38
import Derived.Test.YtabikmkoajdhmaaGreatDoorQ39
set_option linter.unusedVariables false
set_option linter.unusedSimpArgs false
namespace Go.Proofs.YtabikmkoajdhmaaGreatDoor
open Go.RowKit

structure Fau where
  s : Str
  exp : Int
  ty : Int
def longB (n : Nat) : Str := 120 :: List.replicate n 32
def deepB : Nat → Str
  | 0 => [120]
  | n + 1 => [102, 40] ++ deepB n ++ [41]
def kFaultsOf (l d d2 : Str) : List Fau := [
  ⟨l, -1, -1⟩,
  ⟨d, -1, 1⟩,
  ⟨d2, -2, 1⟩,
  ⟨[], 0, 0⟩,
  ⟨[120, 32, 121], -1, 2⟩,
  ⟨[49], -1, 0⟩,
  ⟨[120, 49], -1, -1⟩,
  ⟨[88], 0, 0⟩,
  ⟨[97, 98, 99, 100, 101, 102, 103, 104], -1, -1⟩,
  ⟨[97, 98, 99, 100, 101, 102, 103, 104, 105], 0, 0⟩,
  ⟨[49, 50, 51, 52, 53, 54, 55, 56], -1, 0⟩,
  ⟨[49, 50, 51, 52, 53, 54, 55, 56, 57], 0, 0⟩,
  ⟨[40, 120, 41], -1, -1⟩,
  ⟨[40, 41], 1, 1⟩,
  ⟨[40, 120, 44, 32, 121, 41], -1, -1⟩,
  ⟨[40, 120, 44, 32, 121, 44, 32, 122, 41], 5, 5⟩,
  ⟨[40, 120], 2, 2⟩,
  ⟨[120, 41], 1, 1⟩,
  ⟨[120, 44], 1, 1⟩,
  ⟨[105, 110, 116], -1, -1⟩,
  ⟨[91, 105, 110, 116, 93], 0, -1⟩,
  ⟨[91, 93], 0, 1⟩,
  ⟨[91, 97], 0, 2⟩,
  ⟨[97, 32, 45, 62, 32, 98], 2, -1⟩,
  ⟨[97, 32, 45, 32, 98], 2, 2⟩,
  ⟨[97, 32, 45, 62], 2, 4⟩,
  ⟨[45, 62, 32, 97], 0, 0⟩,
  ⟨[40, 97, 32, 45, 62, 32, 98, 41, 32, 45, 62, 32, 91, 99, 93], 3, -1⟩,
  ⟨[97, 32, 45, 62, 32, 40, 98, 44, 32, 91, 98, 111, 111, 108, 93, 41, 32, 45, 62, 32, 99], 2, -1⟩,
  ⟨[102, 117, 110], 3, -1⟩,
  ⟨[102, 117, 110, 32, 120], 5, 4⟩,
  ⟨[102, 117, 110, 32, 120, 32, 45, 62, 32], 9, 4⟩,
  ⟨[102, 117, 110, 32, 49, 32, 45, 62, 32, 120], 4, 4⟩,
  ⟨[102, 117, 110, 32, 108, 101, 116, 32, 45, 62, 32, 120], 4, 4⟩,
  ⟨[102, 117, 110, 32, 120, 32, 45, 62, 32, 120], -1, 4⟩,
  ⟨[108, 101, 116], 3, -1⟩,
  ⟨[108, 101, 116, 32, 120], 5, 4⟩,
  ⟨[108, 101, 116, 32, 120, 32, 61, 32, 49], 9, 4⟩,
  ⟨[108, 101, 116, 32, 120, 32, 61, 32, 49, 32, 105, 110], 12, 4⟩,
  ⟨[108, 101, 116, 32, 120, 32, 61, 32, 49, 32, 105, 110, 32, 120], -1, 4⟩,
  ⟨[108, 101, 116, 32, 114, 101, 99], 7, 4⟩,
  ⟨[108, 101, 116, 32, 114, 101, 99, 32, 102, 32, 61, 32, 49, 32, 97, 110, 100, 32, 102, 32, 61, 32, 50, 32, 105, 110, 32, 49], 18, 4⟩,
  ⟨[108, 101, 116, 32, 114, 101, 99, 32, 102, 32, 61, 32, 49, 32, 97, 110, 100, 32, 103, 32, 61, 32, 50, 32, 105, 110, 32, 49], -1, 4⟩,
  ⟨[108, 101, 116, 32, 102, 32, 61, 32, 49, 32, 97, 110, 100, 32, 103, 32, 61, 32, 50, 32, 105, 110, 32, 49], 10, 4⟩,
  ⟨[114, 101, 99], 0, -1⟩,
  ⟨[105, 102, 32, 120, 32, 116, 104, 101, 110, 32, 121], 11, 3⟩,
  ⟨[105, 102, 32, 120, 32, 116, 104, 101, 110, 32, 121, 32, 101, 108, 115, 101], 16, 3⟩,
  ⟨[105, 102, 32, 120, 32, 116, 104, 101, 110, 32, 121, 32, 101, 108, 115, 101, 32, 122], -1, 3⟩,
  ⟨[102, 32, 102, 117, 110, 32, 120, 32, 45, 62, 32, 120], 2, 2⟩,
  ⟨[102, 32, 105, 102], 2, 2⟩,
  ⟨[120, 32, 61, 32, 121], 2, 2⟩,
  ⟨[120, 9, 121], 1, 1⟩,
  ⟨[120, 10, 32, 121], -1, 3⟩,
  ⟨[120, 32, 91, 121, 93], 2, 2⟩,
  ⟨[102, 32, 49, 120], -1, 2⟩]
def kFaults : List Fau := kFaultsOf (longB 299) (deepB 39) (deepB 40)
/-- Is it an error at that place (-1: none; -2: too deep)? -/
def wrongB (what : Int) (pos : Nat) (at' : Int) (t : Str) : Bool :=
  if at' = -1 then decide (what = 0) && !decide (t = [])
  else if at' = -2 then decide (t = []) && decide (what = 3)
  else decide (t = []) && decide (what = 2) && decide ((pos : Int) = at')
theorem str_nil (t : Str) : ((bs t).toList == []) = decide (t = []) := by
  have e : (bs t).toList = t := by rw [ByteArray.toList_eq]; exact bs_toList t
  rw [e]
  cases t <;> simp
def WrongPost (what : Int) (pos : Nat) (at' : Int) (t : Str) (w : World) (e : Ending) (w' : World) : Prop := e = .returned (.bool (wrongB what pos at' t)) ∧ Keep none' w w'
set_option maxHeartbeats 800000 in
theorem wrong_ok (what : Int) (pos : Nat) (s : ByteArray) (i j : Int) (at' : Int) (t : Str) (w : World) : Calls Tryz.prog 15 #[.agg #[.int .i64 what, .int .i64 pos, .string s, .int .i64 i, .int .i64 j], .int .i64 at', .string (bs t)] w (WrongPost what pos at' t w) := by
  have q := str_nil t
  by_cases ht : t = []
  all_goals
    simp only [ht, decide_true, decide_false] at q
    by_cases h1 : at' = -1
    · subst h1
      by_cases h2 : what = 0
      all_goals
        have q2 : (what == 0) = decide (what = 0) := by rw [Bool.eq_iff_iff]; simp
        simp only [h2, decide_true, decide_false] at q2
        go_enter Tryz.func15, Tryz.ntmps15
        go_wp2_with fail
        go_ret
        exact ⟨by simp [wrongB, ht, h2], Keep.alloc _ _ _⟩
    · have p1 : (at' == -1) = false := by simp [h1]
      by_cases h3 : at' = -2
      · subst h3
        by_cases h2 : what = 3
        all_goals
          have q2 : (what == 3) = decide (what = 3) := by rw [Bool.eq_iff_iff]; simp
          simp only [h2, decide_true, decide_false] at q2
          go_enter Tryz.func15, Tryz.ntmps15
          go_wp2_with fail
          go_ret
          exact ⟨by simp [wrongB, ht, h2], Keep.alloc _ _ _⟩
      · have p2 : (at' == -2) = false := by simp [h3]
        by_cases h2 : what = 2
        all_goals
          have q2 : (what == 2) = decide (what = 2) := by rw [Bool.eq_iff_iff]; simp
          simp only [h2, decide_true, decide_false] at q2
          by_cases h4 : (pos : Int) = at'
          all_goals
            have q4 : ((pos : Int) == at') = decide ((pos : Int) = at') := by rw [Bool.eq_iff_iff]; simp
            simp only [h4, decide_true, decide_false] at q4
            go_enter Tryz.func15, Tryz.ntmps15
            go_wp2_with fail
            go_ret
            exact ⟨by simp [wrongB, ht, h1, h2, h3, h4], Keep.alloc _ _ _⟩

def fauV (x : Fau) : List Value := [.string (bs x.s), .int .i64 x.exp, .int .i64 x.ty]
theorem longB_snoc (n : Nat) : longB n ++ [32] = longB (n + 1) := by simp [longB, List.replicate_succ']
theorem longB_len (n : Nat) : (longB n).length = n + 1 := by simp [longB]
theorem deepB_len : ∀ n, (deepB n).length = 3 * n + 1
  | 0 => rfl
  | n + 1 => by simp [deepB, deepB_len n]; omega
theorem kFaults_len (l d d2 : Str) : (kFaultsOf l d d2).length = 55 := rfl
theorem und_faults : Tryz.prog.underlying 22 = some (.slice 26) := by kernel_rfl
theorem info_fault : (Tryz.prog.info? 26).map (fun i => (i.zero, i.size, i.bytes)) = some (some (.agg #[.string ⟨#[]⟩, .int .i64 0, .int .i64 0]), 3, 32) := by kernel_rfl
set_option maxRecDepth 100000 in
set_option maxHeartbeats 4000000 in
theorem faults_ok (w : World) : Calls Tryz.prog 11 #[] w fun e w' => ∃ b, e = .returned (.slice (some ⟨b, 0, none⟩) 55 55) ∧ w.heap.size ≤ b ∧ Keep none' w w' ∧ w'.heap[b]? = some (.cells (kFaults.flatMap fauV).toArray 26) := by
  go_enter Tryz.func11, Tryz.ntmps11
  go_wp2_with fail
  go_loopg [1] 299 (fun gn s2 wr => ∃ j : Nat, j ≤ 299 ∧ Hid (gn = 299 - j) ∧ s2 = .string (bs (longB j)) ∧ wr = w)
  case atStart => exact ⟨0, by omega, Lib.hid rfl, rfl, rfl⟩
  case round =>
    obtain ⟨j, hj, HM, rfl, rfl⟩ := hrel
    have hl := longB_len j
    have hsz := bs_size (longB j)
    by_cases hlt : j < 299
    · have hi : (((bs (longB j)).size : Int) < 300) := by omega
      have q1 : ¬ 9223372036854775807 < (bs (longB j)).size + 1 := by omega
      clear hl hsz
      go_wp2_with fail
      go_roundg (299 - (j + 1))
      case measure => have := HM.out; omega
      case rel => exact ⟨j + 1, by omega, Lib.hid rfl, congrArg Value.string ((bs_append _ [32]).trans (congrArg bs (longB_snoc j))), rfl⟩
    · have hje : j = 299 := by omega
      subst hje
      have hi : ¬ (((bs (longB 299)).size : Int) < 300) := by omega
      obtain ⟨L, hL⟩ : ∃ L, L = longB 299 := ⟨_, rfl⟩
      have HL := Lib.hid hL
      rw [← hL] at hi ⊢
      clear hl hsz hL
      go_wp2_with fail
      go_loopg [2, 8] 39 (fun gn s2 s8 wr2 => ∃ j : Nat, j ≤ 39 ∧ Hid (gn = 39 - j) ∧ s2 = .string (bs (deepB j)) ∧ s8 = .int .i64 j ∧ wr2 = wr)
      case atStart => exact ⟨0, by omega, Lib.hid rfl, rfl, rfl, rfl⟩
      case round =>
        obtain ⟨j, hj, HM2, rfl, rfl, rfl⟩ := hrel
        have hl := deepB_len j
        have hsz := bs_size (deepB j)
        have hjj : (0 : Int) ≤ (j : Int) := by omega
        by_cases hlt : j < 39
        · have hji : ((j : Int) < 39) := by omega
          have q1 : ¬ 9223372036854775807 < 2 + (bs (deepB j)).size := by omega
          have q2 : ¬ 9223372036854775807 < 2 + (bs (deepB j)).size + 1 := by omega
          clear hl hsz
          go_wp2_with fail
          go_roundg (39 - (j + 1))
          case measure => have := HM2.out; omega
          case rel => exact ⟨j + 1, by omega, Lib.hid rfl, congrArg Value.string (show bs [102, 40] ++ bs (deepB j) ++ bs [41] = bs (deepB (j + 1)) by rw [bs_append, bs_append]; rfl), by go_num, rfl⟩
        · have hje : j = 39 := by omega
          subst hje
          have q1 : ¬ 9223372036854775807 < 2 + (bs (deepB 39)).size := by omega
          have q2 : ¬ 9223372036854775807 < 2 + (bs (deepB 39)).size + 1 := by omega
          have hD2 : bs [102, 40] ++ bs (deepB 39) ++ bs [41] = bs (deepB 40) := by rw [bs_append, bs_append]; rfl
          obtain ⟨D, hD⟩ : ∃ D, D = deepB 39 := ⟨_, rfl⟩
          obtain ⟨D2, hDD⟩ : ∃ D2, D2 = deepB 40 := ⟨_, rfl⟩
          rw [← hD] at q1 q2 hD2 ⊢
          rw [← hDD] at hD2
          have HD := Lib.hid hD; have HDD := Lib.hid hDD; have HD2 := Lib.hid hD2
          clear hl hsz hD hDD hD2
          obtain ⟨ity, hity, zs0, zs1, zs2⟩ := info_parts info_fault
          have h2 := HD2.out
          simp only [bs] at h2
          have HH2 := Lib.hid h2
          clear h2
          go_wp2_with (refine wpList_buildSlice rfl 22 26 55 _ rfl ((kFaultsOf L D D2).flatMap fauV).toArray ity _ und_faults hity zs0 (by rw [zs1]; decide) (by rw [zs1]; decide) (by rw [zs1]; simp only [bs] at *; rw [HH2.out]; kernel_rfl) ?_)
          go_ret
          refine ⟨_, rfl, Nat.le_refl _, Keep.alloc _ _ _, ?_⟩
          have hk : kFaults = kFaultsOf L D D2 := by unfold kFaults; rw [HL.out, HD.out, HDD.out]
          rw [hk]
          exact heap_new _ _
end Go.Proofs.YtabikmkoajdhmaaGreatDoor

namespace Go.Proofs.YtabikmkoajdhmaaGreatDoor
open Go.RowKit

/-- Which of n things a raw number speaks of. -/
def pickI (c n : Int) : Int := (if c < 0 then -(c + 1) else c) % n
set_option maxHeartbeats 800000 in
theorem pick_ok (c : Int) (n : Nat) (hc : -9223372036854775808 ≤ c ∧ c ≤ 9223372036854775807) (hn : 0 < n ∧ n ≤ 1000) (w : World) : Calls Tryz.prog 12 #[.int .i64 c, .int .i64 n] w fun e w' => e = .returned (.int .i64 (pickI c n)) ∧ w' = w := by
  have h0 : (0 : Int) < (n : Int) := by omega
  by_cases hneg : c < 0
  · go_enter Tryz.func12, Tryz.ntmps12
    go_wp2_with fail
    go_ret
    have e : (-(c + 1)) % (n : Int) = -((c + 1).tmod n) := by rw [← Int.tmod_eq_emod_of_nonneg (by omega), Int.neg_tmod]
    have e2 : pickI c n = -((c + 1).tmod n) := by unfold pickI; rw [if_pos hneg, e]
    rw [e2]
    exact ⟨rfl, rfl⟩
  · go_enter Tryz.func12, Tryz.ntmps12
    go_wp2_with fail
    go_ret
    have e2 : pickI c n = c % n := by unfold pickI; rw [if_neg (by omega)]
    rw [e2]
    exact ⟨rfl, rfl⟩
theorem pickI_lt {c n : Int} (hn : 0 < n) : 0 ≤ pickI c n ∧ pickI c n < n := by
  unfold pickI
  exact ⟨Int.emod_nonneg _ (by omega), Int.emod_lt_of_pos _ (by omega)⟩
end Go.Proofs.YtabikmkoajdhmaaGreatDoor

namespace Go.Proofs.YtabikmkoajdhmaaGreatDoor
open Go.RowKit

def okR (s : Str) : Bool := (match readE s with
  | none => false
  | some (.error _) => true
  | some (.ok x) => decide (x.show.length ≤ 1000000000000)) && (match pExp readFuel (toks wordsB s 0) with
  | some (.ok (x, _)) => decide (x.depth ≤ 1000000000)
  | _ => true)
theorem reads_ofR {s : Str} (h : okR s = true) : ReadsOk s (readE s) := by
  unfold okR at h
  rw [Bool.and_eq_true] at h
  refine ⟨rfl, fun e => ?_, fun x l e => ?_, fun x e => ?_⟩
  · rw [e] at h; exact absurd h.1 (by simp)
  · have := h.2; rw [e] at this; simpa using this
  · have := h.1; rw [e] at this; simpa using this
theorem sort_ofR {l ns : List Str} (hp : ns.Perm l) (hs : ns.Pairwise fun x y => decide (x ≤ y) = true) : sortS l = ns := by
  unfold sortS
  rw [← mergeSort_of_perm hp]
  exact List.mergeSort_of_pairwise hs
/-- watchS with the names sorted beforehand. -/
def watchM (src : Str) (m : List (Str × Str)) (ns : List Str) (fuel : Int) : Option (Except Flt Str) :=
  match readE src with
  | none => none
  | some (.error f) => some (.error f)
  | some (.ok x) =>
    if fuel < 1 ∨ 12 < fuel then some (.error { what := 6 })
    else match envS m ns [] 0 with
      | none => none
      | some (.error f) => some (.error f)
      | some (.ok (en, n)) => match unbK 40 (fun nm => (en.lookup nm).isSome) x with
        | some (p, s) => some (.error { what := 4, pos := p, s := s })
        | none => match ofS fuel.toNat 1000000 kFuel en x n [] with
          | none => none
          | some (.error (k, _)) => if k < 8 then some (.error { what := kno k }) else none
          | some (.ok (t, _, _, _)) => some (.ok (canonT t))
theorem watchS_M {src : Str} {m : List (Str × Str)} {ns : List Str} {fuel : Int} (h : sortS (m.map (·.1)) = ns) : watchS src m fuel = watchM src m ns fuel := by
  unfold watchS watchM; rw [h]; rfl

def fltB (f g : Flt) : Bool := decide (f.what = g.what) && decide (f.pos = g.pos) && decide (f.s = g.s) && decide (f.inner = g.inner) && decide (f.innerAt = g.innerAt)
theorem flt_eq {f g : Flt} (h : fltB f g = true) : f = g := by
  cases f; cases g
  simp only [fltB, Bool.and_eq_true, decide_eq_true_eq] at h
  obtain ⟨⟨⟨⟨h1, h2⟩, h3⟩, h4⟩, h5⟩ := h
  subst h1; subst h2; subst h3; subst h4; subst h5; rfl

/-! ### the fifty-five -/
structure FauK (x : Fau) : Prop where
  len : x.s.length ≤ 1000
  sh : ∃ r, ReadsOk x.s (some r) ∧ wrongB (showOf r).2.what (showOf r).2.pos x.exp (showOf r).1 = true
  ca : ∃ r, readTy x.s 0 = some r ∧ wrongB (canonOf r).2.what (canonOf r).2.pos x.ty (canonOf r).1 = true
def fauB (x : Fau) : Bool := okR x.s && decide (x.s.length ≤ 1000) && (match readE x.s with
  | some r => wrongB (showOf r).2.what (showOf r).2.pos x.exp (showOf r).1
  | none => false) && (match readTy x.s 0 with
  | some r => wrongB (canonOf r).2.what (canonOf r).2.pos x.ty (canonOf r).1
  | none => false)
theorem fau_all : kFaults.all fauB = true := by kernel_rfl
theorem fau_k {x : Fau} (h : fauB x = true) : FauK x := by
  unfold fauB at h
  simp only [Bool.and_eq_true, decide_eq_true_eq] at h
  obtain ⟨⟨⟨h1, h2⟩, h3⟩, h4⟩ := h
  have hr := reads_ofR h1
  refine ⟨h2, ?_, ?_⟩
  · split at h3
    · rename_i r e; exact ⟨r, e ▸ hr, h3⟩
    · cases h3
  · split at h4
    · rename_i r e; exact ⟨r, e, h4⟩
    · cases h4
theorem fau_at {x : Fau} (h : x ∈ kFaults) : FauK x := fau_k (List.all_eq_true.1 fau_all x h)

/-! ### the eight others -/
def long2 (n : Nat) : Str := List.replicate n 120
def NMX : Str := [120]
def showB (s t : Str) (f : Flt) : Bool := okR s && decide (s.length ≤ 1000) && (match readE s with
  | some r => decide ((showOf r).1 = t) && fltB (showOf r).2 f
  | none => false)
def canonB (s t : Str) (f : Flt) : Bool := decide (s.length ≤ 1000) && (match readTy s 0 with
  | some r => decide ((canonOf r).1 = t) && fltB (canonOf r).2 f
  | none => false)
def infB (src : Str) (m : List (Str × Str)) (ns : List Str) (fuel : Int) (t : Str) (f : Flt) : Bool := okR src && decide (src.length ≤ 1000) && (match watchM src m ns fuel with
  | some r => decide ((inferOf r).1 = t) && fltB (inferOf r).2 f
  | none => false)
def instB (g s : Str) (m : List (Str × Str)) (e : Bool) (f : Flt) : Bool := decide (g.length ≤ 1000) && decide (s.length ≤ 1000) && (match instF g s with
  | some r => decide (mOf r = m) && decide (isE r = e) && fltB (fOf r) f
  | none => false)

theorem ref_show (p : Nat → Addr) {s t : Str} {f : Flt} (h : showB s t f = true) (w : World) (hs : Sents p w) : Calls Tryz.prog 13 #[.string (bs s)] w (fun e w' => e = .returned (.tuple #[.string (bs t), fltV f]) ∧ Keep none' w w') := by
  unfold showB at h
  simp only [Bool.and_eq_true, decide_eq_true_eq] at h
  obtain ⟨⟨h1, h2⟩, h3⟩ := h
  have hr := reads_ofR h1
  split at h3
  · rename_i r e
    rw [Bool.and_eq_true, decide_eq_true_eq] at h3
    have e1 := h3.1; have e2 := flt_eq h3.2
    have := plain_show p (bs s) w hs (by rw [bs_size]; omega) (r := r) (by rw [bytes_bs, ← e]; exact hr)
    rw [e1, e2] at this
    exact this
  · cases h3
theorem ref_canon (p : Nat → Addr) {s t : Str} {f : Flt} (h : canonB s t f = true) (w : World) (hs : Sents p w) : Calls Tryz.prog 14 #[.string (bs s)] w (fun e w' => e = .returned (.tuple #[.string (bs t), fltV f]) ∧ Keep none' w w') := by
  unfold canonB at h
  simp only [Bool.and_eq_true, decide_eq_true_eq] at h
  obtain ⟨h2, h3⟩ := h
  split at h3
  · rename_i r e
    rw [Bool.and_eq_true, decide_eq_true_eq] at h3
    have e1 := h3.1; have e2 := flt_eq h3.2
    have := plain_canon p (bs s) w hs (by rw [bs_size]; omega) (r := r) (by rw [bytes_bs]; exact e)
    rw [e1, e2] at this
    exact this
  · cases h3
theorem ref_inst (p : Nat → Addr) {g s : Str} {m : List (Str × Str)} {b : Bool} {f : Flt} (h : instB g s m b f = true) {N T : List Str} (hN : instN m = N) (hT : instT m = T) (w : World) (hs : Sents p w) : Calls Tryz.prog 17 #[.string (bs g), .string (bs s)] w (fun e w' => ∃ nv tv, e = .returned (.tuple #[nv, tv, .bool b, fltV f]) ∧ Keep none' w w' ∧ w'.ownsRow w.heap.size 9 1 nv N.length (strsV N) ∧ w'.ownsRow w.heap.size 9 1 tv N.length (strsV T)) := by
  unfold instB at h
  simp only [Bool.and_eq_true, decide_eq_true_eq] at h
  obtain ⟨⟨h1, h2⟩, h3⟩ := h
  split at h3
  · rename_i r e
    simp only [Bool.and_eq_true, decide_eq_true_eq] at h3
    obtain ⟨⟨e1, e2⟩, e3⟩ := h3
    have e3 := flt_eq e3
    have := plain_inst p (bs g) (bs s) w hs (by rw [bs_size]; omega) (by rw [bs_size]; omega) (r := r) (by rw [bytes_bs, bytes_bs]; exact e)
    unfold PInstPost at this
    rw [e1, e2, e3, hN, hT] at this
    exact this
  · cases h3
theorem slr_litR {G : GH} {T : TypeId} {b : Nat} {xs : List Value} (h : G b = some (.cells xs.toArray T)) : SlR G (.slice (some ⟨b, 0, none⟩) xs.length xs.length) xs :=
  .inr ⟨b, xs.toArray, T, xs.length, rfl, h, fun i hi => by simp [hi]⟩
theorem inst_nil : instN [] = [] ∧ instT [] = [] := by
  have h : instN [] = [] := by simp [instN, sortS]
  exact ⟨h, by unfold instT; rw [h]; rfl⟩
theorem sort_ab : sortS [[97], [98]] = [[97], [98]] := List.mergeSort_of_pairwise (by decide)
theorem inst_ab (x y : Str) : instN [([97], x), ([98], y)] = [[97], [98]] ∧ instT [([97], x), ([98], y)] = [x, y] := by
  have h : instN [([97], x), ([98], y)] = [[97], [98]] := sort_ab
  exact ⟨h, by unfold instT; rw [h]; rfl⟩
theorem ref_infer (p : Nat → Addr) {src t : Str} {names types ns : List Str} {fuel : Int} {f : Flt} (h : infB src (names.zip types) ns fuel t f = true) (hso : sortS ((names.zip types).map (·.1)) = ns) (hl : names.length = types.length) (hd : names.Nodup) (hb : names.length ≤ 1000) (hms : ∀ q ∈ names.zip types, q.1.length ≤ 1000000 ∧ q.2.length ≤ 1000000) (hf : -1000000 ≤ fuel ∧ fuel ≤ 1000000)
    {G : GH} {nv tv : Value} (hn : SlR G nv (names.map fun n => .string (bs n))) (ht : SlR G tv (types.map fun n => .string (bs n))) (w : World) (hG : Holds G w) (hs : Sents p w) :
    Calls Tryz.prog 16 #[.string (bs src), nv, tv, .int .i64 fuel] w (fun e w' => (∃ c, e = .returned (.tuple #[.string (bs t), fltV f, .bool c])) ∧ Keep none' w w') := by
  unfold infB at h
  simp only [Bool.and_eq_true, decide_eq_true_eq] at h
  obtain ⟨⟨h1, h2⟩, h3⟩ := h
  have hr := reads_ofR h1
  split at h3
  · rename_i r e
    rw [Bool.and_eq_true, decide_eq_true_eq] at h3
    have e1 := h3.1; have e2 := flt_eq h3.2
    have := plain_infer G p (bs src) w nv tv names types fuel hG hs (by rw [bs_size]; omega) (rr := readE src) (by rw [bytes_bs]; exact hr) hn ht hl hd hb hms hf (r := r) (by rw [bytes_bs, watchS_M hso]; exact e)
    rw [e1, e2] at this
    exact this
  · cases h3

def F1 : Flt := { what := 1 }
def F6 : Flt := { what := 6 }
def F0 : Flt := { what := 0 }
def F11 : Flt := { what := 11 }
/-! case 0 -/
theorem r0a : showB (long2 301) [] F1 = true := by kernel_rfl
theorem r0b : canonB (long2 301) [] F1 = true := by kernel_rfl
theorem r0c : infB (long2 301) [] [] 0 [] F1 = true := by kernel_rfl
/-! case 1 -/
theorem r1a : infB [120] [] [] 0 [] F6 = true := by kernel_rfl
theorem r1b : infB [120] [] [] 13 [] F6 = true := by kernel_rfl
theorem r1c : infB [49] [] [] 12 INT F0 = true := by kernel_rfl
/-! cases 2 to 4 -/
def N2 : List Str := [[120], [98], [99]]
def T2 : List Str := [INT, [40], [41]]
def F2 : Flt := { what := 5, s := [98], inner := 2, innerAt := 1 }
def F3 : Flt := { what := 5, s := LET }
def F4 : Flt := { what := 5, s := [120], inner := 1 }
theorem r2 : infB [121] (N2.zip T2) [[98], [99], [120]] 1 [] F2 = true := by kernel_rfl
theorem r3 : infB [121] ([LET].zip [INT]) [LET] 1 [] F3 = true := by kernel_rfl
theorem r4 : infB [121] ([[120]].zip [long2 301]) [[120]] 1 [] F4 = true := by kernel_rfl
/-! cases 5 to 7 -/
def I5a : Str := [97, 32, 45, 62, 32, 97]
def I5b : Str := [105, 110, 116, 32, 45, 62, 32, 98, 111, 111, 108]
def I5c : Str := [40, 97, 44, 32, 98, 41]
def I5d : Str := [91, 105, 110, 116, 93]
def I6a : Str := [97, 32, 45, 62, 32, 98, 32, 45, 62, 32, 91, 97, 93]
def I6b : Str := [40, 120, 44, 32, 121, 41, 32, 45, 62, 32, 105, 110, 116, 32, 45, 62, 32, 91, 40, 120, 44, 32, 121, 41, 93]
def I6c : Str := [40, 120, 44, 32, 121, 41]
theorem r5a : instB I5a I5b [] true F11 = true := by kernel_rfl
theorem r5b : instB I5c I5d [] true F11 = true := by kernel_rfl
theorem r5c : instB INT [97] [] true F11 = true := by kernel_rfl
theorem r6a : instB I6a I6b [([97], I6c), ([98], INT)] false F0 = true := by kernel_rfl
theorem r6b : instB INT INT [] false F0 = true := by kernel_rfl
theorem r7a : instB [40] [41] [] true { what := 2, pos := 1 } = true := by kernel_rfl
theorem r7b : instB [97] [41] [] true { what := 2, pos := 0 } = true := by kernel_rfl
end Go.Proofs.YtabikmkoajdhmaaGreatDoor

namespace Go.Proofs.YtabikmkoajdhmaaGreatDoor
open Go.RowKit

theorem flat3 {α : Type} (f : α → List Value) (hf : ∀ a, (f a).length = 3) : ∀ (l : List α) (k i : Nat) (h : k < l.length), i < 3 → (l.flatMap f)[k * 3 + i]? = (f l[k])[i]?
  | a :: r, 0, i, _, hi => by
    simp only [List.flatMap_cons, List.getElem_cons_zero]
    rw [List.getElem?_append_left (by rw [hf]; omega)]
    congr 1; omega
  | a :: r, k + 1, i, h, hi => by
    simp only [List.flatMap_cons, List.getElem_cons_succ]
    rw [List.getElem?_append_right (by rw [hf]; omega), hf, show (k + 1) * 3 + i - 3 = k * 3 + i by omega]
    exact flat3 f hf r k i (by simpa using h) hi
theorem fauA_at {k : Nat} (h : k < kFaults.length) : (kFaults.flatMap fauV).toArray[k * 3]? = some (.string (bs kFaults[k].s)) ∧ (kFaults.flatMap fauV).toArray[k * 3 + 1]? = some (.int .i64 kFaults[k].exp) ∧ (kFaults.flatMap fauV).toArray[k * 3 + 2]? = some (.int .i64 kFaults[k].ty) := by
  simp only [List.getElem?_toArray]
  have h3 := fun i hi => flat3 fauV (fun _ => rfl) kFaults k i h hi
  exact ⟨h3 0 (by decide), h3 1 (by decide), h3 2 (by decide)⟩
set_option maxRecDepth 100000 in
set_option maxHeartbeats 4000000 in
theorem refuses_low (p : Nat → Addr) (c : Int) (hc : -9223372036854775808 ≤ c ∧ c ≤ 9223372036854775807) (w : World) (hs : Sents p w) (n : Nat) (hlt : n < 55) (hn : pickI c 63 = n) : Calls Tryz.prog 3 #[.int .i64 c] w fun e w' => e = .returned (.bool true) ∧ Keep none' w w' := by
  have hp : ∀ W : World, Calls Tryz.prog 12 #[.int .i64 c, .int .i64 63] W fun e w' => e = .returned (.int .i64 (pickI c 63)) ∧ w' = W := fun W => pick_ok c 63 hc (by decide) W
  rw [hn] at hp
  have hlen : n < kFaults.length := hlt
  obtain ⟨x, hx⟩ : ∃ x, x = kFaults[n] := ⟨_, rfl⟩
  have hat := fauA_at hlen
  rw [← hx] at hat
  have hk := fau_at (x := x) (by rw [hx]; exact List.getElem_mem hlen)
  obtain ⟨r1, hr1, hw1⟩ := hk.sh
  obtain ⟨r2, hr2, hw2⟩ := hk.ca
  have hsz : (bs x.s).size ≤ 9223372036854775807 := by rw [bs_size]; have := hk.len; omega
  have hshow := fun (W : World) (kW : Keep none' w W) => plain_show p (bs x.s) W (hs.keep0 kW) hsz (r := r1) (by rw [bytes_bs]; exact hr1)
  have hcan := fun (W : World) (kW : Keep none' w W) => plain_canon p (bs x.s) W (hs.keep0 kW) hsz (r := r2) (by rw [bytes_bs]; exact hr2)
  obtain ⟨t1, f1, e1⟩ : ∃ t f, showOf r1 = (t, f) := ⟨_, _, rfl⟩
  obtain ⟨t2, f2, e2⟩ : ∃ t f, canonOf r2 = (t, f) := ⟨_, _, rfl⟩
  rw [e1] at hw1; rw [e2] at hw2
  simp only [e1] at hshow; simp only [e2] at hcan
  simp only at hw1 hw2
  have hwr := fun (W : World) => wrong_ok f1.what f1.pos (bs f1.s) f1.inner f1.innerAt x.exp t1 W
  have hwr2 := fun (W : World) => wrong_ok f2.what f2.pos (bs f2.s) f2.inner f2.innerAt x.ty t2 W
  unfold WrongPost at hwr hwr2
  simp only [hw1] at hwr; simp only [hw2] at hwr2
  have hn55 : ((n : Int) < 55) := by omega
  have hn0 : (0 : Int) ≤ (n : Int) := by omega
  have HP := Lib.hid hp; have HSH := Lib.hid hshow; have HCA := Lib.hid hcan; have HAT := Lib.hid hat; have HW := Lib.hid hwr; have HW2 := Lib.hid hwr2
  clear hp hshow hcan hat hk hsz hwr hwr2 hs hx hn hlen hc hw1 hw2 e1 e2 hr1 hr2 r1 r2
  go_enter Tryz.func3, Tryz.ntmps3
  go_wp2_with fail
  refine (faults_ok _).mono ?_
  rintro e w1 ⟨b, rfl, hb, k1, hb1⟩
  have hf := HAT.out
  have c0 := cell_of_heap hb1 hf.1
  have c1 := cell_of_heap hb1 hf.2.1
  have c2 := cell_of_heap hb1 hf.2.2
  have HK1 := Lib.hid k1; have HB1 := Lib.hid hb1
  clear hf k1 hb hb1
  go_wp2_with fail
  refine (HP.out _).mono ?_
  rintro e w2 ⟨rfl, rfl⟩
  go_wp2_with fail
  have hx2 : (w2.alloc (.cells #[.string (bs x.s), .int .i64 x.exp, .int .i64 x.ty] 26)).heap[w2.heap.size]? = some (.cells #[.string (bs x.s), .int .i64 x.exp, .int .i64 x.ty] 26) := heap_new _ _
  have k2 := HK1.out.trans (Keep.alloc none' w2 (.cells #[.string (bs x.s), .int .i64 x.exp, .int .i64 x.ty] 26))
  have HX2 := Lib.hid hx2; have HK2 := Lib.hid k2
  clear c0 c1 c2 hx2 k2
  refine (HSH.out _ HK2.out).mono ?_
  rintro e w3 ⟨rfl, k3⟩
  have x3 := k3.get HX2.out (fun x => x)
  have K3 := HK2.out.trans k3
  obtain ⟨oF, hoF⟩ : ∃ oF : Obj, oF = .cells #[.int .i64 f1.what, .int .i64 f1.pos, .string (bs f1.s), .int .i64 f1.inner, .int .i64 f1.innerAt] 28 := ⟨_, rfl⟩
  have c0 : (w3.alloc (.cells #[.int .i64 f1.what, .int .i64 f1.pos, .string (bs f1.s), .int .i64 f1.inner, .int .i64 f1.innerAt] 28)).cell? ⟨w2.heap.size, 0, none⟩ = some (.string (bs x.s)) := cell_of_heap (i := 0) (heap_old x3) rfl
  have HX3 := Lib.hid x3; have HK3 := Lib.hid K3
  clear x3 K3 k3
  unfold fltV faultV
  go_wp2_with fail
  have k4 := HK3.out.trans (Keep.alloc none' w3 (.cells #[.int .i64 f1.what, .int .i64 f1.pos, .string (bs f1.s), .int .i64 f1.inner, .int .i64 f1.innerAt] 28))
  have g4 : (w3.alloc (.cells #[.int .i64 f1.what, .int .i64 f1.pos, .string (bs f1.s), .int .i64 f1.inner, .int .i64 f1.innerAt] 28)).heap[w3.heap.size]? = some (.cells #[.int .i64 f1.what, .int .i64 f1.pos, .string (bs f1.s), .int .i64 f1.inner, .int .i64 f1.innerAt] 28) := heap_new _ _
  have x4 : (w3.alloc (.cells #[.int .i64 f1.what, .int .i64 f1.pos, .string (bs f1.s), .int .i64 f1.inner, .int .i64 f1.innerAt] 28)).heap[w2.heap.size]? = _ := heap_old HX3.out
  have HK4 := Lib.hid k4; have HG4 := Lib.hid g4; have HX4 := Lib.hid x4
  clear k4 g4 x4 c0
  refine (HCA.out _ HK4.out).mono ?_
  rintro e w5 ⟨rfl, k5⟩
  have x5 : (w5.alloc (.cells #[.int .i64 f2.what, .int .i64 f2.pos, .string (bs f2.s), .int .i64 f2.inner, .int .i64 f2.innerAt] 28)).heap[w2.heap.size]? = _ := heap_old (k5.get HX4.out (fun x => x))
  have g5 : (w5.alloc (.cells #[.int .i64 f2.what, .int .i64 f2.pos, .string (bs f2.s), .int .i64 f2.inner, .int .i64 f2.innerAt] 28)).heap[w3.heap.size]? = _ := heap_old (k5.get HG4.out (fun x => x))
  have h5 : (w5.alloc (.cells #[.int .i64 f2.what, .int .i64 f2.pos, .string (bs f2.s), .int .i64 f2.inner, .int .i64 f2.innerAt] 28)).heap[w5.heap.size]? = some (.cells #[.int .i64 f2.what, .int .i64 f2.pos, .string (bs f2.s), .int .i64 f2.inner, .int .i64 f2.innerAt] 28) := heap_new _ _
  have kk : Keep none' w (w5.alloc (.cells #[.int .i64 f2.what, .int .i64 f2.pos, .string (bs f2.s), .int .i64 f2.inner, .int .i64 f2.innerAt] 28)) := (HK4.out.trans k5).trans (Keep.alloc _ _ _)
  have a1 := cell_of_heap (i := 1) x5 rfl
  have d0 := cell_of_heap (i := 0) g5 rfl; have d1 := cell_of_heap (i := 1) g5 rfl; have d2 := cell_of_heap (i := 2) g5 rfl; have d3 := cell_of_heap (i := 3) g5 rfl; have d4 := cell_of_heap (i := 4) g5 rfl
  have HX5 := Lib.hid x5; have HG5 := Lib.hid g5; have HH5 := Lib.hid h5; have HK5 := Lib.hid kk
  clear x5 g5 h5 kk k5 hoF
  unfold fltV faultV
  go_wp2_with fail
  refine (HW.out _).mono ?_
  rintro e w6 ⟨rfl, k6⟩
  have x6 := k6.get HX5.out (fun x => x)
  have h6 := k6.get HH5.out (fun x => x)
  have a2 := cell_of_heap (i := 2) x6 rfl
  have e0 := cell_of_heap (i := 0) h6 rfl; have e1 := cell_of_heap (i := 1) h6 rfl; have e2 := cell_of_heap (i := 2) h6 rfl; have e3 := cell_of_heap (i := 3) h6 rfl; have e4 := cell_of_heap (i := 4) h6 rfl
  have HK6 := Lib.hid (HK5.out.trans k6)
  clear x6 h6 k6 a1 d0 d1 d2 d3 d4
  go_wp2_with fail
  refine (HW2.out _).mono ?_
  rintro e w7 ⟨rfl, k7⟩
  have HK7 := Lib.hid (HK6.out.trans k7)
  clear k7
  go_wp2_with fail
  exact bodyPost_ret (v := .bool true) (by simp [results, Tryz.results3, go_sem]) rfl ⟨rfl, HK7.out⟩
end Go.Proofs.YtabikmkoajdhmaaGreatDoor

namespace Go.Proofs.YtabikmkoajdhmaaGreatDoor
open Go.RowKit

set_option maxRecDepth 100000 in
set_option maxHeartbeats 4000000 in
theorem refuses_0 (p : Nat → Addr) (c : Int) (hc : -9223372036854775808 ≤ c ∧ c ≤ 9223372036854775807) (w : World) (hs : Sents p w) (hn : pickI c 63 = 55) : Calls Tryz.prog 3 #[.int .i64 c] w fun e w' => e = .returned (.bool true) ∧ Keep none' w w' := by
  have hp : ∀ W : World, Calls Tryz.prog 12 #[.int .i64 c, .int .i64 63] W fun e w' => e = .returned (.int .i64 (pickI c 63)) ∧ w' = W := fun W => pick_ok c 63 hc (by decide) W
  rw [hn] at hp
  obtain ⟨L, hL⟩ : ∃ L, L = long2 301 := ⟨_, rfl⟩
  have h0 : ∀ (W : World), Keep none' w W → Calls Tryz.prog 13 #[.string (bs L)] W fun e w' => e = .returned (.tuple #[.string ⟨#[]⟩, .agg #[.int .i64 1, .int .i64 0, .string ⟨#[]⟩, .int .i64 0, .int .i64 0]]) ∧ Keep none' W w' := fun W kW => ref_show p (by rw [hL]; exact r0a : showB L [] F1 = true) W (hs.keep0 kW)
  have h1 : ∀ (W : World), Keep none' w W → Calls Tryz.prog 14 #[.string (bs L)] W fun e w' => e = .returned (.tuple #[.string ⟨#[]⟩, .agg #[.int .i64 1, .int .i64 0, .string ⟨#[]⟩, .int .i64 0, .int .i64 0]]) ∧ Keep none' W w' := fun W kW => ref_canon p (by rw [hL]; exact r0b : canonB L [] F1 = true) W (hs.keep0 kW)
  have h2 : ∀ (W : World), Keep none' w W → Calls Tryz.prog 16 #[.string (bs L), .slice none 0 0, .slice none 0 0, .int .i64 0] W fun e w' => (∃ c, e = .returned (.tuple #[.string ⟨#[]⟩, .agg #[.int .i64 1, .int .i64 0, .string ⟨#[]⟩, .int .i64 0, .int .i64 0], .bool c])) ∧ Keep none' W w' := fun W kW => ref_infer p (names := []) (types := []) (by rw [hL]; exact r0c : infB L [] [] 0 [] F1 = true) (sort_ofR (List.Perm.refl _) List.Pairwise.nil) rfl (by simp) (by simp) (by simp) (by decide) (.inl ⟨rfl, rfl⟩) (.inl ⟨rfl, rfl⟩) W (noG_holds W) (hs.keep0 kW)
  have HP := Lib.hid hp; have HL := Lib.hid hL; have H0 := Lib.hid h0; have H1 := Lib.hid h1; have H2 := Lib.hid h2
  clear hp hL hs hn hc h0 h1 h2
  go_enter Tryz.func3, Tryz.ntmps3
  go_wp2_with fail
  refine (faults_ok _).mono ?_
  rintro e w1 ⟨b, rfl, hb, k1, hb1⟩
  have HK1 := Lib.hid k1
  clear k1 hb hb1
  go_wp2_with fail
  refine (HP.out _).mono ?_
  rintro e w2 ⟨rfl, hw2⟩
  subst w2
  go_wp2_with fail
  go_loopg [9] 301 (fun gn s9 wr => ∃ j : Nat, j ≤ 301 ∧ Hid (gn = 301 - j) ∧ s9 = .string (bs (long2 j)) ∧ wr = w1)
  case atStart => exact ⟨0, by omega, Lib.hid rfl, rfl, rfl⟩
  case round =>
    obtain ⟨j, hj, HM, rfl, hwr⟩ := hrel
    subst wr
    have hl : (long2 j).length = j := by simp [long2]
    have hsz := bs_size (long2 j)
    by_cases hlt : j < 301
    · have hi : ((bs (long2 j)).size : Int) ≤ 300 := by omega
      have q1 : ¬ 9223372036854775807 < (bs (long2 j)).size + 1 := by omega
      clear hl hsz
      go_wp2_with fail
      go_roundg (301 - (j + 1))
      case measure => have := HM.out; omega
      case rel => exact ⟨j + 1, by omega, Lib.hid rfl, congrArg Value.string ((bs_append _ [120]).trans (congrArg bs (by simp [long2, List.replicate_succ']))), rfl⟩
    · have hje : j = 301 := by omega
      subst hje
      have hi : ¬ ((bs (long2 301)).size : Int) ≤ 300 := by omega
      rw [← HL.out] at hi ⊢
      clear hl hsz
      go_wp2_with fail
      have HKa := HK1
      refine (H0.out _ HK1.out).mono ?_
      rintro e u0 ⟨rfl, k⟩
      have k' : Keep none' w (u0.alloc (.cells #[.int .i64 1, .int .i64 0, .string ⟨#[]⟩, .int .i64 0, .int .i64 0] 28)) := (HK1.out.trans k).trans (Keep.alloc _ _ _)
      have gu0 : (u0.alloc (.cells #[.int .i64 1, .int .i64 0, .string ⟨#[]⟩, .int .i64 0, .int .i64 0] 28)).heap[u0.heap.size]? = some (.cells #[.int .i64 1, .int .i64 0, .string ⟨#[]⟩, .int .i64 0, .int .i64 0] 28) := heap_new _ _
      have Gu0_0 := Lib.hid gu0
      have HK2 := Lib.hid k'
      clear k' k gu0
      go_wp2_with fail
      refine (H1.out _ HK2.out).mono ?_
      rintro e u1 ⟨rfl, k⟩
      have k' : Keep none' w (u1.alloc (.cells #[.int .i64 1, .int .i64 0, .string ⟨#[]⟩, .int .i64 0, .int .i64 0] 28)) := (HK2.out.trans k).trans (Keep.alloc _ _ _)
      have gu0 : (u1.alloc (.cells #[.int .i64 1, .int .i64 0, .string ⟨#[]⟩, .int .i64 0, .int .i64 0] 28)).heap[u0.heap.size]? = some (.cells #[.int .i64 1, .int .i64 0, .string ⟨#[]⟩, .int .i64 0, .int .i64 0] 28) := heap_old (k.get Gu0_0.out (fun x => x))
      have gu1 : (u1.alloc (.cells #[.int .i64 1, .int .i64 0, .string ⟨#[]⟩, .int .i64 0, .int .i64 0] 28)).heap[u1.heap.size]? = some (.cells #[.int .i64 1, .int .i64 0, .string ⟨#[]⟩, .int .i64 0, .int .i64 0] 28) := heap_new _ _
      have Gu0_1 := Lib.hid gu0
      have Gu1_1 := Lib.hid gu1
      have HK3 := Lib.hid k'
      clear k' k gu0 gu1
      go_wp2_with fail
      refine (H2.out _ HK3.out).mono ?_
      rintro e u2 ⟨⟨c2, rfl⟩, k⟩
      have k' : Keep none' w (u2.alloc (.cells #[.int .i64 1, .int .i64 0, .string ⟨#[]⟩, .int .i64 0, .int .i64 0] 28)) := (HK3.out.trans k).trans (Keep.alloc _ _ _)
      have gu0 : (u2.alloc (.cells #[.int .i64 1, .int .i64 0, .string ⟨#[]⟩, .int .i64 0, .int .i64 0] 28)).heap[u0.heap.size]? = some (.cells #[.int .i64 1, .int .i64 0, .string ⟨#[]⟩, .int .i64 0, .int .i64 0] 28) := heap_old (k.get Gu0_1.out (fun x => x))
      have gu1 : (u2.alloc (.cells #[.int .i64 1, .int .i64 0, .string ⟨#[]⟩, .int .i64 0, .int .i64 0] 28)).heap[u1.heap.size]? = some (.cells #[.int .i64 1, .int .i64 0, .string ⟨#[]⟩, .int .i64 0, .int .i64 0] 28) := heap_old (k.get Gu1_1.out (fun x => x))
      have gu2 : (u2.alloc (.cells #[.int .i64 1, .int .i64 0, .string ⟨#[]⟩, .int .i64 0, .int .i64 0] 28)).heap[u2.heap.size]? = some (.cells #[.int .i64 1, .int .i64 0, .string ⟨#[]⟩, .int .i64 0, .int .i64 0] 28) := heap_new _ _
      have Gu0_2 := Lib.hid gu0
      have Gu1_2 := Lib.hid gu1
      have Gu2_2 := Lib.hid gu2
      have HK4 := Lib.hid k'
      have eu0_0 := cell_of_heap (i := 0) gu0 rfl
      have eu0_1 := cell_of_heap (i := 1) gu0 rfl
      have eu1_0 := cell_of_heap (i := 0) gu1 rfl
      have eu1_1 := cell_of_heap (i := 1) gu1 rfl
      have eu2_0 := cell_of_heap (i := 0) gu2 rfl
      have eu2_1 := cell_of_heap (i := 1) gu2 rfl
      clear k' k gu0 gu1 gu2
      go_wp2_with fail
      exact bodyPost_ret (v := .bool true) (by simp [results, Tryz.results3, go_sem]) rfl ⟨rfl, HK4.out⟩
end Go.Proofs.YtabikmkoajdhmaaGreatDoor

namespace Go.Proofs.YtabikmkoajdhmaaGreatDoor
open Go.RowKit

set_option maxRecDepth 100000 in
set_option maxHeartbeats 4000000 in
theorem refuses_1 (p : Nat → Addr) (c : Int) (hc : -9223372036854775808 ≤ c ∧ c ≤ 9223372036854775807) (w : World) (hs : Sents p w) (hn : pickI c 63 = 56) : Calls Tryz.prog 3 #[.int .i64 c] w fun e w' => e = .returned (.bool true) ∧ Keep none' w w' := by
  have hp : ∀ W : World, Calls Tryz.prog 12 #[.int .i64 c, .int .i64 63] W fun e w' => e = .returned (.int .i64 (pickI c 63)) ∧ w' = W := fun W => pick_ok c 63 hc (by decide) W
  rw [hn] at hp
  obtain ⟨L, hL⟩ : ∃ L, L = long2 301 := ⟨_, rfl⟩
  have h0 : ∀ (W : World), Keep none' w W → Calls Tryz.prog 16 #[.string ⟨#[120]⟩, .slice none 0 0, .slice none 0 0, .int .i64 0] W fun e w' => (∃ c, e = .returned (.tuple #[.string ⟨#[]⟩, .agg #[.int .i64 6, .int .i64 0, .string ⟨#[]⟩, .int .i64 0, .int .i64 0], .bool c])) ∧ Keep none' W w' := fun W kW => ref_infer p (names := []) (types := []) r1a (sort_ofR (List.Perm.refl _) List.Pairwise.nil) rfl (by simp) (by simp) (by simp) (by decide) (.inl ⟨rfl, rfl⟩) (.inl ⟨rfl, rfl⟩) W (noG_holds W) (hs.keep0 kW)
  have h1 : ∀ (W : World), Keep none' w W → Calls Tryz.prog 16 #[.string ⟨#[120]⟩, .slice none 0 0, .slice none 0 0, .int .i64 13] W fun e w' => (∃ c, e = .returned (.tuple #[.string ⟨#[]⟩, .agg #[.int .i64 6, .int .i64 0, .string ⟨#[]⟩, .int .i64 0, .int .i64 0], .bool c])) ∧ Keep none' W w' := fun W kW => ref_infer p (names := []) (types := []) r1b (sort_ofR (List.Perm.refl _) List.Pairwise.nil) rfl (by simp) (by simp) (by simp) (by decide) (.inl ⟨rfl, rfl⟩) (.inl ⟨rfl, rfl⟩) W (noG_holds W) (hs.keep0 kW)
  have h2 : ∀ (W : World), Keep none' w W → Calls Tryz.prog 16 #[.string ⟨#[49]⟩, .slice none 0 0, .slice none 0 0, .int .i64 12] W fun e w' => (∃ c, e = .returned (.tuple #[.string ⟨#[105, 110, 116]⟩, .agg #[.int .i64 0, .int .i64 0, .string ⟨#[]⟩, .int .i64 0, .int .i64 0], .bool c])) ∧ Keep none' W w' := fun W kW => ref_infer p (names := []) (types := []) r1c (sort_ofR (List.Perm.refl _) List.Pairwise.nil) rfl (by simp) (by simp) (by simp) (by decide) (.inl ⟨rfl, rfl⟩) (.inl ⟨rfl, rfl⟩) W (noG_holds W) (hs.keep0 kW)
  have HP := Lib.hid hp; have HL := Lib.hid hL; have H0 := Lib.hid h0; have H1 := Lib.hid h1; have H2 := Lib.hid h2
  clear hp hL hs hn hc h0 h1 h2
  go_enter Tryz.func3, Tryz.ntmps3
  go_wp2_with fail
  refine (faults_ok _).mono ?_
  rintro e w1 ⟨b, rfl, hb, k1, hb1⟩
  have HK1 := Lib.hid k1
  clear k1 hb hb1
  go_wp2_with fail
  refine (HP.out _).mono ?_
  rintro e w2 ⟨rfl, hw2⟩
  subst w2
  go_wp2_with fail
  go_loopg [9] 301 (fun gn s9 wr => ∃ j : Nat, j ≤ 301 ∧ Hid (gn = 301 - j) ∧ s9 = .string (bs (long2 j)) ∧ wr = w1)
  case atStart => exact ⟨0, by omega, Lib.hid rfl, rfl, rfl⟩
  case round =>
    obtain ⟨j, hj, HM, rfl, hwr⟩ := hrel
    subst wr
    have hl : (long2 j).length = j := by simp [long2]
    have hsz := bs_size (long2 j)
    by_cases hlt : j < 301
    · have hi : ((bs (long2 j)).size : Int) ≤ 300 := by omega
      have q1 : ¬ 9223372036854775807 < (bs (long2 j)).size + 1 := by omega
      clear hl hsz
      go_wp2_with fail
      go_roundg (301 - (j + 1))
      case measure => have := HM.out; omega
      case rel => exact ⟨j + 1, by omega, Lib.hid rfl, congrArg Value.string ((bs_append _ [120]).trans (congrArg bs (by simp [long2, List.replicate_succ']))), rfl⟩
    · have hje : j = 301 := by omega
      subst hje
      have hi : ¬ ((bs (long2 301)).size : Int) ≤ 300 := by omega
      rw [← HL.out] at hi ⊢
      clear hl hsz
      go_wp2_with fail
      have HKa := HK1
      refine (H0.out _ HK1.out).mono ?_
      rintro e u0 ⟨⟨c0, rfl⟩, k⟩
      have k' : Keep none' w (u0.alloc (.cells #[.int .i64 6, .int .i64 0, .string ⟨#[]⟩, .int .i64 0, .int .i64 0] 28)) := (HK1.out.trans k).trans (Keep.alloc _ _ _)
      have gu0 : (u0.alloc (.cells #[.int .i64 6, .int .i64 0, .string ⟨#[]⟩, .int .i64 0, .int .i64 0] 28)).heap[u0.heap.size]? = some (.cells #[.int .i64 6, .int .i64 0, .string ⟨#[]⟩, .int .i64 0, .int .i64 0] 28) := heap_new _ _
      have Gu0_0 := Lib.hid gu0
      have HK2 := Lib.hid k'
      clear k' k gu0
      go_wp2_with fail
      refine (H1.out _ HK2.out).mono ?_
      rintro e u1 ⟨⟨c1, rfl⟩, k⟩
      have k' : Keep none' w (u1.alloc (.cells #[.int .i64 6, .int .i64 0, .string ⟨#[]⟩, .int .i64 0, .int .i64 0] 28)) := (HK2.out.trans k).trans (Keep.alloc _ _ _)
      have gu0 : (u1.alloc (.cells #[.int .i64 6, .int .i64 0, .string ⟨#[]⟩, .int .i64 0, .int .i64 0] 28)).heap[u0.heap.size]? = some (.cells #[.int .i64 6, .int .i64 0, .string ⟨#[]⟩, .int .i64 0, .int .i64 0] 28) := heap_old (k.get Gu0_0.out (fun x => x))
      have gu1 : (u1.alloc (.cells #[.int .i64 6, .int .i64 0, .string ⟨#[]⟩, .int .i64 0, .int .i64 0] 28)).heap[u1.heap.size]? = some (.cells #[.int .i64 6, .int .i64 0, .string ⟨#[]⟩, .int .i64 0, .int .i64 0] 28) := heap_new _ _
      have Gu0_1 := Lib.hid gu0
      have Gu1_1 := Lib.hid gu1
      have HK3 := Lib.hid k'
      clear k' k gu0 gu1
      go_wp2_with fail
      refine (H2.out _ HK3.out).mono ?_
      rintro e u2 ⟨⟨c2, rfl⟩, k⟩
      have k' : Keep none' w (u2.alloc (.cells #[.int .i64 0, .int .i64 0, .string ⟨#[]⟩, .int .i64 0, .int .i64 0] 28)) := (HK3.out.trans k).trans (Keep.alloc _ _ _)
      have gu0 : (u2.alloc (.cells #[.int .i64 0, .int .i64 0, .string ⟨#[]⟩, .int .i64 0, .int .i64 0] 28)).heap[u0.heap.size]? = some (.cells #[.int .i64 6, .int .i64 0, .string ⟨#[]⟩, .int .i64 0, .int .i64 0] 28) := heap_old (k.get Gu0_1.out (fun x => x))
      have gu1 : (u2.alloc (.cells #[.int .i64 0, .int .i64 0, .string ⟨#[]⟩, .int .i64 0, .int .i64 0] 28)).heap[u1.heap.size]? = some (.cells #[.int .i64 6, .int .i64 0, .string ⟨#[]⟩, .int .i64 0, .int .i64 0] 28) := heap_old (k.get Gu1_1.out (fun x => x))
      have gu2 : (u2.alloc (.cells #[.int .i64 0, .int .i64 0, .string ⟨#[]⟩, .int .i64 0, .int .i64 0] 28)).heap[u2.heap.size]? = some (.cells #[.int .i64 0, .int .i64 0, .string ⟨#[]⟩, .int .i64 0, .int .i64 0] 28) := heap_new _ _
      have Gu0_2 := Lib.hid gu0
      have Gu1_2 := Lib.hid gu1
      have Gu2_2 := Lib.hid gu2
      have HK4 := Lib.hid k'
      have eu0_0 := cell_of_heap (i := 0) gu0 rfl
      have eu0_1 := cell_of_heap (i := 1) gu0 rfl
      have eu1_0 := cell_of_heap (i := 0) gu1 rfl
      have eu1_1 := cell_of_heap (i := 1) gu1 rfl
      have eu2_0 := cell_of_heap (i := 0) gu2 rfl
      have eu2_1 := cell_of_heap (i := 1) gu2 rfl
      clear k' k gu0 gu1 gu2
      go_wp2_with fail
      exact bodyPost_ret (v := .bool true) (by simp [results, Tryz.results3, go_sem]) rfl ⟨rfl, HK4.out⟩
end Go.Proofs.YtabikmkoajdhmaaGreatDoor
