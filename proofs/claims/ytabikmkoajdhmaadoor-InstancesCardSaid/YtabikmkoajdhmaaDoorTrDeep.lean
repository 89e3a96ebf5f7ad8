/- typerref's deep by a contract. -/
import Derived.Test.YtabikmkoajdhmaaDoorTrX
set_option linter.unusedVariables false
set_option linter.unusedSimpArgs false
set_option linter.unnecessarySimpa false
namespace Go.Proofs.YtabikmkoajdhmaaDoor
open Go.RowKit

def maxL (l : List Nat) : Nat := l.foldl max 0
theorem foldl_max (l : List Nat) : ∀ a, l.foldl max a = max a (l.foldl max 0) := by
  induction l with
  | nil => intro a; simp
  | cons x r ih => intro a; simp only [List.foldl_cons]; rw [ih (max a x), ih (max 0 x)]; omega
theorem bs_depth_fold : ∀ bd : Bs, bd.depth = maxL (bd.exprs.map Ex.depth)
  | .nil => rfl
  | .cons n x r => by
    simp only [Bs.depth, Bs.exprs, List.map_cons, maxL, List.foldl_cons]
    rw [foldl_max, bs_depth_fold r]
    simp [maxL]
theorem rdepth_kids (x : Ex) : x.depth = maxL (x.rkids.map Ex.depth) + 1 := by
  cases x <;> simp only [Ex.depth, Ex.rkids, maxL, List.map_cons, List.map_nil, List.foldl_cons, List.foldl_nil] <;> try omega
  rename_i bd e
  rw [List.map_append, List.foldl_append, bs_depth_fold]
  simp only [maxL, List.map_cons, List.map_nil, List.foldl_cons, List.foldl_nil]
theorem slr_shp {G : GH} {v : Value} {xs : List Value} (h : SlR G v xs) : ∃ ao cap, v = .slice ao xs.length cap ∧ ∀ i (hi : i < xs.length), ∃ lb, ao = some ⟨lb, 0, none⟩ ∧ ∀ W : World, Holds G W → W.cell? ⟨lb, i, none⟩ = some xs[i] := by
  rcases h with ⟨rfl, rfl⟩ | ⟨b, arr, T, cap, rfl, hb, hat⟩
  · exact ⟨none, 0, rfl, fun i hi => by cases hi⟩
  · exact ⟨_, cap, rfl, fun i hi => ⟨b, rfl, fun W hW => cell_of_heap (hW _ _ hb) (hat i hi)⟩⟩
theorem maxL_take {l : List Nat} {i : Nat} (h : i < l.length) : maxL (l.take (i + 1)) = max (maxL (l.take i)) l[i] := by
  unfold maxL
  rw [List.take_succ_eq_append_getElem h, List.foldl_append]
  rfl
theorem maxL_le {l : List Nat} {i : Nat} (h : i < l.length) : l[i] ≤ maxL l := by
  have h1 := maxL_take h
  have h2 : maxL l = max (maxL (l.take (i + 1))) (maxL (l.drop (i + 1))) := by
    unfold maxL
    conv => lhs; rw [← List.take_append_drop (i + 1) l]
    rw [List.foldl_append, foldl_max]
  omega
theorem maxL_take_le (l : List Nat) (i : Nat) : maxL (l.take i) ≤ maxL l := by
  have h2 : maxL l = max (maxL (l.take i)) (maxL (l.drop i)) := by
    unfold maxL
    conv => lhs; rw [← List.take_append_drop i l]
    rw [List.foldl_append, foldl_max]
  omega
theorem bs_len_show : ∀ bd : Bs, bd.exprs.length ≤ bd.show.length
  | .nil => Nat.zero_le _
  | .cons n x .nil => by simp [Bs.exprs, Bs.show]; omega
  | .cons n x (.cons m y r) => by
    have := bs_len_show (.cons m y r)
    simp only [Bs.exprs, List.length_cons, Bs.show, List.length_append, List.length_nil] at this ⊢
    omega
theorem bs_kid_show : ∀ (bd : Bs) (y : Ex), y ∈ bd.exprs → y.show.length ≤ bd.show.length
  | .nil, y, h => by cases h
  | .cons n x .nil, y, h => by
    simp only [Bs.exprs, List.mem_singleton] at h; subst h; simp [Bs.show]; omega
  | .cons n x (.cons m z r), y, h => by
    have ih := bs_kid_show (.cons m z r) y
    simp only [Bs.exprs, List.mem_cons] at h ih
    simp only [Bs.show, List.length_append] at ih ⊢
    rcases h with rfl | h
    · omega
    · have := ih h; omega
theorem kids_len (x : Ex) : x.rkids.length ≤ x.show.length + 3 := by
  cases x <;> simp only [Ex.rkids, List.length_cons, List.length_nil] <;> try omega
  rename_i bd e
  have := bs_len_show bd
  simp only [List.length_append, List.length_singleton, Ex.show]
  omega
theorem kid_show (x : Ex) (y : Ex) (h : y ∈ x.rkids) : y.show.length ≤ x.show.length := by
  cases x with
  | name p n => cases h
  | num t => cases h
  | fn n b => simp only [Ex.rkids, List.mem_singleton] at h; subst h; simp [Ex.show]; omega
  | pair a b => simp only [Ex.rkids, List.mem_cons, List.not_mem_nil, or_false] at h; simp only [Ex.show, List.length_append]; rcases h with rfl | rfl <;> omega
  | lt n a b => simp only [Ex.rkids, List.mem_cons, List.not_mem_nil, or_false] at h; simp only [Ex.show, List.length_append]; rcases h with rfl | rfl <;> omega
  | ite c a b => simp only [Ex.rkids, List.mem_cons, List.not_mem_nil, or_false] at h; simp only [Ex.show, List.length_append]; rcases h with rfl | rfl | rfl <;> omega
  | app f a =>
    simp only [Ex.rkids, List.mem_cons, List.not_mem_nil, or_false] at h
    simp only [Ex.show, List.length_append]
    have h1 : f.show.length ≤ (if isApp f = true then f.show else if isFlat f = true then f.show else LP ++ f.show ++ RP).length := by
      split
      · omega
      · split
        · omega
        · simp [LP, RP]; omega
    have h2 : a.show.length ≤ (if isFlat a = true then a.show else LP ++ a.show ++ RP).length := by
      split
      · omega
      · simp [LP, RP]; omega
    rcases h with rfl | rfl <;> omega
  | rc bd e =>
    simp only [Ex.rkids, List.mem_append, List.mem_singleton] at h
    simp only [Ex.show, List.length_append]
    rcases h with h | rfl
    · have := bs_kid_show bd y h; omega
    · omega
theorem drewN_keep (w : World) (n : Nat) : Keep none' w (w.drewN n) := Keep.drewN _ _ _
set_option maxRecDepth 100000 in
set_option maxHeartbeats 4000000 in
theorem tr_deep {G : GH} {b : Nat} {x : Ex} (h : XR G b x) : x.depth ≤ 1000000000 → x.show.length ≤ 1000000000000 → ∀ w : World, Holds G w → Calls Tryd.prog 26 #[.pointer (some ⟨b, 0, none⟩)] w fun e w' => e = .returned (.int .i64 x.depth) ∧ ∃ m, w' = w.drewN m := by
  induction h with
  | @mk b x nv lv at' ks h1 h2 h3 h4 h5 ih =>
    intro hd hsl w hw
    have hkn : ks.length ≤ 2000000000000 := by have := kids_len x; omega
    obtain ⟨ao, cap, rfl, hc⟩ := slr_shp h3
    have c2 : w.cell? ⟨b, 2, none⟩ = some (.slice ao ks.length cap) := by have := cell_of_heap (i := 2) (hw _ _ h1) rfl; simpa using this
    have hdk := rdepth_kids x
    have HW := Lib.hid hw; have HC := Lib.hid hc; have H4 := Lib.hid h4; have IH := Lib.hid ih; have HDK := Lib.hid hdk
    clear hw hc h1 h2 h3 h4 h5 ih hdk
    go_enter Tryd.func26, Tryd.ntmps26
    go_wp2_with fail
    go_loopg [3, 12] ks.length (fun gn s3 s12 wr => ∃ i : Nat, i ≤ ks.length ∧ Hid (gn = ks.length - i) ∧ s12 = .int .i64 i ∧ s3 = .int .i64 (maxL ((x.rkids.map Ex.depth).take i) : Nat) ∧ ∃ m, wr = w.drewN m)
    case atStart => exact ⟨0, by omega, Lib.hid rfl, rfl, rfl, 0, rfl⟩
    case round =>
      obtain ⟨i, hi, HM, rfl, rfl, m, hwr⟩ := hrel
      subst wr
      have h0i : (0 : Int) ≤ (i : Int) := by omega
      by_cases hlt : i < ks.length
      · have hii : (i : Int) < (ks.length : Int) := by omega
        have hlk : i < x.rkids.length := by rw [← H4.out]; exact hlt
        obtain ⟨lb, rfl, hcl⟩ := HC.out i (by simpa using hlt)
        have cm : (w.drewN m).cell? ⟨lb, i, none⟩ = some (.pointer (some ⟨ks[i], 0, none⟩)) := by rw [hcl (w.drewN m) (HW.out.keep0 (Keep.drewN _ _ _))]; simp [ptr]
        have hmt := maxL_take (l := x.rkids.map Ex.depth) (i := i) (by simpa using hlk)
        have hml := maxL_le (l := x.rkids.map Ex.depth) (i := i) (by simpa using hlk)
        have hmt2 := maxL_take_le (x.rkids.map Ex.depth) i
        simp only [List.getElem_map] at hmt hml
        have hdd := HDK.out
        have hcall := IH.out i hlt hlk (by omega) (Nat.le_trans (kid_show x _ (List.getElem_mem hlk)) hsl) (w.drewN m) (HW.out.keep0 (Keep.drewN _ _ _))
        obtain ⟨di, hdi⟩ : ∃ di, di = x.rkids[i].depth := ⟨_, rfl⟩
        obtain ⟨ki, hki⟩ : ∃ ki, ki = ks[i] := ⟨_, rfl⟩
        obtain ⟨mi, hmi⟩ : ∃ mi, mi = maxL ((x.rkids.map Ex.depth).take i) := ⟨_, rfl⟩
        rw [← hdi] at hmt hml hcall
        rw [← hki] at cm hcall
        rw [← hmi] at hmt hmt2 ⊢
        have HMT := Lib.hid hmt; have HCALL := Lib.hid hcall
        have hb1 : di ≤ 1000000000 := by omega
        have hb2 : mi ≤ 1000000000 := by omega
        clear hmt hml hmt2 hcall hdi hki hmi hdd hlk hcl
        go_wp2_with fail
        refine HCALL.out.mono ?_
        rintro e w2 ⟨rfl, m2, hw2⟩
        have hw3 : w2 = w.drewN (m + m2) := by rw [hw2, World.drewN_drewN]
        subst w2
        rw [hw3]
        clear hw3
        by_cases hgt : mi < di
        · have hgi : (mi : Int) < (di : Int) := by omega
          have HMX : Hid (max mi di = di) := Lib.hid (by omega)
          clear hgt
          go_wp2_with fail
          go_roundg (ks.length - (i + 1))
          case measure => have := HM.out; omega
          case rel => exact ⟨i + 1, by omega, Lib.hid rfl, by go_num, by rw [HMT.out, HMX.out], _, rfl⟩
        · have hgi : ¬ (mi : Int) < (di : Int) := by omega
          have HMX : Hid (max mi di = mi) := Lib.hid (by omega)
          clear hgt
          go_wp2_with fail
          go_roundg (ks.length - (i + 1))
          case measure => have := HM.out; omega
          case rel => exact ⟨i + 1, by omega, Lib.hid rfl, by go_num, by rw [HMT.out, HMX.out], _, rfl⟩
      · have hie : i = ks.length := by omega
        subst hie
        have hl : (x.rkids.map Ex.depth).take ks.length = x.rkids.map Ex.depth := by rw [H4.out, ← List.length_map (f := Ex.depth), List.take_length]
        rw [hl]
        have hdd := HDK.out
        obtain ⟨mi, hmi⟩ : ∃ mi, mi = maxL (x.rkids.map Ex.depth) := ⟨_, rfl⟩
        rw [← hmi] at hdd ⊢
        have HDD := Lib.hid hdd
        have hb2 : mi ≤ 1000000000 := by omega
        clear hl hmi hdd
        go_wp2_with fail
        go_ret
        exact ⟨by rw [HDD.out]; rfl, _, rfl⟩
end Go.Proofs.YtabikmkoajdhmaaDoor
