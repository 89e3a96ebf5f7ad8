/- ast.Show by a contract, given the contract one step down: names, numbers, fun, pairs, let, if. -/
import Derived.Test.YtabikmkoajdhmaaDoorQ24
import Derived.Test.YtabikmkoajdhmaaDoorQ04
import Derived.Test.YtabikmkoajdhmaaDoorShelf
import Derived.Test.YtabikmkoajdhmaaDoorQ21
set_option linter.unusedVariables false
set_option linter.unusedSimpArgs false
namespace Go.Proofs.YtabikmkoajdhmaaDoor
open Go.RowKit

def EShowPost (w : World) (x : Ex) (e : Ending) (w' : World) : Prop := e = .returned (.string (bs x.show)) ∧ Keep none' w w'
def EShowOk (n : Nat) : Prop := ∀ (G : GH) (w : World) (v : Value) (x : Ex), Holds G w → ExR G v x → x.depth ≤ n → x.show.length ≤ 1000000000000 → Calls Tryd.prog 43 #[v] w (EShowPost w x)

set_option maxRecDepth 100000 in
set_option maxHeartbeats 4000000 in
theorem eshow_name (G : GH) (w : World) (b p : Nat) (s : Str) (hG : Holds G w) (h : G b = some (.cells #[.int .i64 p, .string (bs s)] 175)) : Calls Tryd.prog 43 #[.iface 172 (.pointer (some ⟨b, 0, none⟩))] w (EShowPost w (.name p s)) := by
  have c1 : w.cell? ⟨b, 1, none⟩ = some (.string (bs s)) := cell_of_heap (hG _ _ h) rfl
  clear hG h
  have aNameName := taNameName
  go_enter Tryd.func43, Tryd.ntmps43
  go_wp2_with fail
  go_ret
  exact ⟨rfl, Keep.refl _ _⟩

set_option maxRecDepth 100000 in
set_option maxHeartbeats 4000000 in
theorem eshow_num (G : GH) (w : World) (b : Nat) (p : Int) (s : Str) (hG : Holds G w) (h : G b = some (.cells #[.int .i64 p, .string (bs s)] 178)) : Calls Tryd.prog 43 #[.iface 176 (.pointer (some ⟨b, 0, none⟩))] w (EShowPost w (.num s)) := by
  have c1 : w.cell? ⟨b, 1, none⟩ = some (.string (bs s)) := cell_of_heap (hG _ _ h) rfl
  clear hG h
  have aNumName := taNumName
  have aNumNum := taNumNum
  go_enter Tryd.func43, Tryd.ntmps43
  go_wp2_with fail
  go_ret
  exact ⟨rfl, Keep.refl _ _⟩

set_option maxRecDepth 100000 in
set_option maxHeartbeats 4000000 in
theorem eshow_fn (n : Nat) (ih : EShowOk n) (G : GH) (w : World) (b : Nat) (p : Int) (s : Str) (x : Ex) (vx : Value) (hG : Holds G w) (h : G b = some (.cells #[.int .i64 p, .string (bs s), vx] 181)) (hx : ExR G vx x) (hd : (Ex.fn s x).depth ≤ n + 1) (hl : (Ex.fn s x).show.length ≤ 1000000000000) :
    Calls Tryd.prog 43 #[.iface 179 (.pointer (some ⟨b, 0, none⟩))] w (EShowPost w (Ex.fn s x)) := by
  have hK : ∀ w', Holds G w' → w'.cell? ⟨b, 1, none⟩ = some (.string (bs s)) ∧ w'.cell? ⟨b, 2, none⟩ = some vx := fun w' hw => ⟨cell_of_heap (hw _ _ h) rfl, cell_of_heap (hw _ _ h) rfl⟩
  obtain ⟨Tx, bx, rfl⟩ := hx.shape
  have hT : 4 + s.length + 4 + x.show.length ≤ 1000000000000 := by
    have := hl
    simp [Ex.show, FUN, LP, RP, LET, IF, List.length_append] at this
    omega
  have hdx : x.depth ≤ n := by simp only [Ex.depth] at hd; omega
  have q1 : ¬ 9223372036854775807 < 4 + (bs s).size := by (try simp only [bs_size]); omega
  have q2 : ¬ 9223372036854775807 < 4 + (bs s).size + 4 := by (try simp only [bs_size]); omega
  have q3 : ¬ 9223372036854775807 < 4 + (bs s).size + 4 + (bs x.show).size := by (try simp only [bs_size]); omega
  have hlx : x.show.length ≤ 1000000000000 := by omega
  have IH := Lib.hid ih; have HG := Lib.hid hG; have HK := Lib.hid hK; have HL := Lib.hid hl
  have HXx := Lib.hid hx
  clear ih hG hK h hl hd hx
  have aFunName := taFunName
  have aFunNum := taFunNum
  have aFunFun := taFunFun
  go_enter Tryd.func43, Tryd.ntmps43
  go_wp2_with fail
  have S0 := HK.out w.drew (HG.out.keep0 (Keep.drew _ _))
  refine wp_region_float (fun w' => w'.cell? ⟨b, 1, none⟩ = some (.string (bs s)) ∧ w'.cell? ⟨b, 2, none⟩ = some (.iface Tx (.pointer (some ⟨bx, 0, none⟩)))) [0, 1, 2, 4, 5, 6, 7, 8, 11] [3, 9] (by kernel_rfl) ?_
  (refine float0 (i := 0) (v := ?_) rfl (by kernel_rfl) (by kernel_rfl) (by kernel_rfl) (by kernel_rfl) (fun _ _ _ h => h) (by rfl) ?_ ?_); rotate_left
  (intro wF; go_simp; try with_reducible rfl)
  (try simp only [Act.put, List.setIfInBounds_toArray, List.set_cons_zero, List.set_cons_succ])
  (refine float0 (i := 1) (v := ?_) rfl (by kernel_rfl) (by kernel_rfl) (by kernel_rfl) (by kernel_rfl) (fun _ _ _ h => h) (by rfl) ?_ ?_); rotate_left
  (intro wF; go_simp; try with_reducible rfl)
  (try simp only [Act.put, List.setIfInBounds_toArray, List.set_cons_zero, List.set_cons_succ])
  (refine float0 (i := 2) (v := ?_) rfl (by kernel_rfl) (by kernel_rfl) (by kernel_rfl) (by kernel_rfl) (fun _ _ _ h => h) (by rfl) ?_ ?_); rotate_left
  (intro wF; go_simp; try with_reducible rfl)
  (try simp only [Act.put, List.setIfInBounds_toArray, List.set_cons_zero, List.set_cons_succ])
  (refine floatS (i := 3) (v := ?_) rfl (by kernel_rfl) (by kernel_rfl) (by kernel_rfl) (by kernel_rfl) (fun _ _ _ h => h) (by assumption) (by rfl) ?_ ?_); rotate_left
  (intro wF hF; (try dsimp only at hF); go_simp; try with_reducible rfl)
  (try simp only [Act.put, List.setIfInBounds_toArray, List.set_cons_zero, List.set_cons_succ])
  (refine float0 (i := 4) (v := ?_) rfl (by kernel_rfl) (by kernel_rfl) (by kernel_rfl) (by kernel_rfl) (fun _ _ _ h => h) (by rfl) ?_ ?_); rotate_left
  (intro wF; go_simp; try with_reducible rfl)
  (try simp only [Act.put, List.setIfInBounds_toArray, List.set_cons_zero, List.set_cons_succ])
  (refine float0 (i := 5) (v := ?_) rfl (by kernel_rfl) (by kernel_rfl) (by kernel_rfl) (by kernel_rfl) (fun _ _ _ h => h) (by rfl) ?_ ?_); rotate_left
  (intro wF; go_simp; try with_reducible rfl)
  (try simp only [Act.put, List.setIfInBounds_toArray, List.set_cons_zero, List.set_cons_succ])
  (refine float0 (i := 6) (v := ?_) rfl (by kernel_rfl) (by kernel_rfl) (by kernel_rfl) (by kernel_rfl) (fun _ _ _ h => h) (by rfl) ?_ ?_); rotate_left
  (intro wF; go_simp; try with_reducible rfl)
  (try simp only [Act.put, List.setIfInBounds_toArray, List.set_cons_zero, List.set_cons_succ])
  (refine float0 (i := 7) (v := ?_) rfl (by kernel_rfl) (by kernel_rfl) (by kernel_rfl) (by kernel_rfl) (fun _ _ _ h => h) (by rfl) ?_ ?_); rotate_left
  (intro wF; go_simp; try with_reducible rfl)
  (try simp only [Act.put, List.setIfInBounds_toArray, List.set_cons_zero, List.set_cons_succ])
  (refine float0 (i := 8) (v := ?_) rfl (by kernel_rfl) (by kernel_rfl) (by kernel_rfl) (by kernel_rfl) (fun _ _ _ h => h) (by rfl) ?_ ?_); rotate_left
  (intro wF; go_simp; try with_reducible rfl)
  (try simp only [Act.put, List.setIfInBounds_toArray, List.set_cons_zero, List.set_cons_succ])
  (refine floatS (i := 9) (v := ?_) rfl (by kernel_rfl) (by kernel_rfl) (by kernel_rfl) (by kernel_rfl) (fun _ _ _ h => h) (by assumption) (by rfl) ?_ ?_); rotate_left
  (intro wF hF; (try dsimp only at hF); go_simp; try with_reducible rfl)
  (try simp only [Act.put, List.setIfInBounds_toArray, List.set_cons_zero, List.set_cons_succ])
  (refine floatM (i := 10) rfl (by kernel_rfl) (by kernel_rfl) (fun K hK => ?_)); go_simp
  refine (IH.out G _ _ x (HG.out.keep0 (Keep.drew _ _)) HXx.out hdx hlx).mono ?_
  rintro e w2 ⟨rfl, k2⟩
  have K2 := Lib.hid ((Keep.drew _ _).trans k2)
  clear k2
  go_wp2_with fail
  refine hK.out _ _ (fun _ => HK.out _ (HG.out.keep0 K2.out)) ?_
  clear hK K
  (try simp only [Act.put, List.setIfInBounds_toArray, List.set_cons_zero, List.set_cons_succ])
  (refine float0 (i := 11) (v := ?_) rfl (by kernel_rfl) (by kernel_rfl) (by kernel_rfl) (by kernel_rfl) (fun _ _ _ h => h) (by rfl) ?_ ?_); rotate_left
  (intro wF; go_simp; try with_reducible rfl)
  (try simp only [Act.put, List.setIfInBounds_toArray, List.set_cons_zero, List.set_cons_succ])
  (refine floatM (i := 12) rfl (by kernel_rfl) (by kernel_rfl) (fun K hK => ?_)); go_simp
  refine hK.out _ _ (fun _ => HK.out _ (HG.out.keep0 K2.out)) ?_
  clear hK K
  (try simp only [Act.put, List.setIfInBounds_toArray, List.set_cons_zero, List.set_cons_succ])
  (refine floatE (by kernel_rfl) ?_)
  go_wp2_with fail
  go_ret
  refine ⟨?_, K2.out⟩
  show Ending.returned (.string (bs [102, 117, 110, 32] ++ bs s ++ bs [32, 45, 62, 32] ++ bs x.show)) = _
  rw [bs_append, bs_append, bs_append]
  simp [Ex.show, FUN, LP, RP, LET, IF]

set_option maxRecDepth 100000 in
set_option maxHeartbeats 4000000 in
theorem eshow_pair (n : Nat) (ih : EShowOk n) (G : GH) (w : World) (b : Nat) (p : Int) (x : Ex) (u : Ex) (vx : Value) (vu : Value) (hG : Holds G w) (h : G b = some (.cells #[.int .i64 p, vx, vu] 184)) (hx : ExR G vx x) (hu : ExR G vu u) (hd : (Ex.pair x u).depth ≤ n + 1) (hl : (Ex.pair x u).show.length ≤ 1000000000000) :
    Calls Tryd.prog 43 #[.iface 182 (.pointer (some ⟨b, 0, none⟩))] w (EShowPost w (Ex.pair x u)) := by
  have hK : ∀ w', Holds G w' → w'.cell? ⟨b, 1, none⟩ = some vx ∧ w'.cell? ⟨b, 2, none⟩ = some vu := fun w' hw => ⟨cell_of_heap (hw _ _ h) rfl, cell_of_heap (hw _ _ h) rfl⟩
  obtain ⟨Tx, bx, rfl⟩ := hx.shape
  obtain ⟨Tu, bu, rfl⟩ := hu.shape
  have hT : 1 + x.show.length + 2 + u.show.length + 1 ≤ 1000000000000 := by
    have := hl
    simp [Ex.show, FUN, LP, RP, LET, IF, List.length_append] at this
    omega
  have hdx : x.depth ≤ n := by simp only [Ex.depth] at hd; omega
  have hdu : u.depth ≤ n := by simp only [Ex.depth] at hd; omega
  have q1 : ¬ 9223372036854775807 < 1 + (bs x.show).size := by (try simp only [bs_size]); omega
  have q2 : ¬ 9223372036854775807 < 1 + (bs x.show).size + 2 := by (try simp only [bs_size]); omega
  have q3 : ¬ 9223372036854775807 < 1 + (bs x.show).size + 2 + (bs u.show).size := by (try simp only [bs_size]); omega
  have q4 : ¬ 9223372036854775807 < 1 + (bs x.show).size + 2 + (bs u.show).size + 1 := by (try simp only [bs_size]); omega
  have hlx : x.show.length ≤ 1000000000000 := by omega
  have hlu : u.show.length ≤ 1000000000000 := by omega
  have IH := Lib.hid ih; have HG := Lib.hid hG; have HK := Lib.hid hK; have HL := Lib.hid hl
  have HXx := Lib.hid hx
  have HXu := Lib.hid hu
  clear ih hG hK h hl hd hx hu
  have aPairName := taPairName
  have aPairNum := taPairNum
  have aPairFun := taPairFun
  have aPairPair := taPairPair
  go_enter Tryd.func43, Tryd.ntmps43
  go_wp2_with fail
  have S0 := HK.out w.drew (HG.out.keep0 (Keep.drew _ _))
  refine wp_region_float (fun w' => w'.cell? ⟨b, 1, none⟩ = some (.iface Tx (.pointer (some ⟨bx, 0, none⟩))) ∧ w'.cell? ⟨b, 2, none⟩ = some (.iface Tu (.pointer (some ⟨bu, 0, none⟩)))) [0, 1, 2, 5, 6, 7, 8, 9, 12, 13] [3, 10] (by kernel_rfl) ?_
  (refine float0 (i := 0) (v := ?_) rfl (by kernel_rfl) (by kernel_rfl) (by kernel_rfl) (by kernel_rfl) (fun _ _ _ h => h) (by rfl) ?_ ?_); rotate_left
  (intro wF; go_simp; try with_reducible rfl)
  (try simp only [Act.put, List.setIfInBounds_toArray, List.set_cons_zero, List.set_cons_succ])
  (refine float0 (i := 1) (v := ?_) rfl (by kernel_rfl) (by kernel_rfl) (by kernel_rfl) (by kernel_rfl) (fun _ _ _ h => h) (by rfl) ?_ ?_); rotate_left
  (intro wF; go_simp; try with_reducible rfl)
  (try simp only [Act.put, List.setIfInBounds_toArray, List.set_cons_zero, List.set_cons_succ])
  (refine float0 (i := 2) (v := ?_) rfl (by kernel_rfl) (by kernel_rfl) (by kernel_rfl) (by kernel_rfl) (fun _ _ _ h => h) (by rfl) ?_ ?_); rotate_left
  (intro wF; go_simp; try with_reducible rfl)
  (try simp only [Act.put, List.setIfInBounds_toArray, List.set_cons_zero, List.set_cons_succ])
  (refine floatS (i := 3) (v := ?_) rfl (by kernel_rfl) (by kernel_rfl) (by kernel_rfl) (by kernel_rfl) (fun _ _ _ h => h) (by assumption) (by rfl) ?_ ?_); rotate_left
  (intro wF hF; (try dsimp only at hF); go_simp; try with_reducible rfl)
  (try simp only [Act.put, List.setIfInBounds_toArray, List.set_cons_zero, List.set_cons_succ])
  (refine float0 (i := 7) (v := ?_) rfl (by kernel_rfl) (by kernel_rfl) (by kernel_rfl) (by kernel_rfl) (fun _ _ _ h => h) (by rfl) ?_ ?_); rotate_left
  (intro wF; go_simp; try with_reducible rfl)
  (try simp only [Act.put, List.setIfInBounds_toArray, List.set_cons_zero, List.set_cons_succ])
  (refine float0 (i := 8) (v := ?_) rfl (by kernel_rfl) (by kernel_rfl) (by kernel_rfl) (by kernel_rfl) (fun _ _ _ h => h) (by rfl) ?_ ?_); rotate_left
  (intro wF; go_simp; try with_reducible rfl)
  (try simp only [Act.put, List.setIfInBounds_toArray, List.set_cons_zero, List.set_cons_succ])
  (refine float0 (i := 9) (v := ?_) rfl (by kernel_rfl) (by kernel_rfl) (by kernel_rfl) (by kernel_rfl) (fun _ _ _ h => h) (by rfl) ?_ ?_); rotate_left
  (intro wF; go_simp; try with_reducible rfl)
  (try simp only [Act.put, List.setIfInBounds_toArray, List.set_cons_zero, List.set_cons_succ])
  (refine floatS (i := 10) (v := ?_) rfl (by kernel_rfl) (by kernel_rfl) (by kernel_rfl) (by kernel_rfl) (fun _ _ _ h => h) (by assumption) (by rfl) ?_ ?_); rotate_left
  (intro wF hF; (try dsimp only at hF); go_simp; try with_reducible rfl)
  (try simp only [Act.put, List.setIfInBounds_toArray, List.set_cons_zero, List.set_cons_succ])
  (refine floatM (i := 4) rfl (by kernel_rfl) (by kernel_rfl) (fun K hK => ?_)); go_simp
  refine (IH.out G _ _ x (HG.out.keep0 (Keep.drew _ _)) HXx.out hdx hlx).mono ?_
  rintro e w2 ⟨rfl, k2⟩
  have K2 := Lib.hid ((Keep.drew _ _).trans k2)
  clear k2
  go_wp2_with fail
  refine hK.out _ _ (fun _ => HK.out _ (HG.out.keep0 K2.out)) ?_
  clear hK K
  (try simp only [Act.put, List.setIfInBounds_toArray, List.set_cons_zero, List.set_cons_succ])
  (refine float0 (i := 5) (v := ?_) rfl (by kernel_rfl) (by kernel_rfl) (by kernel_rfl) (by kernel_rfl) (fun _ _ _ h => h) (by rfl) ?_ ?_); rotate_left
  (intro wF; go_simp; try with_reducible rfl)
  (try simp only [Act.put, List.setIfInBounds_toArray, List.set_cons_zero, List.set_cons_succ])
  (refine float0 (i := 6) (v := ?_) rfl (by kernel_rfl) (by kernel_rfl) (by kernel_rfl) (by kernel_rfl) (fun _ _ _ h => h) (by rfl) ?_ ?_); rotate_left
  (intro wF; go_simp; try with_reducible rfl)
  (try simp only [Act.put, List.setIfInBounds_toArray, List.set_cons_zero, List.set_cons_succ])
  (refine floatM (i := 11) rfl (by kernel_rfl) (by kernel_rfl) (fun K hK => ?_)); go_simp
  refine (IH.out G _ _ u (HG.out.keep0 K2.out) HXu.out hdu hlu).mono ?_
  rintro e w3 ⟨rfl, k3⟩
  have K3 := Lib.hid (K2.out.trans k3)
  clear k3
  go_wp2_with fail
  refine hK.out _ _ (fun _ => HK.out _ (HG.out.keep0 K3.out)) ?_
  clear hK K
  (try simp only [Act.put, List.setIfInBounds_toArray, List.set_cons_zero, List.set_cons_succ])
  (refine float0 (i := 12) (v := ?_) rfl (by kernel_rfl) (by kernel_rfl) (by kernel_rfl) (by kernel_rfl) (fun _ _ _ h => h) (by rfl) ?_ ?_); rotate_left
  (intro wF; go_simp; try with_reducible rfl)
  (try simp only [Act.put, List.setIfInBounds_toArray, List.set_cons_zero, List.set_cons_succ])
  (refine float0 (i := 13) (v := ?_) rfl (by kernel_rfl) (by kernel_rfl) (by kernel_rfl) (by kernel_rfl) (fun _ _ _ h => h) (by rfl) ?_ ?_); rotate_left
  (intro wF; go_simp; try with_reducible rfl)
  (try simp only [Act.put, List.setIfInBounds_toArray, List.set_cons_zero, List.set_cons_succ])
  (refine floatM (i := 14) rfl (by kernel_rfl) (by kernel_rfl) (fun K hK => ?_)); go_simp
  refine hK.out _ _ (fun _ => HK.out _ (HG.out.keep0 K3.out)) ?_
  clear hK K
  (try simp only [Act.put, List.setIfInBounds_toArray, List.set_cons_zero, List.set_cons_succ])
  (refine floatE (by kernel_rfl) ?_)
  go_wp2_with fail
  go_ret
  refine ⟨?_, K3.out⟩
  show Ending.returned (.string (bs LP ++ bs x.show ++ bs [44, 32] ++ bs u.show ++ bs RP)) = _
  rw [bs_append, bs_append, bs_append, bs_append]
  simp [Ex.show, FUN, LP, RP, LET, IF]

set_option maxRecDepth 100000 in
set_option maxHeartbeats 4000000 in
theorem eshow_lt (n : Nat) (ih : EShowOk n) (G : GH) (w : World) (b : Nat) (p : Int) (s : Str) (x : Ex) (u : Ex) (vx : Value) (vu : Value) (hG : Holds G w) (h : G b = some (.cells #[.int .i64 p, .string (bs s), vx, vu] 187)) (hx : ExR G vx x) (hu : ExR G vu u) (hd : (Ex.lt s x u).depth ≤ n + 1) (hl : (Ex.lt s x u).show.length ≤ 1000000000000) :
    Calls Tryd.prog 43 #[.iface 185 (.pointer (some ⟨b, 0, none⟩))] w (EShowPost w (Ex.lt s x u)) := by
  have hK : ∀ w', Holds G w' → w'.cell? ⟨b, 1, none⟩ = some (.string (bs s)) ∧ w'.cell? ⟨b, 2, none⟩ = some vx ∧ w'.cell? ⟨b, 3, none⟩ = some vu := fun w' hw => ⟨cell_of_heap (hw _ _ h) rfl, cell_of_heap (hw _ _ h) rfl, cell_of_heap (hw _ _ h) rfl⟩
  obtain ⟨Tx, bx, rfl⟩ := hx.shape
  obtain ⟨Tu, bu, rfl⟩ := hu.shape
  have hT : 4 + s.length + 3 + x.show.length + 4 + u.show.length ≤ 1000000000000 := by
    have := hl
    simp [Ex.show, FUN, LP, RP, LET, IF, List.length_append] at this
    omega
  have hdx : x.depth ≤ n := by simp only [Ex.depth] at hd; omega
  have hdu : u.depth ≤ n := by simp only [Ex.depth] at hd; omega
  have q1 : ¬ 9223372036854775807 < 4 + (bs s).size := by (try simp only [bs_size]); omega
  have q2 : ¬ 9223372036854775807 < 4 + (bs s).size + 3 := by (try simp only [bs_size]); omega
  have q3 : ¬ 9223372036854775807 < 4 + (bs s).size + 3 + (bs x.show).size := by (try simp only [bs_size]); omega
  have q4 : ¬ 9223372036854775807 < 4 + (bs s).size + 3 + (bs x.show).size + 4 := by (try simp only [bs_size]); omega
  have q5 : ¬ 9223372036854775807 < 4 + (bs s).size + 3 + (bs x.show).size + 4 + (bs u.show).size := by (try simp only [bs_size]); omega
  have hlx : x.show.length ≤ 1000000000000 := by omega
  have hlu : u.show.length ≤ 1000000000000 := by omega
  have IH := Lib.hid ih; have HG := Lib.hid hG; have HK := Lib.hid hK; have HL := Lib.hid hl
  have HXx := Lib.hid hx
  have HXu := Lib.hid hu
  clear ih hG hK h hl hd hx hu
  have aLetName := taLetName
  have aLetNum := taLetNum
  have aLetFun := taLetFun
  have aLetPair := taLetPair
  have aLetLet := taLetLet
  go_enter Tryd.func43, Tryd.ntmps43
  go_wp2_with fail
  have S0 := HK.out w.drew (HG.out.keep0 (Keep.drew _ _))
  refine wp_region_float (fun w' => w'.cell? ⟨b, 1, none⟩ = some (.string (bs s)) ∧ w'.cell? ⟨b, 2, none⟩ = some (.iface Tx (.pointer (some ⟨bx, 0, none⟩))) ∧ w'.cell? ⟨b, 3, none⟩ = some (.iface Tu (.pointer (some ⟨bu, 0, none⟩)))) [0, 1, 2, 4, 5, 6, 7, 8, 11, 12, 13, 14, 15, 18] [3, 9, 16] (by kernel_rfl) ?_
  (refine float0 (i := 0) (v := ?_) rfl (by kernel_rfl) (by kernel_rfl) (by kernel_rfl) (by kernel_rfl) (fun _ _ _ h => h) (by rfl) ?_ ?_); rotate_left
  (intro wF; go_simp; try with_reducible rfl)
  (try simp only [Act.put, List.setIfInBounds_toArray, List.set_cons_zero, List.set_cons_succ])
  (refine float0 (i := 1) (v := ?_) rfl (by kernel_rfl) (by kernel_rfl) (by kernel_rfl) (by kernel_rfl) (fun _ _ _ h => h) (by rfl) ?_ ?_); rotate_left
  (intro wF; go_simp; try with_reducible rfl)
  (try simp only [Act.put, List.setIfInBounds_toArray, List.set_cons_zero, List.set_cons_succ])
  (refine float0 (i := 2) (v := ?_) rfl (by kernel_rfl) (by kernel_rfl) (by kernel_rfl) (by kernel_rfl) (fun _ _ _ h => h) (by rfl) ?_ ?_); rotate_left
  (intro wF; go_simp; try with_reducible rfl)
  (try simp only [Act.put, List.setIfInBounds_toArray, List.set_cons_zero, List.set_cons_succ])
  (refine floatS (i := 3) (v := ?_) rfl (by kernel_rfl) (by kernel_rfl) (by kernel_rfl) (by kernel_rfl) (fun _ _ _ h => h) (by assumption) (by rfl) ?_ ?_); rotate_left
  (intro wF hF; (try dsimp only at hF); go_simp; try with_reducible rfl)
  (try simp only [Act.put, List.setIfInBounds_toArray, List.set_cons_zero, List.set_cons_succ])
  (refine float0 (i := 4) (v := ?_) rfl (by kernel_rfl) (by kernel_rfl) (by kernel_rfl) (by kernel_rfl) (fun _ _ _ h => h) (by rfl) ?_ ?_); rotate_left
  (intro wF; go_simp; try with_reducible rfl)
  (try simp only [Act.put, List.setIfInBounds_toArray, List.set_cons_zero, List.set_cons_succ])
  (refine float0 (i := 5) (v := ?_) rfl (by kernel_rfl) (by kernel_rfl) (by kernel_rfl) (by kernel_rfl) (fun _ _ _ h => h) (by rfl) ?_ ?_); rotate_left
  (intro wF; go_simp; try with_reducible rfl)
  (try simp only [Act.put, List.setIfInBounds_toArray, List.set_cons_zero, List.set_cons_succ])
  (refine float0 (i := 6) (v := ?_) rfl (by kernel_rfl) (by kernel_rfl) (by kernel_rfl) (by kernel_rfl) (fun _ _ _ h => h) (by rfl) ?_ ?_); rotate_left
  (intro wF; go_simp; try with_reducible rfl)
  (try simp only [Act.put, List.setIfInBounds_toArray, List.set_cons_zero, List.set_cons_succ])
  (refine float0 (i := 7) (v := ?_) rfl (by kernel_rfl) (by kernel_rfl) (by kernel_rfl) (by kernel_rfl) (fun _ _ _ h => h) (by rfl) ?_ ?_); rotate_left
  (intro wF; go_simp; try with_reducible rfl)
  (try simp only [Act.put, List.setIfInBounds_toArray, List.set_cons_zero, List.set_cons_succ])
  (refine float0 (i := 8) (v := ?_) rfl (by kernel_rfl) (by kernel_rfl) (by kernel_rfl) (by kernel_rfl) (fun _ _ _ h => h) (by rfl) ?_ ?_); rotate_left
  (intro wF; go_simp; try with_reducible rfl)
  (try simp only [Act.put, List.setIfInBounds_toArray, List.set_cons_zero, List.set_cons_succ])
  (refine floatS (i := 9) (v := ?_) rfl (by kernel_rfl) (by kernel_rfl) (by kernel_rfl) (by kernel_rfl) (fun _ _ _ h => h) (by assumption) (by rfl) ?_ ?_); rotate_left
  (intro wF hF; (try dsimp only at hF); go_simp; try with_reducible rfl)
  (try simp only [Act.put, List.setIfInBounds_toArray, List.set_cons_zero, List.set_cons_succ])
  (refine float0 (i := 13) (v := ?_) rfl (by kernel_rfl) (by kernel_rfl) (by kernel_rfl) (by kernel_rfl) (fun _ _ _ h => h) (by rfl) ?_ ?_); rotate_left
  (intro wF; go_simp; try with_reducible rfl)
  (try simp only [Act.put, List.setIfInBounds_toArray, List.set_cons_zero, List.set_cons_succ])
  (refine float0 (i := 14) (v := ?_) rfl (by kernel_rfl) (by kernel_rfl) (by kernel_rfl) (by kernel_rfl) (fun _ _ _ h => h) (by rfl) ?_ ?_); rotate_left
  (intro wF; go_simp; try with_reducible rfl)
  (try simp only [Act.put, List.setIfInBounds_toArray, List.set_cons_zero, List.set_cons_succ])
  (refine float0 (i := 15) (v := ?_) rfl (by kernel_rfl) (by kernel_rfl) (by kernel_rfl) (by kernel_rfl) (fun _ _ _ h => h) (by rfl) ?_ ?_); rotate_left
  (intro wF; go_simp; try with_reducible rfl)
  (try simp only [Act.put, List.setIfInBounds_toArray, List.set_cons_zero, List.set_cons_succ])
  (refine floatS (i := 16) (v := ?_) rfl (by kernel_rfl) (by kernel_rfl) (by kernel_rfl) (by kernel_rfl) (fun _ _ _ h => h) (by assumption) (by rfl) ?_ ?_); rotate_left
  (intro wF hF; (try dsimp only at hF); go_simp; try with_reducible rfl)
  (try simp only [Act.put, List.setIfInBounds_toArray, List.set_cons_zero, List.set_cons_succ])
  (refine floatM (i := 10) rfl (by kernel_rfl) (by kernel_rfl) (fun K hK => ?_)); go_simp
  refine (IH.out G _ _ x (HG.out.keep0 (Keep.drew _ _)) HXx.out hdx hlx).mono ?_
  rintro e w2 ⟨rfl, k2⟩
  have K2 := Lib.hid ((Keep.drew _ _).trans k2)
  clear k2
  go_wp2_with fail
  refine hK.out _ _ (fun _ => HK.out _ (HG.out.keep0 K2.out)) ?_
  clear hK K
  (try simp only [Act.put, List.setIfInBounds_toArray, List.set_cons_zero, List.set_cons_succ])
  (refine float0 (i := 11) (v := ?_) rfl (by kernel_rfl) (by kernel_rfl) (by kernel_rfl) (by kernel_rfl) (fun _ _ _ h => h) (by rfl) ?_ ?_); rotate_left
  (intro wF; go_simp; try with_reducible rfl)
  (try simp only [Act.put, List.setIfInBounds_toArray, List.set_cons_zero, List.set_cons_succ])
  (refine float0 (i := 12) (v := ?_) rfl (by kernel_rfl) (by kernel_rfl) (by kernel_rfl) (by kernel_rfl) (fun _ _ _ h => h) (by rfl) ?_ ?_); rotate_left
  (intro wF; go_simp; try with_reducible rfl)
  (try simp only [Act.put, List.setIfInBounds_toArray, List.set_cons_zero, List.set_cons_succ])
  (refine floatM (i := 17) rfl (by kernel_rfl) (by kernel_rfl) (fun K hK => ?_)); go_simp
  refine (IH.out G _ _ u (HG.out.keep0 K2.out) HXu.out hdu hlu).mono ?_
  rintro e w3 ⟨rfl, k3⟩
  have K3 := Lib.hid (K2.out.trans k3)
  clear k3
  go_wp2_with fail
  refine hK.out _ _ (fun _ => HK.out _ (HG.out.keep0 K3.out)) ?_
  clear hK K
  (try simp only [Act.put, List.setIfInBounds_toArray, List.set_cons_zero, List.set_cons_succ])
  (refine float0 (i := 18) (v := ?_) rfl (by kernel_rfl) (by kernel_rfl) (by kernel_rfl) (by kernel_rfl) (fun _ _ _ h => h) (by rfl) ?_ ?_); rotate_left
  (intro wF; go_simp; try with_reducible rfl)
  (try simp only [Act.put, List.setIfInBounds_toArray, List.set_cons_zero, List.set_cons_succ])
  (refine floatM (i := 19) rfl (by kernel_rfl) (by kernel_rfl) (fun K hK => ?_)); go_simp
  refine hK.out _ _ (fun _ => HK.out _ (HG.out.keep0 K3.out)) ?_
  clear hK K
  (try simp only [Act.put, List.setIfInBounds_toArray, List.set_cons_zero, List.set_cons_succ])
  (refine floatE (by kernel_rfl) ?_)
  go_wp2_with fail
  go_ret
  refine ⟨?_, K3.out⟩
  show Ending.returned (.string (bs [108, 101, 116, 32] ++ bs s ++ bs [32, 61, 32] ++ bs x.show ++ bs [32, 105, 110, 32] ++ bs u.show)) = _
  rw [bs_append, bs_append, bs_append, bs_append, bs_append]
  simp [Ex.show, FUN, LP, RP, LET, IF]

set_option maxRecDepth 100000 in
set_option maxHeartbeats 4000000 in
theorem eshow_ite (n : Nat) (ih : EShowOk n) (G : GH) (w : World) (b : Nat) (p : Int) (x : Ex) (u : Ex) (q : Ex) (vx : Value) (vu : Value) (vq : Value) (hG : Holds G w) (h : G b = some (.cells #[.int .i64 p, vx, vu, vq] 190)) (hx : ExR G vx x) (hu : ExR G vu u) (hq : ExR G vq q) (hd : (Ex.ite x u q).depth ≤ n + 1) (hl : (Ex.ite x u q).show.length ≤ 1000000000000) :
    Calls Tryd.prog 43 #[.iface 188 (.pointer (some ⟨b, 0, none⟩))] w (EShowPost w (Ex.ite x u q)) := by
  have hK : ∀ w', Holds G w' → w'.cell? ⟨b, 1, none⟩ = some vx ∧ w'.cell? ⟨b, 2, none⟩ = some vu ∧ w'.cell? ⟨b, 3, none⟩ = some vq := fun w' hw => ⟨cell_of_heap (hw _ _ h) rfl, cell_of_heap (hw _ _ h) rfl, cell_of_heap (hw _ _ h) rfl⟩
  obtain ⟨Tx, bx, rfl⟩ := hx.shape
  obtain ⟨Tu, bu, rfl⟩ := hu.shape
  obtain ⟨Tq, bq, rfl⟩ := hq.shape
  have hT : 3 + x.show.length + 6 + u.show.length + 6 + q.show.length ≤ 1000000000000 := by
    have := hl
    simp [Ex.show, FUN, LP, RP, LET, IF, List.length_append] at this
    omega
  have hdx : x.depth ≤ n := by simp only [Ex.depth] at hd; omega
  have hdu : u.depth ≤ n := by simp only [Ex.depth] at hd; omega
  have hdq : q.depth ≤ n := by simp only [Ex.depth] at hd; omega
  have q1 : ¬ 9223372036854775807 < 3 + (bs x.show).size := by (try simp only [bs_size]); omega
  have q2 : ¬ 9223372036854775807 < 3 + (bs x.show).size + 6 := by (try simp only [bs_size]); omega
  have q3 : ¬ 9223372036854775807 < 3 + (bs x.show).size + 6 + (bs u.show).size := by (try simp only [bs_size]); omega
  have q4 : ¬ 9223372036854775807 < 3 + (bs x.show).size + 6 + (bs u.show).size + 6 := by (try simp only [bs_size]); omega
  have q5 : ¬ 9223372036854775807 < 3 + (bs x.show).size + 6 + (bs u.show).size + 6 + (bs q.show).size := by (try simp only [bs_size]); omega
  have hlx : x.show.length ≤ 1000000000000 := by omega
  have hlu : u.show.length ≤ 1000000000000 := by omega
  have hlq : q.show.length ≤ 1000000000000 := by omega
  have IH := Lib.hid ih; have HG := Lib.hid hG; have HK := Lib.hid hK; have HL := Lib.hid hl
  have HXx := Lib.hid hx
  have HXu := Lib.hid hu
  have HXq := Lib.hid hq
  clear ih hG hK h hl hd hx hu hq
  have aIfName := taIfName
  have aIfNum := taIfNum
  have aIfFun := taIfFun
  have aIfPair := taIfPair
  have aIfLet := taIfLet
  have aIfIf := taIfIf
  go_enter Tryd.func43, Tryd.ntmps43
  go_wp2_with fail
  have S0 := HK.out w.drew (HG.out.keep0 (Keep.drew _ _))
  refine wp_region_float (fun w' => w'.cell? ⟨b, 1, none⟩ = some (.iface Tx (.pointer (some ⟨bx, 0, none⟩))) ∧ w'.cell? ⟨b, 2, none⟩ = some (.iface Tu (.pointer (some ⟨bu, 0, none⟩))) ∧ w'.cell? ⟨b, 3, none⟩ = some (.iface Tq (.pointer (some ⟨bq, 0, none⟩)))) [0, 1, 2, 5, 6, 7, 8, 9, 12, 13, 14, 15, 16, 19] [3, 10, 17] (by kernel_rfl) ?_
  (refine float0 (i := 0) (v := ?_) rfl (by kernel_rfl) (by kernel_rfl) (by kernel_rfl) (by kernel_rfl) (fun _ _ _ h => h) (by rfl) ?_ ?_); rotate_left
  (intro wF; go_simp; try with_reducible rfl)
  (try simp only [Act.put, List.setIfInBounds_toArray, List.set_cons_zero, List.set_cons_succ])
  (refine float0 (i := 1) (v := ?_) rfl (by kernel_rfl) (by kernel_rfl) (by kernel_rfl) (by kernel_rfl) (fun _ _ _ h => h) (by rfl) ?_ ?_); rotate_left
  (intro wF; go_simp; try with_reducible rfl)
  (try simp only [Act.put, List.setIfInBounds_toArray, List.set_cons_zero, List.set_cons_succ])
  (refine float0 (i := 2) (v := ?_) rfl (by kernel_rfl) (by kernel_rfl) (by kernel_rfl) (by kernel_rfl) (fun _ _ _ h => h) (by rfl) ?_ ?_); rotate_left
  (intro wF; go_simp; try with_reducible rfl)
  (try simp only [Act.put, List.setIfInBounds_toArray, List.set_cons_zero, List.set_cons_succ])
  (refine floatS (i := 3) (v := ?_) rfl (by kernel_rfl) (by kernel_rfl) (by kernel_rfl) (by kernel_rfl) (fun _ _ _ h => h) (by assumption) (by rfl) ?_ ?_); rotate_left
  (intro wF hF; (try dsimp only at hF); go_simp; try with_reducible rfl)
  (try simp only [Act.put, List.setIfInBounds_toArray, List.set_cons_zero, List.set_cons_succ])
  (refine float0 (i := 7) (v := ?_) rfl (by kernel_rfl) (by kernel_rfl) (by kernel_rfl) (by kernel_rfl) (fun _ _ _ h => h) (by rfl) ?_ ?_); rotate_left
  (intro wF; go_simp; try with_reducible rfl)
  (try simp only [Act.put, List.setIfInBounds_toArray, List.set_cons_zero, List.set_cons_succ])
  (refine float0 (i := 8) (v := ?_) rfl (by kernel_rfl) (by kernel_rfl) (by kernel_rfl) (by kernel_rfl) (fun _ _ _ h => h) (by rfl) ?_ ?_); rotate_left
  (intro wF; go_simp; try with_reducible rfl)
  (try simp only [Act.put, List.setIfInBounds_toArray, List.set_cons_zero, List.set_cons_succ])
  (refine float0 (i := 9) (v := ?_) rfl (by kernel_rfl) (by kernel_rfl) (by kernel_rfl) (by kernel_rfl) (fun _ _ _ h => h) (by rfl) ?_ ?_); rotate_left
  (intro wF; go_simp; try with_reducible rfl)
  (try simp only [Act.put, List.setIfInBounds_toArray, List.set_cons_zero, List.set_cons_succ])
  (refine floatS (i := 10) (v := ?_) rfl (by kernel_rfl) (by kernel_rfl) (by kernel_rfl) (by kernel_rfl) (fun _ _ _ h => h) (by assumption) (by rfl) ?_ ?_); rotate_left
  (intro wF hF; (try dsimp only at hF); go_simp; try with_reducible rfl)
  (try simp only [Act.put, List.setIfInBounds_toArray, List.set_cons_zero, List.set_cons_succ])
  (refine float0 (i := 14) (v := ?_) rfl (by kernel_rfl) (by kernel_rfl) (by kernel_rfl) (by kernel_rfl) (fun _ _ _ h => h) (by rfl) ?_ ?_); rotate_left
  (intro wF; go_simp; try with_reducible rfl)
  (try simp only [Act.put, List.setIfInBounds_toArray, List.set_cons_zero, List.set_cons_succ])
  (refine float0 (i := 15) (v := ?_) rfl (by kernel_rfl) (by kernel_rfl) (by kernel_rfl) (by kernel_rfl) (fun _ _ _ h => h) (by rfl) ?_ ?_); rotate_left
  (intro wF; go_simp; try with_reducible rfl)
  (try simp only [Act.put, List.setIfInBounds_toArray, List.set_cons_zero, List.set_cons_succ])
  (refine float0 (i := 16) (v := ?_) rfl (by kernel_rfl) (by kernel_rfl) (by kernel_rfl) (by kernel_rfl) (fun _ _ _ h => h) (by rfl) ?_ ?_); rotate_left
  (intro wF; go_simp; try with_reducible rfl)
  (try simp only [Act.put, List.setIfInBounds_toArray, List.set_cons_zero, List.set_cons_succ])
  (refine floatS (i := 17) (v := ?_) rfl (by kernel_rfl) (by kernel_rfl) (by kernel_rfl) (by kernel_rfl) (fun _ _ _ h => h) (by assumption) (by rfl) ?_ ?_); rotate_left
  (intro wF hF; (try dsimp only at hF); go_simp; try with_reducible rfl)
  (try simp only [Act.put, List.setIfInBounds_toArray, List.set_cons_zero, List.set_cons_succ])
  (refine floatM (i := 4) rfl (by kernel_rfl) (by kernel_rfl) (fun K hK => ?_)); go_simp
  refine (IH.out G _ _ x (HG.out.keep0 (Keep.drew _ _)) HXx.out hdx hlx).mono ?_
  rintro e w2 ⟨rfl, k2⟩
  have K2 := Lib.hid ((Keep.drew _ _).trans k2)
  clear k2
  go_wp2_with fail
  refine hK.out _ _ (fun _ => HK.out _ (HG.out.keep0 K2.out)) ?_
  clear hK K
  (try simp only [Act.put, List.setIfInBounds_toArray, List.set_cons_zero, List.set_cons_succ])
  (refine float0 (i := 5) (v := ?_) rfl (by kernel_rfl) (by kernel_rfl) (by kernel_rfl) (by kernel_rfl) (fun _ _ _ h => h) (by rfl) ?_ ?_); rotate_left
  (intro wF; go_simp; try with_reducible rfl)
  (try simp only [Act.put, List.setIfInBounds_toArray, List.set_cons_zero, List.set_cons_succ])
  (refine float0 (i := 6) (v := ?_) rfl (by kernel_rfl) (by kernel_rfl) (by kernel_rfl) (by kernel_rfl) (fun _ _ _ h => h) (by rfl) ?_ ?_); rotate_left
  (intro wF; go_simp; try with_reducible rfl)
  (try simp only [Act.put, List.setIfInBounds_toArray, List.set_cons_zero, List.set_cons_succ])
  (refine floatM (i := 11) rfl (by kernel_rfl) (by kernel_rfl) (fun K hK => ?_)); go_simp
  refine (IH.out G _ _ u (HG.out.keep0 K2.out) HXu.out hdu hlu).mono ?_
  rintro e w3 ⟨rfl, k3⟩
  have K3 := Lib.hid (K2.out.trans k3)
  clear k3
  go_wp2_with fail
  refine hK.out _ _ (fun _ => HK.out _ (HG.out.keep0 K3.out)) ?_
  clear hK K
  (try simp only [Act.put, List.setIfInBounds_toArray, List.set_cons_zero, List.set_cons_succ])
  (refine float0 (i := 12) (v := ?_) rfl (by kernel_rfl) (by kernel_rfl) (by kernel_rfl) (by kernel_rfl) (fun _ _ _ h => h) (by rfl) ?_ ?_); rotate_left
  (intro wF; go_simp; try with_reducible rfl)
  (try simp only [Act.put, List.setIfInBounds_toArray, List.set_cons_zero, List.set_cons_succ])
  (refine float0 (i := 13) (v := ?_) rfl (by kernel_rfl) (by kernel_rfl) (by kernel_rfl) (by kernel_rfl) (fun _ _ _ h => h) (by rfl) ?_ ?_); rotate_left
  (intro wF; go_simp; try with_reducible rfl)
  (try simp only [Act.put, List.setIfInBounds_toArray, List.set_cons_zero, List.set_cons_succ])
  (refine floatM (i := 18) rfl (by kernel_rfl) (by kernel_rfl) (fun K hK => ?_)); go_simp
  refine (IH.out G _ _ q (HG.out.keep0 K3.out) HXq.out hdq hlq).mono ?_
  rintro e w4 ⟨rfl, k4⟩
  have K4 := Lib.hid (K3.out.trans k4)
  clear k4
  go_wp2_with fail
  refine hK.out _ _ (fun _ => HK.out _ (HG.out.keep0 K4.out)) ?_
  clear hK K
  (try simp only [Act.put, List.setIfInBounds_toArray, List.set_cons_zero, List.set_cons_succ])
  (refine float0 (i := 19) (v := ?_) rfl (by kernel_rfl) (by kernel_rfl) (by kernel_rfl) (by kernel_rfl) (fun _ _ _ h => h) (by rfl) ?_ ?_); rotate_left
  (intro wF; go_simp; try with_reducible rfl)
  (try simp only [Act.put, List.setIfInBounds_toArray, List.set_cons_zero, List.set_cons_succ])
  (refine floatM (i := 20) rfl (by kernel_rfl) (by kernel_rfl) (fun K hK => ?_)); go_simp
  refine hK.out _ _ (fun _ => HK.out _ (HG.out.keep0 K4.out)) ?_
  clear hK K
  (try simp only [Act.put, List.setIfInBounds_toArray, List.set_cons_zero, List.set_cons_succ])
  (refine floatE (by kernel_rfl) ?_)
  go_wp2_with fail
  go_ret
  refine ⟨?_, K4.out⟩
  show Ending.returned (.string (bs [105, 102, 32] ++ bs x.show ++ bs [32, 116, 104, 101, 110, 32] ++ bs u.show ++ bs [32, 101, 108, 115, 101, 32] ++ bs q.show)) = _
  rw [bs_append, bs_append, bs_append, bs_append, bs_append]
  simp [Ex.show, FUN, LP, RP, LET, IF]

end Go.Proofs.YtabikmkoajdhmaaDoor

/- ast.atom, and ast.Show at App and Rec, by contracts; ast.Show at every expression. -/
namespace Go.Proofs.YtabikmkoajdhmaaDoor
open Go.RowKit

def Ex.atomS (x : Ex) : Str := if isFlat x then x.show else LP ++ x.show ++ RP
set_option maxRecDepth 100000 in
set_option maxHeartbeats 4000000 in
theorem eatom (n : Nat) (ih : EShowOk n) (G : GH) (w : World) (v : Value) (x : Ex) (hG : Holds G w) (hx : ExR G v x) (hd : x.depth ≤ n) (hl : x.atomS.length ≤ 1000000000000) : Calls Tryd.prog 72 #[v] w fun e w' => e = .returned (.string (bs x.atomS)) ∧ Keep none' w w' := by
  have hls : x.show.length ≤ 1000000000000 := by
    unfold Ex.atomS at hl
    split at hl
    · exact hl
    · simp at hl; omega
  have hc := ih G w v x hG hx hd hls
  have HC := Lib.hid hc; have HL := Lib.hid hl
  have q1 : ¬ 9223372036854775807 < 1 + (bs x.show).size := by rw [bs_size]; omega
  have q2 : ¬ 9223372036854775807 < 1 + (bs x.show).size + 1 := by rw [bs_size]; omega
  clear hc ih hl hd
  cases hx with
  | name h =>
    clear hG
    have aNameName := taNameName
    have aNameNum := taNameNum
    have aNamePair := taNamePair
    clear hls
    go_enter Tryd.func72, Tryd.ntmps72
    go_wp2_with fail
    refine HC.out.mono ?_
    rintro e w2 ⟨rfl, k2⟩
    go_wp2_with fail
    go_ret
    exact ⟨by simp [Ex.atomS, isFlat], k2⟩
  | num h =>
    clear hG
    have aNumName := taNumName
    have aNumNum := taNumNum
    have aNumPair := taNumPair
    clear hls
    go_enter Tryd.func72, Tryd.ntmps72
    go_wp2_with fail
    refine HC.out.mono ?_
    rintro e w2 ⟨rfl, k2⟩
    go_wp2_with fail
    go_ret
    exact ⟨by simp [Ex.atomS, isFlat], k2⟩
  | fn h _ =>
    clear hG
    have aFunName := taFunName
    have aFunNum := taFunNum
    have aFunPair := taFunPair
    clear hls
    go_enter Tryd.func72, Tryd.ntmps72
    go_wp2_with fail
    refine HC.out.mono ?_
    rintro e w2 ⟨rfl, k2⟩
    go_wp2_with fail
    go_ret
    refine ⟨?_, k2⟩
    show Ending.returned (.string (bs LP ++ bs _ ++ bs RP)) = _
    rw [bs_append, bs_append]
    simp [Ex.atomS, isFlat]
  | app h _ _ =>
    clear hG
    have aAppName := taAppName
    have aAppNum := taAppNum
    have aAppPair := taAppPair
    clear hls
    go_enter Tryd.func72, Tryd.ntmps72
    go_wp2_with fail
    refine HC.out.mono ?_
    rintro e w2 ⟨rfl, k2⟩
    go_wp2_with fail
    go_ret
    refine ⟨?_, k2⟩
    show Ending.returned (.string (bs LP ++ bs _ ++ bs RP)) = _
    rw [bs_append, bs_append]
    simp [Ex.atomS, isFlat]
  | pair h _ _ =>
    clear hG
    have aPairName := taPairName
    have aPairNum := taPairNum
    have aPairPair := taPairPair
    clear hls
    go_enter Tryd.func72, Tryd.ntmps72
    go_wp2_with fail
    refine HC.out.mono ?_
    rintro e w2 ⟨rfl, k2⟩
    go_wp2_with fail
    go_ret
    exact ⟨by simp [Ex.atomS, isFlat], k2⟩
  | lt h _ _ =>
    clear hG
    have aLetName := taLetName
    have aLetNum := taLetNum
    have aLetPair := taLetPair
    clear hls
    go_enter Tryd.func72, Tryd.ntmps72
    go_wp2_with fail
    refine HC.out.mono ?_
    rintro e w2 ⟨rfl, k2⟩
    go_wp2_with fail
    go_ret
    refine ⟨?_, k2⟩
    show Ending.returned (.string (bs LP ++ bs _ ++ bs RP)) = _
    rw [bs_append, bs_append]
    simp [Ex.atomS, isFlat]
  | ite h _ _ _ =>
    clear hG
    have aIfName := taIfName
    have aIfNum := taIfNum
    have aIfPair := taIfPair
    clear hls
    go_enter Tryd.func72, Tryd.ntmps72
    go_wp2_with fail
    refine HC.out.mono ?_
    rintro e w2 ⟨rfl, k2⟩
    go_wp2_with fail
    go_ret
    refine ⟨?_, k2⟩
    show Ending.returned (.string (bs LP ++ bs _ ++ bs RP)) = _
    rw [bs_append, bs_append]
    simp [Ex.atomS, isFlat]
  | rc h _ _ _ _ _ =>
    clear hG
    have aRecName := taRecName
    have aRecNum := taRecNum
    have aRecPair := taRecPair
    clear hls
    go_enter Tryd.func72, Tryd.ntmps72
    go_wp2_with fail
    refine HC.out.mono ?_
    rintro e w2 ⟨rfl, k2⟩
    go_wp2_with fail
    go_ret
    refine ⟨?_, k2⟩
    show Ending.returned (.string (bs LP ++ bs _ ++ bs RP)) = _
    rw [bs_append, bs_append]
    simp [Ex.atomS, isFlat]

theorem ta_app {G : GH} {T : TypeId} {b : Nat} {x : Ex} (hx : ExR G (.iface T (.pointer (some ⟨b, 0, none⟩))) x) (w : World) :
    (Instr.typeAssert (.iface T (.pointer (some ⟨b, 0, none⟩))) 109 196 true).run Tryd.prog w = .ok (.tuple #[if isApp x then .pointer (some ⟨b, 0, none⟩) else .pointer none, .bool (isApp x)]) w := by
  cases hx
  · exact taNameApp _ _
  · exact taNumApp _ _
  · exact taFunApp _ _
  · exact taAppApp _ _
  · exact taPairApp _ _
  · exact taLetApp _ _
  · exact taIfApp _ _
  · exact taRecApp _ _

def appL (f : Ex) : Str := if isApp f then f.show else f.atomS
theorem app_show (f a : Ex) : (Ex.app f a).show = appL f ++ [32] ++ a.atomS := by
  simp only [Ex.show, appL, Ex.atomS]

set_option maxRecDepth 100000 in
set_option maxHeartbeats 4000000 in
theorem eshow_app (n : Nat) (ih : EShowOk n) (G : GH) (w : World) (b : Nat) (p : Int) (f a : Ex) (vf va : Value) (hG : Holds G w) (h : G b = some (.cells #[.int .i64 p, vf, va] 198)) (hf : ExR G vf f) (ha : ExR G va a) (hd : (Ex.app f a).depth ≤ n + 1) (hl : (Ex.app f a).show.length ≤ 1000000000000) :
    Calls Tryd.prog 43 #[.iface 196 (.pointer (some ⟨b, 0, none⟩))] w (EShowPost w (.app f a)) := by
  have hK : ∀ w', Holds G w' → w'.cell? ⟨b, 1, none⟩ = some vf ∧ w'.cell? ⟨b, 2, none⟩ = some va := fun w' hw => ⟨cell_of_heap (hw _ _ h) rfl, cell_of_heap (hw _ _ h) rfl⟩
  obtain ⟨Tf, bf, rfl⟩ := hf.shape
  obtain ⟨Ta, ba, rfl⟩ := ha.shape
  rw [app_show] at hl
  simp only [List.length_append, List.length_cons, List.length_nil] at hl
  have hfs : f.show.length ≤ 1000000000000 := by
    have : f.show.length ≤ (appL f).length := by
      unfold appL Ex.atomS
      split
      · exact Nat.le_refl _
      · split
        · exact Nat.le_refl _
        · simp; omega
    omega
  have hdf : f.depth ≤ n := by simp only [Ex.depth] at hd; omega
  have hda : a.depth ≤ n := by simp only [Ex.depth] at hd; omega
  have hta := ta_app hf
  have q1 : ¬ 9223372036854775807 < (bs (appL f)).size + 1 := by rw [bs_size]; omega
  have q2 : ¬ 9223372036854775807 < (bs (appL f)).size + 1 + (bs a.atomS).size := by rw [bs_size, bs_size]; omega
  have IH := Lib.hid ih; have HG := Lib.hid hG; have HK := Lib.hid hK; have HL := Lib.hid hl; have HF := Lib.hid hf; have HA := Lib.hid ha
  obtain ⟨c1, c2⟩ := hK w hG
  clear ih hG hK h hl hd hf ha
  have aAppName := taAppName
  have aAppNum := taAppNum
  have aAppFun := taAppFun
  have aAppPair := taAppPair
  have aAppLet := taAppLet
  have aAppIf := taAppIf
  have aAppRec := taAppRec
  have aAppApp := taAppApp
  go_enter Tryd.func43, Tryd.ntmps43
  go_wp2_with fail
  refine (IH.out G _ _ f HG.out HF.out hdf hfs).mono ?_
  rintro e w2 ⟨rfl, k2⟩
  obtain ⟨d1, d2⟩ := HK.out w2 (HG.out.keep0 k2)
  have K2 := Lib.hid k2; clear k2 c1 c2
  cases hfa : isApp f with
  | true =>
    simp only [hfa, if_true] at hta
    have HFA := Lib.hid hfa; clear hfa
    have e1 : appL f = f.show := by unfold appL; rw [if_pos HFA.out]
    rw [e1] at q1 q2
    have E1 := Lib.hid e1; clear e1
    go_wp2_with fail
    refine (eatom n IH.out G _ _ a (HG.out.keep0 K2.out) HA.out hda (by have := HL.out; omega)).mono ?_
    rintro e w3 ⟨rfl, k3⟩
    go_wp2_with fail
    go_ret
    refine ⟨?_, K2.out.trans k3⟩
    show Ending.returned (.string (bs _ ++ bs [32] ++ bs _)) = _
    rw [bs_append, bs_append, app_show, E1.out]
  | false =>
    simp only [hfa, Bool.false_eq_true, if_false] at hta
    have e1 : appL f = f.atomS := by unfold appL; rw [hfa]; simp
    have HFA := Lib.hid hfa; have E1 := Lib.hid e1; clear hfa
    rw [e1] at q1 q2
    clear e1
    go_wp2_with fail
    refine (eatom n IH.out G _ _ f (HG.out.keep0 K2.out) HF.out hdf (by have := HL.out; rw [E1.out] at this; omega)).mono ?_
    rintro e w3 ⟨rfl, k3⟩
    obtain ⟨c1, c2⟩ := HK.out w3 ((HG.out.keep0 K2.out).keep0 k3)
    have K3 := Lib.hid (K2.out.trans k3); clear k3 d1 d2
    go_wp2_with fail
    refine (eatom n IH.out G _ _ a (HG.out.keep0 K3.out) HA.out hda (by have := HL.out; omega)).mono ?_
    rintro e w4 ⟨rfl, k4⟩
    go_wp2_with fail
    go_ret
    refine ⟨?_, K3.out.trans k4⟩
    show Ending.returned (.string (bs _ ++ bs [32] ++ bs _)) = _
    rw [bs_append, bs_append, app_show, E1.out]

def Bs.items : Bs → List Str
  | .nil => []
  | .cons n x r => (n ++ [32, 61, 32] ++ x.show) :: r.items
theorem Bs.join : ∀ bd : Bs, bd.show = Lib.join bd.items [32, 97, 110, 100, 32]
  | .nil => rfl
  | .cons n x .nil => by simp [Bs.show, Bs.items, Lib.join, List.intercalate]
  | .cons n x (.cons m y r) => by
    have := Bs.join (.cons m y r)
    simp only [Bs.show, Bs.items, Lib.join, List.intercalate] at this ⊢
    rw [this]
    simp [List.intersperse]
theorem Bs.items_len : ∀ bd : Bs, bd.items.length = bd.exprs.length ∧ bd.names.length = bd.exprs.length
  | .nil => ⟨rfl, rfl⟩
  | .cons n x r => ⟨by simp [Bs.items, Bs.exprs, (Bs.items_len r).1], by simp [Bs.names, Bs.exprs, (Bs.items_len r).2]⟩
theorem Bs.item_at : ∀ (bd : Bs) (j : Nat) (h : j < bd.items.length) (h1 : j < bd.names.length) (h2 : j < bd.exprs.length), bd.items[j] = bd.names[j] ++ [32, 61, 32] ++ (bd.exprs[j]).show
  | .cons n x r, 0, _, _, _ => rfl
  | .cons n x r, j + 1, h, h1, h2 => by
    simp only [Bs.items, Bs.names, Bs.exprs, List.getElem_cons_succ]
    exact Bs.item_at r j _ _ _
theorem Bs.depth_at : ∀ (bd : Bs) (x : Ex), x ∈ bd.exprs → x.depth ≤ bd.depth
  | .cons n y r, x, h => by
    simp only [Bs.exprs, List.mem_cons] at h
    simp only [Bs.depth]
    rcases h with rfl | h
    · omega
    · have := Bs.depth_at r x h; omega
theorem join_mem (sep : Str) : ∀ (l : List Str) (a : Str), a ∈ l → a.length ≤ (Lib.join l sep).length
  | [a], b, h => by simp at h; subst h; simp [Lib.join, List.intercalate]
  | a :: c :: r, b, h => by
    have e : Lib.join (a :: c :: r) sep = a ++ sep ++ Lib.join (c :: r) sep := by simp [Lib.join, List.intercalate, List.intersperse]
    rw [e]
    simp only [List.length_append]
    rcases List.mem_cons.1 h with rfl | h
    · omega
    · have := join_mem sep (c :: r) b h; omega
theorem own_cells {w : World} {base : Nat} {e : TypeId} {v : Value} {n : Nat} {xs : List Value} (h : w.ownsRow base e 1 v n xs) (hn : 0 < n) : ∃ g cap, v = .slice (some ⟨g, 0, none⟩) n cap ∧ n ≤ cap ∧ g < w.heap.size ∧ ∀ (j : Nat) u, xs[j]? = some u → w.cell? ⟨g, j, none⟩ = some u := by
  have h1 := h
  rcases h.2 with ⟨_, rfl⟩ | ⟨g, cap, cur, rfl, rest⟩
  · omega
  · refine ⟨g, cap, rfl, ?_, (h1.lt g rfl).2, fun j u hu => ?_⟩
    · exact rest.2.2.1
    · have hadd : (⟨g, 0, none⟩ : Addr).add j = ⟨g, j, none⟩ := by unfold Addr.add; split <;> simp_all
      rw [← hadd]
      exact h1.cells (g := g) rfl j u hu

set_option maxRecDepth 100000 in
set_option maxHeartbeats 4000000 in
theorem eshow_rc (n : Nat) (ih : EShowOk n) (G : GH) (w : World) (b : Nat) (p : Int) (nv lv ev : Value) (vs : List Value) (bd : Bs) (x : Ex) (hG : Holds G w) (h : G b = some (.cells #[.int .i64 p, nv, lv, ev] 194))
    (hns : SlR G nv (bd.names.map fun n => .string (bs n))) (hls : SlR G lv vs) (hbs : BsR G vs bd) (hne : vs ≠ [] ∧ vs.length ≤ 1000000000) (hx : ExR G ev x) (hd : (Ex.rc bd x).depth ≤ n + 1) (hl : (Ex.rc bd x).show.length ≤ 1000000000000) :
    Calls Tryd.prog 43 #[.iface 191 (.pointer (some ⟨b, 0, none⟩))] w (EShowPost w (.rc bd x)) := by
  have hK : ∀ w', Holds G w' → w'.cell? ⟨b, 1, none⟩ = some nv ∧ w'.cell? ⟨b, 2, none⟩ = some lv ∧ w'.cell? ⟨b, 3, none⟩ = some ev := fun w' hw => ⟨cell_of_heap (hw _ _ h) rfl, cell_of_heap (hw _ _ h) rfl, cell_of_heap (hw _ _ h) rfl⟩
  obtain ⟨Te, be, rfl⟩ := hx.shape
  obtain ⟨an, cn, rfl, hcn⟩ := hns.shape
  obtain ⟨al, cl, rfl, hcl⟩ := hls.shape
  have hbl := hbs.list
  have hlen : vs.length = bd.exprs.length := hbl.1
  obtain ⟨li, ln⟩ := bd.items_len
  have hnl : (bd.names.map fun n => Value.string (bs n)).length = vs.length := by simp [ln, hlen]
  rw [hnl] at hK
  have hvl : vs.length ≤ 1000000000 := hne.2
  have hvp : 0 < vs.length := List.length_pos_iff.2 hne.1
  have hT : bd.show.length + x.show.length + 12 ≤ 1000000000000 + 12 := by
    have := hl
    simp [Ex.show, LET, REC, List.length_append] at this
    omega
  have hdx : x.depth ≤ n := by simp only [Ex.depth] at hd; omega
  have hdb : bd.depth ≤ n := by simp only [Ex.depth] at hd; omega
  obtain ⟨is, his, zs0, zs1, zs2⟩ := info_parts info_str
  obtain ⟨c1, c2, c3⟩ := hK w hG
  have IH := Lib.hid ih; have HG := Lib.hid hG; have HK := Lib.hid hK; have HL := Lib.hid hl; have HX := Lib.hid hx; have HCN := Lib.hid hcn; have HCL := Lib.hid hcl; have HBL := Lib.hid hbl; have HLI := Lib.hid li; have HLN := Lib.hid ln; have HLen := Lib.hid hlen
  clear ih hG hK h hl hx hns hls hcn hcl hbl hbs li ln hlen hd hne hnl
  have aRecName := taRecName
  have aRecNum := taRecNum
  have aRecFun := taRecFun
  have aRecPair := taRecPair
  have aRecLet := taRecLet
  have aRecIf := taRecIf
  have aRecRec := taRecRec
  go_enter Tryd.func43, Tryd.ntmps43
  go_wp2_with fail
  go_loopg [10, 117] vs.length (fun gn s10 s117 wr => ∃ j : Nat, j ≤ vs.length ∧ Hid (gn = vs.length - j) ∧ s117 = .int .i64 j ∧ Hid (wr.ownsRow w.heap.size 9 1 s10 j ((bd.items.take j).map fun s => .string (bs s))) ∧ Hid (Keep none' w wr))
  case atStart => exact ⟨0, by omega, Lib.hid rfl, rfl, Lib.hid (World.ownsRow_nil _ _ _ _), Lib.hid (Keep.refl _ _)⟩
  case round =>
    obtain ⟨j, hj, HM, rfl, HO, HK2⟩ := hrel
    have hjj : (0 : Int) ≤ (j : Int) := by omega
    have hGr := HG.out.keep0 HK2.out
    obtain ⟨d1, d2, d3⟩ := HK.out wr hGr
    by_cases hlt : j < vs.length
    · have hltn : j < bd.names.length := by have := HLen.out; have := HLN.out; omega
      have hlte : j < bd.exprs.length := by have := HLen.out; omega
      have hlti : j < bd.items.length := by have := HLen.out; have := HLI.out; omega
      obtain ⟨bn, rfl, cn1⟩ := HCN.out wr hGr j (.string (bs bd.names[j])) (by simp [hltn])
      obtain ⟨bl, rfl, cl1⟩ := HCL.out wr hGr j vs[j] (by simp [hlt])
      have hxj := HBL.out.2 j vs[j] (bd.exprs[j]) (by simp [hlt]) (by simp [hlte])
      obtain ⟨Tj, bj, e⟩ := hxj.shape
      rw [e] at cl1 hxj
      have hji : ((j : Int) < (vs.length : Int)) := by omega
      have hdj : (bd.exprs[j]).depth ≤ n := Nat.le_trans (bd.depth_at _ (List.getElem_mem hlte)) hdb
      have hil : (bd.items[j]).length ≤ bd.show.length := by rw [Bs.join]; exact join_mem _ _ _ (List.getElem_mem hlti)
      have hie := bd.item_at j hlti hltn hlte
      have hie' := congrArg List.length hie
      simp only [List.length_append, List.length_cons, List.length_nil] at hie'
      have q1 : ¬ 9223372036854775807 < (bs bd.names[j]).size + 3 := by rw [bs_size]; omega
      have q2 : ¬ 9223372036854775807 < (bs bd.names[j]).size + 3 + (bs (bd.exprs[j]).show).size := by rw [bs_size, bs_size]; omega
      have hsj : (bd.exprs[j]).show.length ≤ 1000000000000 := by omega
      have HXJ := Lib.hid hxj; have HIE := Lib.hid hie
      clear hxj e hie hie' hil
      go_wp2_with fail
      refine (IH.out G wr _ _ hGr HXJ.out hdj hsj).mono ?_
      rintro e w2 ⟨rfl, k2⟩
      have own2 := own_keep HO.out k2 (fun _ _ x => x)
      obtain ⟨ao, cap, rfl, _⟩ := own_shape own2
      have HK3 := Lib.hid (HK2.out.trans k2)
      have hsz := HK3.out.size
      clear k2 hGr
      have hb : w.heap.size ≤ w2.heap.size := by have := HK3.out.size; omega
      go_wp2_with (first | (at_builtin; refine wpList_append_own_at _ rfl _ _ 39 rfl w.heap.size 9 is (.string ByteArray.empty) 1 16 und_strs his zs0 zs1 zs2 rfl (by decide) (.slice ao j cap) j _ rfl (own2.alloc _) ⟨w2.heap.size, 0, none⟩ 1 1 [.string (bs bd.names[j] ++ bs [32, 61, 32] ++ bs (bd.exprs[j]).show)] rfl rfl (cell_one_new _ _ _) (fun x hx => by simp at hx; subst hx; rfl) (by unfold maxLen; omega) (by omega) (by simp; omega) ?_; intro v4 w4 own4 g4 _ at4))
      have k4 : Keep none' w w4 := Keep.grown0 (HK3.out.trans (Keep.alloc _ _ _)) g4 (fun b e => (own2.lt b e).1)
      have own5 : w4.ownsRow w.heap.size 9 1 v4 (j + 1) ((bd.items.take (j + 1)).map fun s => .string (bs s)) := by
        rw [List.take_succ_eq_append_getElem hlti, List.map_append, HIE.out]
        rw [bs_append, bs_append] at own4
        exact own4
      have HO5 := Lib.hid own5; have HK5 := Lib.hid k4
      clear own2 own4 own5 g4 at4 k4 hb
      go_wp2_with fail
      go_roundg (vs.length - (j + 1))
      case measure => have := HM.out; omega
      case rel => exact ⟨j + 1, by omega, Lib.hid rfl, by go_num, HO5, HK5⟩
    · have hje : j = vs.length := by omega
      subst hje
      have ht : bd.items.take vs.length = bd.items := by rw [HLen.out, ← HLI.out, List.take_length]
      have own := HO.out
      rw [ht] at own
      obtain ⟨g, cap, rfl, hcap, hgl, hcells⟩ := own_cells own hvp
      have hil : vs.length = bd.items.length := by have := HLen.out; have := HLI.out; omega
      have HJ := Lib.hid (Tryd.strings_Join g 0 cap (bd.items.map bs) (bs [32, 97, 110, 100, 32]))
      have HCELLS := Lib.hid hcells; have HIL := Lib.hid hil
      clear hcells own HO ht hil
      go_wp2_with fail
      have S0 := (HK.out wr.drew (hGr.keep0 (Keep.drew _ _))).2.2
      refine wp_region_float (fun w' => w'.cell? ⟨b, 3, none⟩ = some (.iface Te (.pointer (some ⟨be, 0, none⟩)))) [0, 2, 3, 4, 5, 6, 9] [7] (by kernel_rfl) ?_
      (refine float0 (i := 0) (v := ?_) rfl (by kernel_rfl) (by kernel_rfl) (by kernel_rfl) (by kernel_rfl) (fun _ _ _ h => h) (by rfl) ?_ ?_); rotate_left
      (intro wF; go_simp; try with_reducible rfl)
      (try simp only [Act.put, List.setIfInBounds_toArray, List.set_cons_zero, List.set_cons_succ])
      (refine float0 (i := 4) (v := ?_) rfl (by kernel_rfl) (by kernel_rfl) (by kernel_rfl) (by kernel_rfl) (fun _ _ _ h => h) (by rfl) ?_ ?_); rotate_left
      (intro wF; go_simp; try with_reducible rfl)
      (try simp only [Act.put, List.setIfInBounds_toArray, List.set_cons_zero, List.set_cons_succ])
      (refine float0 (i := 5) (v := ?_) rfl (by kernel_rfl) (by kernel_rfl) (by kernel_rfl) (by kernel_rfl) (fun _ _ _ h => h) (by rfl) ?_ ?_); rotate_left
      (intro wF; go_simp; try with_reducible rfl)
      (try simp only [Act.put, List.setIfInBounds_toArray, List.set_cons_zero, List.set_cons_succ])
      (refine float0 (i := 6) (v := ?_) rfl (by kernel_rfl) (by kernel_rfl) (by kernel_rfl) (by kernel_rfl) (fun _ _ _ h => h) (by rfl) ?_ ?_); rotate_left
      (intro wF; go_simp; try with_reducible rfl)
      (try simp only [Act.put, List.setIfInBounds_toArray, List.set_cons_zero, List.set_cons_succ])
      (refine floatS (i := 7) (v := ?_) rfl (by kernel_rfl) (by kernel_rfl) (by kernel_rfl) (by kernel_rfl) (fun _ _ _ h => h) (by assumption) (by rfl) ?_ ?_); rotate_left
      (intro wF hF; (try dsimp only at hF); go_simp; try with_reducible rfl)
      (try simp only [Act.put, List.setIfInBounds_toArray, List.set_cons_zero, List.set_cons_succ])
      have hj := HJ.out wr.drew (fun j u hu => by
        rw [List.getElem?_map] at hu
        obtain ⟨s, hs, rfl⟩ := Option.map_eq_some_iff.1 hu
        have := HCELLS.out j (.string (bs s)) (by rw [List.getElem?_map, hs]; rfl)
        rw [Nat.zero_add]; exact this) hgl (by rw [List.length_map, ← HIL.out]; omega) (by rw [List.length_map, ← HIL.out]; exact hcap) (by
          rw [List.map_map, show ((fun x : ByteArray => x.data.toList) ∘ bs) = id from funext bs_toList, List.map_id, bs_toList, ← Bs.join]; omega)
      rw [List.map_map, show ((fun x : ByteArray => x.data.toList) ∘ bs) = id from funext bs_toList, List.map_id, bs_toList, ← Bs.join, List.length_map, ← HIL.out] at hj
      have HJ2 := Lib.hid hj; clear hj HJ
      (refine floatM (i := 1) rfl (by kernel_rfl) (by kernel_rfl) (fun K hK => ?_)); go_simp
      refine HJ2.out.mono ?_
      rintro e w3 ⟨rfl, hbw⟩
      have k3 : Keep none' w w3 := (HK2.out.trans (Keep.drew _ _)).trans (Keep.of_below hbw)
      have hH3 := HG.out.keep0 k3
      have hsh : (⟨bd.show.toArray⟩ : ByteArray) = bs bd.show := rfl
      rw [hsh]
      have q1 : ¬ 9223372036854775807 < 8 + (bs bd.show).size := by rw [bs_size]; omega
      have q2 : ¬ 9223372036854775807 < 8 + (bs bd.show).size + 4 := by rw [bs_size]; omega
      have q3 : ¬ 9223372036854775807 < 8 + (bs bd.show).size + 4 + (bs x.show).size := by rw [bs_size, bs_size]; omega
      have hsx : x.show.length ≤ 1000000000000 := by omega
      have HK3 := Lib.hid k3; clear k3 hbw hsh HJ2
      go_wp2_with fail
      refine hK.out _ _ (fun _ => (HK.out _ hH3).2.2) ?_
      clear hK K
      (try simp only [Act.put, List.setIfInBounds_toArray, List.set_cons_zero, List.set_cons_succ])
      (refine float0 (i := 2) (v := ?_) rfl (by kernel_rfl) (by kernel_rfl) (by kernel_rfl) (by kernel_rfl) (fun _ _ _ h => h) (by rfl) ?_ ?_); rotate_left
      (intro wF; go_simp; try with_reducible rfl)
      (try simp only [Act.put, List.setIfInBounds_toArray, List.set_cons_zero, List.set_cons_succ])
      (refine float0 (i := 3) (v := ?_) rfl (by kernel_rfl) (by kernel_rfl) (by kernel_rfl) (by kernel_rfl) (fun _ _ _ h => h) (by rfl) ?_ ?_); rotate_left
      (intro wF; go_simp; try with_reducible rfl)
      (try simp only [Act.put, List.setIfInBounds_toArray, List.set_cons_zero, List.set_cons_succ])
      (refine floatM (i := 8) rfl (by kernel_rfl) (by kernel_rfl) (fun K hK => ?_)); go_simp
      refine (IH.out G w3 _ x hH3 HX.out hdx hsx).mono ?_
      rintro e w4 ⟨rfl, k4⟩
      have hH4 := hH3.keep0 k4
      have HK4 := Lib.hid (HK3.out.trans k4); clear k4 hH3
      go_wp2_with fail
      refine hK.out _ _ (fun _ => (HK.out _ hH4).2.2) ?_
      clear hK K
      (try simp only [Act.put, List.setIfInBounds_toArray, List.set_cons_zero, List.set_cons_succ])
      (refine float0 (i := 9) (v := ?_) rfl (by kernel_rfl) (by kernel_rfl) (by kernel_rfl) (by kernel_rfl) (fun _ _ _ h => h) (by rfl) ?_ ?_); rotate_left
      (intro wF; go_simp; try with_reducible rfl)
      (try simp only [Act.put, List.setIfInBounds_toArray, List.set_cons_zero, List.set_cons_succ])
      (refine floatM (i := 10) rfl (by kernel_rfl) (by kernel_rfl) (fun K hK => ?_)); go_simp
      refine hK.out _ _ (fun _ => (HK.out _ hH4).2.2) ?_
      clear hK K
      (try simp only [Act.put, List.setIfInBounds_toArray, List.set_cons_zero, List.set_cons_succ])
      (refine floatE (by kernel_rfl) ?_)
      go_wp2_with fail
      go_ret
      refine ⟨?_, HK4.out⟩
      show Ending.returned (.string (bs [108, 101, 116, 32, 114, 101, 99, 32] ++ bs bd.show ++ bs [32, 105, 110, 32] ++ bs x.show)) = _
      rw [bs_append, bs_append, bs_append]
      simp [Ex.show, LET, REC]

theorem eshow_ok : ∀ n, n ≤ 1000000000 → EShowOk n
  | 0, _ => fun G w v x hG hx hd hl => by cases x <;> simp [Ex.depth] at hd
  | n + 1, h => fun G w v x hG hx hd hl => by
    have ih := eshow_ok n (by omega)
    cases hx with
    | name h => exact eshow_name G w _ _ _ hG h
    | num h => exact eshow_num G w _ _ _ hG h
    | fn h a => exact eshow_fn n ih G w _ _ _ _ _ hG h a hd hl
    | app h a b => exact eshow_app n ih G w _ _ _ _ _ _ hG h a b hd hl
    | pair h a b => exact eshow_pair n ih G w _ _ _ _ _ _ hG h a b hd hl
    | lt h a b => exact eshow_lt n ih G w _ _ _ _ _ _ _ hG h a b hd hl
    | ite h a b c => exact eshow_ite n ih G w _ _ _ _ _ _ _ _ hG h a b c hd hl
    | rc h a b c d e => exact eshow_rc n ih G w _ _ _ _ _ _ _ _ hG h a b c d e hd hl
end Go.Proofs.YtabikmkoajdhmaaDoor
