/- typerref's Text: if. -/
import Derived.Test.YtabikmkoajdhmaaDoorTrText
set_option linter.unusedVariables false
set_option linter.unusedSimpArgs false
set_option linter.unnecessarySimpa false
namespace Go.Proofs.YtabikmkoajdhmaaDoor
open Go.RowKit

set_option maxRecDepth 100000 in
set_option maxHeartbeats 8000000 in
theorem text_ite {G : GH} {b k0 k1 k2 : Nat} {x y z : Str} {nv lv : Value} {at' : Int} (h1 : G b = some (xO IF nv lv at')) (h3 : SlR G lv [ptr k0, ptr k1, ptr k2]) (hx : ∀ w, Holds G w → TextQ k0 x w) (hy : ∀ w, Holds G w → TextQ k1 y w) (hz : ∀ w, Holds G w → TextQ k2 z w) (hs : x.length + y.length + z.length ≤ 1000000000000) (w : World) (hw : Holds G w) : TextQ b (IF ++ [32] ++ x ++ [32, 116, 104, 101, 110, 32] ++ y ++ [32, 101, 108, 115, 101, 32] ++ z) w := by
  obtain ⟨lb, cap2, rfl, hc2⟩ := slr_at h3 rfl
  have c0 : w.cell? ⟨b, 0, none⟩ = some (.string (bs IF)) := cell_of_heap (hw _ _ h1) rfl
  have c2 : w.cell? ⟨b, 2, none⟩ = some (.slice (some ⟨lb, 0, none⟩) (2 + 1) cap2) := cell_of_heap (hw _ _ h1) rfl
  have l0 : w.cell? ⟨lb, 0, none⟩ = some (.pointer (some ⟨k0, 0, none⟩)) := hc2 0 (by simp) w hw
  have l1 : w.cell? ⟨lb, 1, none⟩ = some (.pointer (some ⟨k1, 0, none⟩)) := hc2 1 (by simp) w hw
  have l2 : w.cell? ⟨lb, 2, none⟩ = some (.pointer (some ⟨k2, 0, none⟩)) := hc2 2 (by simp) w hw
  have q1 : ((bs IF).toList == [110, 97, 109, 101]) = false := (str_c _ _).trans (by decide)
  have q2 : ((bs IF).toList == [110, 117, 109]) = false := (str_c _ _).trans (by decide)
  have q3 : ((bs IF).toList == [102, 117, 110]) = false := (str_c _ _).trans (by decide)
  have q4 : ((bs IF).toList == [112, 97, 105, 114]) = false := (str_c _ _).trans (by decide)
  have q5 : ((bs IF).toList == [105, 102]) = true := (str_c _ _).trans (by decide)
  have z1 : (bs x).size = x.length := bs_size _
  have z2 : (bs y).size = y.length := bs_size _
  have z3 : (bs z).size = z.length := bs_size _
  have s1 : ¬ 9223372036854775807 < 3 + (bs x).size := by omega
  have s2 : ¬ 9223372036854775807 < 3 + (bs x).size + 6 := by omega
  have s3 : ¬ 9223372036854775807 < 3 + (bs x).size + 6 + (bs y).size := by omega
  have s4 : ¬ 9223372036854775807 < 3 + (bs x).size + 6 + (bs y).size + 6 := by omega
  have s5 : ¬ 9223372036854775807 < 3 + (bs x).size + 6 + (bs y).size + 6 + (bs z).size := by omega
  have hk0 : ∀ n, TextQ k0 x (w.drewN n) := fun n => hx _ (hw.keep0 (Keep.drewN _ _ _))
  have hk1 : ∀ n, TextQ k1 y (w.drewN n) := fun n => hy _ (hw.keep0 (Keep.drewN _ _ _))
  have hk2 : ∀ n, TextQ k2 z (w.drewN n) := fun n => hz _ (hw.keep0 (Keep.drewN _ _ _))
  have HK0 := Lib.hid hk0; have HK1 := Lib.hid hk1; have HK2 := Lib.hid hk2
  unfold TextQ
  clear h1 h3 hx hy hz hc2 hw hk0 hk1 hk2 z1 z2 z3 hs
  go_enter Tryd.func11, Tryd.ntmps11
  go_wp2_with fail
  go_quiet (first | with_reducible exact (HK0.out _).quiet | with_reducible exact (HK1.out _).quiet | with_reducible exact (HK2.out _).quiet)
  go_wp2_with fail
  go_ret
  refine ⟨congrArg (fun s => Ending.returned (Value.string s)) ?_, _, rfl⟩
  show bs [105, 102, 32] ++ bs x ++ bs [32, 116, 104, 101, 110, 32] ++ bs y ++ bs [32, 101, 108, 115, 101, 32] ++ bs z = _
  rw [bs_append, bs_append, bs_append, bs_append, bs_append]; rfl
end Go.Proofs.YtabikmkoajdhmaaDoor
