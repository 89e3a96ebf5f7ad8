/- typerref's Text by a contract: the one text of an expression, but let. -/
import Derived.Test.YtabikmkoajdhmaaDoorTrDeep
set_option linter.unusedVariables false
set_option linter.unusedSimpArgs false
set_option linter.unnecessarySimpa false
namespace Go.Proofs.YtabikmkoajdhmaaDoor
open Go.RowKit

def TextQ (k : Nat) (s : Str) (w : World) : Prop := Calls Tryd.prog 11 #[.pointer (some ⟨k, 0, none⟩)] w fun e w' => e = .returned (.string (bs s)) ∧ ∃ m, w' = w.drewN m
theorem TextQ.quiet {k : Nat} {s : Str} {w : World} {n : Nat} (h : TextQ k s (w.drewN n)) : Calls Tryd.prog 11 #[.pointer (some ⟨k, 0, none⟩)] (w.drewN n) fun e w'' => e = .returned (.string (bs s)) ∧ ∃ m, w'' = w.drewN m :=
  h.mono fun _ _ ⟨he, m, hm⟩ => ⟨he, n + m, by rw [hm, World.drewN_drewN]⟩
theorem slr_at {G : GH} {v : Value} {xs : List Value} {n : Nat} (h : SlR G v xs) (hn : xs.length = n + 1) : ∃ lb cap, v = .slice (some ⟨lb, 0, none⟩) (n + 1) cap ∧ ∀ i (hi : i < xs.length), ∀ W : World, Holds G W → W.cell? ⟨lb, i, none⟩ = some xs[i] := by
  rcases h with ⟨rfl, rfl⟩ | ⟨b, arr, T, cap, rfl, hb, hat⟩
  · cases hn
  · exact ⟨b, cap, by rw [hn], fun i hi W hW => cell_of_heap (hW _ _ hb) (hat i hi)⟩
set_option maxRecDepth 100000 in
set_option maxHeartbeats 4000000 in
theorem text_leaf {G : GH} {b : Nat} {op t : Str} {nv lv : Value} {at' : Int} (h1 : G b = some (xO op nv lv at')) (h2 : SlR G nv [.string (bs t)]) (ho : op = rNAME ∨ op = rNUM) (w : World) (hw : Holds G w) : TextQ b t w := by
  obtain ⟨nb, cap, rfl, hc⟩ := slr_at h2 rfl
  have c0 : w.cell? ⟨b, 0, none⟩ = some (.string (bs op)) := cell_of_heap (hw _ _ h1) rfl
  have c1 : w.cell? ⟨b, 1, none⟩ = some (.slice (some ⟨nb, 0, none⟩) (0 + 1) cap) := cell_of_heap (hw _ _ h1) rfl
  have n0 : w.cell? ⟨nb, 0, none⟩ = some (.string (bs t)) := hc 0 (by simp) w hw
  have q1 : ((bs op).toList == [110, 97, 109, 101]) = decide (op = rNAME) := str_c _ _
  have q2 : ((bs op).toList == [110, 117, 109]) = decide (op = rNUM) := str_c _ _
  unfold TextQ
  by_cases h : op = rNAME
  · rw [decide_eq_true h] at q1
    clear h ho q2 h1 h2 hc hw
    go_enter Tryd.func11, Tryd.ntmps11
    go_wp2_with fail
    go_ret
    exact ⟨rfl, 0, rfl⟩
  · have h' : op = rNUM := ho.resolve_left h
    rw [decide_eq_false h] at q1
    rw [decide_eq_true h'] at q2
    clear h h' ho h1 h2 hc hw
    go_enter Tryd.func11, Tryd.ntmps11
    go_wp2_with fail
    go_ret
    exact ⟨rfl, 0, rfl⟩
set_option maxRecDepth 100000 in
set_option maxHeartbeats 4000000 in
theorem text_fn {G : GH} {b k0 : Nat} {t y : Str} {nv lv : Value} {at' : Int} (h1 : G b = some (xO FUN nv lv at')) (h2 : SlR G nv [.string (bs t)]) (h3 : SlR G lv [ptr k0]) (hy : ∀ w, Holds G w → TextQ k0 y w) (hs : t.length + y.length ≤ 1000000000000) (w : World) (hw : Holds G w) : TextQ b (FUN ++ [32] ++ t ++ [32, 45, 62, 32] ++ y) w := by
  obtain ⟨nb, cap, rfl, hc⟩ := slr_at h2 rfl
  obtain ⟨lb, cap2, rfl, hc2⟩ := slr_at h3 rfl
  have c0 : w.cell? ⟨b, 0, none⟩ = some (.string (bs FUN)) := cell_of_heap (hw _ _ h1) rfl
  have c1 : w.cell? ⟨b, 1, none⟩ = some (.slice (some ⟨nb, 0, none⟩) (0 + 1) cap) := cell_of_heap (hw _ _ h1) rfl
  have c2 : w.cell? ⟨b, 2, none⟩ = some (.slice (some ⟨lb, 0, none⟩) (0 + 1) cap2) := cell_of_heap (hw _ _ h1) rfl
  have n0 : w.cell? ⟨nb, 0, none⟩ = some (.string (bs t)) := hc 0 (by simp) w hw
  have l0 : w.cell? ⟨lb, 0, none⟩ = some (.pointer (some ⟨k0, 0, none⟩)) := hc2 0 (by simp) w hw
  have q1 : ((bs FUN).toList == [110, 97, 109, 101]) = false := (str_c _ _).trans (by decide)
  have q2 : ((bs FUN).toList == [110, 117, 109]) = false := (str_c _ _).trans (by decide)
  have q3 : ((bs FUN).toList == [102, 117, 110]) = true := (str_c _ _).trans (by decide)
  have z1 : (bs t).size = t.length := bs_size _
  have z2 : (bs y).size = y.length := bs_size _
  have s1 : ¬ 9223372036854775807 < 4 + (bs t).size := by omega
  have s2 : ¬ 9223372036854775807 < 4 + (bs t).size + 4 := by omega
  have s3 : ¬ 9223372036854775807 < 4 + (bs t).size + 4 + (bs y).size := by omega
  have hk : ∀ n, TextQ k0 y (w.drewN n) := fun n => hy _ (hw.keep0 (Keep.drewN _ _ _))
  have HK := Lib.hid hk
  unfold TextQ
  clear h1 h2 h3 hy hc hc2 hw hk z1 z2 hs
  go_enter Tryd.func11, Tryd.ntmps11
  go_wp2_with fail
  go_quiet (exact (HK.out _).quiet)
  go_wp2_with fail
  go_ret
  refine ⟨congrArg (fun s => Ending.returned (Value.string s)) ?_, _, rfl⟩
  show bs [102, 117, 110, 32] ++ bs t ++ bs [32, 45, 62, 32] ++ bs y = _
  rw [bs_append, bs_append, bs_append]; rfl
/-- Do parentheses stand around the first, the second part of an application? -/
def parF (op : Str) : Bool := decide (op = FUN) || decide (op = IF) || decide (op = LET) || decide (op = REC)
def parA (op : Str) : Bool := !(decide (op = rNAME) || decide (op = rNUM) || decide (op = rPAIR))
def parS (c : Bool) (s : Str) : Str := if c then LP ++ s ++ RP else s
end Go.Proofs.YtabikmkoajdhmaaDoor
