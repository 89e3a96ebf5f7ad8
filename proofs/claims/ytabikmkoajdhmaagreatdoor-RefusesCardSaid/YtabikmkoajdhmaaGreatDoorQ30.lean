/- The names' scope, asked whether a name stands for something; Watch's first literal. -/
import Derived.Test.YtabikmkoajdhmaaGreatDoorQ28
import Derived.Test.YtabikmkoajdhmaaGreatDoorQ29
set_option linter.unusedVariables false
set_option linter.unusedSimpArgs false
namespace Go.Proofs.YtabikmkoajdhmaaGreatDoor
open Go.RowKit

/-- A scope's blocks, whatever the types. -/
inductive EnvN (G : GH) : Option Addr → Env → Prop
  | nil : EnvN G none []
  | cons {sb : Nat} {up : Option Addr} {nm : Str} {tv mv : Value} {s : Sch} {r : Env} : G sb = some (.cells #[.pointer up, .string (bs nm), tv, mv] 275) → (∃ T b, tv = .iface T (.pointer (some ⟨b, 0, none⟩))) → (∃ m, mv = .map m) → EnvN G up r → EnvN G (some ⟨sb, 0, none⟩) ((nm, s) :: r)
theorem EnvR.names {G : GH} {A : GV} {w : World} : ∀ {e : Option Addr} {env : Env}, EnvR G A w e env → EnvN G e env
  | _, _, .nil => .nil
  | _, _, .cons a b c r => .cons a b.iface c.map r.names
theorem EnvN.sub {G G' : GH} (h : G.sub G') : ∀ {e : Option Addr} {env : Env}, EnvN G e env → EnvN G' e env
  | _, _, .nil => .nil
  | _, _, .cons a b c r => .cons (h _ _ a) b c (r.sub h)
set_option maxRecDepth 100000 in
set_option maxHeartbeats 2000000 in
theorem get_is {G : GH} {w : World} {e : Option Addr} {env : Env} (nm : Str) (hG : Holds G w) (he : EnvN G e env) : Calls Tryz.prog 84 #[.pointer e, .string (bs nm)] w (fun e w' => Keep none' w w' ∧ ∃ v, e = .returned (.tuple #[v, .bool (env.lookup nm).isSome]) ∧ (v = .agg #[.nilIface, .map none] ∨ ∃ T b m, v = .agg #[.iface T (.pointer (some ⟨b, 0, none⟩)), .map m])) := by
  have HG := Lib.hid hG; have HE := Lib.hid he; clear hG he
  have h0 : (w.alloc (.cells #[.nilIface, .map none] 180)).heap[w.heap.size]? = some (.cells #[.nilIface, .map none] 180) := heap_new _ _
  have c0 : (w.alloc (.cells #[.nilIface, .map none] 180)).cell? ⟨w.heap.size, 0, none⟩ = some .nilIface := cell_of_heap h0 rfl
  have c1 : (w.alloc (.cells #[.nilIface, .map none] 180)).cell? ⟨w.heap.size, 1, none⟩ = some (.map none) := cell_of_heap h0 rfl
  have f0 : ∀ i, (w.alloc (.cells #[.nilIface, .map none] 180)).frozen? ⟨w.heap.size, i, none⟩ = false := fun i => free_of_heap h0
  have H0 := Lib.hid h0; clear h0
  have HG1 := Lib.hid (HG.out.keep0 (Keep.alloc none' w (.cells #[.nilIface, .map none] 180)))
  go_enter Tryz.func84, Tryz.ntmps84
  go_wp2_with fail
  go_loopg [0] env.length (fun gn s0 wr => ∃ (e1 : Option Addr) (env1 : Env), Hid (gn = env1.length) ∧ s0 = .pointer e1 ∧ Hid (EnvN G e1 env1) ∧ Hid (env1.lookup nm = env.lookup nm) ∧ wr = w.alloc (.cells #[.nilIface, .map none] 180))
  case atStart => exact ⟨e, env, Lib.hid rfl, rfl, HE, Lib.hid rfl, rfl⟩
  case round =>
    obtain ⟨e1, env1, HM, rfl, HE1, HLK, rfl⟩ := hrel
    have he1 := HE1.out
    cases he1 with
    | nil =>
      go_wp2_with fail
      refine bodyPost_ret (v := .tuple #[.agg #[.nilIface, .map none], .bool false]) (by simp [results, Tryz.results84, go_sem, c0, c1]) rfl ⟨Keep.alloc _ _ _, ?_⟩
      rw [← HLK.out]
      exact ⟨_, rfl, .inl rfl⟩
    | @cons sb up nm1 tv mv s r hg ht ha hr =>
      have d0 : (w.alloc (.cells #[.nilIface, .map none] 180)).cell? ⟨sb, 0, none⟩ = some (.pointer up) := cell_of_heap (HG1.out _ _ hg) rfl
      have d1 : (w.alloc (.cells #[.nilIface, .map none] 180)).cell? ⟨sb, 1, none⟩ = some (.string (bs nm1)) := cell_of_heap (HG1.out _ _ hg) rfl
      have d2 : (w.alloc (.cells #[.nilIface, .map none] 180)).cell? ⟨sb, 2, none⟩ = some tv := cell_of_heap (HG1.out _ _ hg) rfl
      have d3 : (w.alloc (.cells #[.nilIface, .map none] 180)).cell? ⟨sb, 3, none⟩ = some mv := cell_of_heap (HG1.out _ _ hg) rfl
      obtain ⟨T, b, rfl⟩ := ht
      obtain ⟨mo, rfl⟩ := ha
      have HR := Lib.hid hr
      clear hg hr HE1
      by_cases hn : nm1 = nm
      · have q : ((bs nm1).toList == (bs nm).toList) = true := by rw [str_eq2]; simp [hn]
        have HN := Lib.hid hn; clear hn
        go_wp2_with fail
        have g0 : (w.alloc (.cells #[.iface T (.pointer (some ⟨b, 0, none⟩)), .map mo] 180)).cell? ⟨w.heap.size, 0, none⟩ = some (.iface T (.pointer (some ⟨b, 0, none⟩))) := cell_of_heap (heap_new _ _) rfl
        have g1 : (w.alloc (.cells #[.iface T (.pointer (some ⟨b, 0, none⟩)), .map mo] 180)).cell? ⟨w.heap.size, 1, none⟩ = some (.map mo) := cell_of_heap (heap_new _ _) rfl
        refine bodyPost_ret (v := .tuple #[.agg #[.iface T (.pointer (some ⟨b, 0, none⟩)), .map mo], .bool true]) (by simp [results, Tryz.results84, go_sem, g0, g1]) rfl ⟨Keep.alloc _ _ _, ?_⟩
        have e1 : env.lookup nm = some s := by
          rw [← HLK.out, ← HN.out]
          simp [List.lookup]
        rw [e1]
        exact ⟨_, rfl, .inr ⟨_, _, _, rfl⟩⟩
      · have q : ((bs nm1).toList == (bs nm).toList) = false := by rw [str_eq2]; simp [hn]
        have HN := Lib.hid hn; clear hn
        go_wp2_with fail
        go_roundg r.length
        case measure => have := HM.out; simp only [List.length_cons] at this; omega
        case rel => exact ⟨up, r, Lib.hid rfl, rfl, HR, Lib.hid (by
          rw [← HLK.out, List.lookup_cons]
          have : (nm == nm1) = false := by
            have := HN.out
            simpa using fun e => this e.symm
          rw [this]), rfl⟩

set_option maxHeartbeats 1000000 in
theorem watch1_ok {G : GH} {w : World} {B : Nat} {e : Option Addr} {env : Env} (nm : Str) (hG : Holds G w) (hb : G B = some (.cells #[.pointer e] 177)) (he : EnvN G e env) :
    Calls Tryz.prog 83 #[.string (bs nm), .pointer (some ⟨B, 0, none⟩)] w fun e w' => e = .returned (.bool (env.lookup nm).isSome) ∧ Keep none' w w' := by
  have b0 := cell_of_heap (i := 0) (hG _ _ hb) rfl
  have hg := get_is nm hG he
  have HG := Lib.hid hg; clear hg hG hb he
  go_enter Tryz.func83, Tryz.ntmps83
  go_wp2_with fail
  refine HG.out.mono ?_
  rintro e1 w1 ⟨k1, v, rfl, hv⟩
  have HK := Lib.hid k1; clear k1
  rcases hv with rfl | ⟨T, b, m, rfl⟩
  all_goals
    go_wp2_with fail
    go_ret
    exact ⟨rfl, HK.out.trans (Keep.alloc _ _ _)⟩
theorem scf_watch {G : GH} {B : Nat} {e : Option Addr} {env : Env} (hb : G B = some (.cells #[.pointer e] 177)) (he : EnvN G e env) : ScF G (.func (.func 83) #[] #[.pointer (some ⟨B, 0, none⟩)]) (fun nm => (env.lookup nm).isSome) :=
  ⟨_, _, rfl, fun args w => by kernel_rfl, fun w hG n => watch1_ok n hG hb he⟩
end Go.Proofs.YtabikmkoajdhmaaGreatDoor
