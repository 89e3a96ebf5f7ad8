/- errors.Is, errors.As and errors.Unwrap by contracts, for the errors that the program makes: Go's own text is walked. -/
import Derived.Test.YtabikmkoajdhmabGreatDoorProg
import Derived.WalkKit
import Derived.LaidEql
import Derived.Stop.Asserts
import Derived.RowKitTokens
set_option linter.unusedVariables false
set_option linter.unusedSimpArgs false
namespace Go.Proofs.YtabikmkoajdhmabGreatDoor
open Go.RowKit Go.Extern.Stop Go.Stop Go.Extern

/-! errors.Is -/
theorem isTypeOfE (v : Value) (w : World) : (Extern.ReflectliteType.typeOf #[.iface 354 v]).run Tryz.prog w = .ok (.iface 286 (.agg #[.pointer (some ⟨15, 354, none⟩)])) w := by kernel_rfl
theorem isTypeOfS (v : Value) (w : World) : (Extern.ReflectliteType.typeOf #[.iface 135 v]).run Tryz.prog w = .ok (.iface 286 (.agg #[.pointer (some ⟨15, 135, none⟩)])) w := by kernel_rfl
/-- The model's entry for (rtype).Comparable, under a name. -/
def cmpEntry : Array Value → Sem Value := Extern.ReflectliteType.method fun t => do Rtype.noPackHeld "Comparable" t; pure (.bool (← typeInfo t).comparable)
theorem callTypeOf (args : Array Value) (w : World) : Sem.run Tryz.prog (callFunc 103 args) w = (Sem.run Tryz.prog (Extern.ReflectliteType.typeOf args) w).andThen fun v w' => .ok (.value v) w' :=
  @run_callFunc_extern Tryz.prog 103 _ Extern.ReflectliteType.typeOf Tryz.func103 (by kernel_rfl) (by kernel_rfl) (by kernel_rfl) (by kernel_rfl) args w
theorem callComparable (args : Array Value) (w : World) : Sem.run Tryz.prog (callFunc 227 args) w = (Sem.run Tryz.prog (cmpEntry args) w).andThen fun v w' => .ok (.value v) w' :=
  @run_callFunc_extern Tryz.prog 227 _ cmpEntry Tryz.func227 (by kernel_rfl) (by kernel_rfl) (by kernel_rfl) (by kernel_rfl) args w
theorem isComparableE (w : World) : (cmpEntry #[.agg #[.pointer (some ⟨15, 354, none⟩)]]).run Tryz.prog w = .ok (.bool true) w := by kernel_rfl
theorem isComparableS (w : World) : (cmpEntry #[.agg #[.pointer (some ⟨15, 135, none⟩)]]).run Tryz.prog w = .ok (.bool true) w := by kernel_rfl
theorem isMethodComparable (v : Value) (w : World) : (Go.method 484 286 v "Comparable").run Tryz.prog w = .ok (227, v) w := by kernel_rfl
theorem isCompE : (Tryz.prog.info? 354).map (·.comparable) = some true := by kernel_rfl
theorem isSizeE : (Tryz.prog.info? 372).map (·.size) = some 1 := by kernel_rfl
theorem isCompS : (Tryz.prog.info? 135).map (·.comparable) = some true := by kernel_rfl
theorem isSizeS : (Tryz.prog.info? 146).map (·.size) = some 1 := by kernel_rfl
theorem noIsE (v : Value) (xT : TypeId) (w : World) : (Instr.typeAssert (.iface 354 v) xT 296 true).run Tryz.prog w = .ok (.tuple #[.nilIface, .bool false]) w := run_typeAssert_lacksB Tryz.underlying296 (by kernel_rfl) (by kernel_rfl) v xT w
theorem noUnwrapE (v : Value) (xT : TypeId) (w : World) : (Instr.typeAssert (.iface 354 v) xT 240 true).run Tryz.prog w = .ok (.tuple #[.nilIface, .bool false]) w := run_typeAssert_lacksB Tryz.underlying240 (by kernel_rfl) (by kernel_rfl) v xT w
theorem noUnwrapsE (v : Value) (xT : TypeId) (w : World) : (Instr.typeAssert (.iface 354 v) xT 293 true).run Tryz.prog w = .ok (.tuple #[.nilIface, .bool false]) w := run_typeAssert_lacksB Tryz.underlying293 (by kernel_rfl) (by kernel_rfl) v xT w
theorem noIsN (v : Value) (xT : TypeId) (w : World) : (Instr.typeAssert (.iface 137 v) xT 296 true).run Tryz.prog w = .ok (.tuple #[.nilIface, .bool false]) w := run_typeAssert_lacksB Tryz.underlying296 (by kernel_rfl) (by kernel_rfl) v xT w
theorem hasUnwrapN (v : Value) (xT : TypeId) (w : World) : (Instr.typeAssert (.iface 137 v) xT 240 true).run Tryz.prog w = .ok (.tuple #[.iface 137 v, .bool true]) w := run_typeAssert_hasB Tryz.underlying240 (by kernel_rfl) v xT w
theorem methodUnwrap (v : Value) (w : World) : (Go.method 484 137 v "Unwrap").run Tryz.prog w = .ok (219, v) w := by kernel_rfl

theorem is_same (a : Addr) (w : World) :
    Calls Tryz.prog 60 #[.iface 354 (.pointer (some a)), .iface 354 (.pointer (some a))] w fun e w' => e = .returned (.bool true) ∧ w = w' := by
  obtain ⟨i, hi, hcmp⟩ := Option.map_eq_some_iff.1 isCompE
  obtain ⟨j, hj, hjs⟩ := Option.map_eq_some_iff.1 isSizeE
  have h8 := callTypeOf
  have h32 := callComparable
  have tT := isTypeOfE
  have cT := isComparableE
  have mR := isMethodComparable
  have heq := run_eql_iface_ptr_same (P := Tryz.prog) w a Tryz.underlying61 Tryz.underlying354 hi hcmp hj
  go_enter Tryz.func60, Tryz.ntmps60
  go_wp2
  refine wp_loop_rounds 1 ?_
  rw [rounds_succ]
  go_wp2
  go_ret
  exact ⟨rfl, rfl⟩

theorem is_other (a b : Addr) (ca cb : Array Value) (ta tb : TypeId) (w : World) (hne : a ≠ b) (ha : w.heap[a.block]? = some (.cells ca ta (0, 0))) (hb : w.heap[b.block]? = some (.cells cb tb (0, 0))) :
    Calls Tryz.prog 60 #[.iface 354 (.pointer (some a)), .iface 354 (.pointer (some b))] w fun e w' => e = .returned (.bool false) ∧ w = w' := by
  obtain ⟨i, hi, hcmp⟩ := Option.map_eq_some_iff.1 isCompE
  obtain ⟨j, hj, hjs⟩ := Option.map_eq_some_iff.1 isSizeE
  have h8 := callTypeOf
  have h32 := callComparable
  have tT := isTypeOfE
  have cT := isComparableE
  have mR := isMethodComparable
  have nE := noIsE
  have uE := noUnwrapE
  have vE := noUnwrapsE
  have heq := run_eql_iface_ptr_other (P := Tryz.prog) w Tryz.underlying61 Tryz.underlying354 hi hcmp hj (by rw [hjs]; decide) hne ha hb
  go_enter Tryz.func60, Tryz.ntmps60
  go_wp2
  refine wp_loop_rounds 1 ?_
  rw [rounds_succ]
  go_wp2
  go_ret
  exact ⟨rfl, rfl⟩

theorem is_env_same (p : Nat) (b : Addr) (w : World) (h1 : w.cell? ⟨p, 1, none⟩ = some (.iface 354 (.pointer (some b)))) :
    Calls Tryz.prog 60 #[.iface 137 (.pointer (some ⟨p, 0, none⟩)), .iface 354 (.pointer (some b))] w fun e w' => e = .returned (.bool true) ∧ w = w' := by
  obtain ⟨i, hi, hcmp⟩ := Option.map_eq_some_iff.1 isCompE
  obtain ⟨j, hj, hjs⟩ := Option.map_eq_some_iff.1 isSizeE
  have h8 := callTypeOf
  have h32 := callComparable
  have tT := isTypeOfE
  have cT := isComparableE
  have mR := isMethodComparable
  have nW := noIsN
  have uW := hasUnwrapN
  have mU := methodUnwrap
  have heq := run_eql_iface_ptr_same (P := Tryz.prog) w b Tryz.underlying61 Tryz.underlying354 hi hcmp hj
  have hty := run_eql_iface_types (P := Tryz.prog) 137 354 (.pointer (some ⟨p, 0, none⟩)) (.pointer (some b)) Tryz.underlying61 (by decide) w
  go_enter Tryz.func60, Tryz.ntmps60
  go_wp2
  refine wp_loop_rounds 2 ?_
  rw [rounds_succ]
  go_wp2
  rw [rounds_succ]
  go_wp2
  go_ret
  exact ⟨rfl, rfl⟩

theorem is_env_same_syn (p : Nat) (b : Addr) (w : World) (h1 : w.cell? ⟨p, 1, none⟩ = some (.iface 135 (.pointer (some b)))) :
    Calls Tryz.prog 60 #[.iface 137 (.pointer (some ⟨p, 0, none⟩)), .iface 135 (.pointer (some b))] w fun e w' => e = .returned (.bool true) ∧ w = w' := by
  obtain ⟨i, hi, hcmp⟩ := Option.map_eq_some_iff.1 isCompS
  obtain ⟨j, hj, hjs⟩ := Option.map_eq_some_iff.1 isSizeS
  have h8 := callTypeOf
  have h32 := callComparable
  have tT := isTypeOfS
  have cT := isComparableS
  have mR := isMethodComparable
  have nW := noIsN
  have uW := hasUnwrapN
  have mU := methodUnwrap
  have heq := run_eql_iface_ptr_same (P := Tryz.prog) w b Tryz.underlying61 Tryz.underlying135 hi hcmp hj
  have hty := run_eql_iface_types (P := Tryz.prog) 137 135 (.pointer (some ⟨p, 0, none⟩)) (.pointer (some b)) Tryz.underlying61 (by decide) w
  go_enter Tryz.func60, Tryz.ntmps60
  go_wp2
  refine wp_loop_rounds 2 ?_
  rw [rounds_succ]
  go_wp2
  rw [rounds_succ]
  go_wp2
  go_ret
  exact ⟨rfl, rfl⟩

theorem is_env_other (p : Nat) (b a : Addr) (ca cb : Array Value) (ta tb : TypeId) (w : World) (h1 : w.cell? ⟨p, 1, none⟩ = some (.iface 354 (.pointer (some a)))) (hne : a ≠ b)
    (ha : w.heap[a.block]? = some (.cells ca ta (0, 0))) (hb : w.heap[b.block]? = some (.cells cb tb (0, 0))) :
    Calls Tryz.prog 60 #[.iface 137 (.pointer (some ⟨p, 0, none⟩)), .iface 354 (.pointer (some b))] w fun e w' => e = .returned (.bool false) ∧ w = w' := by
  obtain ⟨i, hi, hcmp⟩ := Option.map_eq_some_iff.1 isCompE
  obtain ⟨j, hj, hjs⟩ := Option.map_eq_some_iff.1 isSizeE
  have h8 := callTypeOf
  have h32 := callComparable
  have tT := isTypeOfE
  have cT := isComparableE
  have mR := isMethodComparable
  have nE := noIsE
  have uE := noUnwrapE
  have vE := noUnwrapsE
  have nW := noIsN
  have uW := hasUnwrapN
  have mU := methodUnwrap
  have heq := run_eql_iface_ptr_other (P := Tryz.prog) w Tryz.underlying61 Tryz.underlying354 hi hcmp hj (by rw [hjs]; decide) hne ha hb
  have hty := run_eql_iface_types (P := Tryz.prog) 137 354 (.pointer (some ⟨p, 0, none⟩)) (.pointer (some b)) Tryz.underlying61 (by decide) w
  go_enter Tryz.func60, Tryz.ntmps60
  go_wp2
  refine wp_loop_rounds 2 ?_
  rw [rounds_succ]
  go_wp2
  rw [rounds_succ]
  go_wp2
  go_ret
  exact ⟨rfl, rfl⟩

/-- errors.Unwrap of an *EnvError. -/
theorem unwrap_env (p : Nat) (v : Value) (w : World) (h1 : w.cell? ⟨p, 1, none⟩ = some v) :
    Calls Tryz.prog 59 #[.iface 137 (.pointer (some ⟨p, 0, none⟩))] w fun e w' => e = .returned v ∧ w = w' := by
  have uW := hasUnwrapN
  have mU := methodUnwrap
  go_enter Tryz.func59, Tryz.ntmps59
  go_wp2
  go_ret
  exact ⟨rfl, rfl⟩
end Go.Proofs.YtabikmkoajdhmabGreatDoor
