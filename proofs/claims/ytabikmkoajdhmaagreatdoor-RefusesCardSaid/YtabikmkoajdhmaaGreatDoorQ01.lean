/- errors.Is, errors.As and errors.Unwrap by contracts, for the errors that the program makes: Go's own text is walked. -/
import Derived.Test.YtabikmkoajdhmaaGreatDoorProg
import Derived.WalkKit
import Derived.LaidEql
import Derived.Stop.Asserts
import Derived.RowKitTokens
set_option linter.unusedVariables false
set_option linter.unusedSimpArgs false
namespace Go.Proofs.YtabikmkoajdhmaaGreatDoor
open Go.RowKit Go.Extern.Stop Go.Stop Go.Extern

/-! errors.Is -/
theorem isTypeOfE (v : Value) (w : World) : (Extern.ReflectliteType.typeOf #[.iface 364 v]).run Tryz.prog w = .ok (.iface 294 (.agg #[.pointer (some ⟨15, 364, none⟩)])) w := by kernel_rfl
theorem isTypeOfS (v : Value) (w : World) : (Extern.ReflectliteType.typeOf #[.iface 132 v]).run Tryz.prog w = .ok (.iface 294 (.agg #[.pointer (some ⟨15, 132, none⟩)])) w := by kernel_rfl
/-- The model's entry for (rtype).Comparable, under a name. -/
def cmpEntry : Array Value → Sem Value := Extern.ReflectliteType.method fun t => do Rtype.noPackHeld "Comparable" t; pure (.bool (← typeInfo t).comparable)
theorem callTypeOf (args : Array Value) (w : World) : Sem.run Tryz.prog (callFunc 111 args) w = (Sem.run Tryz.prog (Extern.ReflectliteType.typeOf args) w).andThen fun v w' => .ok (.value v) w' :=
  @run_callFunc_extern Tryz.prog 111 _ Extern.ReflectliteType.typeOf Tryz.func111 (by kernel_rfl) (by kernel_rfl) (by kernel_rfl) (by kernel_rfl) args w
theorem callComparable (args : Array Value) (w : World) : Sem.run Tryz.prog (callFunc 238 args) w = (Sem.run Tryz.prog (cmpEntry args) w).andThen fun v w' => .ok (.value v) w' :=
  @run_callFunc_extern Tryz.prog 238 _ cmpEntry Tryz.func238 (by kernel_rfl) (by kernel_rfl) (by kernel_rfl) (by kernel_rfl) args w
theorem isComparableE (w : World) : (cmpEntry #[.agg #[.pointer (some ⟨15, 364, none⟩)]]).run Tryz.prog w = .ok (.bool true) w := by kernel_rfl
theorem isComparableS (w : World) : (cmpEntry #[.agg #[.pointer (some ⟨15, 132, none⟩)]]).run Tryz.prog w = .ok (.bool true) w := by kernel_rfl
theorem isMethodComparable (v : Value) (w : World) : (Go.method 494 294 v "Comparable").run Tryz.prog w = .ok (238, v) w := by kernel_rfl
theorem isCompE : (Tryz.prog.info? 364).map (·.comparable) = some true := by kernel_rfl
theorem isSizeE : (Tryz.prog.info? 382).map (·.size) = some 1 := by kernel_rfl
theorem isCompS : (Tryz.prog.info? 132).map (·.comparable) = some true := by kernel_rfl
theorem isSizeS : (Tryz.prog.info? 143).map (·.size) = some 1 := by kernel_rfl
theorem noIsE (v : Value) (xT : TypeId) (w : World) : (Instr.typeAssert (.iface 364 v) xT 304 true).run Tryz.prog w = .ok (.tuple #[.nilIface, .bool false]) w := run_typeAssert_lacksB Tryz.underlying304 (by kernel_rfl) (by kernel_rfl) v xT w
theorem noUnwrapE (v : Value) (xT : TypeId) (w : World) : (Instr.typeAssert (.iface 364 v) xT 252 true).run Tryz.prog w = .ok (.tuple #[.nilIface, .bool false]) w := run_typeAssert_lacksB Tryz.underlying252 (by kernel_rfl) (by kernel_rfl) v xT w
theorem noUnwrapsE (v : Value) (xT : TypeId) (w : World) : (Instr.typeAssert (.iface 364 v) xT 301 true).run Tryz.prog w = .ok (.tuple #[.nilIface, .bool false]) w := run_typeAssert_lacksB Tryz.underlying301 (by kernel_rfl) (by kernel_rfl) v xT w
theorem noIsN (v : Value) (xT : TypeId) (w : World) : (Instr.typeAssert (.iface 134 v) xT 304 true).run Tryz.prog w = .ok (.tuple #[.nilIface, .bool false]) w := run_typeAssert_lacksB Tryz.underlying304 (by kernel_rfl) (by kernel_rfl) v xT w
theorem hasUnwrapN (v : Value) (xT : TypeId) (w : World) : (Instr.typeAssert (.iface 134 v) xT 252 true).run Tryz.prog w = .ok (.tuple #[.iface 134 v, .bool true]) w := run_typeAssert_hasB Tryz.underlying252 (by kernel_rfl) v xT w
theorem methodUnwrap (v : Value) (w : World) : (Go.method 494 134 v "Unwrap").run Tryz.prog w = .ok (229, v) w := by kernel_rfl

theorem is_same (a : Addr) (w : World) :
    Calls Tryz.prog 66 #[.iface 364 (.pointer (some a)), .iface 364 (.pointer (some a))] w fun e w' => e = .returned (.bool true) ∧ w = w' := by
  obtain ⟨i, hi, hcmp⟩ := Option.map_eq_some_iff.1 isCompE
  obtain ⟨j, hj, hjs⟩ := Option.map_eq_some_iff.1 isSizeE
  have h8 := callTypeOf
  have h32 := callComparable
  have tT := isTypeOfE
  have cT := isComparableE
  have mR := isMethodComparable
  have heq := run_eql_iface_ptr_same (P := Tryz.prog) w a Tryz.underlying67 Tryz.underlying364 hi hcmp hj
  go_enter Tryz.func66, Tryz.ntmps66
  go_wp2
  refine wp_loop_rounds 1 ?_
  rw [rounds_succ]
  go_wp2
  go_ret
  exact ⟨rfl, rfl⟩

theorem is_other (a b : Addr) (ca cb : Array Value) (ta tb : TypeId) (w : World) (hne : a ≠ b) (ha : w.heap[a.block]? = some (.cells ca ta (0, 0))) (hb : w.heap[b.block]? = some (.cells cb tb (0, 0))) :
    Calls Tryz.prog 66 #[.iface 364 (.pointer (some a)), .iface 364 (.pointer (some b))] w fun e w' => e = .returned (.bool false) ∧ w = w' := by
  obtain ⟨i, hi, hcmp⟩ := Option.map_eq_some_iff.1 isCompE
  obtain ⟨j, hj, hjs⟩ := Option.map_eq_some_iff.1 isSizeE
  have h8 := callTypeOf
  have h32 := callComparable
  have tT := isTypeOfE
  have cT := isComparableE
  have mR := isMethodComparable
  have nE := noIsE
  have uE := noUnwrapE
  have vE := noUnwrapsE
  have heq := run_eql_iface_ptr_other (P := Tryz.prog) w Tryz.underlying67 Tryz.underlying364 hi hcmp hj (by rw [hjs]; decide) hne ha hb
  go_enter Tryz.func66, Tryz.ntmps66
  go_wp2
  refine wp_loop_rounds 1 ?_
  rw [rounds_succ]
  go_wp2
  go_ret
  exact ⟨rfl, rfl⟩

theorem is_env_same (p : Nat) (b : Addr) (w : World) (h1 : w.cell? ⟨p, 1, none⟩ = some (.iface 364 (.pointer (some b)))) :
    Calls Tryz.prog 66 #[.iface 134 (.pointer (some ⟨p, 0, none⟩)), .iface 364 (.pointer (some b))] w fun e w' => e = .returned (.bool true) ∧ w = w' := by
  obtain ⟨i, hi, hcmp⟩ := Option.map_eq_some_iff.1 isCompE
  obtain ⟨j, hj, hjs⟩ := Option.map_eq_some_iff.1 isSizeE
  have h8 := callTypeOf
  have h32 := callComparable
  have tT := isTypeOfE
  have cT := isComparableE
  have mR := isMethodComparable
  have nW := noIsN
  have uW := hasUnwrapN
  have mU := methodUnwrap
  have heq := run_eql_iface_ptr_same (P := Tryz.prog) w b Tryz.underlying67 Tryz.underlying364 hi hcmp hj
  have hty := run_eql_iface_types (P := Tryz.prog) 134 364 (.pointer (some ⟨p, 0, none⟩)) (.pointer (some b)) Tryz.underlying67 (by decide) w
  go_enter Tryz.func66, Tryz.ntmps66
  go_wp2
  refine wp_loop_rounds 2 ?_
  rw [rounds_succ]
  go_wp2
  rw [rounds_succ]
  go_wp2
  go_ret
  exact ⟨rfl, rfl⟩

theorem is_env_same_syn (p : Nat) (b : Addr) (w : World) (h1 : w.cell? ⟨p, 1, none⟩ = some (.iface 132 (.pointer (some b)))) :
    Calls Tryz.prog 66 #[.iface 134 (.pointer (some ⟨p, 0, none⟩)), .iface 132 (.pointer (some b))] w fun e w' => e = .returned (.bool true) ∧ w = w' := by
  obtain ⟨i, hi, hcmp⟩ := Option.map_eq_some_iff.1 isCompS
  obtain ⟨j, hj, hjs⟩ := Option.map_eq_some_iff.1 isSizeS
  have h8 := callTypeOf
  have h32 := callComparable
  have tT := isTypeOfS
  have cT := isComparableS
  have mR := isMethodComparable
  have nW := noIsN
  have uW := hasUnwrapN
  have mU := methodUnwrap
  have heq := run_eql_iface_ptr_same (P := Tryz.prog) w b Tryz.underlying67 Tryz.underlying132 hi hcmp hj
  have hty := run_eql_iface_types (P := Tryz.prog) 134 132 (.pointer (some ⟨p, 0, none⟩)) (.pointer (some b)) Tryz.underlying67 (by decide) w
  go_enter Tryz.func66, Tryz.ntmps66
  go_wp2
  refine wp_loop_rounds 2 ?_
  rw [rounds_succ]
  go_wp2
  rw [rounds_succ]
  go_wp2
  go_ret
  exact ⟨rfl, rfl⟩

theorem is_env_other (p : Nat) (b a : Addr) (ca cb : Array Value) (ta tb : TypeId) (w : World) (h1 : w.cell? ⟨p, 1, none⟩ = some (.iface 364 (.pointer (some a)))) (hne : a ≠ b)
    (ha : w.heap[a.block]? = some (.cells ca ta (0, 0))) (hb : w.heap[b.block]? = some (.cells cb tb (0, 0))) :
    Calls Tryz.prog 66 #[.iface 134 (.pointer (some ⟨p, 0, none⟩)), .iface 364 (.pointer (some b))] w fun e w' => e = .returned (.bool false) ∧ w = w' := by
  obtain ⟨i, hi, hcmp⟩ := Option.map_eq_some_iff.1 isCompE
  obtain ⟨j, hj, hjs⟩ := Option.map_eq_some_iff.1 isSizeE
  have h8 := callTypeOf
  have h32 := callComparable
  have tT := isTypeOfE
  have cT := isComparableE
  have mR := isMethodComparable
  have nE := noIsE
  have uE := noUnwrapE
  have vE := noUnwrapsE
  have nW := noIsN
  have uW := hasUnwrapN
  have mU := methodUnwrap
  have heq := run_eql_iface_ptr_other (P := Tryz.prog) w Tryz.underlying67 Tryz.underlying364 hi hcmp hj (by rw [hjs]; decide) hne ha hb
  have hty := run_eql_iface_types (P := Tryz.prog) 134 364 (.pointer (some ⟨p, 0, none⟩)) (.pointer (some b)) Tryz.underlying67 (by decide) w
  go_enter Tryz.func66, Tryz.ntmps66
  go_wp2
  refine wp_loop_rounds 2 ?_
  rw [rounds_succ]
  go_wp2
  rw [rounds_succ]
  go_wp2
  go_ret
  exact ⟨rfl, rfl⟩

/-- errors.Unwrap of an *EnvError. -/
theorem unwrap_env (p : Nat) (v : Value) (w : World) (h1 : w.cell? ⟨p, 1, none⟩ = some v) :
    Calls Tryz.prog 65 #[.iface 134 (.pointer (some ⟨p, 0, none⟩))] w fun e w' => e = .returned v ∧ w = w' := by
  have uW := hasUnwrapN
  have mU := methodUnwrap
  go_enter Tryz.func65, Tryz.ntmps65
  go_wp2
  go_ret
  exact ⟨rfl, rfl⟩
end Go.Proofs.YtabikmkoajdhmaaGreatDoor
