/- errors.Is, errors.As and errors.Unwrap by contracts, for the errors that the program makes: Go's own text is walked. -/
import Derived.Test.YtabikmkoajdhmaaDoorProg
import Derived.WalkKit
import Derived.LaidEql
import Derived.Stop.Asserts
import Derived.RowKitTokens
set_option linter.unusedVariables false
set_option linter.unusedSimpArgs false
namespace Go.Proofs.YtabikmkoajdhmaaDoor
open Go.RowKit Go.Extern.Stop Go.Stop Go.Extern

/-! errors.Is -/
theorem isTypeOfE (v : Value) (w : World) : (Extern.ReflectliteType.typeOf #[.iface 264 v]).run Tryd.prog w = .ok (.iface 150 (.agg #[.pointer (some ⟨15, 264, none⟩)])) w := by kernel_rfl
theorem isTypeOfS (v : Value) (w : World) : (Extern.ReflectliteType.typeOf #[.iface 58 v]).run Tryd.prog w = .ok (.iface 150 (.agg #[.pointer (some ⟨15, 58, none⟩)])) w := by kernel_rfl
/-- The model's entry for (rtype).Comparable, under a name. -/
def cmpEntry : Array Value → Sem Value := Extern.ReflectliteType.method fun t => do Rtype.noPackHeld "Comparable" t; pure (.bool (← typeInfo t).comparable)
theorem callTypeOf (args : Array Value) (w : World) : Sem.run Tryd.prog (callFunc 36 args) w = (Sem.run Tryd.prog (Extern.ReflectliteType.typeOf args) w).andThen fun v w' => .ok (.value v) w' :=
  @run_callFunc_extern Tryd.prog 36 _ Extern.ReflectliteType.typeOf Tryd.func36 (by kernel_rfl) (by kernel_rfl) (by kernel_rfl) (by kernel_rfl) args w
theorem callComparable (args : Array Value) (w : World) : Sem.run Tryd.prog (callFunc 159 args) w = (Sem.run Tryd.prog (cmpEntry args) w).andThen fun v w' => .ok (.value v) w' :=
  @run_callFunc_extern Tryd.prog 159 _ cmpEntry Tryd.func159 (by kernel_rfl) (by kernel_rfl) (by kernel_rfl) (by kernel_rfl) args w
theorem isComparableE (w : World) : (cmpEntry #[.agg #[.pointer (some ⟨15, 264, none⟩)]]).run Tryd.prog w = .ok (.bool true) w := by kernel_rfl
theorem isComparableS (w : World) : (cmpEntry #[.agg #[.pointer (some ⟨15, 58, none⟩)]]).run Tryd.prog w = .ok (.bool true) w := by kernel_rfl
theorem isMethodComparable (v : Value) (w : World) : (Go.method 395 150 v "Comparable").run Tryd.prog w = .ok (159, v) w := by kernel_rfl
theorem isCompE : (Tryd.prog.info? 264).map (·.comparable) = some true := by kernel_rfl
theorem isSizeE : (Tryd.prog.info? 283).map (·.size) = some 1 := by kernel_rfl
theorem isCompS : (Tryd.prog.info? 58).map (·.comparable) = some true := by kernel_rfl
theorem isSizeS : (Tryd.prog.info? 60).map (·.size) = some 1 := by kernel_rfl
theorem noIsE (v : Value) (xT : TypeId) (w : World) : (Instr.typeAssert (.iface 264 v) xT 152 true).run Tryd.prog w = .ok (.tuple #[.nilIface, .bool false]) w := run_typeAssert_lacksB Tryd.underlying152 (by kernel_rfl) (by kernel_rfl) v xT w
theorem noUnwrapE (v : Value) (xT : TypeId) (w : World) : (Instr.typeAssert (.iface 264 v) xT 155 true).run Tryd.prog w = .ok (.tuple #[.nilIface, .bool false]) w := run_typeAssert_lacksB Tryd.underlying155 (by kernel_rfl) (by kernel_rfl) v xT w
theorem noUnwrapsE (v : Value) (xT : TypeId) (w : World) : (Instr.typeAssert (.iface 264 v) xT 157 true).run Tryd.prog w = .ok (.tuple #[.nilIface, .bool false]) w := run_typeAssert_lacksB Tryd.underlying157 (by kernel_rfl) (by kernel_rfl) v xT w
theorem noIsN (v : Value) (xT : TypeId) (w : World) : (Instr.typeAssert (.iface 54 v) xT 152 true).run Tryd.prog w = .ok (.tuple #[.nilIface, .bool false]) w := run_typeAssert_lacksB Tryd.underlying152 (by kernel_rfl) (by kernel_rfl) v xT w
theorem hasUnwrapN (v : Value) (xT : TypeId) (w : World) : (Instr.typeAssert (.iface 54 v) xT 155 true).run Tryd.prog w = .ok (.tuple #[.iface 54 v, .bool true]) w := run_typeAssert_hasB Tryd.underlying155 (by kernel_rfl) v xT w
theorem methodUnwrap (v : Value) (w : World) : (Go.method 395 54 v "Unwrap").run Tryd.prog w = .ok (149, v) w := by kernel_rfl

theorem is_same (a : Addr) (w : World) :
    Calls Tryd.prog 19 #[.iface 264 (.pointer (some a)), .iface 264 (.pointer (some a))] w fun e w' => e = .returned (.bool true) ∧ w = w' := by
  obtain ⟨i, hi, hcmp⟩ := Option.map_eq_some_iff.1 isCompE
  obtain ⟨j, hj, hjs⟩ := Option.map_eq_some_iff.1 isSizeE
  have h8 := callTypeOf
  have h32 := callComparable
  have tT := isTypeOfE
  have cT := isComparableE
  have mR := isMethodComparable
  have heq := run_eql_iface_ptr_same (P := Tryd.prog) w a Tryd.underlying52 Tryd.underlying264 hi hcmp hj
  go_enter Tryd.func19, Tryd.ntmps19
  go_wp2
  refine wp_loop_rounds 1 ?_
  rw [rounds_succ]
  go_wp2
  go_ret
  exact ⟨rfl, rfl⟩

theorem is_other (a b : Addr) (ca cb : Array Value) (ta tb : TypeId) (w : World) (hne : a ≠ b) (ha : w.heap[a.block]? = some (.cells ca ta (0, 0))) (hb : w.heap[b.block]? = some (.cells cb tb (0, 0))) :
    Calls Tryd.prog 19 #[.iface 264 (.pointer (some a)), .iface 264 (.pointer (some b))] w fun e w' => e = .returned (.bool false) ∧ w = w' := by
  obtain ⟨i, hi, hcmp⟩ := Option.map_eq_some_iff.1 isCompE
  obtain ⟨j, hj, hjs⟩ := Option.map_eq_some_iff.1 isSizeE
  have h8 := callTypeOf
  have h32 := callComparable
  have tT := isTypeOfE
  have cT := isComparableE
  have mR := isMethodComparable
  have nE := noIsE
  have uE := noUnwrapE
  have vE := noUnwrapsE
  have heq := run_eql_iface_ptr_other (P := Tryd.prog) w Tryd.underlying52 Tryd.underlying264 hi hcmp hj (by rw [hjs]; decide) hne ha hb
  go_enter Tryd.func19, Tryd.ntmps19
  go_wp2
  refine wp_loop_rounds 1 ?_
  rw [rounds_succ]
  go_wp2
  go_ret
  exact ⟨rfl, rfl⟩

theorem is_env_same (p : Nat) (b : Addr) (w : World) (h1 : w.cell? ⟨p, 1, none⟩ = some (.iface 264 (.pointer (some b)))) :
    Calls Tryd.prog 19 #[.iface 54 (.pointer (some ⟨p, 0, none⟩)), .iface 264 (.pointer (some b))] w fun e w' => e = .returned (.bool true) ∧ w = w' := by
  obtain ⟨i, hi, hcmp⟩ := Option.map_eq_some_iff.1 isCompE
  obtain ⟨j, hj, hjs⟩ := Option.map_eq_some_iff.1 isSizeE
  have h8 := callTypeOf
  have h32 := callComparable
  have tT := isTypeOfE
  have cT := isComparableE
  have mR := isMethodComparable
  have nW := noIsN
  have uW := hasUnwrapN
  have mU := methodUnwrap
  have heq := run_eql_iface_ptr_same (P := Tryd.prog) w b Tryd.underlying52 Tryd.underlying264 hi hcmp hj
  have hty := run_eql_iface_types (P := Tryd.prog) 54 264 (.pointer (some ⟨p, 0, none⟩)) (.pointer (some b)) Tryd.underlying52 (by decide) w
  go_enter Tryd.func19, Tryd.ntmps19
  go_wp2
  refine wp_loop_rounds 2 ?_
  rw [rounds_succ]
  go_wp2
  rw [rounds_succ]
  go_wp2
  go_ret
  exact ⟨rfl, rfl⟩

theorem is_env_same_syn (p : Nat) (b : Addr) (w : World) (h1 : w.cell? ⟨p, 1, none⟩ = some (.iface 58 (.pointer (some b)))) :
    Calls Tryd.prog 19 #[.iface 54 (.pointer (some ⟨p, 0, none⟩)), .iface 58 (.pointer (some b))] w fun e w' => e = .returned (.bool true) ∧ w = w' := by
  obtain ⟨i, hi, hcmp⟩ := Option.map_eq_some_iff.1 isCompS
  obtain ⟨j, hj, hjs⟩ := Option.map_eq_some_iff.1 isSizeS
  have h8 := callTypeOf
  have h32 := callComparable
  have tT := isTypeOfS
  have cT := isComparableS
  have mR := isMethodComparable
  have nW := noIsN
  have uW := hasUnwrapN
  have mU := methodUnwrap
  have heq := run_eql_iface_ptr_same (P := Tryd.prog) w b Tryd.underlying52 Tryd.underlying58 hi hcmp hj
  have hty := run_eql_iface_types (P := Tryd.prog) 54 58 (.pointer (some ⟨p, 0, none⟩)) (.pointer (some b)) Tryd.underlying52 (by decide) w
  go_enter Tryd.func19, Tryd.ntmps19
  go_wp2
  refine wp_loop_rounds 2 ?_
  rw [rounds_succ]
  go_wp2
  rw [rounds_succ]
  go_wp2
  go_ret
  exact ⟨rfl, rfl⟩

theorem is_env_other (p : Nat) (b a : Addr) (ca cb : Array Value) (ta tb : TypeId) (w : World) (h1 : w.cell? ⟨p, 1, none⟩ = some (.iface 264 (.pointer (some a)))) (hne : a ≠ b)
    (ha : w.heap[a.block]? = some (.cells ca ta (0, 0))) (hb : w.heap[b.block]? = some (.cells cb tb (0, 0))) :
    Calls Tryd.prog 19 #[.iface 54 (.pointer (some ⟨p, 0, none⟩)), .iface 264 (.pointer (some b))] w fun e w' => e = .returned (.bool false) ∧ w = w' := by
  obtain ⟨i, hi, hcmp⟩ := Option.map_eq_some_iff.1 isCompE
  obtain ⟨j, hj, hjs⟩ := Option.map_eq_some_iff.1 isSizeE
  have h8 := callTypeOf
  have h32 := callComparable
  have tT := isTypeOfE
  have cT := isComparableE
  have mR := isMethodComparable
  have nE := noIsE
  have uE := noUnwrapE
  have vE := noUnwrapsE
  have nW := noIsN
  have uW := hasUnwrapN
  have mU := methodUnwrap
  have heq := run_eql_iface_ptr_other (P := Tryd.prog) w Tryd.underlying52 Tryd.underlying264 hi hcmp hj (by rw [hjs]; decide) hne ha hb
  have hty := run_eql_iface_types (P := Tryd.prog) 54 264 (.pointer (some ⟨p, 0, none⟩)) (.pointer (some b)) Tryd.underlying52 (by decide) w
  go_enter Tryd.func19, Tryd.ntmps19
  go_wp2
  refine wp_loop_rounds 2 ?_
  rw [rounds_succ]
  go_wp2
  rw [rounds_succ]
  go_wp2
  go_ret
  exact ⟨rfl, rfl⟩

/-- errors.Unwrap of an *EnvError. -/
theorem unwrap_env (p : Nat) (v : Value) (w : World) (h1 : w.cell? ⟨p, 1, none⟩ = some v) :
    Calls Tryd.prog 44 #[.iface 54 (.pointer (some ⟨p, 0, none⟩))] w fun e w' => e = .returned v ∧ w = w' := by
  have uW := hasUnwrapN
  have mU := methodUnwrap
  go_enter Tryd.func44, Tryd.ntmps44
  go_wp2
  go_ret
  exact ⟨rfl, rfl⟩
end Go.Proofs.YtabikmkoajdhmaaDoor
