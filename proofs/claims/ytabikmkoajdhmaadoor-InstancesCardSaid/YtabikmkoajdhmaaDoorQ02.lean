/- errors.As at the program's three concrete targets, by contracts: Go's own text of errors.As and errors.as is walked; the model's entries for internal/reflectlite by closed facts (after the guide's worked text Derived/Test/ToyasAs.lean). -/
import Derived.Test.YtabikmkoajdhmaaDoorQ01
set_option linter.unusedVariables false
set_option linter.unusedSimpArgs false
namespace Go.Proofs.YtabikmkoajdhmaaDoor
open Go.RowKit Go.Extern.Stop Go.Stop Go.Extern

theorem as_nil (t : Value) (w : World) :
    Calls Tryd.prog 20 #[.nilIface, t] w fun e w' => e = .returned (.bool false) ∧ w = w' := by
  go_enter Tryd.func20, Tryd.ntmps20
  go_wp2
  go_ret
  exact ⟨rfl, rfl⟩

/-! the model's entries, under names -/
def eValueOf : Array Value → Sem Value := fun args => ReflectliteValue.unpack (args.getD 0 (.tuple #[]))
def eType : Array Value → Sem Value := ReflectliteValue.methodAny (ReflectliteValue.valueError "reflectlite.Value.Type" 0) (fun t _ _ _ => ReflectliteType.toType t)
def eIsNil : Array Value → Sem Value := ReflectliteValue.method (ReflectliteValue.valueError "reflectlite.Value.IsNil" 0) ReflectliteValue.isNil
def eKind : Array Value → Sem Value := ReflectliteType.abiMethod fun t => do pure (.int .u8 (← Rtype.kind t))
def eElem : Array Value → Sem Value := ReflectliteType.method ReflectliteType.elem
def eImplements : Array Value → Sem Value := ReflectliteType.relation "Implements" ReflectliteType.implements_
def eAssignable : Array Value → Sem Value := ReflectliteType.relation "AssignableTo" ReflectliteType.assignableTo
def eElemV : Array Value → Sem Value := ReflectliteValue.method (ReflectliteValue.valueError "reflectlite.Value.Elem" 0) ReflectliteValue.elem
def eSet : Array Value → Sem Value := ReflectliteValue.set

theorem callValueOf' (args : Array Value) (w : World) : Sem.run Tryd.prog (callFunc 38 args) w = (Sem.run Tryd.prog (eValueOf args) w).andThen fun v w' => .ok (.value v) w' :=
  @run_callFunc_extern Tryd.prog 38 _ eValueOf Tryd.func38 (by kernel_rfl) (by kernel_rfl) (by kernel_rfl) (by kernel_rfl) args w
theorem callType' (args : Array Value) (w : World) : Sem.run Tryd.prog (callFunc 39 args) w = (Sem.run Tryd.prog (eType args) w).andThen fun v w' => .ok (.value v) w' :=
  @run_callFunc_extern Tryd.prog 39 _ eType Tryd.func39 (by kernel_rfl) (by kernel_rfl) (by kernel_rfl) (by kernel_rfl) args w
theorem callIsNil' (args : Array Value) (w : World) : Sem.run Tryd.prog (callFunc 40 args) w = (Sem.run Tryd.prog (eIsNil args) w).andThen fun v w' => .ok (.value v) w' :=
  @run_callFunc_extern Tryd.prog 40 _ eIsNil Tryd.func40 (by kernel_rfl) (by kernel_rfl) (by kernel_rfl) (by kernel_rfl) args w
theorem callKind' (args : Array Value) (w : World) : Sem.run Tryd.prog (callFunc 145 args) w = (Sem.run Tryd.prog (eKind args) w).andThen fun v w' => .ok (.value v) w' :=
  @run_callFunc_extern Tryd.prog 145 _ eKind Tryd.func145 (by kernel_rfl) (by kernel_rfl) (by kernel_rfl) (by kernel_rfl) args w
theorem callElem' (args : Array Value) (w : World) : Sem.run Tryd.prog (callFunc 160 args) w = (Sem.run Tryd.prog (eElem args) w).andThen fun v w' => .ok (.value v) w' :=
  @run_callFunc_extern Tryd.prog 160 _ eElem Tryd.func160 (by kernel_rfl) (by kernel_rfl) (by kernel_rfl) (by kernel_rfl) args w
theorem callImplements' (args : Array Value) (w : World) : Sem.run Tryd.prog (callFunc 161 args) w = (Sem.run Tryd.prog (eImplements args) w).andThen fun v w' => .ok (.value v) w' :=
  @run_callFunc_extern Tryd.prog 161 _ eImplements Tryd.func161 (by kernel_rfl) (by kernel_rfl) (by kernel_rfl) (by kernel_rfl) args w
theorem callAssignable' (args : Array Value) (w : World) : Sem.run Tryd.prog (callFunc 158 args) w = (Sem.run Tryd.prog (eAssignable args) w).andThen fun v w' => .ok (.value v) w' :=
  @run_callFunc_extern Tryd.prog 158 _ eAssignable Tryd.func158 (by kernel_rfl) (by kernel_rfl) (by kernel_rfl) (by kernel_rfl) args w
theorem callElemV' (args : Array Value) (w : World) : Sem.run Tryd.prog (callFunc 62 args) w = (Sem.run Tryd.prog (eElemV args) w).andThen fun v w' => .ok (.value v) w' :=
  @run_callFunc_extern Tryd.prog 62 _ eElemV Tryd.func62 (by kernel_rfl) (by kernel_rfl) (by kernel_rfl) (by kernel_rfl) args w
theorem callSet' (args : Array Value) (w : World) : Sem.run Tryd.prog (callFunc 63 args) w = (Sem.run Tryd.prog (eSet args) w).andThen fun v w' => .ok (.value v) w' :=
  @run_callFunc_extern Tryd.prog 63 _ eSet Tryd.func63 (by kernel_rfl) (by kernel_rfl) (by kernel_rfl) (by kernel_rfl) args w
theorem methodKind' (h : Value) (w : World) : (Go.method 395 150 (.agg #[h]) "Kind").run Tryd.prog w = .ok (145, h) w := by kernel_rfl
theorem methodElem' (h : Value) (w : World) : (Go.method 395 150 (.agg #[h]) "Elem").run Tryd.prog w = .ok (160, .agg #[h]) w := by kernel_rfl
theorem methodImplements' (h : Value) (w : World) : (Go.method 395 150 (.agg #[h]) "Implements").run Tryd.prog w = .ok (161, .agg #[h]) w := by kernel_rfl
theorem methodAssignableTo' (h : Value) (w : World) : (Go.method 395 150 (.agg #[h]) "AssignableTo").run Tryd.prog w = .ok (158, .agg #[h]) w := by kernel_rfl
theorem rlm (z : Sem Value) (f : TypeId → Addr → Nat → Nat → Sem Value) (v : Value) :
    ReflectliteValue.method z f #[v] = (do match ← ReflectliteValue.parts v with | none => z | some (t, a, fl) => f t a fl (fl % 32)) := rfl
theorem rls (v x : Value) : ReflectliteValue.set #[v, x] = (do
    let (some (dst, a, fl), some (src, b, _)) := (← ReflectliteValue.parts v, ← ReflectliteValue.parts x)
      | unsupported (.noEntry "extern/(internal/reflectlite.Value).Set.zeroValue")
    if fl / ReflectliteValue.flagAddr % 2 == 0 then unsupported (.noEntry "extern/(internal/reflectlite.Value).Set.unaddressable")
    let val ← loadVar src b
    if ← Rtype.directlyAssignable dst src then storeVar dst a val
    else if ← Rtype.implements dst src then
      if (← Rtype.kind src) == 20 then
        match val with
        | .nilIface => unsupported (.noEntry "extern/reflectlite: a nil value of one interface type handed on as a value of another")
        | _ => storeVar dst a val
      else storeVar dst a (.iface src val)
    else panicString ("reflectlite.Set: value of type " ++ (← Rtype.spelt src) ++ " is not assignable to type " ++ (← Rtype.spelt dst))
    pure (.tuple #[])) := rfl

theorem typeOfN (v : Value) (w : World) : (ReflectliteType.typeOf #[.iface 54 v]).run Tryd.prog w = .ok (.iface 150 (.agg #[.pointer (some ⟨15, 54, none⟩)])) w := by kernel_rfl
theorem typeOfS (v : Value) (w : World) : (ReflectliteType.typeOf #[.iface 58 v]).run Tryd.prog w = .ok (.iface 150 (.agg #[.pointer (some ⟨15, 58, none⟩)])) w := by kernel_rfl
theorem typeOfU (v : Value) (w : World) : (ReflectliteType.typeOf #[.iface 113 v]).run Tryd.prog w = .ok (.iface 150 (.agg #[.pointer (some ⟨15, 113, none⟩)])) w := by kernel_rfl
theorem typeOfE (v : Value) (w : World) : (ReflectliteType.typeOf #[.iface 264 v]).run Tryd.prog w = .ok (.iface 150 (.agg #[.pointer (some ⟨15, 264, none⟩)])) w := by kernel_rfl
theorem valueOfPN (t : Addr) (w : World) : (eValueOf #[.iface 114 (.pointer (some t))]).run Tryd.prog w = .ok (.agg #[.pointer (some ⟨15, 114, none⟩), .pointer (some ⟨w.heap.size, 0, none⟩), .int .u64 150]) (w.alloc (.cells #[.pointer (some t)] 114)) := by kernel_rfl
theorem typePN (a : Addr) (w : World) : (eType #[.agg #[.pointer (some ⟨15, 114, none⟩), .pointer (some a), .int .u64 150]]).run Tryd.prog w = .ok (.iface 150 (.agg #[.pointer (some ⟨15, 114, none⟩)])) w := by kernel_rfl
theorem kindPN (w : World) : (eKind #[.pointer (some ⟨15, 114, none⟩)]).run Tryd.prog w = .ok (.int .u8 22) w := by kernel_rfl
theorem kindN (w : World) : (eKind #[.pointer (some ⟨15, 54, none⟩)]).run Tryd.prog w = .ok (.int .u8 22) w := by kernel_rfl
theorem partsPN (a : Addr) (w : World) : (ReflectliteValue.parts (.agg #[.pointer (some ⟨15, 114, none⟩), .pointer (some a), .int .u64 150])).run Tryd.prog w = .ok (some (114, a, 150)) w := by kernel_rfl
theorem isNilPN (a p : Addr) (W : World) (ha : W.cell? a = some (.pointer (some p))) : (eIsNil #[.agg #[.pointer (some ⟨15, 114, none⟩), .pointer (some a), .int .u64 150]]).run Tryd.prog W = .ok (.bool false) W := by
  unfold eIsNil
  rw [rlm]
  simp only [Sem.run_bind, partsPN, Result.andThen]
  simp [ReflectliteValue.isNil, loadVar, isAgg, underlying, Tryd.underlying114, ha, Result.andThen]
theorem elemPN (w : World) : (eElem #[.agg #[.pointer (some ⟨15, 114, none⟩)]]).run Tryd.prog w = .ok (.iface 150 (.agg #[.pointer (some ⟨15, 54, none⟩)])) w := by kernel_rfl
theorem implementsN (w : World) : (eImplements #[.agg #[.pointer (some ⟨15, 54, none⟩)], .iface 150 (.agg #[.pointer (some ⟨15, 52, none⟩)])]).run Tryd.prog w = .ok (.bool true) w := by kernel_rfl
theorem assignableNN (w : World) : (eAssignable #[.agg #[.pointer (some ⟨15, 54, none⟩)], .iface 150 (.agg #[.pointer (some ⟨15, 54, none⟩)])]).run Tryd.prog w = .ok (.bool true) w := by kernel_rfl
theorem assignableSN (w : World) : (eAssignable #[.agg #[.pointer (some ⟨15, 58, none⟩)], .iface 150 (.agg #[.pointer (some ⟨15, 54, none⟩)])]).run Tryd.prog w = .ok (.bool false) w := by kernel_rfl
theorem assignableUN (w : World) : (eAssignable #[.agg #[.pointer (some ⟨15, 113, none⟩)], .iface 150 (.agg #[.pointer (some ⟨15, 54, none⟩)])]).run Tryd.prog w = .ok (.bool false) w := by kernel_rfl
theorem assignableEN (w : World) : (eAssignable #[.agg #[.pointer (some ⟨15, 264, none⟩)], .iface 150 (.agg #[.pointer (some ⟨15, 54, none⟩)])]).run Tryd.prog w = .ok (.bool false) w := by kernel_rfl
theorem valueOfN (e : Addr) (w : World) : (eValueOf #[.iface 54 (.pointer (some e))]).run Tryd.prog w = .ok (.agg #[.pointer (some ⟨15, 54, none⟩), .pointer (some ⟨w.heap.size, 0, none⟩), .int .u64 150]) (w.alloc (.cells #[.pointer (some e)] 54)) := by kernel_rfl
theorem elemOfPN (w : World) : (Rtype.elem? 114).run Tryd.prog w = .ok (some 54) w := by kernel_rfl
theorem mkN (p : Addr) (w : World) : (ReflectliteValue.mk 54 p ReflectliteValue.flagAddr).run Tryd.prog w = .ok (.agg #[.pointer (some ⟨15, 54, none⟩), .pointer (some p), .int .u64 406]) w := by kernel_rfl
theorem elemVPN (a p : Addr) (W : World) (ha : W.cell? a = some (.pointer (some p))) :
    (eElemV #[.agg #[.pointer (some ⟨15, 114, none⟩), .pointer (some a), .int .u64 150]]).run Tryd.prog W = .ok (.agg #[.pointer (some ⟨15, 54, none⟩), .pointer (some p), .int .u64 406]) W := by
  unfold eElemV
  rw [rlm]
  simp only [Sem.run_bind, partsPN, Result.andThen]
  simp [ReflectliteValue.elem, loadVar, isAgg, underlying, Tryd.underlying114, ha, Result.andThen, elemOfPN, mkN]
theorem partsNa (a : Addr) (w : World) : (ReflectliteValue.parts (.agg #[.pointer (some ⟨15, 54, none⟩), .pointer (some a), .int .u64 406])).run Tryd.prog w = .ok (some (54, a, 406)) w := by kernel_rfl
theorem partsN (a : Addr) (w : World) : (ReflectliteValue.parts (.agg #[.pointer (some ⟨15, 54, none⟩), .pointer (some a), .int .u64 150])).run Tryd.prog w = .ok (some (54, a, 150)) w := by kernel_rfl
theorem directN (w : World) : (Rtype.directlyAssignable 54 54).run Tryd.prog w = .ok true w := by kernel_rfl
theorem sizeN (w : World) : (sizeOf 54).run Tryd.prog w = .ok 1 w := by kernel_rfl
theorem setN (ta b e : Addr) (old : Value) (W : World) (hb : W.cell? b = some (.pointer (some e))) (ht : W.cell? ta = some old) (hf : W.frozen? ta = false) :
    (eSet #[.agg #[.pointer (some ⟨15, 54, none⟩), .pointer (some ta), .int .u64 406], .agg #[.pointer (some ⟨15, 54, none⟩), .pointer (some b), .int .u64 150]]).run Tryd.prog W
      = .ok (.tuple #[]) (W.setCell ta (.pointer (some e))) := by
  unfold eSet
  rw [rls]
  simp only [Sem.run_bind, partsNa, partsN, Result.andThen]
  simp [ReflectliteValue.flagAddr, loadVar, isAgg, underlying, Tryd.underlying54, hb, Result.andThen, directN, storeVar, Value.cells, storeCells, Addr.add]
  rw [run_store Tryd.prog W ta _ _ (by rfl)]
  simp [ht, hf]
theorem valueOfPS (t : Addr) (w : World) : (eValueOf #[.iface 62 (.pointer (some t))]).run Tryd.prog w = .ok (.agg #[.pointer (some ⟨15, 62, none⟩), .pointer (some ⟨w.heap.size, 0, none⟩), .int .u64 150]) (w.alloc (.cells #[.pointer (some t)] 62)) := by kernel_rfl
theorem typePS (a : Addr) (w : World) : (eType #[.agg #[.pointer (some ⟨15, 62, none⟩), .pointer (some a), .int .u64 150]]).run Tryd.prog w = .ok (.iface 150 (.agg #[.pointer (some ⟨15, 62, none⟩)])) w := by kernel_rfl
theorem kindPS (w : World) : (eKind #[.pointer (some ⟨15, 62, none⟩)]).run Tryd.prog w = .ok (.int .u8 22) w := by kernel_rfl
theorem kindS (w : World) : (eKind #[.pointer (some ⟨15, 58, none⟩)]).run Tryd.prog w = .ok (.int .u8 22) w := by kernel_rfl
theorem partsPS (a : Addr) (w : World) : (ReflectliteValue.parts (.agg #[.pointer (some ⟨15, 62, none⟩), .pointer (some a), .int .u64 150])).run Tryd.prog w = .ok (some (62, a, 150)) w := by kernel_rfl
theorem isNilPS (a p : Addr) (W : World) (ha : W.cell? a = some (.pointer (some p))) : (eIsNil #[.agg #[.pointer (some ⟨15, 62, none⟩), .pointer (some a), .int .u64 150]]).run Tryd.prog W = .ok (.bool false) W := by
  unfold eIsNil
  rw [rlm]
  simp only [Sem.run_bind, partsPS, Result.andThen]
  simp [ReflectliteValue.isNil, loadVar, isAgg, underlying, Tryd.underlying62, ha, Result.andThen]
theorem elemPS (w : World) : (eElem #[.agg #[.pointer (some ⟨15, 62, none⟩)]]).run Tryd.prog w = .ok (.iface 150 (.agg #[.pointer (some ⟨15, 58, none⟩)])) w := by kernel_rfl
theorem implementsS (w : World) : (eImplements #[.agg #[.pointer (some ⟨15, 58, none⟩)], .iface 150 (.agg #[.pointer (some ⟨15, 52, none⟩)])]).run Tryd.prog w = .ok (.bool true) w := by kernel_rfl
theorem assignableNS (w : World) : (eAssignable #[.agg #[.pointer (some ⟨15, 54, none⟩)], .iface 150 (.agg #[.pointer (some ⟨15, 58, none⟩)])]).run Tryd.prog w = .ok (.bool false) w := by kernel_rfl
theorem assignableSS (w : World) : (eAssignable #[.agg #[.pointer (some ⟨15, 58, none⟩)], .iface 150 (.agg #[.pointer (some ⟨15, 58, none⟩)])]).run Tryd.prog w = .ok (.bool true) w := by kernel_rfl
theorem assignableUS (w : World) : (eAssignable #[.agg #[.pointer (some ⟨15, 113, none⟩)], .iface 150 (.agg #[.pointer (some ⟨15, 58, none⟩)])]).run Tryd.prog w = .ok (.bool false) w := by kernel_rfl
theorem assignableES (w : World) : (eAssignable #[.agg #[.pointer (some ⟨15, 264, none⟩)], .iface 150 (.agg #[.pointer (some ⟨15, 58, none⟩)])]).run Tryd.prog w = .ok (.bool false) w := by kernel_rfl
theorem valueOfS (e : Addr) (w : World) : (eValueOf #[.iface 58 (.pointer (some e))]).run Tryd.prog w = .ok (.agg #[.pointer (some ⟨15, 58, none⟩), .pointer (some ⟨w.heap.size, 0, none⟩), .int .u64 150]) (w.alloc (.cells #[.pointer (some e)] 58)) := by kernel_rfl
theorem elemOfPS (w : World) : (Rtype.elem? 62).run Tryd.prog w = .ok (some 58) w := by kernel_rfl
theorem mkS (p : Addr) (w : World) : (ReflectliteValue.mk 58 p ReflectliteValue.flagAddr).run Tryd.prog w = .ok (.agg #[.pointer (some ⟨15, 58, none⟩), .pointer (some p), .int .u64 406]) w := by kernel_rfl
theorem elemVPS (a p : Addr) (W : World) (ha : W.cell? a = some (.pointer (some p))) :
    (eElemV #[.agg #[.pointer (some ⟨15, 62, none⟩), .pointer (some a), .int .u64 150]]).run Tryd.prog W = .ok (.agg #[.pointer (some ⟨15, 58, none⟩), .pointer (some p), .int .u64 406]) W := by
  unfold eElemV
  rw [rlm]
  simp only [Sem.run_bind, partsPS, Result.andThen]
  simp [ReflectliteValue.elem, loadVar, isAgg, underlying, Tryd.underlying62, ha, Result.andThen, elemOfPS, mkS]
theorem partsSa (a : Addr) (w : World) : (ReflectliteValue.parts (.agg #[.pointer (some ⟨15, 58, none⟩), .pointer (some a), .int .u64 406])).run Tryd.prog w = .ok (some (58, a, 406)) w := by kernel_rfl
theorem partsS (a : Addr) (w : World) : (ReflectliteValue.parts (.agg #[.pointer (some ⟨15, 58, none⟩), .pointer (some a), .int .u64 150])).run Tryd.prog w = .ok (some (58, a, 150)) w := by kernel_rfl
theorem directS (w : World) : (Rtype.directlyAssignable 58 58).run Tryd.prog w = .ok true w := by kernel_rfl
theorem sizeS (w : World) : (sizeOf 58).run Tryd.prog w = .ok 1 w := by kernel_rfl
theorem setS (ta b e : Addr) (old : Value) (W : World) (hb : W.cell? b = some (.pointer (some e))) (ht : W.cell? ta = some old) (hf : W.frozen? ta = false) :
    (eSet #[.agg #[.pointer (some ⟨15, 58, none⟩), .pointer (some ta), .int .u64 406], .agg #[.pointer (some ⟨15, 58, none⟩), .pointer (some b), .int .u64 150]]).run Tryd.prog W
      = .ok (.tuple #[]) (W.setCell ta (.pointer (some e))) := by
  unfold eSet
  rw [rls]
  simp only [Sem.run_bind, partsSa, partsS, Result.andThen]
  simp [ReflectliteValue.flagAddr, loadVar, isAgg, underlying, Tryd.underlying58, hb, Result.andThen, directS, storeVar, Value.cells, storeCells, Addr.add]
  rw [run_store Tryd.prog W ta _ _ (by rfl)]
  simp [ht, hf]
theorem valueOfPU (t : Addr) (w : World) : (eValueOf #[.iface 116 (.pointer (some t))]).run Tryd.prog w = .ok (.agg #[.pointer (some ⟨15, 116, none⟩), .pointer (some ⟨w.heap.size, 0, none⟩), .int .u64 150]) (w.alloc (.cells #[.pointer (some t)] 116)) := by kernel_rfl
theorem typePU (a : Addr) (w : World) : (eType #[.agg #[.pointer (some ⟨15, 116, none⟩), .pointer (some a), .int .u64 150]]).run Tryd.prog w = .ok (.iface 150 (.agg #[.pointer (some ⟨15, 116, none⟩)])) w := by kernel_rfl
theorem kindPU (w : World) : (eKind #[.pointer (some ⟨15, 116, none⟩)]).run Tryd.prog w = .ok (.int .u8 22) w := by kernel_rfl
theorem kindU (w : World) : (eKind #[.pointer (some ⟨15, 113, none⟩)]).run Tryd.prog w = .ok (.int .u8 22) w := by kernel_rfl
theorem partsPU (a : Addr) (w : World) : (ReflectliteValue.parts (.agg #[.pointer (some ⟨15, 116, none⟩), .pointer (some a), .int .u64 150])).run Tryd.prog w = .ok (some (116, a, 150)) w := by kernel_rfl
theorem isNilPU (a p : Addr) (W : World) (ha : W.cell? a = some (.pointer (some p))) : (eIsNil #[.agg #[.pointer (some ⟨15, 116, none⟩), .pointer (some a), .int .u64 150]]).run Tryd.prog W = .ok (.bool false) W := by
  unfold eIsNil
  rw [rlm]
  simp only [Sem.run_bind, partsPU, Result.andThen]
  simp [ReflectliteValue.isNil, loadVar, isAgg, underlying, Tryd.underlying116, ha, Result.andThen]
theorem elemPU (w : World) : (eElem #[.agg #[.pointer (some ⟨15, 116, none⟩)]]).run Tryd.prog w = .ok (.iface 150 (.agg #[.pointer (some ⟨15, 113, none⟩)])) w := by kernel_rfl
theorem implementsU (w : World) : (eImplements #[.agg #[.pointer (some ⟨15, 113, none⟩)], .iface 150 (.agg #[.pointer (some ⟨15, 52, none⟩)])]).run Tryd.prog w = .ok (.bool true) w := by kernel_rfl
theorem assignableNU (w : World) : (eAssignable #[.agg #[.pointer (some ⟨15, 54, none⟩)], .iface 150 (.agg #[.pointer (some ⟨15, 113, none⟩)])]).run Tryd.prog w = .ok (.bool false) w := by kernel_rfl
theorem assignableSU (w : World) : (eAssignable #[.agg #[.pointer (some ⟨15, 58, none⟩)], .iface 150 (.agg #[.pointer (some ⟨15, 113, none⟩)])]).run Tryd.prog w = .ok (.bool false) w := by kernel_rfl
theorem assignableUU (w : World) : (eAssignable #[.agg #[.pointer (some ⟨15, 113, none⟩)], .iface 150 (.agg #[.pointer (some ⟨15, 113, none⟩)])]).run Tryd.prog w = .ok (.bool true) w := by kernel_rfl
theorem assignableEU (w : World) : (eAssignable #[.agg #[.pointer (some ⟨15, 264, none⟩)], .iface 150 (.agg #[.pointer (some ⟨15, 113, none⟩)])]).run Tryd.prog w = .ok (.bool false) w := by kernel_rfl
theorem valueOfU (e : Addr) (w : World) : (eValueOf #[.iface 113 (.pointer (some e))]).run Tryd.prog w = .ok (.agg #[.pointer (some ⟨15, 113, none⟩), .pointer (some ⟨w.heap.size, 0, none⟩), .int .u64 150]) (w.alloc (.cells #[.pointer (some e)] 113)) := by kernel_rfl
theorem elemOfPU (w : World) : (Rtype.elem? 116).run Tryd.prog w = .ok (some 113) w := by kernel_rfl
theorem mkU (p : Addr) (w : World) : (ReflectliteValue.mk 113 p ReflectliteValue.flagAddr).run Tryd.prog w = .ok (.agg #[.pointer (some ⟨15, 113, none⟩), .pointer (some p), .int .u64 406]) w := by kernel_rfl
theorem elemVPU (a p : Addr) (W : World) (ha : W.cell? a = some (.pointer (some p))) :
    (eElemV #[.agg #[.pointer (some ⟨15, 116, none⟩), .pointer (some a), .int .u64 150]]).run Tryd.prog W = .ok (.agg #[.pointer (some ⟨15, 113, none⟩), .pointer (some p), .int .u64 406]) W := by
  unfold eElemV
  rw [rlm]
  simp only [Sem.run_bind, partsPU, Result.andThen]
  simp [ReflectliteValue.elem, loadVar, isAgg, underlying, Tryd.underlying116, ha, Result.andThen, elemOfPU, mkU]
theorem partsUa (a : Addr) (w : World) : (ReflectliteValue.parts (.agg #[.pointer (some ⟨15, 113, none⟩), .pointer (some a), .int .u64 406])).run Tryd.prog w = .ok (some (113, a, 406)) w := by kernel_rfl
theorem partsU (a : Addr) (w : World) : (ReflectliteValue.parts (.agg #[.pointer (some ⟨15, 113, none⟩), .pointer (some a), .int .u64 150])).run Tryd.prog w = .ok (some (113, a, 150)) w := by kernel_rfl
theorem directU (w : World) : (Rtype.directlyAssignable 113 113).run Tryd.prog w = .ok true w := by kernel_rfl
theorem sizeU (w : World) : (sizeOf 113).run Tryd.prog w = .ok 1 w := by kernel_rfl
theorem setU (ta b e : Addr) (old : Value) (W : World) (hb : W.cell? b = some (.pointer (some e))) (ht : W.cell? ta = some old) (hf : W.frozen? ta = false) :
    (eSet #[.agg #[.pointer (some ⟨15, 113, none⟩), .pointer (some ta), .int .u64 406], .agg #[.pointer (some ⟨15, 113, none⟩), .pointer (some b), .int .u64 150]]).run Tryd.prog W
      = .ok (.tuple #[]) (W.setCell ta (.pointer (some e))) := by
  unfold eSet
  rw [rls]
  simp only [Sem.run_bind, partsUa, partsU, Result.andThen]
  simp [ReflectliteValue.flagAddr, loadVar, isAgg, underlying, Tryd.underlying113, hb, Result.andThen, directU, storeVar, Value.cells, storeCells, Addr.add]
  rw [run_store Tryd.prog W ta _ _ (by rfl)]
  simp [ht, hf]
theorem noAsN' (v : Value) (xT : TypeId) (w : World) : (Instr.typeAssert (.iface 54 v) xT 161 true).run Tryd.prog w = .ok (.tuple #[.nilIface, .bool false]) w := run_typeAssert_lacksB Tryd.underlying161 (by kernel_rfl) (by kernel_rfl) v xT w
theorem noUnwrapsN' (v : Value) (xT : TypeId) (w : World) : (Instr.typeAssert (.iface 54 v) xT 157 true).run Tryd.prog w = .ok (.tuple #[.nilIface, .bool false]) w := run_typeAssert_lacksB Tryd.underlying157 (by kernel_rfl) (by kernel_rfl) v xT w
theorem noAsS' (v : Value) (xT : TypeId) (w : World) : (Instr.typeAssert (.iface 58 v) xT 161 true).run Tryd.prog w = .ok (.tuple #[.nilIface, .bool false]) w := run_typeAssert_lacksB Tryd.underlying161 (by kernel_rfl) (by kernel_rfl) v xT w
theorem noUnwrapS' (v : Value) (xT : TypeId) (w : World) : (Instr.typeAssert (.iface 58 v) xT 155 true).run Tryd.prog w = .ok (.tuple #[.nilIface, .bool false]) w := run_typeAssert_lacksB Tryd.underlying155 (by kernel_rfl) (by kernel_rfl) v xT w
theorem noUnwrapsS' (v : Value) (xT : TypeId) (w : World) : (Instr.typeAssert (.iface 58 v) xT 157 true).run Tryd.prog w = .ok (.tuple #[.nilIface, .bool false]) w := run_typeAssert_lacksB Tryd.underlying157 (by kernel_rfl) (by kernel_rfl) v xT w
theorem noAsU' (v : Value) (xT : TypeId) (w : World) : (Instr.typeAssert (.iface 113 v) xT 161 true).run Tryd.prog w = .ok (.tuple #[.nilIface, .bool false]) w := run_typeAssert_lacksB Tryd.underlying161 (by kernel_rfl) (by kernel_rfl) v xT w
theorem noUnwrapU' (v : Value) (xT : TypeId) (w : World) : (Instr.typeAssert (.iface 113 v) xT 155 true).run Tryd.prog w = .ok (.tuple #[.nilIface, .bool false]) w := run_typeAssert_lacksB Tryd.underlying155 (by kernel_rfl) (by kernel_rfl) v xT w
theorem noUnwrapsU' (v : Value) (xT : TypeId) (w : World) : (Instr.typeAssert (.iface 113 v) xT 157 true).run Tryd.prog w = .ok (.tuple #[.nilIface, .bool false]) w := run_typeAssert_lacksB Tryd.underlying157 (by kernel_rfl) (by kernel_rfl) v xT w
theorem noAsE' (v : Value) (xT : TypeId) (w : World) : (Instr.typeAssert (.iface 264 v) xT 161 true).run Tryd.prog w = .ok (.tuple #[.nilIface, .bool false]) w := run_typeAssert_lacksB Tryd.underlying161 (by kernel_rfl) (by kernel_rfl) v xT w
theorem noUnwrapE' (v : Value) (xT : TypeId) (w : World) : (Instr.typeAssert (.iface 264 v) xT 155 true).run Tryd.prog w = .ok (.tuple #[.nilIface, .bool false]) w := run_typeAssert_lacksB Tryd.underlying155 (by kernel_rfl) (by kernel_rfl) v xT w
theorem noUnwrapsE' (v : Value) (xT : TypeId) (w : World) : (Instr.typeAssert (.iface 264 v) xT 157 true).run Tryd.prog w = .ok (.tuple #[.nilIface, .bool false]) w := run_typeAssert_lacksB Tryd.underlying157 (by kernel_rfl) (by kernel_rfl) v xT w

/-- The variable errors.errorType, as the model's start lays it. -/
def ErrTypeLaid (w : World) : Prop := ∃ T f, w.heap[10]? = some (.cells #[.iface 150 (.agg #[.pointer (some ⟨15, 52, none⟩)])] T f)
theorem ErrTypeLaid.lt {w : World} (h : ErrTypeLaid w) : 10 < w.heap.size := by
  obtain ⟨T, f, h⟩ := h
  rcases Nat.lt_or_ge 10 w.heap.size with h' | h'
  · exact h'
  · simp [Array.getElem?_eq_none h'] at h
theorem ErrTypeLaid.cell {w : World} (h : ErrTypeLaid w) : w.cell? ⟨10, 0, none⟩ = some (.iface 150 (.agg #[.pointer (some ⟨15, 52, none⟩)])) := by
  obtain ⟨T, f, h⟩ := h
  simp [World.cell?, h]

/-- The three blocks that errors.As lays for a target at t. -/
def asBase (TT : TypeId) (t : Addr) (w : World) : World :=
  ((w.alloc (.cells #[.pointer (some t)] TT)).alloc (.cells #[.pointer (some ⟨15, TT, none⟩), .pointer (some ⟨w.heap.size, 0, none⟩), .int .u64 150] 101)).alloc (.cells #[.pointer (some ⟨15, TT, none⟩), .pointer (some ⟨w.heap.size, 0, none⟩), .int .u64 150] 101)

end Go.Proofs.YtabikmkoajdhmaaDoor
