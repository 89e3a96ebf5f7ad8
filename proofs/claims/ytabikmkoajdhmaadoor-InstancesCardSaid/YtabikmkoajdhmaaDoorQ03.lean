/- errors.As at the program's three concrete targets, by contracts (the walks). -/
import Derived.Test.YtabikmkoajdhmaaDoorQ02
set_option linter.unusedVariables false
set_option linter.unusedSimpArgs false
namespace Go.Proofs.YtabikmkoajdhmaaDoor
open Go.RowKit Go.Extern.Stop Go.Stop Go.Extern
set_option maxHeartbeats 4000000 in
theorem as_missSN (e t : Addr) (w : World) (hg : ErrTypeLaid w) :
    Calls Tryd.prog 20 #[.iface 58 (.pointer (some e)), .iface 114 (.pointer (some t))] w fun ev w' => ev = .returned (.bool false) ∧ w' = asBase 114 t w := by
  unfold asBase
  have c1 := callValueOf'
  have c2 := callType'
  have c3 := callIsNil'
  have c4 := callKind'
  have c5 := callElem'
  have c6 := callImplements'
  have c7 := callTypeOf
  have c8 := callAssignable'
  have f6 := valueOfPN
  have f7 := typePN
  have mK := methodKind'
  have mE := methodElem'
  have mI := methodImplements'
  have mA := methodAssignableTo'
  have k27 := kindPN
  have k25 := kindN
  have e27 := elemPN
  have i25 := implementsN
  have hg0 := hg.cell
  have hlt := hg.lt
  have hg2 : ((w.alloc (.cells #[.pointer (some t)] 114)).alloc (.cells #[.pointer (some ⟨15, 114, none⟩), .pointer (some ⟨w.heap.size, 0, none⟩), .int .u64 150] 101)).cell? ⟨10, 0, none⟩ = some (.iface 150 (.agg #[.pointer (some ⟨15, 52, none⟩)])) := by
    rw [World.cell?_alloc_lt _ _ ⟨10, 0, none⟩ (by simp; omega), World.cell?_alloc_lt _ _ ⟨10, 0, none⟩ hlt]; exact hg0
  have n8 := isNilPN ⟨w.heap.size, 0, none⟩ t ((w.alloc (.cells #[.pointer (some t)] 114)).alloc (.cells #[.pointer (some ⟨15, 114, none⟩), .pointer (some ⟨w.heap.size, 0, none⟩), .int .u64 150] 101)) (by simp)
  clear hg
  have tO := typeOfS
  have a25 := assignableSN
  have x1 := noAsS'
  have x2 := noUnwrapS'
  have x3 := noUnwrapsS'
  go_enter Tryd.func20, Tryd.ntmps20
  go_wp2
  refine wp_loop_rounds 1 ?_
  rw [rounds_succ]
  go_wp2
  go_ret
  exact ⟨rfl, rfl⟩

set_option maxHeartbeats 4000000 in
theorem as_missUN (e t : Addr) (w : World) (hg : ErrTypeLaid w) :
    Calls Tryd.prog 20 #[.iface 113 (.pointer (some e)), .iface 114 (.pointer (some t))] w fun ev w' => ev = .returned (.bool false) ∧ w' = asBase 114 t w := by
  unfold asBase
  have c1 := callValueOf'
  have c2 := callType'
  have c3 := callIsNil'
  have c4 := callKind'
  have c5 := callElem'
  have c6 := callImplements'
  have c7 := callTypeOf
  have c8 := callAssignable'
  have f6 := valueOfPN
  have f7 := typePN
  have mK := methodKind'
  have mE := methodElem'
  have mI := methodImplements'
  have mA := methodAssignableTo'
  have k27 := kindPN
  have k25 := kindN
  have e27 := elemPN
  have i25 := implementsN
  have hg0 := hg.cell
  have hlt := hg.lt
  have hg2 : ((w.alloc (.cells #[.pointer (some t)] 114)).alloc (.cells #[.pointer (some ⟨15, 114, none⟩), .pointer (some ⟨w.heap.size, 0, none⟩), .int .u64 150] 101)).cell? ⟨10, 0, none⟩ = some (.iface 150 (.agg #[.pointer (some ⟨15, 52, none⟩)])) := by
    rw [World.cell?_alloc_lt _ _ ⟨10, 0, none⟩ (by simp; omega), World.cell?_alloc_lt _ _ ⟨10, 0, none⟩ hlt]; exact hg0
  have n8 := isNilPN ⟨w.heap.size, 0, none⟩ t ((w.alloc (.cells #[.pointer (some t)] 114)).alloc (.cells #[.pointer (some ⟨15, 114, none⟩), .pointer (some ⟨w.heap.size, 0, none⟩), .int .u64 150] 101)) (by simp)
  clear hg
  have tO := typeOfU
  have a25 := assignableUN
  have x1 := noAsU'
  have x2 := noUnwrapU'
  have x3 := noUnwrapsU'
  go_enter Tryd.func20, Tryd.ntmps20
  go_wp2
  refine wp_loop_rounds 1 ?_
  rw [rounds_succ]
  go_wp2
  go_ret
  exact ⟨rfl, rfl⟩

set_option maxHeartbeats 4000000 in
theorem as_missEN (e t : Addr) (w : World) (hg : ErrTypeLaid w) :
    Calls Tryd.prog 20 #[.iface 264 (.pointer (some e)), .iface 114 (.pointer (some t))] w fun ev w' => ev = .returned (.bool false) ∧ w' = asBase 114 t w := by
  unfold asBase
  have c1 := callValueOf'
  have c2 := callType'
  have c3 := callIsNil'
  have c4 := callKind'
  have c5 := callElem'
  have c6 := callImplements'
  have c7 := callTypeOf
  have c8 := callAssignable'
  have f6 := valueOfPN
  have f7 := typePN
  have mK := methodKind'
  have mE := methodElem'
  have mI := methodImplements'
  have mA := methodAssignableTo'
  have k27 := kindPN
  have k25 := kindN
  have e27 := elemPN
  have i25 := implementsN
  have hg0 := hg.cell
  have hlt := hg.lt
  have hg2 : ((w.alloc (.cells #[.pointer (some t)] 114)).alloc (.cells #[.pointer (some ⟨15, 114, none⟩), .pointer (some ⟨w.heap.size, 0, none⟩), .int .u64 150] 101)).cell? ⟨10, 0, none⟩ = some (.iface 150 (.agg #[.pointer (some ⟨15, 52, none⟩)])) := by
    rw [World.cell?_alloc_lt _ _ ⟨10, 0, none⟩ (by simp; omega), World.cell?_alloc_lt _ _ ⟨10, 0, none⟩ hlt]; exact hg0
  have n8 := isNilPN ⟨w.heap.size, 0, none⟩ t ((w.alloc (.cells #[.pointer (some t)] 114)).alloc (.cells #[.pointer (some ⟨15, 114, none⟩), .pointer (some ⟨w.heap.size, 0, none⟩), .int .u64 150] 101)) (by simp)
  clear hg
  have tO := typeOfE
  have a25 := assignableEN
  have x1 := noAsE'
  have x2 := noUnwrapE'
  have x3 := noUnwrapsE'
  go_enter Tryd.func20, Tryd.ntmps20
  go_wp2
  refine wp_loop_rounds 1 ?_
  rw [rounds_succ]
  go_wp2
  go_ret
  exact ⟨rfl, rfl⟩

set_option maxHeartbeats 4000000 in
theorem as_missUS (e t : Addr) (w : World) (hg : ErrTypeLaid w) :
    Calls Tryd.prog 20 #[.iface 113 (.pointer (some e)), .iface 62 (.pointer (some t))] w fun ev w' => ev = .returned (.bool false) ∧ w' = asBase 62 t w := by
  unfold asBase
  have c1 := callValueOf'
  have c2 := callType'
  have c3 := callIsNil'
  have c4 := callKind'
  have c5 := callElem'
  have c6 := callImplements'
  have c7 := callTypeOf
  have c8 := callAssignable'
  have f6 := valueOfPS
  have f7 := typePS
  have mK := methodKind'
  have mE := methodElem'
  have mI := methodImplements'
  have mA := methodAssignableTo'
  have k27 := kindPS
  have k25 := kindS
  have e27 := elemPS
  have i25 := implementsS
  have hg0 := hg.cell
  have hlt := hg.lt
  have hg2 : ((w.alloc (.cells #[.pointer (some t)] 62)).alloc (.cells #[.pointer (some ⟨15, 62, none⟩), .pointer (some ⟨w.heap.size, 0, none⟩), .int .u64 150] 101)).cell? ⟨10, 0, none⟩ = some (.iface 150 (.agg #[.pointer (some ⟨15, 52, none⟩)])) := by
    rw [World.cell?_alloc_lt _ _ ⟨10, 0, none⟩ (by simp; omega), World.cell?_alloc_lt _ _ ⟨10, 0, none⟩ hlt]; exact hg0
  have n8 := isNilPS ⟨w.heap.size, 0, none⟩ t ((w.alloc (.cells #[.pointer (some t)] 62)).alloc (.cells #[.pointer (some ⟨15, 62, none⟩), .pointer (some ⟨w.heap.size, 0, none⟩), .int .u64 150] 101)) (by simp)
  clear hg
  have tO := typeOfU
  have a25 := assignableUS
  have x1 := noAsU'
  have x2 := noUnwrapU'
  have x3 := noUnwrapsU'
  go_enter Tryd.func20, Tryd.ntmps20
  go_wp2
  refine wp_loop_rounds 1 ?_
  rw [rounds_succ]
  go_wp2
  go_ret
  exact ⟨rfl, rfl⟩

set_option maxHeartbeats 4000000 in
theorem as_missES (e t : Addr) (w : World) (hg : ErrTypeLaid w) :
    Calls Tryd.prog 20 #[.iface 264 (.pointer (some e)), .iface 62 (.pointer (some t))] w fun ev w' => ev = .returned (.bool false) ∧ w' = asBase 62 t w := by
  unfold asBase
  have c1 := callValueOf'
  have c2 := callType'
  have c3 := callIsNil'
  have c4 := callKind'
  have c5 := callElem'
  have c6 := callImplements'
  have c7 := callTypeOf
  have c8 := callAssignable'
  have f6 := valueOfPS
  have f7 := typePS
  have mK := methodKind'
  have mE := methodElem'
  have mI := methodImplements'
  have mA := methodAssignableTo'
  have k27 := kindPS
  have k25 := kindS
  have e27 := elemPS
  have i25 := implementsS
  have hg0 := hg.cell
  have hlt := hg.lt
  have hg2 : ((w.alloc (.cells #[.pointer (some t)] 62)).alloc (.cells #[.pointer (some ⟨15, 62, none⟩), .pointer (some ⟨w.heap.size, 0, none⟩), .int .u64 150] 101)).cell? ⟨10, 0, none⟩ = some (.iface 150 (.agg #[.pointer (some ⟨15, 52, none⟩)])) := by
    rw [World.cell?_alloc_lt _ _ ⟨10, 0, none⟩ (by simp; omega), World.cell?_alloc_lt _ _ ⟨10, 0, none⟩ hlt]; exact hg0
  have n8 := isNilPS ⟨w.heap.size, 0, none⟩ t ((w.alloc (.cells #[.pointer (some t)] 62)).alloc (.cells #[.pointer (some ⟨15, 62, none⟩), .pointer (some ⟨w.heap.size, 0, none⟩), .int .u64 150] 101)) (by simp)
  clear hg
  have tO := typeOfE
  have a25 := assignableES
  have x1 := noAsE'
  have x2 := noUnwrapE'
  have x3 := noUnwrapsE'
  go_enter Tryd.func20, Tryd.ntmps20
  go_wp2
  refine wp_loop_rounds 1 ?_
  rw [rounds_succ]
  go_wp2
  go_ret
  exact ⟨rfl, rfl⟩

set_option maxHeartbeats 4000000 in
theorem as_missEU (e t : Addr) (w : World) (hg : ErrTypeLaid w) :
    Calls Tryd.prog 20 #[.iface 264 (.pointer (some e)), .iface 116 (.pointer (some t))] w fun ev w' => ev = .returned (.bool false) ∧ w' = asBase 116 t w := by
  unfold asBase
  have c1 := callValueOf'
  have c2 := callType'
  have c3 := callIsNil'
  have c4 := callKind'
  have c5 := callElem'
  have c6 := callImplements'
  have c7 := callTypeOf
  have c8 := callAssignable'
  have f6 := valueOfPU
  have f7 := typePU
  have mK := methodKind'
  have mE := methodElem'
  have mI := methodImplements'
  have mA := methodAssignableTo'
  have k27 := kindPU
  have k25 := kindU
  have e27 := elemPU
  have i25 := implementsU
  have hg0 := hg.cell
  have hlt := hg.lt
  have hg2 : ((w.alloc (.cells #[.pointer (some t)] 116)).alloc (.cells #[.pointer (some ⟨15, 116, none⟩), .pointer (some ⟨w.heap.size, 0, none⟩), .int .u64 150] 101)).cell? ⟨10, 0, none⟩ = some (.iface 150 (.agg #[.pointer (some ⟨15, 52, none⟩)])) := by
    rw [World.cell?_alloc_lt _ _ ⟨10, 0, none⟩ (by simp; omega), World.cell?_alloc_lt _ _ ⟨10, 0, none⟩ hlt]; exact hg0
  have n8 := isNilPU ⟨w.heap.size, 0, none⟩ t ((w.alloc (.cells #[.pointer (some t)] 116)).alloc (.cells #[.pointer (some ⟨15, 116, none⟩), .pointer (some ⟨w.heap.size, 0, none⟩), .int .u64 150] 101)) (by simp)
  clear hg
  have tO := typeOfE
  have a25 := assignableEU
  have x1 := noAsE'
  have x2 := noUnwrapE'
  have x3 := noUnwrapsE'
  go_enter Tryd.func20, Tryd.ntmps20
  go_wp2
  refine wp_loop_rounds 1 ?_
  rw [rounds_succ]
  go_wp2
  go_ret
  exact ⟨rfl, rfl⟩

set_option maxHeartbeats 4000000 in
theorem as_hitN (e t : Addr) (old : Value) (w : World) (hg : ErrTypeLaid w) (ht0 : w.cell? t = some old) (hf0 : w.frozen? t = false) :
    Calls Tryd.prog 20 #[.iface 54 (.pointer (some e)), .iface 114 (.pointer (some t))] w fun ev w' => ev = .returned (.bool true) ∧ w' = ((asBase 114 t w).alloc (.cells #[.pointer (some e)] 54)).setCell t (.pointer (some e)) := by
  unfold asBase
  have c1 := callValueOf'
  have c2 := callType'
  have c3 := callIsNil'
  have c4 := callKind'
  have c5 := callElem'
  have c6 := callImplements'
  have c7 := callTypeOf
  have c8 := callAssignable'
  have f6 := valueOfPN
  have f7 := typePN
  have mK := methodKind'
  have mE := methodElem'
  have mI := methodImplements'
  have mA := methodAssignableTo'
  have k27 := kindPN
  have k25 := kindN
  have e27 := elemPN
  have i25 := implementsN
  have hg0 := hg.cell
  have hlt := hg.lt
  have hg2 : ((w.alloc (.cells #[.pointer (some t)] 114)).alloc (.cells #[.pointer (some ⟨15, 114, none⟩), .pointer (some ⟨w.heap.size, 0, none⟩), .int .u64 150] 101)).cell? ⟨10, 0, none⟩ = some (.iface 150 (.agg #[.pointer (some ⟨15, 52, none⟩)])) := by
    rw [World.cell?_alloc_lt _ _ ⟨10, 0, none⟩ (by simp; omega), World.cell?_alloc_lt _ _ ⟨10, 0, none⟩ hlt]; exact hg0
  have n8 := isNilPN ⟨w.heap.size, 0, none⟩ t ((w.alloc (.cells #[.pointer (some t)] 114)).alloc (.cells #[.pointer (some ⟨15, 114, none⟩), .pointer (some ⟨w.heap.size, 0, none⟩), .int .u64 150] 101)) (by simp)
  have tO := typeOfN
  have a25 := assignableNN
  clear hg
  have c9 := callElemV'
  have c10 := callSet'
  have v25 := valueOfN
  have htl : t.block < w.heap.size := by
    rcases Nat.lt_or_ge t.block w.heap.size with h | h
    · exact h
    · simp [World.cell?, Array.getElem?_eq_none h] at ht0
  have el := elemVPN ⟨w.heap.size, 0, none⟩ t (((w.alloc (.cells #[.pointer (some t)] 114)).alloc (.cells #[.pointer (some ⟨15, 114, none⟩), .pointer (some ⟨w.heap.size, 0, none⟩), .int .u64 150] 101)).alloc (.cells #[.pointer (some ⟨15, 114, none⟩), .pointer (some ⟨w.heap.size, 0, none⟩), .int .u64 150] 101)) (by rw [World.cell?_alloc_lt _ _ ⟨w.heap.size, 0, none⟩ (by simp; omega)]; simp)
  have st := setN t ⟨w.heap.size + 1 + 1 + 1, 0, none⟩ e old ((((w.alloc (.cells #[.pointer (some t)] 114)).alloc (.cells #[.pointer (some ⟨15, 114, none⟩), .pointer (some ⟨w.heap.size, 0, none⟩), .int .u64 150] 101)).alloc (.cells #[.pointer (some ⟨15, 114, none⟩), .pointer (some ⟨w.heap.size, 0, none⟩), .int .u64 150] 101)).alloc (.cells #[.pointer (some e)] 54))
    (by rw [World.cell?_alloc_at _ _ _ _ (by simp)]; rfl)
    (by rw [World.cell?_alloc_lt _ _ t (by simp; omega), World.cell?_alloc_lt _ _ t (by simp; omega), World.cell?_alloc_lt _ _ t (by simp; omega), World.cell?_alloc_lt _ _ t htl]; exact ht0)
    (by rw [World.frozen?_alloc_old _ _ t (by simp; omega), World.frozen?_alloc_old _ _ t (by simp; omega), World.frozen?_alloc_old _ _ t (by simp; omega), World.frozen?_alloc_old _ _ t (Nat.ne_of_lt htl)]; exact hf0)
  go_enter Tryd.func20, Tryd.ntmps20
  go_wp2
  refine wp_loop_rounds 1 ?_
  rw [rounds_succ]
  go_wp2
  go_ret
  exact ⟨rfl, rfl⟩

set_option maxHeartbeats 4000000 in
theorem as_hitS (e t : Addr) (old : Value) (w : World) (hg : ErrTypeLaid w) (ht0 : w.cell? t = some old) (hf0 : w.frozen? t = false) :
    Calls Tryd.prog 20 #[.iface 58 (.pointer (some e)), .iface 62 (.pointer (some t))] w fun ev w' => ev = .returned (.bool true) ∧ w' = ((asBase 62 t w).alloc (.cells #[.pointer (some e)] 58)).setCell t (.pointer (some e)) := by
  unfold asBase
  have c1 := callValueOf'
  have c2 := callType'
  have c3 := callIsNil'
  have c4 := callKind'
  have c5 := callElem'
  have c6 := callImplements'
  have c7 := callTypeOf
  have c8 := callAssignable'
  have f6 := valueOfPS
  have f7 := typePS
  have mK := methodKind'
  have mE := methodElem'
  have mI := methodImplements'
  have mA := methodAssignableTo'
  have k27 := kindPS
  have k25 := kindS
  have e27 := elemPS
  have i25 := implementsS
  have hg0 := hg.cell
  have hlt := hg.lt
  have hg2 : ((w.alloc (.cells #[.pointer (some t)] 62)).alloc (.cells #[.pointer (some ⟨15, 62, none⟩), .pointer (some ⟨w.heap.size, 0, none⟩), .int .u64 150] 101)).cell? ⟨10, 0, none⟩ = some (.iface 150 (.agg #[.pointer (some ⟨15, 52, none⟩)])) := by
    rw [World.cell?_alloc_lt _ _ ⟨10, 0, none⟩ (by simp; omega), World.cell?_alloc_lt _ _ ⟨10, 0, none⟩ hlt]; exact hg0
  have n8 := isNilPS ⟨w.heap.size, 0, none⟩ t ((w.alloc (.cells #[.pointer (some t)] 62)).alloc (.cells #[.pointer (some ⟨15, 62, none⟩), .pointer (some ⟨w.heap.size, 0, none⟩), .int .u64 150] 101)) (by simp)
  have tO := typeOfS
  have a25 := assignableSS
  clear hg
  have c9 := callElemV'
  have c10 := callSet'
  have v25 := valueOfS
  have htl : t.block < w.heap.size := by
    rcases Nat.lt_or_ge t.block w.heap.size with h | h
    · exact h
    · simp [World.cell?, Array.getElem?_eq_none h] at ht0
  have el := elemVPS ⟨w.heap.size, 0, none⟩ t (((w.alloc (.cells #[.pointer (some t)] 62)).alloc (.cells #[.pointer (some ⟨15, 62, none⟩), .pointer (some ⟨w.heap.size, 0, none⟩), .int .u64 150] 101)).alloc (.cells #[.pointer (some ⟨15, 62, none⟩), .pointer (some ⟨w.heap.size, 0, none⟩), .int .u64 150] 101)) (by rw [World.cell?_alloc_lt _ _ ⟨w.heap.size, 0, none⟩ (by simp; omega)]; simp)
  have st := setS t ⟨w.heap.size + 1 + 1 + 1, 0, none⟩ e old ((((w.alloc (.cells #[.pointer (some t)] 62)).alloc (.cells #[.pointer (some ⟨15, 62, none⟩), .pointer (some ⟨w.heap.size, 0, none⟩), .int .u64 150] 101)).alloc (.cells #[.pointer (some ⟨15, 62, none⟩), .pointer (some ⟨w.heap.size, 0, none⟩), .int .u64 150] 101)).alloc (.cells #[.pointer (some e)] 58))
    (by rw [World.cell?_alloc_at _ _ _ _ (by simp)]; rfl)
    (by rw [World.cell?_alloc_lt _ _ t (by simp; omega), World.cell?_alloc_lt _ _ t (by simp; omega), World.cell?_alloc_lt _ _ t (by simp; omega), World.cell?_alloc_lt _ _ t htl]; exact ht0)
    (by rw [World.frozen?_alloc_old _ _ t (by simp; omega), World.frozen?_alloc_old _ _ t (by simp; omega), World.frozen?_alloc_old _ _ t (by simp; omega), World.frozen?_alloc_old _ _ t (Nat.ne_of_lt htl)]; exact hf0)
  go_enter Tryd.func20, Tryd.ntmps20
  go_wp2
  refine wp_loop_rounds 1 ?_
  rw [rounds_succ]
  go_wp2
  go_ret
  exact ⟨rfl, rfl⟩

set_option maxHeartbeats 4000000 in
theorem as_hitU (e t : Addr) (old : Value) (w : World) (hg : ErrTypeLaid w) (ht0 : w.cell? t = some old) (hf0 : w.frozen? t = false) :
    Calls Tryd.prog 20 #[.iface 113 (.pointer (some e)), .iface 116 (.pointer (some t))] w fun ev w' => ev = .returned (.bool true) ∧ w' = ((asBase 116 t w).alloc (.cells #[.pointer (some e)] 113)).setCell t (.pointer (some e)) := by
  unfold asBase
  have c1 := callValueOf'
  have c2 := callType'
  have c3 := callIsNil'
  have c4 := callKind'
  have c5 := callElem'
  have c6 := callImplements'
  have c7 := callTypeOf
  have c8 := callAssignable'
  have f6 := valueOfPU
  have f7 := typePU
  have mK := methodKind'
  have mE := methodElem'
  have mI := methodImplements'
  have mA := methodAssignableTo'
  have k27 := kindPU
  have k25 := kindU
  have e27 := elemPU
  have i25 := implementsU
  have hg0 := hg.cell
  have hlt := hg.lt
  have hg2 : ((w.alloc (.cells #[.pointer (some t)] 116)).alloc (.cells #[.pointer (some ⟨15, 116, none⟩), .pointer (some ⟨w.heap.size, 0, none⟩), .int .u64 150] 101)).cell? ⟨10, 0, none⟩ = some (.iface 150 (.agg #[.pointer (some ⟨15, 52, none⟩)])) := by
    rw [World.cell?_alloc_lt _ _ ⟨10, 0, none⟩ (by simp; omega), World.cell?_alloc_lt _ _ ⟨10, 0, none⟩ hlt]; exact hg0
  have n8 := isNilPU ⟨w.heap.size, 0, none⟩ t ((w.alloc (.cells #[.pointer (some t)] 116)).alloc (.cells #[.pointer (some ⟨15, 116, none⟩), .pointer (some ⟨w.heap.size, 0, none⟩), .int .u64 150] 101)) (by simp)
  have tO := typeOfU
  have a25 := assignableUU
  clear hg
  have c9 := callElemV'
  have c10 := callSet'
  have v25 := valueOfU
  have htl : t.block < w.heap.size := by
    rcases Nat.lt_or_ge t.block w.heap.size with h | h
    · exact h
    · simp [World.cell?, Array.getElem?_eq_none h] at ht0
  have el := elemVPU ⟨w.heap.size, 0, none⟩ t (((w.alloc (.cells #[.pointer (some t)] 116)).alloc (.cells #[.pointer (some ⟨15, 116, none⟩), .pointer (some ⟨w.heap.size, 0, none⟩), .int .u64 150] 101)).alloc (.cells #[.pointer (some ⟨15, 116, none⟩), .pointer (some ⟨w.heap.size, 0, none⟩), .int .u64 150] 101)) (by rw [World.cell?_alloc_lt _ _ ⟨w.heap.size, 0, none⟩ (by simp; omega)]; simp)
  have st := setU t ⟨w.heap.size + 1 + 1 + 1, 0, none⟩ e old ((((w.alloc (.cells #[.pointer (some t)] 116)).alloc (.cells #[.pointer (some ⟨15, 116, none⟩), .pointer (some ⟨w.heap.size, 0, none⟩), .int .u64 150] 101)).alloc (.cells #[.pointer (some ⟨15, 116, none⟩), .pointer (some ⟨w.heap.size, 0, none⟩), .int .u64 150] 101)).alloc (.cells #[.pointer (some e)] 113))
    (by rw [World.cell?_alloc_at _ _ _ _ (by simp)]; rfl)
    (by rw [World.cell?_alloc_lt _ _ t (by simp; omega), World.cell?_alloc_lt _ _ t (by simp; omega), World.cell?_alloc_lt _ _ t (by simp; omega), World.cell?_alloc_lt _ _ t htl]; exact ht0)
    (by rw [World.frozen?_alloc_old _ _ t (by simp; omega), World.frozen?_alloc_old _ _ t (by simp; omega), World.frozen?_alloc_old _ _ t (by simp; omega), World.frozen?_alloc_old _ _ t (Nat.ne_of_lt htl)]; exact hf0)
  go_enter Tryd.func20, Tryd.ntmps20
  go_wp2
  refine wp_loop_rounds 1 ?_
  rw [rounds_succ]
  go_wp2
  go_ret
  exact ⟨rfl, rfl⟩

set_option maxHeartbeats 4000000 in
theorem as_hitNS (e0 : Nat) (e t : Addr) (old : Value) (w : World) (hg : ErrTypeLaid w) (ht0 : w.cell? t = some old) (hf0 : w.frozen? t = false) (hw : w.cell? ⟨e0, 1, none⟩ = some (.iface 58 (.pointer (some e)))) :
    Calls Tryd.prog 20 #[.iface 54 (.pointer (some ⟨e0, 0, none⟩)), .iface 62 (.pointer (some t))] w fun ev w' => ev = .returned (.bool true) ∧ w' = ((asBase 62 t w).alloc (.cells #[.pointer (some e)] 58)).setCell t (.pointer (some e)) := by
  unfold asBase
  have c1 := callValueOf'
  have c2 := callType'
  have c3 := callIsNil'
  have c4 := callKind'
  have c5 := callElem'
  have c6 := callImplements'
  have c7 := callTypeOf
  have c8 := callAssignable'
  have f6 := valueOfPS
  have f7 := typePS
  have mK := methodKind'
  have mE := methodElem'
  have mI := methodImplements'
  have mA := methodAssignableTo'
  have k27 := kindPS
  have k25 := kindS
  have e27 := elemPS
  have i25 := implementsS
  have hg0 := hg.cell
  have hlt := hg.lt
  have hg2 : ((w.alloc (.cells #[.pointer (some t)] 62)).alloc (.cells #[.pointer (some ⟨15, 62, none⟩), .pointer (some ⟨w.heap.size, 0, none⟩), .int .u64 150] 101)).cell? ⟨10, 0, none⟩ = some (.iface 150 (.agg #[.pointer (some ⟨15, 52, none⟩)])) := by
    rw [World.cell?_alloc_lt _ _ ⟨10, 0, none⟩ (by simp; omega), World.cell?_alloc_lt _ _ ⟨10, 0, none⟩ hlt]; exact hg0
  have n8 := isNilPS ⟨w.heap.size, 0, none⟩ t ((w.alloc (.cells #[.pointer (some t)] 62)).alloc (.cells #[.pointer (some ⟨15, 62, none⟩), .pointer (some ⟨w.heap.size, 0, none⟩), .int .u64 150] 101)) (by simp)
  have tO := typeOfS
  have a25 := assignableSS
  have tO2 := typeOfN
  have a252 := assignableNS
  have x1 := noAsN'
  have uW := hasUnwrapN
  have mU := methodUnwrap
  have hlt0 : e0 < w.heap.size := by
    rcases Nat.lt_or_ge e0 w.heap.size with h | h
    · exact h
    · simp [World.cell?, Array.getElem?_eq_none h] at hw
  have hw3 : (((w.alloc (.cells #[.pointer (some t)] 62)).alloc (.cells #[.pointer (some ⟨15, 62, none⟩), .pointer (some ⟨w.heap.size, 0, none⟩), .int .u64 150] 101)).alloc (.cells #[.pointer (some ⟨15, 62, none⟩), .pointer (some ⟨w.heap.size, 0, none⟩), .int .u64 150] 101)).cell? ⟨e0, 1, none⟩ = some (.iface 58 (.pointer (some e))) := by
    rw [World.cell?_alloc_lt _ _ ⟨e0, 1, none⟩ (by simp; omega), World.cell?_alloc_lt _ _ ⟨e0, 1, none⟩ (by simp; omega), World.cell?_alloc_lt _ _ ⟨e0, 1, none⟩ hlt0]; exact hw
  clear hg
  have c9 := callElemV'
  have c10 := callSet'
  have v25 := valueOfS
  have htl : t.block < w.heap.size := by
    rcases Nat.lt_or_ge t.block w.heap.size with h | h
    · exact h
    · simp [World.cell?, Array.getElem?_eq_none h] at ht0
  have el := elemVPS ⟨w.heap.size, 0, none⟩ t (((w.alloc (.cells #[.pointer (some t)] 62)).alloc (.cells #[.pointer (some ⟨15, 62, none⟩), .pointer (some ⟨w.heap.size, 0, none⟩), .int .u64 150] 101)).alloc (.cells #[.pointer (some ⟨15, 62, none⟩), .pointer (some ⟨w.heap.size, 0, none⟩), .int .u64 150] 101)) (by rw [World.cell?_alloc_lt _ _ ⟨w.heap.size, 0, none⟩ (by simp; omega)]; simp)
  have st := setS t ⟨w.heap.size + 1 + 1 + 1, 0, none⟩ e old ((((w.alloc (.cells #[.pointer (some t)] 62)).alloc (.cells #[.pointer (some ⟨15, 62, none⟩), .pointer (some ⟨w.heap.size, 0, none⟩), .int .u64 150] 101)).alloc (.cells #[.pointer (some ⟨15, 62, none⟩), .pointer (some ⟨w.heap.size, 0, none⟩), .int .u64 150] 101)).alloc (.cells #[.pointer (some e)] 58))
    (by rw [World.cell?_alloc_at _ _ _ _ (by simp)]; rfl)
    (by rw [World.cell?_alloc_lt _ _ t (by simp; omega), World.cell?_alloc_lt _ _ t (by simp; omega), World.cell?_alloc_lt _ _ t (by simp; omega), World.cell?_alloc_lt _ _ t htl]; exact ht0)
    (by rw [World.frozen?_alloc_old _ _ t (by simp; omega), World.frozen?_alloc_old _ _ t (by simp; omega), World.frozen?_alloc_old _ _ t (by simp; omega), World.frozen?_alloc_old _ _ t (Nat.ne_of_lt htl)]; exact hf0)
  go_enter Tryd.func20, Tryd.ntmps20
  go_wp2
  refine wp_loop_rounds 2 ?_
  rw [rounds_succ]
  go_wp2
  rw [rounds_succ]
  go_wp2
  go_ret
  exact ⟨rfl, rfl⟩

end Go.Proofs.YtabikmkoajdhmaaDoor
