/- What the condition on the listed package-level variables gives the walks: the eight sentinel errors (they lie last on every list), and errors.errorType. -/
import Derived.Test.YtabikmkoajdhmaaDoorRows
import Derived.Test.YtabikmkoajdhmaaDoorQ05
import Derived.ChangeSame
import Derived.ChangeVars
import Derived.JoinedOf
import Derived.RowKit
import Derived.RowKitTokens
import Derived.LaidLaws
import Derived.LaidHandle
import Derived.Stop.Joined
set_option linter.unusedVariables false
set_option linter.unusedSimpArgs false
namespace Go.Proofs.YtabikmkoajdhmaaDoor
open Go.ChangeShapes Go.WideShapes Go.RowKit

theorem lOwn : ownKnob Tryd.prog.godebug = none := by kernel_rfl
theorem lEt : Tryd.prog.globalNamed "errors.errorType" = some 10 := by kernel_rfl
theorem lRt : (Tryd.prog.cutTypes.find? (·.1 == "internal/reflectlite.rtype")).map (·.2) = some 150 := by kernel_rfl
theorem lSize : Tryd.prog.types.size = 295 := by kernel_rfl
theorem lOneRow : ((List.range 295).filter fun t => Tryd.prog.rowNamed t [101, 114, 114, 111, 114]) = [52] := by kernel_rfl
theorem lCellsE : Tryd.prog.cellsOf 283 = 1 := by kernel_rfl
theorem lCellsS : Tryd.prog.cellsOf 9 = 1 := by kernel_rfl
theorem lStar : "*" ++ "errors.errorString" = "*errors.errorString" := by decide
theorem lRow (u : TypeId) (h : Tryd.prog.typeName? 3 u = some "*errors.errorString") : u = 264 :=
  typeName_ptr_named (nm := "errors.errorString") (by rw [lStar]; kernel_rfl) (by kernel_rfl) (by decide) u (by rw [lStar]; exact h)

/-- The variable errors.errorType. -/
theorem et_of_laid {W : World} {hs : List (String × DataW Unit)} (h : handlesMet Tryd.prog hs W) (hm : ("errors.errorType", Rows.laid_errors_errorType) ∈ hs) : ErrTypeLaid W := by
  have h1 := h _ hm
  simp only [Rows.laid_errors_errorType] at h1
  obtain ⟨name, u, ty, e1, e2, e3, e4, e5⟩ := h1
  have en : name = [101, 114, 114, 111, 114] := (Option.some.inj e1).symm
  subst en
  obtain rfl := Option.some.inj (lRt.symm.trans e2)
  have hm : ty ∈ (List.range 295).filter fun t => Tryd.prog.rowNamed t [101, 114, 114, 111, 114] := List.mem_filter.2 ⟨List.mem_range.2 (by rw [← lSize]; exact e3), e4⟩
  rw [lOneRow] at hm
  obtain rfl := List.mem_singleton.1 hm
  have hh : typeHandle Tryd.prog 52 = .pointer (some ⟨15, 52, none⟩) := by kernel_rfl
  rw [hh] at e5
  simp only [World.var?, lEt, Option.bind_some] at e5
  split at e5
  · rename_i cs T f hc
    injection e5 with e5
    subst e5
    exact ⟨T, f, hc⟩
  · cases e5

set_option maxRecDepth 100000 in
/-- One sentinel of the list. -/
theorem sent_step {W : World} {n : String} {text : List UInt8} {r : List (String × DataW Unit)} {ps PS : List MemPlace} {g : Nat}
    (h : DataW.LaidVars Tryd.prog W ((n, .iface "*errors.errorString" (.ptr (.agg [.lit (.string text)]))) :: r) ps)
    (hg : Tryd.prog.globalNamed n = some g) (ht : (Tryd.prog.globals[g]?).map (·.type) = some 52)
    (hsub : ∀ x, x ∈ ps → x ∈ PS) (hrows : ∀ b off, MemPlace.cell b off ∈ PS → (∃ c t, W.heap[b]? = some (.cells c t (0, 0))) ∧ ∀ u v, W.cell? ⟨b, off, none⟩ = some (.iface u v) → Value.okWide Tryd.prog W .any 0 u v) :
    ∃ a c T q, W.cell? ⟨g, 0, none⟩ = some (.iface 264 (.pointer (some a))) ∧ W.heap[a.block]? = some (.cells c T (0, 0)) ∧ DataW.LaidVars Tryd.prog W r q ∧ ps = MemPlace.row ⟨g, 0, none⟩ 1 ++ MemPlace.row a 1 ++ q := by
  obtain ⟨g', t, cs, f, p, q, hg', ht', hv, hd, hr, e⟩ := h
  obtain rfl := Option.some.inj (hg.symm.trans hg')
  obtain rfl := Option.some.inj (ht.symm.trans ht')
  obtain ⟨l⟩ := cs
  have hin : ∀ x, x ∈ MemPlace.row ⟨g, 0, none⟩ l.length ++ p ++ q → x ∈ PS := fun x hx => hsub x (by rw [e]; exact hx)
  have ok : ∀ u v, l = [.iface u v] → Value.okWide Tryd.prog W .any 0 u v := fun u v e' => by
    subst e'
    exact (hrows g 0 (hin _ (by simp [MemPlace.row]))).2 u v (by simpa using World.var?_cell hg' hv 0)
  obtain ⟨a, s, rfl, hc, hs, hz, rfl⟩ := errorString_of_trod Tryd.underlying52 lRow Tryd.underlying264 Tryd.underlying283 rfl rfl Tryd.underlying9 lCellsE lCellsS hd ok
  obtain ⟨c, T, hb⟩ := (hrows a.block a.off (hin _ (by simp [MemPlace.row]))).1
  exact ⟨a, c, T, q, by simpa using World.var?_cell hg' hv 0, hb, hr, e⟩

def SENT : List (String × DataW Unit) := [("typer/api.ErrLong", Rows.laid_typer_api_ErrLong), ("typer/api.ErrDeep", Rows.laid_typer_api_ErrDeep), ("typer/api.ErrArg", Rows.laid_typer_api_ErrArg), ("typer/api.ErrType", Rows.laid_typer_api_ErrType), ("typer/api.ErrBig", Rows.laid_typer_api_ErrBig), ("typer/api.ErrFuel", Rows.laid_typer_api_ErrFuel), ("typer/api.ErrStopped", Rows.laid_typer_api_ErrStopped), ("typer/api.ErrNot", Rows.laid_typer_api_ErrNot)]

def nth8 (a0 a1 a2 a3 a4 a5 a6 a7 : Addr) : Nat → Addr
  | 0 => a0 | 1 => a1 | 2 => a2 | 3 => a3 | 4 => a4 | 5 => a5 | 6 => a6 | _ => a7

set_option maxRecDepth 100000 in
set_option maxHeartbeats 1000000 in
theorem sents_of_vars {W : World} {ps PS : List MemPlace} (h : DataW.LaidVars Tryd.prog W SENT ps) (hnd : ps.Nodup) (hsub : ∀ x, x ∈ ps → x ∈ PS)
    (hrows : ∀ b off, MemPlace.cell b off ∈ PS → (∃ c t, W.heap[b]? = some (.cells c t (0, 0))) ∧ ∀ u v, W.cell? ⟨b, off, none⟩ = some (.iface u v) → Value.okWide Tryd.prog W .any 0 u v) (het : ErrTypeLaid W) : ∃ p, Sents p W := by
  obtain ⟨a0, c0, T0, q0, g0, b0, h0, rfl⟩ := sent_step (g := 0) h (by kernel_rfl) (by kernel_rfl) hsub hrows
  obtain ⟨a1, c1, T1, q1, g1, b1, h1, rfl⟩ := sent_step (g := 1) h0 (by kernel_rfl) (by kernel_rfl) (fun x hx => hsub x (by simp [hx])) hrows
  obtain ⟨a2, c2, T2, q2, g2, b2, h2, rfl⟩ := sent_step (g := 2) h1 (by kernel_rfl) (by kernel_rfl) (fun x hx => hsub x (by simp [hx])) hrows
  obtain ⟨a3, c3, T3, q3, g3, b3, h3, rfl⟩ := sent_step (g := 3) h2 (by kernel_rfl) (by kernel_rfl) (fun x hx => hsub x (by simp [hx])) hrows
  obtain ⟨a4, c4, T4, q4, g4, b4, h4, rfl⟩ := sent_step (g := 4) h3 (by kernel_rfl) (by kernel_rfl) (fun x hx => hsub x (by simp [hx])) hrows
  obtain ⟨a5, c5, T5, q5, g5, b5, h5, rfl⟩ := sent_step (g := 5) h4 (by kernel_rfl) (by kernel_rfl) (fun x hx => hsub x (by simp [hx])) hrows
  obtain ⟨a6, c6, T6, q6, g6, b6, h6, rfl⟩ := sent_step (g := 6) h5 (by kernel_rfl) (by kernel_rfl) (fun x hx => hsub x (by simp [hx])) hrows
  obtain ⟨a7, c7, T7, q7, g7, b7, h7, rfl⟩ := sent_step (g := 7) h6 (by kernel_rfl) (by kernel_rfl) (fun x hx => hsub x (by simp [hx])) hrows
  refine ⟨nth8 a0 a1 a2 a3 a4 a5 a6 a7, fun j hj => ?_, fun j hj => ?_, fun i j hi hj hij => ?_, het⟩
  · obtain rfl | rfl | rfl | rfl | rfl | rfl | rfl | rfl : j = 0 ∨ j = 1 ∨ j = 2 ∨ j = 3 ∨ j = 4 ∨ j = 5 ∨ j = 6 ∨ j = 7 := by omega
    all_goals first | exact g0 | exact g1 | exact g2 | exact g3 | exact g4 | exact g5 | exact g6 | exact g7
  · obtain rfl | rfl | rfl | rfl | rfl | rfl | rfl | rfl : j = 0 ∨ j = 1 ∨ j = 2 ∨ j = 3 ∨ j = 4 ∨ j = 5 ∨ j = 6 ∨ j = 7 := by omega
    all_goals first | exact ⟨_, _, b0⟩ | exact ⟨_, _, b1⟩ | exact ⟨_, _, b2⟩ | exact ⟨_, _, b3⟩ | exact ⟨_, _, b4⟩ | exact ⟨_, _, b5⟩ | exact ⟨_, _, b6⟩ | exact ⟨_, _, b7⟩
  · have hl : [a0, a1, a2, a3, a4, a5, a6, a7].Nodup := by
      clear hsub hrows h0 h1 h2 h3 h4 h5 h6 h7 g0 g1 g2 g3 g4 g5 g6 g7 b0 b1 b2 b3 b4 b5 b6 b7
      simp only [MemPlace.row, List.range_succ, List.range_zero, List.nil_append, List.map_cons, List.map_nil, List.cons_append, List.append_assoc, List.nodup_cons, List.mem_cons, not_or, Nat.add_zero, List.not_mem_nil, not_false_eq_true, List.nodup_nil, and_true] at hnd ⊢
      refine ⟨⟨?_, ?_, ?_, ?_, ?_, ?_, ?_⟩, ⟨?_, ?_, ?_, ?_, ?_, ?_⟩, ⟨?_, ?_, ?_, ?_, ?_⟩, ⟨?_, ?_, ?_, ?_⟩, ⟨?_, ?_, ?_⟩, ⟨?_, ?_⟩, ?_⟩
      all_goals (rintro rfl; simp_all)
    have hp : ∀ k, k < 8 → [a0, a1, a2, a3, a4, a5, a6, a7][k]? = some (nth8 a0 a1 a2 a3 a4 a5 a6 a7 k) := fun k hk => by
      obtain rfl | rfl | rfl | rfl | rfl | rfl | rfl | rfl : k = 0 ∨ k = 1 ∨ k = 2 ∨ k = 3 ∨ k = 4 ∨ k = 5 ∨ k = 6 ∨ k = 7 := by omega
      all_goals rfl
    intro e
    have hi' := hp i hi
    have hj' := hp j hj
    rw [e] at hi'
    exact hij ((List.getElem?_inj (by simpa using hi) hl).1 (hi'.trans hj'.symm))

theorem laid_drop {W : World} : ∀ (l r : List (String × DataW Unit)) (ps : List MemPlace), DataW.LaidVars Tryd.prog W (l ++ r) ps → ∃ p q, ps = p ++ q ∧ DataW.LaidVars Tryd.prog W r q
  | [], r, ps, h => ⟨[], ps, rfl, h⟩
  | x :: l, r, ps, h => by
    obtain ⟨g, t, cs, f, p, q, hg, ht, hv, hd, hr, e⟩ := h
    obtain ⟨p2, q2, e2, h2⟩ := laid_drop l r q hr
    exact ⟨MemPlace.row ⟨g, 0, none⟩ cs.size ++ p ++ p2, q2, by rw [e, e2]; simp, h2⟩
/-- The sentinels out of a row's condition: 'pre' is what lies ahead of them on the list, but for errors.errorType. -/
theorem sents_of_laid {W : World} {laid pre : List (String × DataW Unit)} (h : laidMetH Tryd.prog laid W) (hh : (laid.filter fun x => x.2.handleName?.isSome) = [("errors.errorType", Rows.laid_errors_errorType)])
    (hn : (laid.filter fun x => x.2.handleName?.isNone) = pre ++ SENT) : ∃ p, Sents p W := by
  unfold laidMetH at h
  rw [hh] at h
  obtain ⟨h1, h2⟩ := h
  rw [hn] at h1
  obtain ⟨ps, hv, hnd, hrows⟩ := h1
  obtain ⟨p, q, rfl, hq⟩ := laid_drop pre SENT ps hv
  exact sents_of_vars hq (List.nodup_append.1 hnd).2.1 (fun x hx => List.mem_append.2 (.inr hx)) hrows (et_of_laid h2 (List.mem_singleton.2 rfl))
end Go.Proofs.YtabikmkoajdhmaaDoor
