/- (*ast.reader).expr by a contract: let (not rec), given the contracts one step down. -/
import Derived.Test.YtabikmkoajdhmaaDoorQ20
import Derived.Maps.AppendAt
import Derived.Deep.RegionLaw
import Derived.Test.YtabikmkoajdhmaaDoorQ04
import Derived.Deep.RegionHeld3
set_option linter.unusedVariables false
set_option linter.unusedSimpArgs false
namespace Go.Proofs.YtabikmkoajdhmaaDoor
open Go.RowKit

/-- A block of the call's own, not among G's: a store into it leaves the reader's state as it was. -/
theorem AInv.store {G : GH} {w : World} {ab rb : Nat} {S : ByteArray} {kw : Str → Bool} {kwf : Nat} {l : List Tok} (h : AInv G w ab rb S kw kwf l) {b i : Nat} (u : Value) (hb : G b = none) (hr : b ≠ rb) : AInv G (w.setCell ⟨b, i, none⟩ u) ab rb S kw kwf l := by
  have k : Keep (one' b) w (w.setCell ⟨b, i, none⟩ u) := Keep.setCell _ _ (fun _ => rfl)
  refine ⟨h.holds.keep k (fun c o hc (e : c = b) => by subst e; rw [hb] at hc; cases hc), h.ar, h.off, h.rd.keep k (fun e : rb = b => hr e.symm)⟩
/-- A new block that is not yet among G's. -/
theorem AInv.alloc0 {G : GH} {w : World} {ab rb : Nat} {S : ByteArray} {kw : Str → Bool} {kwf : Nat} {l : List Tok} (h : AInv G w ab rb S kw kwf l) (o : Obj) : AInv G (w.alloc o) ab rb S kw kwf l :=
  ⟨h.holds.keep0 (Keep.alloc none' w o), h.ar, h.off, h.rd.keep (Keep.alloc none' w o) (fun x => x)⟩
/-- A block that is done is taken among G's. -/
theorem AInv.take {G : GH} {w : World} {ab rb : Nat} {S : ByteArray} {kw : Str → Bool} {kwf : Nat} {l : List Tok} (h : AInv G w ab rb S kw kwf l) {b : Nat} {o : Obj} (hb : w.heap[b]? = some o) (hg : G b = none) (hr : b ≠ rb) :
    G.sub (G.put b o) ∧ AInv (G.put b o) w ab rb S kw kwf l := by
  have hab : ab ≠ b := fun e => by subst e; have := h.ar; rw [hg] at this; cases this
  refine ⟨GH.sub_put hg, h.holds.put hb, ?_, ?_, h.rd⟩
  · rw [GH.put_other _ _ hab]; exact h.ar
  · rw [GH.put_other _ _ (Ne.symm hr)]; exact h.off
theorem Grew.put {G G1 : GH} {w : World} (h : Grew G w G1) {b : Nat} (o : Obj) (hb : w.heap.size ≤ b) (hg : G1 b = none) : Grew G w (G1.put b o) :=
  ⟨h.sub.trans (GH.sub_put hg), fun c hc => by rw [GH.put_other _ _ (by omega)]; exact h.eq c hc⟩
theorem Keep.own {w a : World} {rb b i : Nat} (u : Value) (h : Keep (one' rb) w a) (hb : w.heap.size ≤ b) : Keep (one' rb) w (a.setCell ⟨b, i, none⟩ u) :=
  h.trans' (Keep.setCell (S := one' b) _ _ (fun _ => rfl)) (fun _ _ x => x) (fun j hj (e : j = b) => by omega)

set_option maxRecDepth 100000 in
set_option maxHeartbeats 4000000 in
theorem expr_let {kw : Str → Bool} {kwf : Nat} {S : ByteArray} (hx : Lx kw kwf S) (k : Nat) (ih : ExprOk kwf kw S k) (G : GH) (w : World) (ab rb : Nat) (l : List Tok) (r : Res (Ex × List Tok)) (hr : pExp (k + 1) l = r) (hne : r ≠ none)
    (hi : AInv G w ab rb S kw kwf l) (hk : (hd l).kind = .kw LET) (hk2 : ¬ (hd (adv l)).kind = .kw REC) :
    Calls Tryd.prog 68 #[.pointer (some ⟨ab, 0, none⟩)] w (ParsePost G w ab rb S kw kwf r) := by
  have c0 := hi.cell
  obtain ⟨t2, t4⟩ := hi.tok
  have e1 : ¬ (hd l).kind = .kw FUN := by rw [hk]; decide
  have e2 : ¬ (hd l).kind = .kw IF := by rw [hk]; decide
  simp only [pExp, if_neg e1, if_neg e2, if_pos hk, if_neg hk2] at hr
  have IH := Lib.hid ih; have HR := Lib.hid hr; have HNE := Lib.hid hne
  clear ih hr hne
  go_enter Tryd.func68, Tryd.ntmps68
  go_wp2_with fail
  refine (take_any hx (.kw FUN) good_FUN ne_bad _ rb l hi.rd).mono ?_
  rintro e wa ⟨ka, ha⟩
  rw [if_neg e1] at ha
  obtain ⟨rfl, rfl⟩ := ha
  go_wp2_with fail
  refine (take_any hx (.kw IF) good_IF ne_bad _ rb l hi.rd).mono ?_
  rintro e wa ⟨kb, ha⟩
  rw [if_neg e2] at ha
  obtain ⟨rfl, rfl⟩ := ha
  go_wp2_with fail
  refine (take_any hx (.kw LET) good_LET ne_bad _ rb l hi.rd).mono ?_
  rintro e w1 ⟨k1, h1⟩
  rw [if_pos hk] at h1
  obtain ⟨rfl, r1⟩ := h1
  have i1 := hi.step k1 r1
  have c1 := i1.cell
  clear t2 t4 hk e1 e2
  go_wp2_with fail
  refine (take_any hx (.kw REC) good_REC ne_bad _ rb _ i1.rd).mono ?_
  rintro e wa ⟨kc, ha⟩
  rw [if_neg hk2] at ha
  obtain ⟨rfl, rfl⟩ := ha
  clear hk2
  go_wp2_with fail
  refine (want_any hx .name good_name (by decide) _ rb _ i1.rd).mono ?_
  by_cases h2 : (hd (adv l)).kind = .name
  · rw [want_yes h2]
    have hr := HR.out; rw [want_yes h2] at hr; simp only [Res.bind] at hr; clear HR h2
    have HR := Lib.hid hr; clear hr
    rintro e w2 ⟨k2, rfl, r2⟩
    have i2 := i1.step k2 r2
    have c2 := i2.cell
    go_wp2_with fail
    refine (want_any hx (.kw EQ) good_EQ ne_bad _ rb _ i2.rd).mono ?_
    by_cases h3 : (hd (adv (adv l))).kind = .kw EQ
    · rw [want_yes h3]
      have hr := HR.out; rw [want_yes h3] at hr; simp only at hr; clear HR h3
      have HR := Lib.hid hr; clear hr
      rintro e w3 ⟨k3, rfl, r3⟩
      have i3 := i2.step k3 r3
      have c3 := i3.cell
      go_wp2_with fail
      cases hp : pExp k (adv (adv (adv l))) with
      | none => exact absurd (by rw [← HR.out, hp]) HNE.out
      | some rr =>
        refine (IH.out G w3 ab rb _ (some rr) hp (by simp) i3).mono ?_
        have hr := HR.out; rw [hp] at hr; clear HR
        cases rr with
        | error p =>
          simp only at hr
          rintro e w4 ⟨k4, rfl⟩
          go_wp2_with fail
          subst hr
          exact ⟨rfl, keepT k1 (keepT k2 (keepT k3 k4)), rfl⟩
        | ok xl =>
          obtain ⟨x, l4⟩ := xl
          simp only at hr
          have HR := Lib.hid hr; clear hr hp
          rintro e w4 ⟨k4, v, G4, rfl, s4, i4, x4⟩
          obtain ⟨Tv, bv, rfl⟩ := x4.shape
          have K4 : Keep (one' rb) w w4 := keepT k1 (keepT k2 (keepT k3 k4))
          have i5 := i4.alloc0 (.cells #[.int .i64 (hd l).pos, .string (bs (hd (adv l)).text), .iface Tv (.pointer (some ⟨bv, 0, none⟩)), .nilIface] 187)
          have hb5 : (w4.alloc (.cells #[.int .i64 (hd l).pos, .string (bs (hd (adv l)).text), .iface Tv (.pointer (some ⟨bv, 0, none⟩)), .nilIface] 187)).heap[w4.heap.size]? = _ := heap_new _ _
          have c5 := i5.cell
          have hrb : w4.heap.size ≠ rb := by have := i4.rd.lt; omega
          have hg4 : G4 w4.heap.size = none := i4.holds.fresh (Nat.le_refl _)
          go_wp2_with fail
          refine (want_any hx (.kw IN) good_IN ne_bad _ rb _ i5.rd).mono ?_
          by_cases h6 : (hd l4).kind = .kw IN
          · rw [want_yes h6]
            have hr := HR.out; rw [want_yes h6] at hr; simp only at hr; clear HR h6
            have HR := Lib.hid hr; clear hr
            rintro e w6 ⟨k6, rfl, r6⟩
            have i6 := i5.step k6 r6
            have hb6 := k6.get hb5 hrb
            have c6 := i6.cell
            go_wp2_with fail
            cases hp : pExp k (adv l4) with
            | none => exact absurd (by rw [← HR.out, hp]) HNE.out
            | some rr =>
              refine (IH.out G4 w6 ab rb _ (some rr) hp (by simp) i6).mono ?_
              have hr := HR.out; rw [hp] at hr; clear HR
              cases rr with
              | error p =>
                simp only at hr
                rintro e w7 ⟨k7, rfl⟩
                go_wp2_with fail
                subst hr
                exact ⟨rfl, keepT K4 (keepT (Keep.alloc _ _ _) (keepT k6 k7)), rfl⟩
              | ok yl =>
                obtain ⟨y, l7⟩ := yl
                simp only at hr
                have HR := Lib.hid hr; clear hr hp
                rintro e w7 ⟨k7, u, G7, rfl, s7, i7, y7⟩
                obtain ⟨Tu, bu, rfl⟩ := y7.shape
                have hb7 := k7.get hb6 hrb
                have d3 : w7.cell? ⟨w4.heap.size, 3, none⟩ = some .nilIface := cell_of_heap hb7 rfl
                have f3 : w7.frozen? ⟨w4.heap.size, 3, none⟩ = false := free_of_heap hb7
                have hg7 : G7 w4.heap.size = none := (s7.eq _ (lt_of_heap hb6)).trans hg4
                go_wp2_with fail
                go_ret
                refine ⟨Keep.own _ (keepT K4 (keepT (Keep.alloc _ _ _) (keepT k6 k7))) K4.size, ?_⟩
                rw [← HR.out]
                have hb8 := heap_set_same (i := 3) (u := .iface Tu (.pointer (some ⟨bu, 0, none⟩))) hb7
                obtain ⟨s8, i8⟩ := (i7.store (i := 3) (.iface Tu (.pointer (some ⟨bu, 0, none⟩))) hg7 hrb).take hb8 hg7 hrb
                refine ⟨_, _, rfl, ?_, i8, ?_⟩
                · exact Grew.put ((Grew.keep (keepT k1 (keepT k2 k3)) (s4.trans k4 (Grew.keep (keepT (Keep.alloc _ _ _) k6) s7))) ) _ K4.size hg7
                · exact ExR.lt (GH.put_same _ _ _) ((x4.sub s7.sub).sub s8) (y7.sub s8)
          · rw [want_no h6]
            have hr := HR.out; rw [want_no h6] at hr; simp only at hr; clear HR h6
            rintro e w6 ⟨k6, rfl⟩
            go_wp2_with fail
            subst hr
            exact ⟨rfl, keepT K4 (keepT (Keep.alloc _ _ _) k6), rfl⟩
    · rw [want_no h3]
      have hr := HR.out; rw [want_no h3] at hr; simp only at hr; clear HR h3
      rintro e w3 ⟨k3, rfl⟩
      go_wp2_with fail
      subst hr
      exact ⟨rfl, keepT k1 (keepT k2 k3), rfl⟩
  · rw [want_no h2]
    have hr := HR.out; rw [want_no h2] at hr; simp only [Res.bind] at hr; clear HR h2
    rintro e w2 ⟨k2, rfl⟩
    go_wp2_with fail
    subst hr
    exact ⟨rfl, keepT k1 k2, rfl⟩
end Go.Proofs.YtabikmkoajdhmaaDoor

/- (*ast.reader).expr by a contract: if, given the contracts one step down. -/
namespace Go.Proofs.YtabikmkoajdhmaaDoor
open Go.RowKit

set_option maxRecDepth 100000 in
set_option maxHeartbeats 4000000 in
theorem expr_if {kw : Str → Bool} {kwf : Nat} {S : ByteArray} (hx : Lx kw kwf S) (k : Nat) (ih : ExprOk kwf kw S k) (G : GH) (w : World) (ab rb : Nat) (l : List Tok) (r : Res (Ex × List Tok)) (hr : pExp (k + 1) l = r) (hne : r ≠ none)
    (hi : AInv G w ab rb S kw kwf l) (hk : (hd l).kind = .kw IF) :
    Calls Tryd.prog 68 #[.pointer (some ⟨ab, 0, none⟩)] w (ParsePost G w ab rb S kw kwf r) := by
  have c0 := hi.cell
  obtain ⟨t2, t4⟩ := hi.tok
  have e1 : ¬ (hd l).kind = .kw FUN := by rw [hk]; decide
  simp only [pExp, if_neg e1, if_pos hk] at hr
  have IH := Lib.hid ih; have HR := Lib.hid hr; have HNE := Lib.hid hne
  clear ih hr hne
  go_enter Tryd.func68, Tryd.ntmps68
  go_wp2_with fail
  refine (take_any hx (.kw FUN) good_FUN ne_bad _ rb l hi.rd).mono ?_
  rintro e wa ⟨ka, ha⟩
  rw [if_neg e1] at ha
  obtain ⟨rfl, rfl⟩ := ha
  go_wp2_with fail
  refine (take_any hx (.kw IF) good_IF ne_bad _ rb l hi.rd).mono ?_
  rintro e w1 ⟨k1, h1⟩
  rw [if_pos hk] at h1
  obtain ⟨rfl, r1⟩ := h1
  have i1 := hi.step k1 r1
  have c1 := i1.cell
  clear t2 t4 hk e1
  go_wp2_with fail
  cases hp : pExp k (adv l) with
  | none => exact absurd (by rw [← HR.out, hp] <;> rfl) HNE.out
  | some rr =>
    refine (IH.out G w1 ab rb _ (some rr) hp (by simp) i1).mono ?_
    have hr := HR.out; rw [hp] at hr; (try simp only [Res.bind] at hr); clear HR
    cases rr with
    | error p =>
      (try simp only at hr)
      rintro e wz ⟨kz, rfl⟩
      go_wp2_with fail
      subst hr
      exact ⟨rfl, keepT k1 kz, rfl⟩
    | ok xl =>
      obtain ⟨x1, m1⟩ := xl
      (try simp only at hr)
      have HR := Lib.hid hr; clear hr hp
      rintro e v1 ⟨kv1, u1, G1, rfl, s1, j1, y1⟩
      obtain ⟨T1, b1, rfl⟩ := y1.shape
      have KV1 : Keep (one' rb) w v1 := keepT k1 kv1
      have ia := j1.alloc0 (.cells #[.int .i64 (hd l).pos, .iface T1 (.pointer (some ⟨b1, 0, none⟩)), .nilIface, .nilIface] 190)
      have hb1 : (v1.alloc (.cells #[.int .i64 (hd l).pos, .iface T1 (.pointer (some ⟨b1, 0, none⟩)), .nilIface, .nilIface] 190)).heap[v1.heap.size]? = _ := heap_new _ _
      have ca := ia.cell
      have hrb : v1.heap.size ≠ rb := by have := j1.rd.lt; omega
      have hg1 : G1 v1.heap.size = none := j1.holds.fresh (Nat.le_refl _)
      have GA : Grew G w G1 := Grew.keep k1 s1
      go_wp2_with fail
      refine (want_any hx (.kw THEN) good_THEN ne_bad _ rb _ ia.rd).mono ?_
      by_cases hw : (hd m1).kind = .kw THEN
      · rw [want_yes hw]
        have hr := HR.out; rw [want_yes hw] at hr; (try simp only at hr); clear HR hw
        have HR := Lib.hid hr; clear hr
        rintro e w2 ⟨kw2, rfl, rw2⟩
        have KW2 : Keep (one' rb) w w2 := keepT (keepT KV1 (Keep.alloc _ _ _)) kw2
        have i2 := ia.step kw2 rw2
        have hb2 := kw2.get hb1 hrb
        have c2 := i2.cell
        go_wp2_with fail
        cases hp : pExp k (adv m1) with
        | none => exact absurd (by rw [← HR.out, hp] <;> rfl) HNE.out
        | some rr =>
          refine (IH.out G1 w2 ab rb _ (some rr) hp (by simp) i2).mono ?_
          have hr := HR.out; rw [hp] at hr; (try simp only [Res.bind] at hr); clear HR
          cases rr with
          | error p =>
            (try simp only at hr)
            rintro e wz ⟨kz, rfl⟩
            go_wp2_with fail
            subst hr
            exact ⟨rfl, keepT KW2 kz, rfl⟩
          | ok xl =>
            obtain ⟨x2, m2⟩ := xl
            (try simp only at hr)
            have HR := Lib.hid hr; clear hr hp
            rintro e v2 ⟨kv2, u2, G2, rfl, s2, j2, y2⟩
            obtain ⟨T2, b2, rfl⟩ := y2.shape
            have KV2 : Keep (one' rb) w v2 := keepT KW2 kv2
            have hb3 := kv2.get hb2 hrb
            have d2 : v2.cell? ⟨v1.heap.size, 2, none⟩ = some .nilIface := cell_of_heap hb3 rfl
            have f2 : v2.frozen? ⟨v1.heap.size, 2, none⟩ = false := free_of_heap hb3
            have hg2 : G2 v1.heap.size = none := (s2.eq _ (lt_of_heap hb2)).trans hg1
            have GB : Grew G w G2 := GA.trans KW2 s2
            have hb4 := heap_set_same (i := 2) (u := .iface T2 (.pointer (some ⟨b2, 0, none⟩))) hb3
            have ib := j2.store (i := 2) (.iface T2 (.pointer (some ⟨b2, 0, none⟩))) hg2 hrb
            have cb := ib.cell
            have KS : Keep (one' rb) w (v2.setCell ⟨v1.heap.size, 2, none⟩ (.iface T2 (.pointer (some ⟨b2, 0, none⟩)))) := Keep.own _ KV2 KV1.size
            go_wp2_with fail
            refine (want_any hx (.kw ELSE) good_ELSE ne_bad _ rb _ ib.rd).mono ?_
            by_cases hw : (hd m2).kind = .kw ELSE
            · rw [want_yes hw]
              have hr := HR.out; rw [want_yes hw] at hr; (try simp only at hr); clear HR hw
              have HR := Lib.hid hr; clear hr
              rintro e w3 ⟨kw3, rfl, rw3⟩
              have KW3 : Keep (one' rb) w w3 := keepT KS kw3
              have i3 := ib.step kw3 rw3
              have hb5 := kw3.get hb4 hrb
              have c3 := i3.cell
              go_wp2_with fail
              cases hp : pExp k (adv m2) with
              | none => exact absurd (by rw [← HR.out, hp] <;> rfl) HNE.out
              | some rr =>
                refine (IH.out G2 w3 ab rb _ (some rr) hp (by simp) i3).mono ?_
                have hr := HR.out; rw [hp] at hr; (try simp only [Res.bind] at hr); clear HR
                cases rr with
                | error p =>
                  (try simp only at hr)
                  rintro e wz ⟨kz, rfl⟩
                  go_wp2_with fail
                  subst hr
                  exact ⟨rfl, keepT KW3 kz, rfl⟩
                | ok xl =>
                  obtain ⟨x3, m3⟩ := xl
                  (try simp only at hr)
                  have HR := Lib.hid hr; clear hr hp
                  rintro e v3 ⟨kv3, u3, G3, rfl, s3, j3, y3⟩
                  obtain ⟨T3, b3, rfl⟩ := y3.shape
                  have KV3 : Keep (one' rb) w v3 := keepT KW3 kv3
                  have hb6 := kv3.get hb5 hrb
                  have d3 : v3.cell? ⟨v1.heap.size, 3, none⟩ = some .nilIface := cell_of_heap hb6 rfl
                  have f3 : v3.frozen? ⟨v1.heap.size, 3, none⟩ = false := free_of_heap hb6
                  have hg3 : G3 v1.heap.size = none := (s3.eq _ (lt_of_heap hb5)).trans hg2
                  have GC : Grew G w G3 := GB.trans KW3 s3
                  go_wp2_with fail
                  go_ret
                  refine ⟨Keep.own _ KV3 KV1.size, ?_⟩
                  rw [← HR.out]
                  have hb7 := heap_set_same (i := 3) (u := .iface T3 (.pointer (some ⟨b3, 0, none⟩))) hb6
                  obtain ⟨s8, i8⟩ := (j3.store (i := 3) (.iface T3 (.pointer (some ⟨b3, 0, none⟩))) hg3 hrb).take hb7 hg3 hrb
                  refine ⟨_, _, rfl, GC.put _ KV1.size hg3, i8, ?_⟩
                  exact ExR.ite (GH.put_same _ _ _) (((y1.sub s2.sub).sub s3.sub).sub s8) ((y2.sub s3.sub).sub s8) (y3.sub s8)
            · rw [want_no hw]
              have hr := HR.out; rw [want_no hw] at hr; (try simp only at hr); clear HR hw
              rintro e wz ⟨kz, rfl⟩
              go_wp2_with fail
              subst hr
              exact ⟨rfl, keepT KS kz, rfl⟩
      · rw [want_no hw]
        have hr := HR.out; rw [want_no hw] at hr; (try simp only at hr); clear HR hw
        rintro e wz ⟨kz, rfl⟩
        go_wp2_with fail
        subst hr
        exact ⟨rfl, keepT (keepT KV1 (Keep.alloc _ _ _)) kz, rfl⟩
end Go.Proofs.YtabikmkoajdhmaaDoor

/- (*ast.reader).expr by a contract: an atom, applied to atoms, given the contracts one step down. -/
namespace Go.Proofs.YtabikmkoajdhmaaDoor
open Go.RowKit

set_option maxRecDepth 100000 in
set_option maxHeartbeats 4000000 in
theorem expr_app {kw : Str → Bool} {kwf : Nat} {S : ByteArray} (hx : Lx kw kwf S) (k : Nat) (ih : ∀ j, j ≤ k → AtomOk kwf kw S j) (G : GH) (w : World) (ab rb : Nat) (l : List Tok) (r : Res (Ex × List Tok)) (hr : pExp (k + 1) l = r) (hne : r ≠ none)
    (hi : AInv G w ab rb S kw kwf l) (e1 : ¬ (hd l).kind = .kw FUN) (e2 : ¬ (hd l).kind = .kw IF) (e3 : ¬ (hd l).kind = .kw LET) :
    Calls Tryd.prog 68 #[.pointer (some ⟨ab, 0, none⟩)] w (ParsePost G w ab rb S kw kwf r) := by
  have c0 := hi.cell
  obtain ⟨t2, t4⟩ := hi.tok
  simp only [pExp, if_neg e1, if_neg e2, if_neg e3] at hr
  have IH := Lib.hid ih; have HR := Lib.hid hr; have HNE := Lib.hid hne
  clear ih hr hne
  go_enter Tryd.func68, Tryd.ntmps68
  go_wp2_with fail
  refine (take_any hx (.kw FUN) good_FUN ne_bad _ rb l hi.rd).mono ?_
  rintro e wa ⟨ka, ha⟩
  rw [if_neg e1] at ha
  obtain ⟨rfl, rfl⟩ := ha
  go_wp2_with fail
  refine (take_any hx (.kw IF) good_IF ne_bad _ rb l hi.rd).mono ?_
  rintro e wa ⟨kb, ha⟩
  rw [if_neg e2] at ha
  obtain ⟨rfl, rfl⟩ := ha
  go_wp2_with fail
  refine (take_any hx (.kw LET) good_LET ne_bad _ rb l hi.rd).mono ?_
  rintro e wa ⟨kc, ha⟩
  rw [if_neg e3] at ha
  obtain ⟨rfl, rfl⟩ := ha
  clear ka kb kc e1 e2 e3
  go_wp2_with fail
  cases hp : pAtom k l with
  | none => exact absurd (by rw [← HR.out, hp]; rfl) HNE.out
  | some rr =>
    refine (IH.out k (Nat.le_refl _) G w ab rb _ (some rr) hp (by simp) hi).mono ?_
    have hr := HR.out; rw [hp] at hr; simp only [Res.bind] at hr; clear HR
    cases rr with
    | error p =>
      simp only at hr
      rintro e w4 ⟨k4, rfl⟩
      go_wp2_with fail
      subst hr
      exact ⟨rfl, k4, rfl⟩
    | ok xl =>
      obtain ⟨x, l1⟩ := xl
      simp only at hr
      have HR := Lib.hid hr; clear hr hp
      rintro e w4 ⟨k4, v, G4, rfl, s4, i4, x4⟩
      obtain ⟨Tv, bv, rfl⟩ := x4.shape
      clear c0 t2
      go_wp2_with fail
      go_loopg [8] k (fun n s8 wr => ∃ x v T b G1 l1, n ≤ k ∧ Hid (pApps n x l1 = r) ∧ Hid (v = .iface T (.pointer (some ⟨b, 0, none⟩))) ∧ s8 = .iface T (.pointer (some ⟨b, 0, none⟩)) ∧ AInv G1 wr ab rb S kw kwf l1 ∧ ExR G1 v x ∧ Grew G w G1 ∧ Keep (one' rb) w wr)
      case atStart => exact ⟨x, _, Tv, bv, G4, l1, Nat.le_refl _, HR, Lib.hid rfl, rfl, i4, x4, s4, k4⟩
      case round =>
        clear HR x4 s4 i4 k4
        obtain ⟨x, v, T, b, G1, l1, hn, HR, HV, rfl, i1, x1, s1, k1⟩ := hrel
        obtain ⟨t2, t4'⟩ := i1.tok
        have c0 := i1.cell
        have hg := i1.good hx.good
        have HX := Lib.hid x1; clear x1 t4'
        cases gk with
        | zero => exact absurd (by rw [← HR.out]; rfl) HNE.out
        | succ n =>
          by_cases hmore : (hd l1).kind = .name ∨ (hd l1).kind = .num ∨ (hd l1).kind = .kw LP
          · have hr := HR.out; simp only [pApps, if_pos hmore] at hr; clear HR
            have HR := Lib.hid hr; clear hr
            have hq : ((bs (kstr (hd l1).kind)).toList == [97, 32, 110, 97, 109, 101]) = true ∨
                (((bs (kstr (hd l1).kind)).toList == [97, 32, 110, 97, 109, 101]) = false ∧ ((bs (kstr (hd l1).kind)).toList == [97, 32, 110, 117, 109, 98, 101, 114]) = true) ∨
                (((bs (kstr (hd l1).kind)).toList == [97, 32, 110, 97, 109, 101]) = false ∧ ((bs (kstr (hd l1).kind)).toList == [97, 32, 110, 117, 109, 98, 101, 114]) = false ∧ ((bs (kstr (hd l1).kind)).toList == [40]) = true) := by
              rcases hmore with h | h | h
              · left; rw [h]; exact (kind_is good_name good_name).trans (by simp)
              · right; left; rw [h]; exact ⟨(kind_is good_num good_name).trans (by simp), (kind_is good_num good_num).trans (by simp)⟩
              · right; right; rw [h]; exact ⟨(kind_is good_LP good_name).trans (by simp), (kind_is good_LP good_num).trans (by simp), (kind_is good_LP good_LP).trans (by simp)⟩
            clear hmore hg
            rcases hq with q1 | ⟨q1, q2⟩ | ⟨q1, q2, q3⟩
            all_goals
              go_wp2_with fail
              cases hp : pAtom n l1 with
              | none => exact absurd (by rw [← HR.out, hp]; rfl) HNE.out
              | some rr =>
                refine (IH.out n (by omega) G1 wr ab rb _ (some rr) hp (by simp) i1).mono ?_
                have hr := HR.out; rw [hp] at hr; simp only [Res.bind] at hr; clear HR
                cases rr with
                | error p =>
                  simp only at hr
                  rintro e w5 ⟨k5, rfl⟩
                  go_wp2_with fail
                  subst hr
                  exact ⟨rfl, keepT k1 k5, rfl⟩
                | ok yl =>
                  obtain ⟨y, l5⟩ := yl
                  simp only at hr
                  have HR := Lib.hid hr; clear hr hp
                  rintro e w5 ⟨k5, u, G5, rfl, s5, i5, y5⟩
                  obtain ⟨Tu, bu, rfl⟩ := y5.shape
                  obtain ⟨s6, i6⟩ := i5.alloc (.cells #[.int .i64 (hd l).pos, .iface T (.pointer (some ⟨b, 0, none⟩)), .iface Tu (.pointer (some ⟨bu, 0, none⟩))] 198)
                  go_wp2_with fail
                  go_roundg n
                  case measure => omega
                  case rel =>
                    refine ⟨.app x y, _, _, _, _, l5, by omega, HR, Lib.hid rfl, rfl, i6, ?_, s1.trans k1 (s5.trans k5 s6), keepT k1 (keepT k5 (Keep.alloc _ _ _))⟩
                    exact ExR.app (GH.put_same _ _ _) (((HV.out ▸ HX.out).sub s5.sub).sub s6.sub) (y5.sub s6.sub)
          · have hr := HR.out; simp only [pApps, if_neg hmore] at hr; clear HR
            simp only [not_or] at hmore
            have q1 : ((bs (kstr (hd l1).kind)).toList == [97, 32, 110, 97, 109, 101]) = false := (kind_is hg good_name).trans (by simpa using hmore.1)
            have q2 : ((bs (kstr (hd l1).kind)).toList == [97, 32, 110, 117, 109, 98, 101, 114]) = false := (kind_is hg good_num).trans (by simpa using hmore.2.1)
            have q3 : ((bs (kstr (hd l1).kind)).toList == [40]) = false := (kind_is hg good_LP).trans (by simpa using hmore.2.2)
            have HR := Lib.hid hr; clear hmore hg hr
            go_wp2_with fail
            go_ret
            refine ⟨k1, ?_⟩
            rw [← HR.out]
            exact ⟨_, _, rfl, s1, i1, HV.out ▸ HX.out⟩
end Go.Proofs.YtabikmkoajdhmaaDoor

/- A let rec that is being read, in memory: plain lemmas, and append as one step of a region that draws. -/
namespace Go.Proofs.YtabikmkoajdhmaaDoor
open Go.RowKit

/-- append onto a slice of the call's own, as one step of a region that draws. -/
theorem step_append_own_at {P : Program} {w : World} {ops : Array Oper} {o : Oper} {a : Act} {K : Act → World → Prop} {Q : Exit → Act → World → Prop} {E : Prop} (hgd : o.guard = none) (s x : Operand) (t : TypeId)
    (ho : o.op = .call { callee := .builtin .append, args := #[s, x], argTypes := #[t, t] })
    (base : Nat) (e : TypeId) (i : TypeInfo) (z : Value) (size bytes : Nat) (ht : P.underlying t = some (.slice e)) (hi : P.info? e = some i) (hz : i.zero = some z)
    (hsize : i.size = size) (hby : i.bytes = bytes) (hzs : z.cells.size = size) (hsz : 0 < size)
    (v : Value) (n : Nat) (xs : List Value) (hs : a.eval s = v) (hown : w.ownsRow base e size v n xs)
    (ad : Addr) (m c : Nat) (news : List Value) (hx : a.eval x = .slice (some ad) m c) (hl : news.length = m * size) (hnews : ∀ j u, news[j]? = some u → w.cell? (ad.add j) = some u) (h1 : ∀ u ∈ news, u.oneCell' = true)
    (h63 : n + m ≤ maxLen) (hbytes : (n + m) * bytes ≤ 140737488355328) (hbase : base ≤ w.heap.size)
    (h : ∀ v' w', w'.ownsRow base e size v' (n + m) (xs ++ news) → w.grownBy w' v.ownBlock → (v'.ownBlock = v.ownBlock ∨ v'.ownBlock = some w.heap.size) → K (a.put o.dst v') w') :
    if Region.wanted o (yielded ops a.tmps) = true then Oper.wp P o a w K Q else E := by
  have hw : Region.wanted o (yielded ops a.tmps) = true := by simp [Region.wanted, hgd]
  rw [if_pos hw]
  obtain ⟨v', w', hr, h2, h3, h4, h5⟩ := run_append_own_at (P := P) w base t o.type e i z size bytes ht hi hz hsize hby hzs hsz v n xs hown ad m c news hl hnews h1 h63 hbytes hbase
  unfold Oper.wp execOp
  simp only [ho, resolve, invoke, builtin, Sem.run_bind, Sem.run_pure, Result.andThen_ok, List.map_toArray, List.map_cons, List.map_nil, hs, hx, hr]
  exact h v' w' h2 h3 h5

theorem own_keep {S : Nat → Prop} {w w' : World} {base : Nat} {e : TypeId} {size : Nat} {v : Value} {n : Nat} {xs : List Value} (h : w.ownsRow base e size v n xs) (k : Keep S w w') (hn : ∀ g, v.ownBlock = some g → ¬ S g) : w'.ownsRow base e size v n xs := by
  refine ⟨h.1, ?_⟩
  rcases h.2 with hz | ⟨g, cap, cur, rfl, hb, hgg, rest⟩
  · exact .inl hz
  · exact .inr ⟨g, cap, cur, rfl, hb, k.get hgg (hn g rfl), rest⟩
theorem names_of (l : List (Str × Ex)) : (Bs.of l).names = l.map (·.1) := by
  induction l with
  | nil => rfl
  | cons a l ih => obtain ⟨n, x⟩ := a; simp [Bs.of, Bs.names, ih]
theorem BsR.snoc {G : GH} {v : Value} {n : Str} {x : Ex} (hx : ExR G v x) : ∀ {vs : List Value} {l : List (Str × Ex)}, BsR G vs (Bs.of l) → BsR G (vs ++ [v]) (Bs.of (l ++ [(n, x)]))
  | vs, [], h => by cases h; exact .cons hx .nil
  | vs, (m, y) :: l, h => by
    simp only [Bs.of] at h
    cases h with
    | cons hv hr => exact .cons hv (hr.snoc hx)
theorem BsR.len {G : GH} : ∀ {vs : List Value} {l : List (Str × Ex)}, BsR G vs (Bs.of l) → vs.length = l.length
  | vs, [], h => by cases h; rfl
  | vs, (m, y) :: l, h => by
    simp only [Bs.of] at h
    cases h with
    | cons hv hr => simp [hr.len]

/-- A let rec in the making: its block xb, its two slices nv (the names ns) and lv (the bodies' values vs). -/
structure RecSt (G : GH) (w : World) (rb xb : Nat) (p : Nat) (nv lv : Value) (ns : List Str) (vs : List Value) : Prop where
  x : w.heap[xb]? = some (.cells #[.int .i64 p, nv, lv, .nilIface] 194)
  gx : G xb = none
  xr : xb ≠ rb
  n : w.ownsRow (xb + 1) 9 1 nv ns.length (ns.map fun n => .string (bs n))
  l : w.ownsRow (xb + 1) 109 1 lv vs.length vs
  gn : ∀ k, nv.ownBlock = some k → G k = none ∧ k ≠ rb
  gl : ∀ k, lv.ownBlock = some k → G k = none ∧ k ≠ rb
  apart : ∀ k, nv.ownBlock = some k → ¬ lv.ownBlock = some k

theorem RecSt.step {G G' : GH} {w w' : World} {rb xb p : Nat} {nv lv : Value} {ns : List Str} {vs : List Value} (h : RecSt G w rb xb p nv lv ns vs) (k : Keep (one' rb) w w') (g : Grew G w G') : RecSt G' w' rb xb p nv lv ns vs := by
  refine ⟨k.get h.x h.xr, (g.eq _ (lt_of_heap h.x)).trans h.gx, h.xr, own_keep h.n k (fun g hg => (h.gn g hg).2), own_keep h.l k (fun g hg => (h.gl g hg).2), fun b hb => ⟨(g.eq _ (h.n.lt b hb).2).trans (h.gn b hb).1, (h.gn b hb).2⟩,
    fun b hb => ⟨(g.eq _ (h.l.lt b hb).2).trans (h.gl b hb).1, (h.gl b hb).2⟩, h.apart⟩

/-- A name is appended and stored. -/
theorem RecSt.name {G : GH} {w w3 : World} {ab rb xb p : Nat} {S : ByteArray} {kw : Str → Bool} {kwf : Nat} {l : List Tok} {nv lv nv' : Value} {ns : List Str} {vs : List Value} {n : Str} {o : Obj} (h : RecSt G w rb xb p nv lv ns vs) (hi : AInv G w ab rb S kw kwf l)
    (own : w3.ownsRow (xb + 1) 9 1 nv' (ns.length + 1) ((ns.map fun n => .string (bs n)) ++ [.string (bs n)])) (g : (w.alloc o).grownBy w3 nv.ownBlock) (hat : nv'.ownBlock = nv.ownBlock ∨ nv'.ownBlock = some (w.alloc o).heap.size) :
    RecSt G (w3.setCell ⟨xb, 1, none⟩ nv') rb xb p nv' lv (ns ++ [n]) vs ∧ AInv G (w3.setCell ⟨xb, 1, none⟩ nv') ab rb S kw kwf l := by
  have hxlt := lt_of_heap h.x
  have hrlt := hi.rd.lt
  have hsz : (w.alloc o).heap.size = w.heap.size + 1 := by simp
  let T : Nat → Prop := fun k => nv.ownBlock = some k
  have k1 : Keep T (w.alloc o) w3 := Keep.grown g (fun k e _ => e)
  have k2 : Keep T w w3 := (Keep.alloc T w o).trans k1
  have hx3 : w3.heap[xb]? = some (.cells #[.int .i64 p, nv, lv, .nilIface] 194) := k2.get h.x (fun e => by have := (h.n.lt xb e).1; omega)
  have k3 : Keep (one' xb) w3 (w3.setCell ⟨xb, 1, none⟩ nv') := Keep.setCell _ _ (fun _ => rfl)
  have hgn : ∀ k, nv'.ownBlock = some k → G k = none ∧ k ≠ rb := by
    intro k hk
    rcases hat with e | e
    · exact h.gn k (e ▸ hk)
    · rw [e] at hk; injection hk with hk; subst hk
      exact ⟨hi.holds.fresh (by omega), by omega⟩
  refine ⟨⟨heap_set_same hx3, h.gx, h.xr, ?_, ?_, hgn, h.gl, ?_⟩, ?_⟩
  · have := own_keep own k3 (fun g hg (e : g = xb) => by have := (own.lt g hg).1; omega)
    simpa using this
  · exact own_keep (own_keep h.l k2 (fun g hg e => h.apart g e hg)) k3 (fun g hg (e : g = xb) => by have := (h.l.lt g hg).1; omega)
  · intro k hk hk2
    rcases hat with e | e
    · exact h.apart k (e ▸ hk) hk2
    · rw [e] at hk; injection hk with hk; subst hk
      have := (h.l.lt _ hk2).2
      omega
  · have i3 : AInv G w3 ab rb S kw kwf l := ⟨hi.holds.keep k2 (fun c o' hc e => by have := (h.gn c e).1; rw [hc] at this; cases this), hi.ar, hi.off, hi.rd.keep k2 (fun e => (h.gn rb e).2 rfl)⟩
    exact i3.store nv' h.gx h.xr

/-- A body is appended and stored. -/
theorem RecSt.body {G : GH} {w w3 : World} {ab rb xb p : Nat} {S : ByteArray} {kw : Str → Bool} {kwf : Nat} {l : List Tok} {nv lv lv' : Value} {ns : List Str} {vs : List Value} {u : Value} {o : Obj} (h : RecSt G w rb xb p nv lv ns vs) (hi : AInv G w ab rb S kw kwf l)
    (own : w3.ownsRow (xb + 1) 109 1 lv' (vs.length + 1) (vs ++ [u])) (g : (w.alloc o).grownBy w3 lv.ownBlock) (hat : lv'.ownBlock = lv.ownBlock ∨ lv'.ownBlock = some (w.alloc o).heap.size) :
    RecSt G (w3.setCell ⟨xb, 2, none⟩ lv') rb xb p nv lv' ns (vs ++ [u]) ∧ AInv G (w3.setCell ⟨xb, 2, none⟩ lv') ab rb S kw kwf l := by
  have hxlt := lt_of_heap h.x
  have hrlt := hi.rd.lt
  have hsz : (w.alloc o).heap.size = w.heap.size + 1 := by simp
  let T : Nat → Prop := fun k => lv.ownBlock = some k
  have k1 : Keep T (w.alloc o) w3 := Keep.grown g (fun k e _ => e)
  have k2 : Keep T w w3 := (Keep.alloc T w o).trans k1
  have hx3 : w3.heap[xb]? = some (.cells #[.int .i64 p, nv, lv, .nilIface] 194) := k2.get h.x (fun e => by have := (h.l.lt xb e).1; omega)
  have k3 : Keep (one' xb) w3 (w3.setCell ⟨xb, 2, none⟩ lv') := Keep.setCell _ _ (fun _ => rfl)
  have hgl : ∀ k, lv'.ownBlock = some k → G k = none ∧ k ≠ rb := by
    intro k hk
    rcases hat with e | e
    · exact h.gl k (e ▸ hk)
    · rw [e] at hk; injection hk with hk; subst hk
      exact ⟨hi.holds.fresh (by omega), by omega⟩
  refine ⟨⟨heap_set_same hx3, h.gx, h.xr, ?_, ?_, h.gn, hgl, ?_⟩, ?_⟩
  · exact own_keep (own_keep h.n k2 (fun g hg e => h.apart g hg e)) k3 (fun g hg (e : g = xb) => by have := (h.n.lt g hg).1; omega)
  · have := own_keep own k3 (fun g hg (e : g = xb) => by have := (own.lt g hg).1; omega)
    simpa using this
  · intro k hk hk2
    rcases hat with e | e
    · exact h.apart k hk (e ▸ hk2)
    · rw [e] at hk2; injection hk2 with hk2; subst hk2
      have := (h.n.lt _ hk).2
      omega
  · have i3 : AInv G w3 ab rb S kw kwf l := ⟨hi.holds.keep k2 (fun c o' hc e => by have := (h.gl c e).1; rw [hc] at this; cases this), hi.ar, hi.off, hi.rd.keep k2 (fun e => (h.gl rb e).2 rfl)⟩
    exact i3.store lv' h.gx h.xr

/-- What an append and a store leave of the memory that was there when the call began. -/
theorem RecSt.keepN {G : GH} {w0 w w3 : World} {rb xb p i : Nat} {nv lv u v : Value} {ns : List Str} {vs : List Value} {o : Obj} (h : RecSt G w rb xb p nv lv ns vs) (k : Keep (one' rb) w0 w) (hx : w0.heap.size ≤ xb) (hv : v = nv ∨ v = lv) (g : (w.alloc o).grownBy w3 v.ownBlock) :
    Keep (one' rb) w0 (w3.setCell ⟨xb, i, none⟩ u) := by
  have hlo : ∀ b, v.ownBlock = some b → xb + 1 ≤ b := by
    rcases hv with rfl | rfl
    · exact fun b hb => (h.n.lt b hb).1
    · exact fun b hb => (h.l.lt b hb).1
  have k1 : Keep (fun b => v.ownBlock = some b) (w.alloc o) w3 := Keep.grown g (fun k e _ => e)
  have k2 : Keep (one' rb) w0 w3 := (k.trans (Keep.alloc _ w o)).trans' k1 (fun _ _ x => x) (fun b hb e => by have := hlo b e; omega)
  exact k2.own u hx
/-- A slice of the call's own is taken among the known blocks. -/
theorem seal_row {G : GH} {w : World} {ab rb base e : Nat} {S : ByteArray} {kw : Str → Bool} {kwf : Nat} {l : List Tok} {v : Value} {n : Nat} {xs : List Value} (hi : AInv G w ab rb S kw kwf l) (h : w.ownsRow base e 1 v n xs)
    (hg : ∀ k, v.ownBlock = some k → G k = none ∧ k ≠ rb) :
    ∃ G2, G.sub G2 ∧ AInv G2 w ab rb S kw kwf l ∧ SlR G2 v xs ∧ ∀ b, v.ownBlock ≠ some b → G2 b = G b := by
  obtain ⟨hl, h⟩ := h
  rcases h with ⟨rfl, rfl⟩ | ⟨g, cap, cur, rfl, hb, hgg, h1, h2, h3, h4⟩
  · have : xs = [] := by simpa using hl
    subst this
    exact ⟨G, GH.sub.refl G, hi, .inl ⟨rfl, rfl⟩, fun _ _ => rfl⟩
  · have hn : n = xs.length := by omega
    subst hn
    obtain ⟨hgn, hgr⟩ := hg g rfl
    obtain ⟨s2, i2⟩ := hi.take hgg hgn hgr
    refine ⟨_, s2, i2, .inr ⟨g, cur, e, cap, rfl, GH.put_same _ _ _, fun i hi => ?_⟩, fun b hb => GH.put_other _ _ (fun e => hb (by subst e; rfl))⟩
    have h5 : cur.toList[i]? = some xs[i] := by
      have : (cur.toList.take (xs.length * 1))[i]? = xs[i]? := by rw [h4]
      rw [List.getElem?_take, if_pos (by omega)] at this
      rw [this]; simp [hi]
    simpa using h5
/-- Both slices of a let rec. -/
theorem RecSt.stamp {G : GH} {w : World} {ab rb xb p : Nat} {S : ByteArray} {kw : Str → Bool} {kwf : Nat} {l : List Tok} {nv lv : Value} {ns : List Str} {vs : List Value} (h : RecSt G w rb xb p nv lv ns vs) (hi : AInv G w ab rb S kw kwf l) :
    ∃ G2, G.sub G2 ∧ AInv G2 w ab rb S kw kwf l ∧ SlR G2 nv (ns.map fun n => .string (bs n)) ∧ SlR G2 lv vs ∧ G2 xb = none ∧ ∀ b, b < xb → G2 b = G b := by
  obtain ⟨G1, s1, i1, r1, e1⟩ := seal_row hi h.n h.gn
  have hap : ∀ k, lv.ownBlock = some k → ¬ nv.ownBlock = some k := fun k hk hk' => h.apart k hk' hk
  obtain ⟨G2, s2, i2, r2, e2⟩ := seal_row i1 h.l (fun k hk => ⟨(e1 k (hap k hk)).trans (h.gl k hk).1, (h.gl k hk).2⟩)
  have hne : ∀ b, b ≤ xb → nv.ownBlock ≠ some b ∧ lv.ownBlock ≠ some b := fun b hb => ⟨fun e => by have := (h.n.lt b e).1; omega, fun e => by have := (h.l.lt b e).1; omega⟩
  have hb : ∀ b, b ≤ xb → G2 b = G b := fun b hb => (e2 b (hne b hb).2).trans (e1 b (hne b hb).1)
  exact ⟨G2, s1.trans s2, i2, r1.sub s2, r2, (hb xb (Nat.le_refl _)).trans h.gx, fun b hl => hb b (Nat.le_of_lt hl)⟩
end Go.Proofs.YtabikmkoajdhmaaDoor

/- (*ast.reader).rec by a contract, given expr's one step down. -/
namespace Go.Proofs.YtabikmkoajdhmaaDoor
open Go.RowKit

theorem own_shape {w : World} {base : Nat} {e : TypeId} {v : Value} {n : Nat} {xs : List Value} (h : w.ownsRow base e 1 v n xs) :
    ∃ ao cap, v = .slice ao n cap ∧ (0 < n → ∃ g, ao = some ⟨g, 0, none⟩ ∧ ∀ j u, xs[j]? = some u → w.cell? ⟨g, j, none⟩ = some u) := by
  have h1 := h
  rcases h.2 with ⟨rfl, rfl⟩ | ⟨g, cap, cur, rfl, rest⟩
  · exact ⟨none, 0, rfl, fun h => absurd h (Nat.lt_irrefl 0)⟩
  · refine ⟨some ⟨g, 0, none⟩, cap, rfl, fun _ => ⟨g, rfl, fun j u hu => ?_⟩⟩
    have hadd : (⟨g, 0, none⟩ : Addr).add j = ⟨g, j, none⟩ := by unfold Addr.add; split <;> simp_all
    rw [← hadd]
    exact h1.cells (g := g) rfl j u hu
theorem RecSt.mid {G : GH} {w w3 : World} {rb xb p : Nat} {nv lv v : Value} {ns : List Str} {vs : List Value} {o : Obj} (h : RecSt G w rb xb p nv lv ns vs) (hv : v = nv ∨ v = lv) (g : (w.alloc o).grownBy w3 v.ownBlock) : w3.heap[xb]? = some (.cells #[.int .i64 p, nv, lv, .nilIface] 194) := by
  have hlo : ∀ b, v.ownBlock = some b → xb + 1 ≤ b := by
    rcases hv with rfl | rfl
    · exact fun b hb => (h.n.lt b hb).1
    · exact fun b hb => (h.l.lt b hb).1
  have k1 : Keep (fun b => v.ownBlock = some b) (w.alloc o) w3 := Keep.grown g (fun k e _ => e)
  exact k1.get (heap_old h.x) (fun e => by have := hlo _ e; omega)
theorem AInv.drew {G : GH} {w : World} {ab rb : Nat} {S : ByteArray} {kw : Str → Bool} {kwf : Nat} {l : List Tok} (h : AInv G w ab rb S kw kwf l) : AInv G w.drew ab rb S kw kwf l :=
  ⟨h.holds.keep0 (Keep.drew none' w), h.ar, h.off, h.rd.keep (Keep.drew none' w) (fun x => x)⟩
theorem und_strs : Tryd.prog.underlying 39 = some (.slice 9) := by kernel_rfl
theorem und_exprs : Tryd.prog.underlying 192 = some (.slice 109) := by kernel_rfl
theorem info_str : (Tryd.prog.info? 9).map (fun i => (i.zero, i.size, i.bytes)) = some (some (.string ByteArray.empty), 1, 16) := by kernel_rfl
theorem info_expr : (Tryd.prog.info? 109).map (fun i => (i.zero, i.size, i.bytes)) = some (some .nilIface, 1, 16) := by kernel_rfl

set_option maxRecDepth 100000 in
set_option maxHeartbeats 4000000 in
theorem rec_all {kw : Str → Bool} {kwf : Nat} {S : ByteArray} (hx : Lx kw kwf S) (K : Nat) (hK : K ≤ 1000000000) (ih : ∀ j, j < K → ExprOk kwf kw S j) (G : GH) (w : World) (ab rb p : Nat) (l : List Tok) (r : Res (Ex × List Tok)) (hr : pRec K [] l = r) (hne : r ≠ none)
    (hi : AInv G w ab rb S kw kwf l) :
    Calls Tryd.prog 84 #[.pointer (some ⟨ab, 0, none⟩), .int .i64 p] w (ParsePost G w ab rb S kw kwf r) := by
  obtain ⟨is, his, zs0, zs1, zs2⟩ := info_parts info_str
  obtain ⟨ie, hie, ze0, ze1, ze2⟩ := info_parts info_expr
  have IH := Lib.hid ih; have HR := Lib.hid hr; have HNE := Lib.hid hne
  clear ih hr hne
  have i0 := hi.alloc0 (.cells #[.int .i64 p, .slice none 0 0, .slice none 0 0, .nilIface] 194)
  have hrl := hi.rd.lt
  have st0 : RecSt G (w.alloc (.cells #[.int .i64 p, .slice none 0 0, .slice none 0 0, .nilIface] 194)) rb w.heap.size p (.slice none 0 0) (.slice none 0 0) [] [] :=
    ⟨heap_new _ _, hi.holds.fresh (Nat.le_refl _), by omega, World.ownsRow_nil _ _ _ _, World.ownsRow_nil _ _ _ _, fun _ h => by simp [Value.ownBlock] at h, fun _ h => by simp [Value.ownBlock] at h, fun _ h => by simp [Value.ownBlock] at h⟩
  have HI0 := Lib.hid i0; have HST0 := Lib.hid st0
  clear i0 st0 hi
  go_enter Tryd.func84, Tryd.ntmps84
  go_wp2_with fail
  go_loopg [6] K (fun n s6 wr => ∃ (more : Bool) (acc : List (Str × Ex)) (l1 : List Tok) (G1 : GH) (nv lv : Value) (vs : List Value), n + acc.length ≤ K ∧ Hid (more = false → n < K ∧ vs ≠ [] ∧ vs.length ≤ 1000000000) ∧ s6 = .bool more ∧ Hid (AInv G1 wr ab rb S kw kwf l1) ∧ Hid (RecSt G1 wr rb w.heap.size p nv lv (acc.map (·.1)) vs) ∧ Hid (BsR G1 vs (Bs.of acc)) ∧
      Hid (Grew G w G1) ∧ Hid (Keep (one' rb) w wr) ∧ Hid (more = true → pRec n acc l1 = r) ∧ Hid (more = false → ((want (.kw IN) l1).bind fun (_, l4) => (pExp n l4).bind fun (e, l5) => some (.ok (.rc (Bs.of acc) e, l5))) = r))
  case atStart => exact ⟨true, [], l, G, _, _, [], by simp, Lib.hid (fun h => by cases h), rfl, HI0, HST0, Lib.hid .nil, Lib.hid (Grew.refl G w), Lib.hid (Keep.alloc _ _ _), Lib.hid (fun _ => HR.out), Lib.hid (fun h => by cases h)⟩
  case round =>
    clear HR HI0 HST0
    obtain ⟨more, acc, l1, G1, nv, lv, vs, hn, HLT, rfl, HI, HST, HB, HG, HKP, HR1, HR2⟩ := hrel
    have c0 := HI.out.cell
    obtain ⟨t2, t4⟩ := HI.out.tok
    cases more with
    | false =>
      have hr := HR2.out rfl; clear HR1 HR2
      have HR := Lib.hid hr; clear hr
      obtain ⟨hlt, hnv⟩ := HLT.out rfl
      have HNV := Lib.hid hnv
      clear HLT hnv
      go_wp2_with fail
      refine (want_any hx (.kw IN) good_IN ne_bad _ rb _ HI.out.rd).mono ?_
      by_cases h2 : (hd l1).kind = .kw IN
      · rw [want_yes h2]
        have hr := HR.out; rw [want_yes h2] at hr; simp only [Res.bind] at hr; clear HR h2
        have HR := Lib.hid hr; clear hr
        rintro e w2 ⟨k2, rfl, r2⟩
        have HI2 := Lib.hid (HI.out.step k2 r2)
        have HST2 := Lib.hid (HST.out.step k2 (Grew.refl G1 _))
        have HKP2 := Lib.hid (keepT HKP.out k2)
        have c2 := HI2.out.cell
        go_wp2_with fail
        cases hp : pExp gk (adv l1) with
        | none => exact absurd (by rw [← HR.out, hp]) HNE.out
        | some rr =>
          refine (IH.out gk hlt G1 w2 ab rb _ (some rr) hp (by simp) HI2.out).mono ?_
          have hr := HR.out; rw [hp] at hr; clear HR
          cases rr with
          | error q =>
            simp only at hr
            rintro e w4 ⟨k4, rfl⟩
            go_wp2_with fail
            subst hr
            exact ⟨rfl, keepT HKP2.out k4, rfl⟩
          | ok yl =>
            obtain ⟨y, l4⟩ := yl
            simp only at hr
            have HR := Lib.hid hr; clear hr hp
            rintro e w4 ⟨k4, u, G4, rfl, s4, i4, y4⟩
            obtain ⟨Tu, bu, rfl⟩ := y4.shape
            have HST4 := Lib.hid (HST2.out.step k4 s4)
            have HKP4 := Lib.hid (keepT HKP2.out k4)
            have d3 : w4.cell? ⟨w.heap.size, 3, none⟩ = some .nilIface := cell_of_heap HST4.out.x rfl
            have f3 : w4.frozen? ⟨w.heap.size, 3, none⟩ = false := free_of_heap HST4.out.x
            have HGR := Lib.hid (HG.out.trans HKP2.out s4)
            have HBS := Lib.hid (HB.out.sub s4.sub)
            clear HI HST HI2 HST2 HKP HKP2 HB HG k2 k4 r2 c0 c2 t2 t4 s4
            go_wp2_with fail
            go_ret
            refine ⟨Keep.own _ HKP4.out (Nat.le_refl _), ?_⟩
            rw [← HR.out]
            obtain ⟨G5, s5, i5, n5, l5, x5, e5⟩ := HST4.out.stamp i4
            have hb8 := heap_set_same (i := 3) (u := .iface Tu (.pointer (some ⟨bu, 0, none⟩))) HST4.out.x
            obtain ⟨s8, i8⟩ := (i5.store (i := 3) (.iface Tu (.pointer (some ⟨bu, 0, none⟩))) x5 HST4.out.xr).take hb8 x5 HST4.out.xr
            refine ⟨_, _, rfl, ⟨HGR.out.sub.trans (s5.trans s8), fun b hb => ?_⟩, i8, ?_⟩
            · rw [GH.put_other _ _ (by omega)]; exact (e5 b hb).trans (HGR.out.eq b hb)
            · refine ExR.rc (GH.put_same _ _ _) ?_ (l5.sub s8) ((HBS.out.sub s5).sub s8) HNV.out ((y4.sub s5).sub s8)
              rw [names_of]; exact n5.sub s8
      · rw [want_no h2]
        have hr := HR.out; rw [want_no h2] at hr; simp only [Res.bind] at hr; clear HR h2
        rintro e w2 ⟨k2, rfl⟩
        go_wp2_with fail
        subst hr
        exact ⟨rfl, keepT HKP.out k2, rfl⟩
    | true =>
      cases gk with
      | zero => exact absurd (by rw [← HR1.out rfl]; rfl) HNE.out
      | succ n =>
        have hr := HR1.out rfl; simp only [pRec] at hr; clear HR1 HR2
        have HR := Lib.hid hr; clear hr
        go_wp2_with fail
        refine (want_any hx .name good_name (by decide) _ rb _ HI.out.rd).mono ?_
        by_cases h2 : (hd l1).kind = .name
        · rw [want_yes h2]
          have hr := HR.out; rw [want_yes h2] at hr; simp only [Res.bind] at hr; clear HR h2
          have HR := Lib.hid hr; clear hr
          rintro e w2 ⟨k2, rfl, r2⟩
          have HI2 := Lib.hid (HI.out.step k2 r2)
          have HST2 := Lib.hid (HST.out.step k2 (Grew.refl G1 _))
          have HKP2 := Lib.hid (keepT HKP.out k2)
          clear HI HST HKP t2 t4 c0 k2 r2
          obtain ⟨ao, cap, hnv, hcs⟩ := own_shape HST2.out.n
          have c0 := HI2.out.cell
          have d1 : w2.cell? ⟨w.heap.size, 1, none⟩ = some nv := cell_of_heap HST2.out.x rfl
          rw [List.length_map] at hnv hcs
          subst hnv
          have HCS := Lib.hid hcs; clear hcs
          go_wp2_with fail
          go_loopg [38] acc.length (fun m s38 wr2 => ∃ j : Nat, j ≤ acc.length ∧ Hid (m = acc.length - j) ∧ s38 = .int .i64 j ∧ wr2 = w2 ∧ Hid (∀ i (h : i < acc.length), i < j → ¬ acc[i].1 = (hd l1).text))
          case atStart => exact ⟨0, Nat.zero_le _, Lib.hid rfl, rfl, rfl, Lib.hid (fun i h h' => by omega)⟩
          case round =>
            obtain ⟨j, hj, Hm, rfl, rfl, HND⟩ := hrel
            by_cases hlt : j < acc.length
            · obtain ⟨g, rfl, hcs⟩ := HCS.out (by omega)
              have cj : wr.cell? ⟨g, j, none⟩ = some (.string (bs acc[j].1)) := hcs j _ (by simp [hlt])
              have hjl : ((j : Int) < (acc.length : Int)) := by omega
              clear hcs HCS
              by_cases hd1 : acc[j].1 = (hd l1).text
              · have hq : ((bs acc[j].1).toList == (bs (hd l1).text).toList) = true := by rw [str_ne]; simpa using hd1
                have HA : Hid (acc.any (fun b => b.1 == (hd l1).text) = true) := Lib.hid (by rw [List.any_eq_true]; exact ⟨acc[j], List.getElem_mem _, by simpa using hd1⟩)
                clear hd1
                go_wp2_with fail
                refine (fail_any _ _).mono ?_
                rintro e w4 ⟨rfl, rfl⟩
                go_wp2_with fail
                have hr := HR.out; rw [if_pos HA.out] at hr
                subst hr
                exact ⟨rfl, HKP2.out, rfl⟩
              · have hq : ((bs acc[j].1).toList == (bs (hd l1).text).toList) = false := by rw [str_ne]; simpa using hd1
                have HND2 : Hid (∀ i (h : i < acc.length), i < j + 1 → ¬ acc[i].1 = (hd l1).text) := Lib.hid (fun i h h' => by
                  rcases (show i < j ∨ i = j by omega) with e | rfl
                  · exact HND.out i h e
                  · exact hd1)
                clear hd1 HND
                go_wp2_with fail
                go_roundg (acc.length - (j + 1))
                case measure => have := Hm.out; omega
                case rel => exact ⟨j + 1, by omega, Lib.hid rfl, rfl, rfl, HND2⟩
            · have hje : j = acc.length := by omega
              subst hje
              have HA : Hid (¬ acc.any (fun b => b.1 == (hd l1).text) = true) := Lib.hid (by
                rw [List.any_eq_true]
                rintro ⟨b, hb, hb2⟩
                obtain ⟨i, hi, rfl⟩ := List.getElem_of_mem hb
                exact HND.out i hi hi (by simpa using hb2))
              clear HND Hm HCS
              have hr := HR.out; rw [if_neg HA.out] at hr; clear HR HA
              have HR := Lib.hid hr; clear hr
              go_wp2_with fail
              refine (want_any hx (.kw EQ) good_EQ ne_bad _ rb _ HI2.out.rd).mono ?_
              by_cases h3 : (hd (adv l1)).kind = .kw EQ
              · rw [want_yes h3]
                have hr := HR.out; rw [want_yes h3] at hr; simp only [Res.bind] at hr; clear HR h3
                have HR := Lib.hid hr; clear hr
                rintro e w3 ⟨k3, rfl, r3⟩
                have HI3 := Lib.hid (HI2.out.step k3 r3)
                have HST3 := Lib.hid (HST2.out.step k3 (Grew.refl G1 _))
                have HKP3 := Lib.hid (keepT HKP2.out k3)
                clear HI2 HST2 HKP2 c0 d1 k3 r3
                have c0 := HI3.out.cell
                have d1 : w3.cell? ⟨w.heap.size, 1, none⟩ = some (.slice ao acc.length cap) := cell_of_heap HST3.out.x rfl
                have hsz3 := lt_of_heap HST3.out.x
                have own3 := HST3.out.n
                rw [List.length_map] at own3
                go_wp2_with (first | (at_builtin; refine wpList_append_own_at _ rfl _ _ 39 rfl (w.heap.size + 1) 9 is (.string ByteArray.empty) 1 16 und_strs his zs0 zs1 zs2 rfl (by decide) (.slice ao acc.length cap) acc.length _ rfl (own3.alloc _) ⟨w3.heap.size, 0, none⟩ 1 1 [.string (bs (hd l1).text)] rfl rfl (cell_one_new _ _ _) (fun x hx => by simp at hx; subst hx; rfl) (by unfold maxLen; omega) (by omega) (by simp; omega) ?_; intro v4 w4 own4 g4 _ at4; obtain ⟨ao4, cap4, rfl, _⟩ := own_shape own4; have x4 := HST3.out.mid (.inl rfl) g4; have m1 : w4.cell? ⟨w.heap.size, 1, none⟩ = some (.slice ao acc.length cap) := cell_of_heap x4 rfl; have m2 : w4.frozen? ⟨w.heap.size, 1, none⟩ = false := free_of_heap x4))
                obtain ⟨st5, i5⟩ := HST3.out.name HI3.out (by rw [List.length_map]; exact own4) g4 at4
                have HKP5 := Lib.hid (HST3.out.keepN (i := 1) (u := .slice ao4 (acc.length + 1) cap4) HKP3.out (Nat.le_refl _) (.inl rfl) g4)
                have HST5 := Lib.hid st5; have HI5 := Lib.hid i5
                clear st5 i5 HST3 HI3 HKP3 own3 own4 g4 at4 x4 c0 d1
                obtain ⟨aoL, capL, hlv, _⟩ := own_shape HST5.out.l
                subst hlv
                have z2 : (w4.setCell ⟨w.heap.size, 1, none⟩ (.slice ao4 (acc.length + 1) cap4)).cell? ⟨w.heap.size, 2, none⟩ = some (.slice aoL vs.length capL) := cell_of_heap HST5.out.x rfl
                have i6 := HI5.out.drew
                cases hp : pExp n (adv (adv l1)) with
                | none => exact absurd (by rw [← HR.out, hp]) HNE.out
                | some rr =>
                  have HEX := Lib.hid (IH.out n (by omega) G1 _ ab rb _ (some rr) hp (by simp) i6)
                  have hr := HR.out; rw [hp] at hr; clear HR hp i6
                  have HR := Lib.hid hr; clear hr
                  have hnr : w.heap.size ≠ rb := HST5.out.xr
                  have HVL : Hid (vs.length = acc.length) := Lib.hid HB.out.len
                  have hxl := lt_of_heap HST5.out.x
                  have zS : (w4.setCell ⟨w.heap.size, 1, none⟩ (.slice ao4 (acc.length + 1) cap4)).drew.cell? ⟨w.heap.size, 2, none⟩ = some (.slice aoL vs.length capL) := z2
                  refine wp_region_float (fun w' => w'.cell? ⟨w.heap.size, 2, none⟩ = some (.slice aoL vs.length capL)) [0, 1, 2, 3, 5] [4] (by kernel_rfl) ?_
                  (refine float0 (i := 0) (v := ?_) rfl (by kernel_rfl) (by kernel_rfl) (by kernel_rfl) (by kernel_rfl) (fun _ _ _ h => h) (by rfl) ?_ ?_); rotate_left
                  (intro wF; go_simp; try with_reducible rfl)
                  (try simp only [Act.put, List.setIfInBounds_toArray, List.set_cons_zero, List.set_cons_succ])
                  (refine float0 (i := 1) (v := ?_) rfl (by kernel_rfl) (by kernel_rfl) (by kernel_rfl) (by kernel_rfl) (fun _ _ _ h => h) (by rfl) ?_ ?_); rotate_left
                  (intro wF; go_simp; try with_reducible rfl)
                  (try simp only [Act.put, List.setIfInBounds_toArray, List.set_cons_zero, List.set_cons_succ])
                  (refine float0 (i := 2) (v := ?_) rfl (by kernel_rfl) (by kernel_rfl) (by kernel_rfl) (by kernel_rfl) (fun _ _ _ h => h) (by rfl) ?_ ?_); rotate_left
                  (intro wF; go_simp; try with_reducible rfl)
                  (try simp only [Act.put, List.setIfInBounds_toArray, List.set_cons_zero, List.set_cons_succ])
                  (refine float0 (i := 3) (v := ?_) rfl (by kernel_rfl) (by kernel_rfl) (by kernel_rfl) (by kernel_rfl) (fun _ _ _ h => h) (by rfl) ?_ ?_); rotate_left
                  (intro wF; go_simp; try with_reducible rfl)
                  (try simp only [Act.put, List.setIfInBounds_toArray, List.set_cons_zero, List.set_cons_succ])
                  (refine floatS (i := 4) (v := ?_) rfl (by kernel_rfl) (by kernel_rfl) (by kernel_rfl) (by kernel_rfl) (fun _ _ _ h => h) (by assumption) (by rfl) ?_ ?_); rotate_left
                  (intro wF hF; (try dsimp only at hF); go_simp; try with_reducible rfl)
                  (try simp only [Act.put, List.setIfInBounds_toArray, List.set_cons_zero, List.set_cons_succ])
                  (refine float0 (i := 5) (v := ?_) rfl (by kernel_rfl) (by kernel_rfl) (by kernel_rfl) (by kernel_rfl) (fun _ _ _ h => h) (by rfl) ?_ ?_); rotate_left
                  (intro wF; go_simp; try with_reducible rfl)
                  (try simp only [Act.put, List.setIfInBounds_toArray, List.set_cons_zero, List.set_cons_succ])
                  (refine floatM (i := 6) rfl (by kernel_rfl) (by kernel_rfl) (fun K hK => ?_)); go_simp
                  refine HEX.out.mono ?_
                  rintro e w7 ⟨k7, h7⟩
                  cases rr with
                  | error q =>
                    subst h7
                    have hr := HR.out; simp only at hr
                    go_wp2_with fail
                    subst hr
                    exact ⟨rfl, keepT HKP5.out (keepT (Keep.drew _ _) k7), rfl⟩
                  | ok xl =>
                    obtain ⟨b, l3⟩ := xl
                    have hr := HR.out; simp only at hr; clear HR
                    have HR := Lib.hid hr; clear hr
                    obtain ⟨v, G7, rfl, s7, i7, y7⟩ := h7
                    have z7 : w7.cell? ⟨w.heap.size, 2, none⟩ = some (.slice aoL vs.length capL) := k7.cell_some z2 hnr
                    have st7 := HST5.out.step (keepT (Keep.drew (one' rb) _) k7) (Grew.keep (Keep.drew none' _) s7)
                    have h7x := st7.x
                    have hl7 := lt_of_heap h7x
                    obtain ⟨Tv, bv, rfl⟩ := y7.shape
                    clear HEX
                    go_wp2_with fail
                    refine hK.out _ _ (fun _ => z7) ?_
                    clear hK K
                    (try simp only [Act.put, List.setIfInBounds_toArray, List.set_cons_zero, List.set_cons_succ])
                    (refine floatM (i := 7) rfl (by kernel_rfl) (by kernel_rfl) (fun K hK => ?_)); go_simp
                    refine hK.out _ _ (fun _ => cell_of_heap (heap_old h7x) rfl) ?_
                    clear hK K
                    (try simp only [Act.put, List.setIfInBounds_toArray, List.set_cons_zero, List.set_cons_succ])
                    (refine floatT (l := _) (k := 8) rfl rfl (by kernel_rfl) ?_)
                    have own7 := st7.l.alloc (.cells #[.iface Tv (.pointer (some ⟨bv, 0, none⟩))] 109)
                    refine wpList_append_own_at _ rfl _ _ 192 rfl (w.heap.size + 1) 109 ie .nilIface 1 16 und_exprs hie ze0 ze1 ze2 rfl (by decide) (.slice aoL vs.length capL) vs.length vs rfl own7 ⟨w7.heap.size, 0, none⟩ 1 1 [.iface Tv (.pointer (some ⟨bv, 0, none⟩))] rfl rfl (cell_one_new _ _ _) (fun x hx => by simp at hx; subst hx; rfl) (by have := HVL.out; unfold maxLen; omega) (by have := HVL.out; omega) (by simp; omega) ?_
                    intro v8 w8 own8 g8 _ at8
                    obtain ⟨ao8, cap8, rfl, _⟩ := own_shape own8
                    have h8 := st7.mid (.inr rfl) g8
                    have e8 : w8.cell? ⟨w.heap.size, 2, none⟩ = some (.slice aoL vs.length capL) := cell_of_heap h8 rfl
                    have f8 : w8.frozen? ⟨w.heap.size, 2, none⟩ = false := free_of_heap h8
                    obtain ⟨st9, i9⟩ := st7.body i7 own8 g8 at8
                    have HKP9 := Lib.hid (st7.keepN (i := 2) (u := .slice ao8 (vs.length + 1) cap8) (keepT HKP5.out (keepT (Keep.drew _ _) k7)) (Nat.le_refl _) (.inr rfl) g8)
                    have HBS := Lib.hid ((HB.out.sub s7.sub).snoc (n := (hd l1).text) y7)
                    have HGR := Lib.hid (HG.out.trans (keepT HKP5.out (Keep.drew _ _)) s7)
                    have HST9 := Lib.hid st9; have HI9 := Lib.hid i9
                    have c9 := HI9.out.cell
                    clear st9 i9 st7 HST5 HI5 HKP5 own8 g8 at8 h8 own7 HB HG y7 s7 i7 k7 z7 h7x zS z2 hxl hl7
                    go_wp2_with fail
                    refine (take_any hx (.kw AND) good_AND ne_bad _ rb _ HI9.out.rd).mono ?_
                    rintro e w10 ⟨k10, h10⟩
                    have HST10 := Lib.hid (HST9.out.step k10 (Grew.refl G7 _))
                    have HKP10 := Lib.hid (keepT HKP9.out k10)
                    by_cases hA : (hd l3).kind = .kw AND
                    · rw [if_pos hA] at h10
                      obtain ⟨rfl, r10⟩ := h10
                      have HI10 := Lib.hid (HI9.out.step k10 r10)
                      have hr := HR.out; rw [if_pos hA] at hr; clear HR
                      have HR := Lib.hid hr; clear hr hA k10 r10
                      go_wp2_with fail
                      go_roundg n
                      case measure => omega
                      case rel => exact ⟨true, acc ++ [((hd l1).text, b)], adv l3, G7, _, _, _, by simp; omega, Lib.hid (fun h => by cases h), rfl, HI10, Lib.hid (by have := HST10.out; simpa using this), HBS, HGR, HKP10, Lib.hid (fun _ => HR.out), Lib.hid (fun h => by cases h)⟩
                    · rw [if_neg hA] at h10
                      obtain ⟨rfl, rfl⟩ := h10
                      have hr := HR.out; rw [if_neg hA] at hr; clear HR
                      have HR := Lib.hid hr; clear hr hA k10
                      go_wp2_with fail
                      go_roundg n
                      case measure => omega
                      case rel => exact ⟨false, acc ++ [((hd l1).text, b)], l3, G7, _, _, _, by simp; omega, Lib.hid (fun _ => ⟨by omega, by simp, by have := HVL.out; simp; omega⟩), rfl, HI9, Lib.hid (by have := HST10.out; simpa using this), HBS, HGR, HKP10, Lib.hid (fun h => by cases h), Lib.hid (fun _ => HR.out)⟩
              · rw [want_no h3]
                have hr := HR.out; rw [want_no h3] at hr; simp only [Res.bind] at hr; clear HR h3
                rintro e w3 ⟨k3, rfl⟩
                go_wp2_with fail
                subst hr
                exact ⟨rfl, keepT HKP2.out k3, rfl⟩
        · rw [want_no h2]
          have hr := HR.out; rw [want_no h2] at hr; simp only [Res.bind] at hr; clear HR h2
          rintro e w2 ⟨k2, rfl⟩
          go_wp2_with fail
          subst hr
          exact ⟨rfl, keepT HKP.out k2, rfl⟩
end Go.Proofs.YtabikmkoajdhmaaDoor

/- (*ast.reader).expr and atom by contracts, whatever the tokens: by induction on the plain parser's fuel. -/
namespace Go.Proofs.YtabikmkoajdhmaaDoor
open Go.RowKit

set_option maxRecDepth 100000 in
set_option maxHeartbeats 4000000 in
theorem expr_rec {kw : Str → Bool} {kwf : Nat} {S : ByteArray} (hx : Lx kw kwf S) (k : Nat) (hK : k ≤ 1000000000) (ih : ∀ j, j < k → ExprOk kwf kw S j) (G : GH) (w : World) (ab rb : Nat) (l : List Tok) (r : Res (Ex × List Tok)) (hr : pExp (k + 1) l = r) (hne : r ≠ none)
    (hi : AInv G w ab rb S kw kwf l) (hk : (hd l).kind = .kw LET) (hk2 : (hd (adv l)).kind = .kw REC) :
    Calls Tryd.prog 68 #[.pointer (some ⟨ab, 0, none⟩)] w (ParsePost G w ab rb S kw kwf r) := by
  have c0 := hi.cell
  obtain ⟨t2, t4⟩ := hi.tok
  have e1 : ¬ (hd l).kind = .kw FUN := by rw [hk]; decide
  have e2 : ¬ (hd l).kind = .kw IF := by rw [hk]; decide
  simp only [pExp, if_neg e1, if_neg e2, if_pos hk, if_pos hk2] at hr
  have IH := Lib.hid ih; have HR := Lib.hid hr; have HNE := Lib.hid hne
  clear ih hr hne
  go_enter Tryd.func68, Tryd.ntmps68
  go_wp2_with fail
  refine (take_any hx (.kw FUN) good_FUN ne_bad _ rb l hi.rd).mono ?_
  rintro e wa ⟨ka, ha⟩
  rw [if_neg e1] at ha
  obtain ⟨rfl, rfl⟩ := ha
  go_wp2_with fail
  refine (take_any hx (.kw IF) good_IF ne_bad _ rb l hi.rd).mono ?_
  rintro e wa ⟨kb, ha⟩
  rw [if_neg e2] at ha
  obtain ⟨rfl, rfl⟩ := ha
  go_wp2_with fail
  refine (take_any hx (.kw LET) good_LET ne_bad _ rb l hi.rd).mono ?_
  rintro e w1 ⟨k1, h1⟩
  rw [if_pos hk] at h1
  obtain ⟨rfl, r1⟩ := h1
  have i1 := hi.step k1 r1
  have c1 := i1.cell
  clear t2 hk e1 e2
  go_wp2_with fail
  refine (take_any hx (.kw REC) good_REC ne_bad _ rb _ i1.rd).mono ?_
  rintro e w2 ⟨k2, h2⟩
  rw [if_pos hk2] at h2
  obtain ⟨rfl, r2⟩ := h2
  have i2 := i1.step k2 r2
  have c2 := i2.cell
  clear hk2
  go_wp2_with fail
  refine (rec_all hx k hK IH.out G w2 ab rb _ _ r HR.out HNE.out i2).mono ?_
  rintro e w3 ⟨k3, h3⟩
  cases r with
  | none => exact absurd rfl HNE.out
  | some rr =>
    cases rr with
    | error q =>
      subst h3
      go_wp2_with fail
      exact ⟨rfl, keepT k1 (keepT k2 k3), rfl⟩
    | ok xl =>
      obtain ⟨x, l3⟩ := xl
      obtain ⟨v, G3, rfl, s3, i3, x3⟩ := h3
      obtain ⟨Tv, bv, rfl⟩ := x3.shape
      go_wp2_with fail
      go_ret
      exact ⟨keepT k1 (keepT k2 k3), _, _, rfl, Grew.keep (keepT k1 k2) s3, i3, x3⟩

theorem parse_ok {kw : Str → Bool} {kwf : Nat} {S : ByteArray} (hx : Lx kw kwf S) : ∀ k, k ≤ 1000000000 → ExprOk kwf kw S k ∧ AtomOk kwf kw S k := by
  intro k
  induction k using Nat.strongRecOn with
  | _ k ih =>
    intro hK
    cases k with
    | zero => exact ⟨fun _ _ _ _ _ r hr hne => absurd hr.symm (by simpa [pExp] using hne), fun _ _ _ _ _ r hr hne => absurd hr.symm (by simpa [pAtom] using hne)⟩
    | succ k =>
      have hE : ∀ j, j ≤ k → ExprOk kwf kw S j := fun j hj => (ih j (by omega) (by omega)).1
      have hA : ∀ j, j ≤ k → AtomOk kwf kw S j := fun j hj => (ih j (by omega) (by omega)).2
      refine ⟨fun G w ab rb l r hr hne hi => ?_, fun G w ab rb l r hr hne hi => ?_⟩
      · by_cases e1 : (hd l).kind = .kw FUN
        · exact expr_fun hx k (hE k (Nat.le_refl _)) G w ab rb l r hr hne hi e1
        by_cases e2 : (hd l).kind = .kw IF
        · exact expr_if hx k (hE k (Nat.le_refl _)) G w ab rb l r hr hne hi e2
        by_cases e3 : (hd l).kind = .kw LET
        · by_cases e4 : (hd (adv l)).kind = .kw REC
          · exact expr_rec hx k (by omega) (fun j hj => hE j (by omega)) G w ab rb l r hr hne hi e3 e4
          · exact expr_let hx k (hE k (Nat.le_refl _)) G w ab rb l r hr hne hi e3 e4
        · exact expr_app hx k hA G w ab rb l r hr hne hi e1 e2 e3
      · by_cases e1 : (hd l).kind = .name
        · have : pAtom (k + 1) l = some (.ok (.name (hd l).pos (hd l).text, adv l)) := by simp only [pAtom, if_pos e1]
          rw [this] at hr; subst hr
          exact atom_name hx G w ab rb l hi e1
        by_cases e2 : (hd l).kind = .num
        · have : pAtom (k + 1) l = some (.ok (.num (hd l).text, adv l)) := by simp only [pAtom, if_neg e1, if_pos e2]
          rw [this] at hr; subst hr
          exact atom_num hx G w ab rb l hi e2
        · exact atom_paren hx k (hE k (Nat.le_refl _)) G w ab rb l r hr hne hi e1 e2
end Go.Proofs.YtabikmkoajdhmaaDoor
