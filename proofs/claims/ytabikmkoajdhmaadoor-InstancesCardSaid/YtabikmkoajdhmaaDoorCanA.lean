/- The reference's types in memory; its reader of types with the names it has met: words and plain lemmas. -/
import Derived.Test.YtabikmkoajdhmaaDoorTrX
import Derived.Test.YtabikmkoajdhmaaDoorTrTSpec
import Derived.Test.YtabikmkoajdhmaaDoorTrMatch
import Derived.Test.YtabikmkoajdhmaaDoorTrDeep
import Derived.Test.YtabikmkoajdhmaaDoorTrText
set_option linter.unusedVariables false
set_option linter.unusedSimpArgs false
set_option linter.unnecessarySimpa false
namespace Go.Proofs.YtabikmkoajdhmaaDoor
open Go.RowKit

def rLIST : Str := [108, 105, 115, 116]
def Ty.rk : Ty → Str
  | .var _ => []
  | .int => INT
  | .bool => BOOL
  | .list _ => rLIST
  | .pair _ _ => rPAIR
  | .fn _ _ => FUN
def Ty.rv : Ty → Nat
  | .var v => v - 1
  | _ => 0
def Ty.rl : Ty → List Ty
  | .list a => [a]
  | .pair a b => [a, b]
  | .fn a b => [a, b]
  | _ => []
def tO (k : Str) (v : Nat) (lv : Value) : Obj := .cells #[.string (bs k), .int .i64 v, lv] 92
inductive RTy (G : GH) : Nat → Ty → Prop
  | mk {b : Nat} {t : Ty} {lv : Value} {ks : List Nat} : G b = some (tO t.rk t.rv lv) → SlR G lv (ks.map ptr) → ks.length = t.rl.length → (∀ i (h : i < ks.length) (h2 : i < t.rl.length), RTy G ks[i] t.rl[i]) → RTy G b t
theorem RTy.sub {G G' : GH} (hs : G.sub G') {b : Nat} {t : Ty} (h : RTy G b t) : RTy G' b t := by
  induction h with
  | mk h1 h2 h3 _ ih => exact .mk (hs _ _ h1) (h2.sub hs) h3 ih
/-- The reader of a type's text, with the names' variable nb; what is of the names lies behind base. -/
structure TI (G : GH) (R : Rdr) (nb base : Nat) (st : TS) (s : RS) (w : World) : Prop where
  holds : Holds G w
  gtb : G R.tb = some (.cells R.arr 121)
  offr : G R.rb = none
  offn : G nb = none
  rl : R.rb < base
  nl : nb < base
  bl : base ≤ w.heap.size
  ne : R.rb ≠ nb
  ri : RdI R.x R.T R.tb R.arr R.lv R.rb s w
  nm : s.bad = none → ∃ sv, w.heap[nb]? = some (.cells #[sv] 39) ∧ w.ownsRow base 9 1 sv st.m.length (st.m.map fun p => .string (bs p.1)) ∧ ∀ g, sv.ownBlock = some g → G g = none
  ok : TSok st
  cnt : s.bad = none → st.m.length + s.l.length ≤ R.T.length
/-- What a call may touch. -/
def Fr (G : GH) (R : Rdr) (nb base : Nat) (b : Nat) : Prop := b = R.rb ∨ b = nb ∨ (base ≤ b ∧ G b = none)
theorem TI.off1 {G : GH} {R : Rdr} {nb base : Nat} {st : TS} {s : RS} {w : World} (h : TI G R nb base st s w) : G.off (one' R.rb) := fun b o hb (e : b = R.rb) => by
  subst e; rw [h.offr] at hb; cases hb
theorem TI.step {G : GH} {R : Rdr} {nb base : Nat} {st : TS} {s s' : RS} {w w' : World} (h : TI G R nb base st s w) (k : RdPost R.x R.T R.tb R.arr R.lv R.rb s' w w') (hb : s'.bad = none → s.bad = none) (hl : s'.l.length ≤ s.l.length) : TI G R nb base st s' w' :=
  ⟨h.holds.keep k.1 h.off1, h.gtb, h.offr, h.offn, h.rl, h.nl, Nat.le_trans h.bl k.1.size, h.ne, k.2, fun e => by
    obtain ⟨sv, h1, h2, h3⟩ := h.nm (hb e)
    exact ⟨sv, k.1.get h1 (fun (e : nb = R.rb) => h.ne e.symm), own_keep h2 k.1 (fun g hg (e : g = R.rb) => by have := (h2.lt g hg).1; have := h.rl; omega), h3⟩, h.ok, fun e => by have := h.cnt (hb e); omega⟩
theorem TI.keep0 {G : GH} {R : Rdr} {nb base : Nat} {st : TS} {s : RS} {w w' : World} (h : TI G R nb base st s w) (k : Keep none' w w') : TI G R nb base st s w' :=
  ⟨h.holds.keep0 k, h.gtb, h.offr, h.offn, h.rl, h.nl, Nat.le_trans h.bl k.size, h.ne, h.ri.keep k (fun x => x) (fun x => x), fun e => by
    obtain ⟨sv, h1, h2, h3⟩ := h.nm e
    exact ⟨sv, k.get h1 (fun x => x), own_keep h2 k (fun g hg e => e), h3⟩, h.ok, h.cnt⟩
theorem TI.put {G : GH} {R : Rdr} {nb base : Nat} {st : TS} {s : RS} {w : World} (h : TI G R nb base st s w) (o : Obj) : Grew G w (G.put w.heap.size o) ∧ TI (G.put w.heap.size o) R nb base st s (w.alloc o) := by
  have hf : G w.heap.size = none := h.holds.fresh (Nat.le_refl _)
  have hrl := h.rl; have hnl := h.nl; have hbl := h.bl
  have htb : R.tb ≠ w.heap.size := by have := lt_of_heap h.ri.hb; omega
  have k : Keep none' w (w.alloc o) := Keep.alloc _ _ _
  refine ⟨⟨GH.sub_put hf, fun b hb => GH.put_other _ _ (by omega)⟩, (h.holds.keep0 k).put (heap_new w o), by rw [GH.put_other _ _ htb]; exact h.gtb, by rw [GH.put_other _ _ (by omega)]; exact h.offr, by rw [GH.put_other _ _ (by omega)]; exact h.offn, h.rl, h.nl, Nat.le_trans h.bl k.size, h.ne, h.ri.keep k (fun x => x) (fun x => x), fun e => ?_, h.ok, h.cnt⟩
  obtain ⟨sv, h1, h2, h3⟩ := h.nm e
  exact ⟨sv, k.get h1 (fun x => x), own_keep h2 k (fun g hg e => e), fun g hg => by rw [GH.put_other _ _ (by have := (h2.lt g hg).2; omega)]; exact h3 g hg⟩
theorem TI.two {G : GH} {R : Rdr} {nb base : Nat} {st : TS} {s : RS} {w : World} (h : TI G R nb base st s w) (o u : Obj) : Grew G w ((G.put w.heap.size o).put (w.heap.size + 1) u) ∧ TI ((G.put w.heap.size o).put (w.heap.size + 1) u) R nb base st s ((w.alloc o).alloc u) := by
  obtain ⟨g1, h1⟩ := h.put o
  obtain ⟨g2, h2⟩ := h1.put u
  rw [size_alloc] at g2 h2
  exact ⟨g1.trans (Keep.alloc none' w o) g2, h2⟩
theorem Fr.trans {G G1 : GH} {R : Rdr} {nb base : Nat} {w w1 w2 : World} (k : Keep (Fr G R nb base) w w1) (g : Grew G w G1) (k2 : Keep (Fr G1 R nb base) w1 w2) : Keep (Fr G R nb base) w w2 :=
  k.trans' k2 (fun _ _ x => x) (fun b hb e => by
    rcases e with e | e | ⟨e1, e2⟩
    · exact .inl e
    · exact .inr (.inl e)
    · exact .inr (.inr ⟨e1, (g.eq b hb).symm.trans e2⟩))
theorem Fr.one {G : GH} {R : Rdr} {nb base : Nat} {w w1 : World} (k : Keep (one' R.rb) w w1) : Keep (Fr G R nb base) w w1 := k.mono fun _ _ e => .inl e
theorem Fr.zero {G : GH} {R : Rdr} {nb base : Nat} {w w1 : World} (k : Keep none' w w1) : Keep (Fr G R nb base) w w1 := k.mono fun _ _ e => e.elim
def RtPost (G : GH) (R : Rdr) (nb base : Nat) (w : World) (q : Ty × TS × RS) (e : Ending) (w' : World) : Prop :=
  Keep (Fr G R nb base) w w' ∧ ∃ b G', e = .returned (.pointer (some ⟨b, 0, none⟩)) ∧ Grew G w G' ∧ TI G' R nb base q.2.1 q.2.2 w' ∧ (q.2.2.bad = none → RTy G' b q.1)
def TWhole (R : Rdr) (nb base f : Nat) : Prop := ∀ (st : TS) (s : RS) (q : Ty × TS × RS), s.bad = none → rWhole f st s = some q → ∀ (G : GH) (w : World), TI G R nb base st s w → Calls Tryd.prog 28 #[.pointer (some ⟨R.rb, 0, none⟩), .pointer (some ⟨nb, 0, none⟩)] w (RtPost G R nb base w q)
def TOne (R : Rdr) (nb base f : Nat) : Prop := ∀ (st : TS) (s : RS) (q : Ty × TS × RS), s.bad = none → rOne f st s = some q → ∀ (G : GH) (w : World), TI G R nb base st s w → Calls Tryd.prog 54 #[.pointer (some ⟨R.rb, 0, none⟩), .pointer (some ⟨nb, 0, none⟩)] w (RtPost G R nb base w q)
theorem gr_INT : goodR (.kw INT) := good_r (by decide)
theorem gr_BOOL : goodR (.kw BOOL) := good_r (by decide)
theorem gr_LB : goodR (.kw LB) := good_r (by decide)
theorem gr_RB : goodR (.kw RB) := good_r (by decide)
theorem isK_good {s : RS} {k : TK} (h : s.isK k = true) : s.bad = none := by
  unfold RS.isK at h; simp only [Bool.and_eq_true, Option.isNone_iff_eq_none] at h; exact h.1
theorem isK_step_bad {s : RS} {k : TK} (h : s.isK k = true) : s.step.bad = none := by
  show s.bad = none
  exact isK_good h
theorem adv_len (l : List Tok) : (adv l).length ≤ l.length := by
  match l with
  | [] => exact Nat.le_refl _
  | [_] => exact Nat.le_refl _
  | _ :: _ :: _ => simp [adv]
theorem need_len (s : RS) (k : TK) : (s.need k).l.length ≤ s.l.length := by
  unfold RS.need
  split
  · exact adv_len _
  · split
    · exact Nat.le_refl _
    · exact Nat.le_refl _
theorem take_back {s : RS} {k : TK} (h : (if s.isK k then s.step else s).bad = none) : s.bad = none := by
  split at h
  · exact h
  · exact h
/-! ### types in memory, made -/
theorem RTy.leaf {G : GH} {b : Nat} {t : Ty} (hb : G b = some (tO t.rk t.rv (.slice none 0 0))) (hl : t.rl = []) : RTy G b t := .mk (ks := []) hb (.inl ⟨rfl, rfl⟩) (by rw [hl]; rfl) (fun i h _ => by cases h)
theorem RTy.one {G : GH} {b c : Nat} {t u : Ty} {lv : Value} (hb : G b = some (tO t.rk t.rv lv)) (hl : t.rl = [u]) (hs : SlR G lv [ptr c]) (hu : RTy G c u) : RTy G b t :=
  .mk (ks := [c]) hb hs (by rw [hl]; rfl) (fun i h h2 => by
    have hi : i = 0 := by simp at h; omega
    subst hi
    simp only [hl, List.getElem_cons_zero]
    exact hu)
theorem RTy.two {G : GH} {b c d : Nat} {t u v : Ty} {lv : Value} (hb : G b = some (tO t.rk t.rv lv)) (hl : t.rl = [u, v]) (hs : SlR G lv [ptr c, ptr d]) (hu : RTy G c u) (hv : RTy G d v) : RTy G b t :=
  .mk (ks := [c, d]) hb hs (by rw [hl]; rfl) (fun i h h2 => by
    have hi : i = 0 ∨ i = 1 := by simp at h; omega
    rcases hi with rfl | rfl
    · simp only [hl, List.getElem_cons_zero]; exact hu
    · simp only [hl, List.getElem_cons_succ, List.getElem_cons_zero]; exact hv)
end Go.Proofs.YtabikmkoajdhmaaDoor

set_option linter.unusedVariables false
set_option linter.unusedSimpArgs false
set_option linter.unnecessarySimpa false
namespace Go.Proofs.YtabikmkoajdhmaaDoor
open Go.RowKit

theorem take_no {G : GH} {R : Rdr} {nb base : Nat} {st : TS} {s : RS} {w : World} (h : TI G R nb base st s w) (k : TK) (hk : goodR k) (hs : k ≠ .fin ∧ k ≠ .bad) (hn : s.isK k = false) : Calls Tryd.prog 47 #[.pointer (some ⟨R.rb, 0, none⟩), .string (bs (rstr k))] w fun e w' => e = .returned (.bool false) ∧ Keep (Fr G R nb base) w w' ∧ TI G R nb base st s w' := by
  refine (rd_take h.ri k hk hs).mono ?_
  rintro e w' ⟨rfl, k1⟩
  rw [hn, if_neg (by simp)] at k1
  rw [hn]
  exact ⟨rfl, Fr.one k1.1, h.step k1 (fun x => x) (Nat.le_refl _)⟩
theorem take_yes {G : GH} {R : Rdr} {nb base : Nat} {st : TS} {s : RS} {w : World} (h : TI G R nb base st s w) (k : TK) (hk : goodR k) (hs : k ≠ .fin ∧ k ≠ .bad) (hn : s.isK k = true) : Calls Tryd.prog 47 #[.pointer (some ⟨R.rb, 0, none⟩), .string (bs (rstr k))] w fun e w' => e = .returned (.bool true) ∧ Keep (Fr G R nb base) w w' ∧ TI G R nb base st s.step w' := by
  refine (rd_take h.ri k hk hs).mono ?_
  rintro e w' ⟨rfl, k1⟩
  rw [hn, if_pos rfl] at k1
  rw [hn]
  exact ⟨rfl, Fr.one k1.1, h.step k1 (fun x => x) (adv_len _)⟩
theorem need_t {G : GH} {R : Rdr} {nb base : Nat} {st : TS} {s : RS} {w : World} (h : TI G R nb base st s w) (k : TK) (hk : goodR k) (hs : k ≠ .fin ∧ k ≠ .bad) : Calls Tryd.prog 25 #[.pointer (some ⟨R.rb, 0, none⟩), .string (bs (rstr k))] w fun e w' => ∃ y, e = .returned (.string (bs y)) ∧ (s.isK k = true → y = (hd s.l).text) ∧ Keep (Fr G R nb base) w w' ∧ Keep (one' R.rb) w w' ∧ TI G R nb base st (s.need k) w' := by
  refine (rd_need h.ri k hk hs).mono ?_
  rintro e w' ⟨y, rfl, hy, k1⟩
  exact ⟨y, rfl, hy, Fr.one k1.1, k1.1, h.step k1 (fun x => need_good x) (need_len _ _)⟩
set_option maxRecDepth 100000 in
set_option maxHeartbeats 4000000 in
theorem tr_arrow (R : Rdr) (nb base f : Nat) (ih1 : TOne R nb base f) (ih2 : TWhole R nb base f) : TWhole R nb base (f + 1) := by
  intro st s q hs hq G w hi
  rw [rWhole] at hq
  obtain ⟨q1, hq1, hq2⟩ := Option.bind_eq_some_iff.1 hq
  have hc := ih1 st s q1 hs hq1 G w hi
  have HC := Lib.hid hc; have HQ2 := Lib.hid hq2; have IH := Lib.hid ih2; have HI0 := Lib.hid hi
  clear hc hq hq1 hq2 ih1 ih2 hi
  go_enter Tryd.func28, Tryd.ntmps28
  go_wp2_with fail
  refine HC.out.mono ?_
  rintro e w1 ⟨k1, b1, G1, rfl, g1, i1, x1⟩
  have K1 := Lib.hid k1; have HG1 := Lib.hid g1; have HI1 := Lib.hid i1; have HX1 := Lib.hid x1
  clear k1 g1 i1 x1
  go_wp2_with fail
  cases hc : q1.2.2.isK (.kw ARROW) with
  | false =>
    refine (take_no HI1.out (.kw ARROW) gr_ARROW (by simp) hc).mono ?_
    rintro e w2 ⟨rfl, k2, i2⟩
    have hq := HQ2.out
    rw [if_neg (by rw [hc]; simp)] at hq
    injection hq with hq
    have K2 := Lib.hid (Fr.trans K1.out HG1.out k2); have HI2 := Lib.hid i2; have HQ := Lib.hid hq
    clear k2 i2 hq hc
    go_wp2_with fail
    go_ret
    have hq := HQ.out; subst hq
    exact ⟨K2.out, b1, G1, rfl, HG1.out, HI2.out, HX1.out⟩
  | true =>
    refine (take_yes HI1.out (.kw ARROW) gr_ARROW (by simp) hc).mono ?_
    rintro e w2 ⟨rfl, k2, i2⟩
    have hq := HQ2.out
    rw [if_pos hc] at hq
    obtain ⟨q2, hq3, hq4⟩ := Option.bind_eq_some_iff.1 hq
    have hx := IH.out q1.2.1 q1.2.2.step q2 (isK_step_bad hc) hq3 G1 w2 i2
    have K2 := Lib.hid (Fr.trans K1.out HG1.out k2); have HX := Lib.hid hx; have HQ4 := Lib.hid hq4; have HB := Lib.hid (isK_good hc)
    clear k2 i2 hq hq3 hq4 hx hc
    go_wp2_with fail
    refine HX.out.mono ?_
    rintro e w3 ⟨k3, b3, G3, rfl, g3, i3, x3⟩
    have K3 := Lib.hid (Fr.trans K2.out HG1.out k3); have HI3 := Lib.hid i3; have HG3 := Lib.hid (HG1.out.trans K2.out g3); have HS3 := Lib.hid g3.sub; have HX3 := Lib.hid x3
    clear k3 i3 g3 x3
    go_wp2_with fail
    go_ret
    have hq := HQ4.out
    injection hq with hq; subst hq
    obtain ⟨g4, i4⟩ := HI3.out.two (.cells #[.pointer (some ⟨b1, 0, none⟩), .pointer (some ⟨b3, 0, none⟩)] 38) (tO (Ty.fn q1.1 q2.1).rk (Ty.fn q1.1 q2.1).rv (.slice (some ⟨w3.heap.size, 0, none⟩) 2 2))
    have hs4 := g4.sub
    refine ⟨Fr.trans K3.out HG3.out (Fr.zero ((Keep.alloc _ _ _).trans (Keep.alloc _ _ _))), w3.heap.size + 1, _, rfl, HG3.out.trans K3.out g4, i4, fun hb => ?_⟩
    exact RTy.two (t := .fn q1.1 q2.1) (GH.put_same _ _ _) rfl (slr_two (T := 38) (by rw [GH.put_other _ _ (by omega)]; exact GH.put_same _ _ _)) (((HX1.out HB.out).sub HS3.out).sub hs4) ((HX3.out hb).sub hs4)
end Go.Proofs.YtabikmkoajdhmaaDoor

set_option linter.unusedVariables false
set_option linter.unusedSimpArgs false
set_option linter.unnecessarySimpa false
namespace Go.Proofs.YtabikmkoajdhmaaDoor
open Go.RowKit

set_option maxRecDepth 100000 in
set_option maxHeartbeats 4000000 in
theorem tr_oneI (R : Rdr) (nb base f : Nat) (st : TS) (s : RS) (h1 : s.isK (.kw INT) = true) (q : Ty × TS × RS) (hq : rOne (f + 1) st s = some q) (G : GH) (w : World) (hi : TI G R nb base st s w) : Calls Tryd.prog 54 #[.pointer (some ⟨R.rb, 0, none⟩), .pointer (some ⟨nb, 0, none⟩)] w (RtPost G R nb base w q) := by
  rw [rOne, if_pos h1] at hq
  have HI := Lib.hid hi; have HQ := Lib.hid hq; have H1 := Lib.hid h1
  clear hi hq h1
  go_enter Tryd.func54, Tryd.ntmps54
  go_wp2_with fail
  refine (take_yes HI.out (.kw INT) gr_INT (by simp) H1.out).mono ?_
  rintro e w1 ⟨rfl, k1, i1⟩
  have K1 := Lib.hid k1; have HI1 := Lib.hid i1
  clear k1 i1
  go_wp2_with fail
  go_ret
  have hq := HQ.out
  injection hq with hq; subst hq
  obtain ⟨g2, i2⟩ := HI1.out.put (tO Ty.int.rk Ty.int.rv (.slice none 0 0))
  exact ⟨Fr.trans K1.out (Grew.refl G w) (Fr.zero (Keep.alloc _ _ _)), w1.heap.size, _, rfl, Grew.keep K1.out g2, i2, fun _ => RTy.leaf (t := .int) (GH.put_same _ _ _) rfl⟩
theorem tr_oneB (R : Rdr) (nb base f : Nat) (st : TS) (s : RS) (h0 : s.isK (.kw INT) = false) (h1 : s.isK (.kw BOOL) = true) (q : Ty × TS × RS) (hq : rOne (f + 1) st s = some q) (G : GH) (w : World) (hi : TI G R nb base st s w) : Calls Tryd.prog 54 #[.pointer (some ⟨R.rb, 0, none⟩), .pointer (some ⟨nb, 0, none⟩)] w (RtPost G R nb base w q) := by
  rw [rOne, if_neg (by rw [h0]; simp), if_pos h1] at hq
  have HI := Lib.hid hi; have HQ := Lib.hid hq; have H1 := Lib.hid h1; have H0 := Lib.hid h0
  clear hi hq h1 h0
  go_enter Tryd.func54, Tryd.ntmps54
  go_wp2_with fail
  refine (take_no HI.out (.kw INT) gr_INT (by simp) H0.out).mono ?_
  rintro e w1 ⟨rfl, k1, i1⟩
  have K1 := Lib.hid k1; have HI1 := Lib.hid i1
  clear k1 i1
  go_wp2_with fail
  refine (take_yes HI1.out (.kw BOOL) gr_BOOL (by simp) H1.out).mono ?_
  rintro e w2 ⟨rfl, k2, i2⟩
  have K2 := Lib.hid (Fr.trans K1.out (Grew.refl G w) k2); have HI2 := Lib.hid i2
  clear k2 i2
  go_wp2_with fail
  go_ret
  have hq := HQ.out
  injection hq with hq; subst hq
  obtain ⟨g2, i2⟩ := HI2.out.put (tO Ty.bool.rk Ty.bool.rv (.slice none 0 0))
  exact ⟨Fr.trans K2.out (Grew.refl G w) (Fr.zero (Keep.alloc _ _ _)), w2.heap.size, _, rfl, Grew.keep K2.out g2, i2, fun _ => RTy.leaf (t := .bool) (GH.put_same _ _ _) rfl⟩
set_option maxRecDepth 100000 in
set_option maxHeartbeats 4000000 in
theorem tr_oneL (R : Rdr) (nb base f : Nat) (ih : TWhole R nb base f) (st : TS) (s : RS) (h0 : s.isK (.kw INT) = false) (h1 : s.isK (.kw BOOL) = false) (h2 : s.isK (.kw LB) = true) (q : Ty × TS × RS) (hq : rOne (f + 1) st s = some q) (G : GH) (w : World) (hi : TI G R nb base st s w) : Calls Tryd.prog 54 #[.pointer (some ⟨R.rb, 0, none⟩), .pointer (some ⟨nb, 0, none⟩)] w (RtPost G R nb base w q) := by
  rw [rOne, if_neg (by rw [h0]; simp), if_neg (by rw [h1]; simp), if_pos h2] at hq
  obtain ⟨q1, hq1, hq2⟩ := Option.bind_eq_some_iff.1 hq
  have HI := Lib.hid hi; have HQ2 := Lib.hid hq2; have H1 := Lib.hid h1; have H0 := Lib.hid h0; have H2 := Lib.hid h2
  have HX : Hid (∀ W, TI G R nb base st s.step W → Calls Tryd.prog 28 #[.pointer (some ⟨R.rb, 0, none⟩), .pointer (some ⟨nb, 0, none⟩)] W (RtPost G R nb base W q1)) := Lib.hid fun W i => ih st s.step q1 (isK_step_bad h2) hq1 G W i
  clear hi hq h1 h0 h2 hq1 hq2 ih
  go_enter Tryd.func54, Tryd.ntmps54
  go_wp2_with fail
  refine (take_no HI.out (.kw INT) gr_INT (by simp) H0.out).mono ?_
  rintro e w1 ⟨rfl, k1, i1⟩
  have K1 := Lib.hid k1; have HI1 := Lib.hid i1
  clear k1 i1
  go_wp2_with fail
  refine (take_no HI1.out (.kw BOOL) gr_BOOL (by simp) H1.out).mono ?_
  rintro e w2 ⟨rfl, k2, i2⟩
  have K2 := Lib.hid (Fr.trans K1.out (Grew.refl G w) k2); have HI2 := Lib.hid i2
  clear k2 i2
  go_wp2_with fail
  refine (take_yes HI2.out (.kw LB) gr_LB (by simp) H2.out).mono ?_
  rintro e w3 ⟨rfl, k3, i3⟩
  have K3 := Lib.hid (Fr.trans K2.out (Grew.refl G w) k3); have HI3 := Lib.hid i3
  clear k3 i3
  go_wp2_with fail
  refine (HX.out _ HI3.out).mono ?_
  rintro e w4 ⟨k4, b4, G4, rfl, g4, i4, x4⟩
  have K4 := Lib.hid (Fr.trans K3.out (Grew.refl G w) k4); have HI4 := Lib.hid i4; have HG4 := Lib.hid (Grew.keep K3.out g4); have HX4 := Lib.hid x4
  clear k4 i4 g4 x4
  go_wp2_with fail
  refine (need_t HI4.out (.kw RB) gr_RB (by simp)).mono ?_
  rintro e w5 ⟨y5, rfl, _, k5, _, i5⟩
  have K5 := Lib.hid (Fr.trans K4.out HG4.out k5); have HI5 := Lib.hid i5
  clear k5 i5
  go_wp2_with fail
  go_ret
  have hq := HQ2.out
  injection hq with hq; subst hq
  obtain ⟨g6, i6⟩ := HI5.out.two (.cells #[.pointer (some ⟨b4, 0, none⟩)] 38) (tO (Ty.list q1.1).rk (Ty.list q1.1).rv (.slice (some ⟨w5.heap.size, 0, none⟩) 1 1))
  have hs6 := g6.sub
  refine ⟨Fr.trans K5.out HG4.out (Fr.zero ((Keep.alloc _ _ _).trans (Keep.alloc _ _ _))), w5.heap.size + 1, _, rfl, HG4.out.trans K5.out g6, i6, fun hb => ?_⟩
  exact RTy.one (t := .list q1.1) (GH.put_same _ _ _) rfl (slr_one (T := 38) (by rw [GH.put_other _ _ (by omega)]; exact GH.put_same _ _ _)) ((HX4.out (need_good hb)).sub hs6)
set_option maxRecDepth 100000 in
set_option maxHeartbeats 8000000 in
theorem tr_oneP (R : Rdr) (nb base f : Nat) (ih : TWhole R nb base f) (st : TS) (s : RS) (h0 : s.isK (.kw INT) = false) (h1 : s.isK (.kw BOOL) = false) (h2 : s.isK (.kw LB) = false) (h3 : s.isK (.kw LP) = true) (q : Ty × TS × RS) (hq : rOne (f + 1) st s = some q) (G : GH) (w : World) (hi : TI G R nb base st s w) : Calls Tryd.prog 54 #[.pointer (some ⟨R.rb, 0, none⟩), .pointer (some ⟨nb, 0, none⟩)] w (RtPost G R nb base w q) := by
  rw [rOne, if_neg (by rw [h0]; simp), if_neg (by rw [h1]; simp), if_neg (by rw [h2]; simp), if_pos h3] at hq
  obtain ⟨q1, hq1, hq2⟩ := Option.bind_eq_some_iff.1 hq
  have HI := Lib.hid hi; have HQ2 := Lib.hid hq2; have H1 := Lib.hid h1; have H0 := Lib.hid h0; have H2 := Lib.hid h2; have H3 := Lib.hid h3; have IH := Lib.hid ih
  have HX : Hid (∀ W, TI G R nb base st s.step W → Calls Tryd.prog 28 #[.pointer (some ⟨R.rb, 0, none⟩), .pointer (some ⟨nb, 0, none⟩)] W (RtPost G R nb base W q1)) := Lib.hid fun W i => ih st s.step q1 (isK_step_bad h3) hq1 G W i
  clear hi hq h1 h0 h2 h3 hq1 hq2 ih
  go_enter Tryd.func54, Tryd.ntmps54
  go_wp2_with fail
  refine (take_no HI.out (.kw INT) gr_INT (by simp) H0.out).mono ?_
  rintro e w1 ⟨rfl, k1, i1⟩
  have K1 := Lib.hid k1; have HI1 := Lib.hid i1
  clear k1 i1
  go_wp2_with fail
  refine (take_no HI1.out (.kw BOOL) gr_BOOL (by simp) H1.out).mono ?_
  rintro e w2 ⟨rfl, k2, i2⟩
  have K2 := Lib.hid (Fr.trans K1.out (Grew.refl G w) k2); have HI2 := Lib.hid i2
  clear k2 i2
  go_wp2_with fail
  refine (take_no HI2.out (.kw LB) gr_LB (by simp) H2.out).mono ?_
  rintro e w3 ⟨rfl, k3, i3⟩
  have K3 := Lib.hid (Fr.trans K2.out (Grew.refl G w) k3); have HI3 := Lib.hid i3
  clear k3 i3
  go_wp2_with fail
  refine (take_yes HI3.out (.kw LP) gr_LP (by simp) H3.out).mono ?_
  rintro e w4 ⟨rfl, k4, i4⟩
  have K4 := Lib.hid (Fr.trans K3.out (Grew.refl G w) k4); have HI4 := Lib.hid i4
  clear k4 i4
  go_wp2_with fail
  refine (HX.out _ HI4.out).mono ?_
  rintro e w5 ⟨k5, b5, G5, rfl, g5, i5, x5⟩
  have K5 := Lib.hid (Fr.trans K4.out (Grew.refl G w) k5); have HI5 := Lib.hid i5; have HG5 := Lib.hid (Grew.keep K4.out g5); have HX5 := Lib.hid x5
  clear k5 i5 g5 x5
  go_wp2_with fail
  cases hc : q1.2.2.isK (.kw COMMA) with
  | false =>
    refine (take_no HI5.out (.kw COMMA) gr_COMMA (by simp) hc).mono ?_
    rintro e w6 ⟨rfl, k6, i6⟩
    have hq := HQ2.out
    rw [if_neg (by rw [hc]; simp)] at hq
    injection hq with hq
    have K6 := Lib.hid (Fr.trans K5.out HG5.out k6); have HI6 := Lib.hid i6; have HQ := Lib.hid hq
    clear k6 i6 hq hc
    go_wp2_with fail
    refine (need_t HI6.out (.kw RP) gr_RP (by simp)).mono ?_
    rintro e w7 ⟨y7, rfl, _, k7, _, i7⟩
    have K7 := Lib.hid (Fr.trans K6.out HG5.out k7); have HI7 := Lib.hid i7
    clear k7 i7
    go_wp2_with fail
    go_ret
    have hq := HQ.out; subst hq
    exact ⟨K7.out, b5, G5, rfl, HG5.out, HI7.out, fun hb => HX5.out (need_good hb)⟩
  | true =>
    refine (take_yes HI5.out (.kw COMMA) gr_COMMA (by simp) hc).mono ?_
    rintro e w6 ⟨rfl, k6, i6⟩
    have hq := HQ2.out
    rw [if_pos hc] at hq
    obtain ⟨q2, hq3, hq4⟩ := Option.bind_eq_some_iff.1 hq
    have hx := IH.out q1.2.1 q1.2.2.step q2 (isK_step_bad hc) hq3 G5 w6 i6
    have K6 := Lib.hid (Fr.trans K5.out HG5.out k6); have HX6 := Lib.hid hx; have HQ4 := Lib.hid hq4; have HB := Lib.hid (isK_good hc)
    clear k6 i6 hq hq3 hq4 hx hc
    go_wp2_with fail
    refine HX6.out.mono ?_
    rintro e w7 ⟨k7, b7, G7, rfl, g7, i7, x7⟩
    have K7 := Lib.hid (Fr.trans K6.out HG5.out k7); have HI7 := Lib.hid i7; have HG7 := Lib.hid (HG5.out.trans K6.out g7); have HS7 := Lib.hid g7.sub; have HX7 := Lib.hid x7
    clear k7 i7 g7 x7
    go_wp2_with fail
    obtain ⟨g8, i8⟩ := HI7.out.two (.cells #[.pointer (some ⟨b5, 0, none⟩), .pointer (some ⟨b7, 0, none⟩)] 38) (tO (Ty.pair q1.1 q2.1).rk (Ty.pair q1.1 q2.1).rv (.slice (some ⟨w7.heap.size, 0, none⟩) 2 2))
    have K8 := Lib.hid (Fr.trans K7.out HG7.out (Fr.zero ((Keep.alloc none' w7 (.cells #[.pointer (some ⟨b5, 0, none⟩), .pointer (some ⟨b7, 0, none⟩)] 38)).trans (Keep.alloc none' _ (tO (Ty.pair q1.1 q2.1).rk (Ty.pair q1.1 q2.1).rv (.slice (some ⟨w7.heap.size, 0, none⟩) 2 2))))))
    have HI8 := Lib.hid i8; have HG8 := Lib.hid (HG7.out.trans K7.out g8); have HS8 := Lib.hid g8.sub
    clear g8 i8
    refine (need_t HI8.out (.kw RP) gr_RP (by simp)).mono ?_
    rintro e w9 ⟨y9, rfl, _, k9, _, i9⟩
    have K9 := Lib.hid (Fr.trans K8.out HG8.out k9); have HI9 := Lib.hid i9
    clear k9 i9
    go_wp2_with fail
    go_ret
    have hq := HQ4.out
    injection hq with hq; subst hq
    refine ⟨K9.out, w7.heap.size + 1, _, rfl, HG8.out, HI9.out, fun hb => ?_⟩
    exact RTy.two (t := .pair q1.1 q2.1) (GH.put_same _ _ _) rfl (slr_two (T := 38) (by rw [GH.put_other _ _ (by omega)]; exact GH.put_same _ _ _)) (((HX5.out HB.out).sub HS7.out).sub HS8.out) ((HX7.out (need_good hb)).sub HS8.out)
end Go.Proofs.YtabikmkoajdhmaaDoor

set_option linter.unusedVariables false
set_option linter.unusedSimpArgs false
set_option linter.unnecessarySimpa false
namespace Go.Proofs.YtabikmkoajdhmaaDoor
open Go.RowKit

/-- Where a name stands in a list: the first. -/
def hitL (y : Str) : List Str → Nat → Option Nat
  | [], _ => none
  | a :: r, i => if a = y then some i else hitL y r (i + 1)
theorem hit_take {y : Str} {ns : List Str} {i : Nat} (h : i < ns.length) (hn : ∀ k (hk : k < ns.length), k < i → ns[k] ≠ y) (he : ns[i] = y) : hitL y ns 0 = some i := by
  have : ∀ (ns : List Str) (i j : Nat) (h : i < ns.length), (∀ k (hk : k < ns.length), k < i → ns[k] ≠ y) → ns[i] = y → hitL y ns j = some (j + i) := by
    intro ns
    induction ns with
    | nil => intro i j h; cases h
    | cons a r ih =>
      intro i j h hn he
      cases i with
      | zero => simp only [List.getElem_cons_zero] at he; simp [hitL, he]
      | succ i =>
        have h0 := hn 0 (by simp) (by omega)
        simp only [List.getElem_cons_zero] at h0
        simp only [hitL, if_neg h0]
        rw [ih i (j + 1) (by simpa using h) (fun k hk hki => by have := hn (k + 1) (by simpa using hk) (by omega); simpa using this) (by simpa using he)]
        congr 1; omega
  have := this ns i 0 h hn he
  simpa using this
theorem hit_none {y : Str} {ns : List Str} (hn : ∀ k (hk : k < ns.length), ns[k] ≠ y) : hitL y ns 0 = none := by
  have : ∀ (ns : List Str) (j : Nat), (∀ k (hk : k < ns.length), ns[k] ≠ y) → hitL y ns j = none := by
    intro ns
    induction ns with
    | nil => intro j _; rfl
    | cons a r ih =>
      intro j hn
      have h0 := hn 0 (by simp)
      simp only [List.getElem_cons_zero] at h0
      simp only [hitL, if_neg h0]
      exact ih (j + 1) (fun k hk => by have := hn (k + 1) (by simpa using hk); simpa using this)
  exact this ns 0 hn
/-- The names' numbers: as they stand. -/
theorem look_hit {y : Str} : ∀ {m : Names} {j : Nat}, (∀ k (h : k < m.length), (m[k]).2 = j + k + 1) → m.lookup y = (hitL y (m.map (·.1)) j).map (· + 1)
  | [], _, _ => rfl
  | (a, v) :: r, j, h => by
    have h0 := h 0 (by simp)
    simp only [List.getElem_cons_zero] at h0
    simp only [List.lookup_cons, List.map_cons, hitL]
    by_cases e : y = a
    · subst e; simp [h0]
    · have e1 : (y == a) = false := by simpa using e
      rw [e1, if_neg (fun e2 => e e2.symm)]
      exact look_hit (m := r) (j := j + 1) (fun k hk => by have := h (k + 1) (by simpa using hk); simp only [List.getElem_cons_succ] at this; omega)
theorem ts_snoc {st : TS} (h : TSok st) (n : Str) : TSok ⟨st.m ++ [(n, st.n + 1)], st.n + 1⟩ := by
  obtain ⟨h1, h2⟩ := h
  refine ⟨by simp [h1], fun k hk => ?_⟩
  simp only [List.length_append, List.length_singleton] at hk
  by_cases hlt : k < st.m.length
  · simp only [List.getElem_append_left hlt]; exact h2 k hlt
  · obtain rfl : k = st.m.length := by omega
    simp [h1]
theorem need_name {s : RS} (h : (s.need .name).bad = none) : s.isK .name = true := by
  have h0 := need_good h
  cases hk : s.isK .name with
  | true => rfl
  | false => unfold RS.need at h; rw [hk, h0] at h; simp at h
/-- A name that has been met. -/
theorem name_old {G : GH} {R : Rdr} {nb base : Nat} {st : TS} {s : RS} {q : Ty × TS × RS} {y : Str} {i : Nat}
    (hq : (if (s.need .name).bad.isSome = true then some (.int, st, s.need .name) else match st.m.lookup (hd s.l).text with
      | some v => some (.var v, st, s.need .name)
      | none => if st.n < 1000000000 then some (.var (st.n + 1), ⟨st.m ++ [((hd s.l).text, st.n + 1)], st.n + 1⟩, s.need .name) else none) = some q)
    (hy : s.isK .name = true → y = (hd s.l).text) (hok : TSok st) (hi : i < (st.m.map (·.1)).length) (hn : ∀ k (hk : k < (st.m.map (·.1)).length), k < i → (st.m.map (·.1))[k] ≠ y) (he : (st.m.map (·.1))[i] = y) :
    q.2.1 = st ∧ q.2.2 = s.need .name ∧ (q.2.2.bad = none → q.1 = .var (i + 1)) := by
  cases hb : (s.need .name).bad with
  | some p =>
    rw [hb] at hq
    simp only [Option.isSome_some, if_true, Option.some.injEq] at hq
    subst hq
    exact ⟨rfl, rfl, fun e => by simp only at e; rw [hb] at e; cases e⟩
  | none =>
    rw [hb] at hq
    simp only [Option.isSome_none, Bool.false_eq_true, if_false] at hq
    have hyt := hy (need_name hb)
    have hl := look_hit (y := y) (m := st.m) (j := 0) (fun k hk => by rw [hok.2 k hk]; omega)
    rw [hit_take hi hn he] at hl
    rw [hyt] at hl
    rw [hl] at hq
    simp only [Option.map_some, Option.some.injEq] at hq
    subst hq
    exact ⟨rfl, rfl, fun _ => rfl⟩
/-- A name that is new. -/
theorem name_new {st : TS} {s : RS} {q : Ty × TS × RS} {y : Str}
    (hq : (if (s.need .name).bad.isSome = true then some (.int, st, s.need .name) else match st.m.lookup (hd s.l).text with
      | some v => some (.var v, st, s.need .name)
      | none => if st.n < 1000000000 then some (.var (st.n + 1), ⟨st.m ++ [((hd s.l).text, st.n + 1)], st.n + 1⟩, s.need .name) else none) = some q)
    (hy : s.isK .name = true → y = (hd s.l).text) (hok : TSok st) (hn : ∀ k (hk : k < (st.m.map (·.1)).length), (st.m.map (·.1))[k] ≠ y) :
    q.2.2 = s.need .name ∧ TSok q.2.1 ∧ ((s.need .name).bad = none → q.2.1 = ⟨st.m ++ [(y, st.n + 1)], st.n + 1⟩ ∧ q.1 = .var (st.n + 1)) := by
  cases hb : (s.need .name).bad with
  | some p =>
    rw [hb] at hq
    simp only [Option.isSome_some, if_true, Option.some.injEq] at hq
    subst hq
    exact ⟨rfl, hok, fun e => by cases e⟩
  | none =>
    rw [hb] at hq
    simp only [Option.isSome_none, Bool.false_eq_true, if_false] at hq
    have hyt := hy (need_name hb)
    have hl := look_hit (y := y) (m := st.m) (j := 0) (fun k hk => by rw [hok.2 k hk]; omega)
    rw [hit_none hn] at hl
    rw [hyt] at hl
    rw [hl] at hq
    simp only [Option.map_none] at hq
    by_cases h9 : st.n < 1000000000
    · simp only [h9, if_true, Option.some.injEq] at hq
      subst hq
      exact ⟨rfl, ts_snoc hok _, fun _ => ⟨by rw [hyt], rfl⟩⟩
    · simp only [h9, if_false] at hq; cases hq
set_option maxRecDepth 100000 in
set_option maxHeartbeats 8000000 in
theorem tr_oneN (R : Rdr) (nb base f : Nat) (st : TS) (s : RS) (hs : s.bad = none) (h0 : s.isK (.kw INT) = false) (h1 : s.isK (.kw BOOL) = false) (h2 : s.isK (.kw LB) = false) (h3 : s.isK (.kw LP) = false) (q : Ty × TS × RS) (hq : rOne (f + 1) st s = some q) (G : GH) (w : World) (hi : TI G R nb base st s w) :
    Calls Tryd.prog 54 #[.pointer (some ⟨R.rb, 0, none⟩), .pointer (some ⟨nb, 0, none⟩)] w (RtPost G R nb base w q) := by
  obtain ⟨is, his, zs0, zs1, zs2⟩ := info_parts info_str
  have hlen : st.m.length ≤ 1000000 := by have := hi.cnt hs; have := hi.ri.tk.len; omega
  rw [rOne, if_neg (by rw [h0]; simp), if_neg (by rw [h1]; simp), if_neg (by rw [h2]; simp), if_neg (by rw [h3]; simp)] at hq
  have HI := Lib.hid hi; have HQ := Lib.hid hq; have H1 := Lib.hid h1; have H0 := Lib.hid h0; have H2 := Lib.hid h2; have H3 := Lib.hid h3; have HS := Lib.hid hs
  clear hi hq h1 h0 h2 h3 hs
  go_enter Tryd.func54, Tryd.ntmps54
  go_wp2_with fail
  refine (take_no HI.out (.kw INT) gr_INT (by simp) H0.out).mono ?_
  rintro e w1 ⟨rfl, k1, i1⟩
  have K1 := Lib.hid k1; have HI1 := Lib.hid i1
  clear k1 i1
  go_wp2_with fail
  refine (take_no HI1.out (.kw BOOL) gr_BOOL (by simp) H1.out).mono ?_
  rintro e w2 ⟨rfl, k2, i2⟩
  have K2 := Lib.hid (Fr.trans K1.out (Grew.refl G w) k2); have HI2 := Lib.hid i2
  clear k2 i2
  go_wp2_with fail
  refine (take_no HI2.out (.kw LB) gr_LB (by simp) H2.out).mono ?_
  rintro e w3 ⟨rfl, k3, i3⟩
  have K3 := Lib.hid (Fr.trans K2.out (Grew.refl G w) k3); have HI3 := Lib.hid i3
  clear k3 i3
  go_wp2_with fail
  refine (take_no HI3.out (.kw LP) gr_LP (by simp) H3.out).mono ?_
  rintro e w4 ⟨rfl, k4, i4⟩
  have K4 := Lib.hid (Fr.trans K3.out (Grew.refl G w) k4); have HI4 := Lib.hid i4
  obtain ⟨sv, n1, n2, n3⟩ := i4.nm HS.out
  have HN1 := Lib.hid n1; have HN2 := Lib.hid n2; have HN3 := Lib.hid n3
  clear k4 i4 n1 n2 n3
  go_wp2_with fail
  refine (need_t HI4.out .name gr_name (by simp)).mono ?_
  rintro e w5 ⟨y, rfl, hy, k5, k5', i5⟩
  have hnr : nb ≠ R.rb := fun e => HI.out.ne e.symm
  have n5 := k5'.get HN1.out hnr
  have o5 := own_keep HN2.out k5' (fun g hg (e : g = R.rb) => by have := (HN2.out.lt g hg).1; have := HI.out.rl; omega)
  have K5 := Lib.hid (Fr.trans K4.out (Grew.refl G w) k5)
  obtain ⟨ao, cp, rfl, hcl⟩ := own_shape o5
  have cn : w5.cell? ⟨nb, 0, none⟩ = some (.slice ao st.m.length cp) := cell_of_heap (i := 0) n5 rfl
  have HI5 := Lib.hid i5; have HY := Lib.hid hy; have HN5 := Lib.hid n5; have HO5 := Lib.hid o5; have HCL := Lib.hid hcl
  clear k5 k5' i5 hy n5 o5 hcl
  have hlen2 : st.m.length ≤ 1000000 := hlen
  go_wp2_with fail
  go_loopg [56] st.m.length (fun gn s56 wr => ∃ i : Nat, i ≤ st.m.length ∧ Hid (gn = st.m.length - i) ∧ s56 = .int .i64 i ∧ wr = w5 ∧ Hid (∀ k (hk : k < (st.m.map (·.1)).length), k < i → (st.m.map (·.1))[k] ≠ y))
  case atStart => exact ⟨0, by omega, Lib.hid rfl, rfl, rfl, Lib.hid (fun k _ h => by omega)⟩
  case round =>
    obtain ⟨i, hi, HM, rfl, rfl, HN⟩ := hrel
    have h0i : (0 : Int) ≤ (i : Int) := by omega
    by_cases hlt : i < st.m.length
    · have hii : (i : Int) < (st.m.length : Int) := by omega
      obtain ⟨g, rfl, hc⟩ := HCL.out (by omega)
      have cm : wr.cell? ⟨g, i, none⟩ = some (.string (bs (st.m[i]).1)) := hc i _ (by simp [hlt])
      have q2 : ((bs (st.m[i]).1).toList == (bs y).toList) = decide ((st.m[i]).1 = y) := str_cc _ _
      obtain ⟨ni, hni⟩ : ∃ ni, ni = (st.m[i]).1 := ⟨_, rfl⟩
      rw [← hni] at cm q2
      have HNI := Lib.hid hni
      clear hc hni
      by_cases hq : ni = y
      · rw [decide_eq_true hq] at q2
        have HQY := Lib.hid hq
        clear hq
        go_wp2_with fail
        go_ret
        obtain ⟨g6, i6⟩ := HI5.out.put (tO [] i (.slice none 0 0))
        have hfin := name_old (G := G) (R := R) (nb := nb) (base := base) HQ.out HY.out HI.out.ok (i := i) (by simpa using hlt) HN.out (by simp [← HNI.out, HQY.out])
        obtain ⟨e1, e2, e3⟩ := hfin
        refine ⟨Fr.trans K5.out (Grew.refl G w) (Fr.zero (Keep.alloc _ _ _)), wr.heap.size, _, rfl, Grew.keep K5.out g6, by rw [e1, e2]; exact i6, fun hb => ?_⟩
        rw [e3 hb]
        exact RTy.leaf (t := .var (i + 1)) (GH.put_same _ _ _) rfl
      · rw [decide_eq_false hq] at q2
        have HQY := Lib.hid hq
        clear hq
        go_wp2_with fail
        go_roundg (st.m.length - (i + 1))
        case measure => have := HM.out; omega
        case rel => exact ⟨i + 1, by omega, Lib.hid rfl, by go_num, rfl, Lib.hid (fun k hk hki => by
          by_cases e : k = i
          · subst e
            simp only [List.getElem_map]
            rw [← HNI.out]; exact HQY.out
          · exact HN.out k hk (by omega))⟩
    · have hie : i = st.m.length := by omega
      subst hie
      have hnn : ∀ k (hk : k < (st.m.map (·.1)).length), (st.m.map (·.1))[k] ≠ y := fun k hk => HN.out k hk (by simpa using hk)
      have HNN := Lib.hid hnn
      have hnl := lt_of_heap HN5.out
      have hnb := HI.out.nl
      have own5 := HO5.out
      have hbl := HI5.out.bl
      clear hnn HN
      go_wp2_with (first | (at_builtin; refine wpList_append_own_at _ rfl _ _ 39 rfl base 9 is (.string ByteArray.empty) 1 16 und_strs his zs0 zs1 zs2 rfl (by decide) (.slice ao st.m.length cp) st.m.length _ rfl (own5.alloc _) ⟨wr.heap.size, 0, none⟩ 1 1 [.string (bs y)] rfl rfl (cell_one_new _ _ _) (fun x hx => by simp at hx; subst hx; rfl) (by unfold maxLen; omega) (by omega) (by simp; omega) ?_; intro v4 w4 own4 g4 _ at4; obtain ⟨ao4, cap4, rfl, _⟩ := own_shape own4; have k4 : Keep (fun b => (Value.slice ao st.m.length cp).ownBlock = some b) wr w4 := (Keep.alloc _ wr _).trans (Keep.grown g4 (fun k e _ => e)); have x4 := k4.get HN5.out (fun e => by have := (HO5.out.lt nb e).1; omega); have m1 : w4.cell? ⟨nb, 0, none⟩ = some (.slice ao st.m.length cp) := cell_of_heap (i := 0) x4 rfl; have m2 : w4.frozen? ⟨nb, 0, none⟩ = false := free_of_heap x4))
      go_ret
      obtain ⟨e1, e2, e3⟩ := name_new HQ.out HY.out HI.out.ok HNN.out
      obtain ⟨i5, hi5⟩ : ∃ i5 : TI G R nb base st (s.need .name) wr, i5 = HI5.out := ⟨_, rfl⟩
      have hgn := HN3.out
      have olt := fun g (hg : (Value.slice ao st.m.length cp).ownBlock = some g) => (HO5.out.lt g hg).1
      have hR1 := HI.out.rl
      have htb : R.tb ≠ nb := fun e => by have h1 := HI.out.gtb; have h2 := HI.out.offn; rw [e, h2] at h1; cases h1
      have ks : Keep (one' nb) w4 (w4.setCell ⟨nb, 0, none⟩ (.slice ao4 (st.m.length + 1) cap4)) := Keep.setCell _ _ (fun _ => rfl)
      have kF : Keep (Fr G R nb base) wr (w4.setCell ⟨nb, 0, none⟩ (.slice ao4 (st.m.length + 1) cap4)) := (k4.mono fun b _ hb => .inr (.inr ⟨olt b hb, hgn b hb⟩)).trans (ks.mono fun b _ hb => .inr (.inl hb))
      have hG4 : ∀ g, (Value.slice ao4 (st.m.length + 1) cap4).ownBlock = some g → G g = none := fun g hg => by
        rcases at4 with e | e
        · exact hgn g (e ▸ hg)
        · rw [e] at hg; injection hg with hg; subst hg
          exact i5.holds.fresh (by simp)
      have kB : Keep (fun b => (Value.slice ao st.m.length cp).ownBlock = some b ∨ b = nb) wr (w4.setCell ⟨nb, 0, none⟩ (.slice ao4 (st.m.length + 1) cap4)) := (k4.mono fun b _ hb => .inl hb).trans (ks.mono fun b _ hb => .inr hb)
      have tI : TI G R nb base q.2.1 (s.need .name) (w4.setCell ⟨nb, 0, none⟩ (.slice ao4 (st.m.length + 1) cap4)) :=
        ⟨i5.holds.keep kF (fun b o hb hf => by
            rcases hf with e | e | e
            · rw [e, i5.offr] at hb; cases hb
            · rw [e, i5.offn] at hb; cases hb
            · rw [e.2] at hb; cases hb), i5.gtb, i5.offr, i5.offn, i5.rl, i5.nl, Nat.le_trans i5.bl kF.size, i5.ne,
          i5.ri.keep kB (fun hf => by
            rcases hf with e | e
            · have := hgn _ e; rw [i5.gtb] at this; cases this
            · exact htb e) (fun hf => by
            rcases hf with e | e
            · have := olt _ e; omega
            · exact i5.ne e),
          fun hb => by
            obtain ⟨f1, f2⟩ := e3 hb
            rw [f1]
            refine ⟨.slice ao4 (st.m.length + 1) cap4, heap_set_same (i := 0) x4, ?_, hG4⟩
            have := own_keep own4 ks (fun g hg (e : g = nb) => by have := (own4.lt g hg).1; omega)
            simpa using this, e2, fun hb => by
            obtain ⟨f1, f2⟩ := e3 hb
            rw [f1]
            have hk := need_name hb
            obtain ⟨j, s1, s2, s3, _⟩ := isK_step HI.out.ri (k := .name) (by simp) hk
            have hc := HI.out.cnt (need_good hb)
            have hne : s.need .name = s.step := by unfold RS.need; rw [hk, if_pos rfl]
            rw [hne]
            simp only [List.length_append, List.length_singleton]
            have l1 : s.l.length = R.T.length - j := by rw [s1, List.length_drop]
            have l2 : s.step.l.length = R.T.length - (j + 1) := by rw [s2, List.length_drop]
            omega⟩
      obtain ⟨g6, i6⟩ := tI.put (tO [] st.m.length (.slice none 0 0))
      refine ⟨(Fr.trans K5.out (Grew.refl G w) kF).trans (Fr.zero (Keep.alloc _ _ _)), _, _, rfl, ?_, by rw [e1]; exact i6, fun hb => ?_⟩
      · exact Grew.keep (K5.out.trans kF) g6
      · rw [e1] at hb
        obtain ⟨f1, f2⟩ := e3 hb
        rw [f2]
        have hn0 := HI.out.ok.1
        refine RTy.leaf (t := .var (st.n + 1)) ?_ rfl
        rw [show (w4.setCell ⟨nb, 0, none⟩ (.slice ao4 (st.m.length + 1) cap4)).heap.size = w4.heap.size by simp, show (Ty.var (st.n + 1)).rv = st.m.length by show st.n + 1 - 1 = _; omega]
        exact GH.put_same _ _ _
end Go.Proofs.YtabikmkoajdhmaaDoor

set_option linter.unusedVariables false
set_option linter.unusedSimpArgs false
set_option linter.unnecessarySimpa false
namespace Go.Proofs.YtabikmkoajdhmaaDoor
open Go.RowKit

theorem tr_types (R : Rdr) (nb base : Nat) : ∀ f : Nat, TOne R nb base f ∧ TWhole R nb base f
  | 0 => ⟨fun st s q _ h => (by simp [rOne] at h), fun st s q _ h => (by simp [rWhole] at h)⟩
  | f + 1 => by
    obtain ⟨i1, i2⟩ := tr_types R nb base f
    refine ⟨fun st s q hs hq G w hi => ?_, tr_arrow R nb base f i1 i2⟩
    cases h0 : s.isK (.kw INT) with
    | true => exact tr_oneI R nb base f st s h0 q hq G w hi
    | false =>
      cases h1 : s.isK (.kw BOOL) with
      | true => exact tr_oneB R nb base f st s h0 h1 q hq G w hi
      | false =>
        cases h2 : s.isK (.kw LB) with
        | true => exact tr_oneL R nb base f i2 st s h0 h1 h2 q hq G w hi
        | false =>
          cases h3 : s.isK (.kw LP) with
          | true => exact tr_oneP R nb base f i2 st s h0 h1 h2 h3 q hq G w hi
          | false => exact tr_oneN R nb base f st s hs h0 h1 h2 h3 q hq G w hi
end Go.Proofs.YtabikmkoajdhmaaDoor

set_option linter.unusedVariables false
set_option linter.unusedSimpArgs false
set_option linter.unnecessarySimpa false
namespace Go.Proofs.YtabikmkoajdhmaaDoor
open Go.RowKit

def sumL (l : List Nat) : Nat := l.foldl (· + ·) 0
theorem foldl_sum (l : List Nat) : ∀ a, l.foldl (· + ·) a = a + l.foldl (· + ·) 0 := by
  induction l with
  | nil => intro a; simp
  | cons x r ih => intro a; simp only [List.foldl_cons]; rw [ih (a + x), ih (0 + x)]; omega
theorem sumL_take {l : List Nat} {i : Nat} (h : i < l.length) : sumL (l.take (i + 1)) = sumL (l.take i) + l[i] := by
  unfold sumL
  rw [List.take_succ_eq_append_getElem h, List.foldl_append]
  rfl
theorem sumL_take_le (l : List Nat) (i : Nat) : sumL (l.take i) ≤ sumL l := by
  have h2 : sumL l = sumL (l.take i) + sumL (l.drop i) := by
    unfold sumL
    conv => lhs; rw [← List.take_append_drop i l]
    rw [List.foldl_append, foldl_sum]
  omega
theorem rsize_kids (t : Ty) : t.size = sumL (t.rl.map Ty.size) + 1 := by
  cases t <;> simp only [Ty.size, Ty.rl, sumL, List.map_cons, List.map_nil, List.foldl_cons, List.foldl_nil] <;> omega
theorem rl_len (t : Ty) : t.rl.length ≤ 2 := by cases t <;> simp [Ty.rl]
set_option maxRecDepth 100000 in
set_option maxHeartbeats 4000000 in
theorem tr_size {G : GH} {b : Nat} {t : Ty} (h : RTy G b t) : t.size ≤ 1000000000 → ∀ w : World, Holds G w → Calls Tryd.prog 29 #[.pointer (some ⟨b, 0, none⟩)] w fun e w' => e = .returned (.int .i64 t.size) ∧ ∃ m, w' = w.drewN m := by
  induction h with
  | @mk b t lv ks h1 h2 h3 h4 ih =>
    intro hd w hw
    have hkn : ks.length ≤ 2 := by have := rl_len t; omega
    obtain ⟨ao, cap, rfl, hc⟩ := slr_shp h2
    have c2 : w.cell? ⟨b, 2, none⟩ = some (.slice ao ks.length cap) := by have := cell_of_heap (i := 2) (hw _ _ h1) rfl; simpa using this
    have hdk := rsize_kids t
    have HW := Lib.hid hw; have HC := Lib.hid hc; have H3 := Lib.hid h3; have IH := Lib.hid ih; have HDK := Lib.hid hdk
    clear hw hc h1 h2 h3 h4 ih hdk
    go_enter Tryd.func29, Tryd.ntmps29
    go_wp2_with fail
    go_loopg [3, 11] ks.length (fun gn s3 s11 wr => ∃ i : Nat, i ≤ ks.length ∧ Hid (gn = ks.length - i) ∧ s11 = .int .i64 i ∧ s3 = .int .i64 ((sumL ((t.rl.map Ty.size).take i) + 1 : Nat) : Int) ∧ ∃ m, wr = w.drewN m)
    case atStart => exact ⟨0, by omega, Lib.hid rfl, rfl, rfl, 0, rfl⟩
    case round =>
      obtain ⟨i, hi, HM, rfl, rfl, m, hwr⟩ := hrel
      subst wr
      have h0i : (0 : Int) ≤ (i : Int) := by omega
      by_cases hlt : i < ks.length
      · have hii : (i : Int) < (ks.length : Int) := by omega
        have hlk : i < t.rl.length := by rw [← H3.out]; exact hlt
        obtain ⟨lb, rfl, hcl⟩ := HC.out i (by simpa using hlt)
        have cm : (w.drewN m).cell? ⟨lb, i, none⟩ = some (.pointer (some ⟨ks[i], 0, none⟩)) := by rw [hcl (w.drewN m) (HW.out.keep0 (Keep.drewN _ _ _))]; simp [ptr]
        have hmt := sumL_take (l := t.rl.map Ty.size) (i := i) (by simpa using hlk)
        have hmt2 := sumL_take_le (t.rl.map Ty.size) (i + 1)
        simp only [List.getElem_map] at hmt
        have hdd := HDK.out
        have hcall := IH.out i hlt hlk (by omega) (w.drewN m) (HW.out.keep0 (Keep.drewN _ _ _))
        obtain ⟨di, hdi⟩ : ∃ di, di = t.rl[i].size := ⟨_, rfl⟩
        obtain ⟨ki, hki⟩ : ∃ ki, ki = ks[i] := ⟨_, rfl⟩
        obtain ⟨mi, hmi⟩ : ∃ mi, mi = sumL ((t.rl.map Ty.size).take i) + 1 := ⟨_, rfl⟩
        rw [← hdi] at hmt hcall
        rw [← hki] at cm hcall
        have hmt3 : sumL ((t.rl.map Ty.size).take (i + 1)) + 1 = mi + di := by omega
        have hb1 : mi + di ≤ 1000000000 := by omega
        rw [← hmi] at ⊢
        have HMT := Lib.hid hmt3; have HCALL := Lib.hid hcall
        clear hmt hmt2 hmt3 hcall hdi hki hmi hdd hlk hcl
        go_wp2_with fail
        refine HCALL.out.mono ?_
        rintro e w2 ⟨rfl, m2, hw2⟩
        have hw3 : w2 = w.drewN (m + m2) := by rw [hw2, World.drewN_drewN]
        subst w2
        rw [hw3]
        clear hw3
        go_wp2_with fail
        go_roundg (ks.length - (i + 1))
        case measure => have := HM.out; omega
        case rel => exact ⟨i + 1, by omega, Lib.hid rfl, by go_num, by rw [HMT.out]; go_num, _, rfl⟩
      · have hie : i = ks.length := by omega
        subst hie
        have hl : (t.rl.map Ty.size).take ks.length = t.rl.map Ty.size := by rw [H3.out, ← List.length_map (f := Ty.size), List.take_length]
        rw [hl]
        have hdd := HDK.out
        obtain ⟨mi, hmi⟩ : ∃ mi, mi = sumL (t.rl.map Ty.size) + 1 := ⟨_, rfl⟩
        rw [← hmi] at hdd ⊢
        have HDD := Lib.hid hdd
        clear hl hmi hdd
        go_wp2_with fail
        go_ret
        exact ⟨by rw [HDD.out]; rfl, _, rfl⟩
end Go.Proofs.YtabikmkoajdhmaaDoor
