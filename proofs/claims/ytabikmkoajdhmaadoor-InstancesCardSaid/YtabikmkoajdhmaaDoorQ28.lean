/- (*types.reader).one and whole by contracts. -/
import Derived.Test.YtabikmkoajdhmaaDoorQ26
import Derived.Test.YtabikmkoajdhmaaDoorQ20
import Derived.Test.YtabikmkoajdhmaaDoorQ22
import Derived.Deep.LoopGhost
import Derived.Test.YtabikmkoajdhmaaDoorQ04
import Derived.Carry
import Derived.Test.YtabikmkoajdhmaaDoorShelf
import Derived.Laws.IdiomStrings
set_option linter.unusedVariables false
set_option linter.unusedSimpArgs false
namespace Go.Proofs.YtabikmkoajdhmaaDoor
open Go.RowKit

theorem good_INT : goodK (.kw INT) := good_kw (by unfold reserved; decide)
theorem good_BOOL : goodK (.kw BOOL) := good_kw (by unfold reserved; decide)
theorem good_LB : goodK (.kw LB) := good_kw (sign_good 91)
theorem good_RB : goodK (.kw RB) := good_kw (sign_good 93)
theorem str_map : Tryd.prog.underlying 127 = some (.map 9 137) := by kernel_rfl
theorem zero_ptr : ∀ w, (zeroValue 137).run Tryd.prog w = .ok (.pointer none) w := fun w => by kernel_rfl

set_option maxRecDepth 100000 in
set_option maxHeartbeats 4000000 in
theorem whole_step {kw : Str → Bool} {kwf : Nat} {S : ByteArray} (hx : Lx kw kwf S) (k : Nat) (ihW : WholeOk kwf kw S k) (ihO : OneOk kwf kw S k) (x : RBs) (G : GH) (A : GV) (w : World) (st : TS) (l : List Tok) (r : Res (Ty × TS × List Tok)) (hr : qWhole (k + 1) st l = r) (hne : r ≠ none) (hi : RI x S kw kwf G A w st l) :
    Calls Tryd.prog 75 #[.pointer (some ⟨x.ab, 0, none⟩)] w (TPost x S kw kwf G A w r) := by
  obtain ⟨c0, _, _⟩ := hi.cells
  simp only [qWhole] at hr
  have IHW := Lib.hid ihW; have IHO := Lib.hid ihO; have HR := Lib.hid hr; have HNE := Lib.hid hne
  clear ihW ihO hr hne
  go_enter Tryd.func75, Tryd.ntmps75
  go_wp2_with fail
  cases hp : qOne k st l with
  | none => exact absurd (by rw [← HR.out]; simp only [Res.bind, hp]) HNE.out
  | some rr =>
    refine (IHO.out x G A w st l (some rr) hp (by simp) hi).mono ?_
    cases rr with
    | error p =>
      have hr : r = some (.error p) := by rw [← HR.out]; simp only [Res.bind, hp]
      clear HR
      rintro e we ⟨ke, rfl⟩
      go_wp2_with fail
      subst hr
      exact ⟨rfl, ke, rfl⟩
    | ok xl =>
      obtain ⟨t2, st2, l2⟩ := xl
      have hr := HR.out; simp only [Res.bind, hp] at hr; clear HR
      have HR := Lib.hid hr; have HP2 := Lib.hid hp; clear hr hp
      rintro e w2 ⟨k2, v2, G2, A2, rfl, g2, a2, i2, y2⟩
      obtain ⟨T2, b2, rfl⟩ := y2.iface
      obtain ⟨c2, _, _⟩ := i2.cells
      go_wp2_with fail
      refine (take_any hx (.kw ARROW) good_ARROW ne_bad _ x.rb l2 i2.rd).mono ?_
      by_cases h3 : (hd l2).kind = .kw ARROW
      · rintro e w3 ⟨k3, h3'⟩
        rw [if_pos h3] at h3'
        obtain ⟨rfl, r3⟩ := h3'
        have i3 := i2.step k3 r3
        have y3 := i2.trs (k3.mono one_S3) (GH.sub.refl _) (GV.sub.refl _) y2
        obtain ⟨c3, _, _⟩ := i3.cells
        have hr := HR.out; rw [if_pos h3] at hr; clear HR
        have HR := Lib.hid hr; clear hr h3
        go_wp2_with fail
        cases hp2 : qWhole k st2 (adv l2) with
        | none => exact absurd (by rw [← HR.out]; simp only [Res.bind, hp2]) HNE.out
        | some rr =>
          refine (IHW.out x G2 A2 w3 st2 (adv l2) (some rr) hp2 (by simp) i3).mono ?_
          cases rr with
          | error p =>
            have hr : r = some (.error p) := by rw [← HR.out]; simp only [Res.bind, hp2]
            clear HR
            rintro e we ⟨ke, rfl⟩
            go_wp2_with fail
            subst hr
            exact ⟨rfl, keepXs (keepRs k2 k3) ke, rfl⟩
          | ok xl =>
            obtain ⟨t4, st4, l4⟩ := xl
            have hr := HR.out; simp only [Res.bind, hp2] at hr; clear HR
            have HR := Lib.hid hr; have HP4 := Lib.hid hp2; clear hr hp2
            rintro e w4 ⟨k4, v4, G4, A4, rfl, g4, a4, i4, y4⟩
            obtain ⟨T4, b4, rfl⟩ := y4.iface
            obtain ⟨c4, _, _⟩ := i4.cells
            have y24 := i3.trs k4 g4.sub a4.sub y3
            obtain ⟨G5, g5, i5, y5⟩ := mk_con2 i4.inv (t := .fn t2 t4) rfl rfl y24 y4
            go_wp2_with fail
            refine (of_ok (bs sFun) _ _ _ _).mono ?_
            rintro e w5 ⟨rfl, rfl⟩
            go_wp2_with fail
            go_ret
            have hr := HR.out
            subst hr
            have k5 : Keep none' w4 ((w4.alloc (.cells #[.iface T2 (.pointer (some ⟨b2, 0, none⟩)), .iface T4 (.pointer (some ⟨b4, 0, none⟩))] 126)).alloc (.cells #[.string (bs sFun), .slice (some ⟨w4.heap.size, 0, none⟩) 2 2] 147)) := (Keep.alloc _ _ _).trans (Keep.alloc _ _ _)
            exact ⟨keep0s (keepXs (keepRs k2 k3) k4) k5, _, G5, A4, rfl, (g2.trans k2 (Grew.keep k3 g4)).trans (keepXs (keepRs k2 k3) k4) g5, a2.trans k2 (GrewV.keep k3 a4), i4.up k5 g5 i5, y5⟩

      · rintro e w3 ⟨k3, h3'⟩
        rw [if_neg h3] at h3'
        obtain ⟨rfl, rfl⟩ := h3'
        have hr := HR.out; rw [if_neg h3] at hr; clear HR
        go_wp2_with fail
        go_ret
        subst hr
        exact ⟨k2, _, G2, A2, rfl, g2, a2, i2, y2⟩

set_option maxRecDepth 100000 in
set_option maxHeartbeats 4000000 in
theorem one_int {kw : Str → Bool} {kwf : Nat} {S : ByteArray} (hx : Lx kw kwf S) (k : Nat) (x : RBs) (G : GH) (A : GV) (w : World) (st : TS) (l : List Tok) (r : Res (Ty × TS × List Tok)) (hr : qOne (k + 1) st l = r) (hne : r ≠ none) (hi : RI x S kw kwf G A w st l) (hk : (hd l).kind = .kw INT) :
    Calls Tryd.prog 91 #[.pointer (some ⟨x.ab, 0, none⟩)] w (TPost x S kw kwf G A w r) := by
  obtain ⟨c0, _, _⟩ := hi.cells
  simp only [qOne, if_pos hk] at hr
  go_enter Tryd.func91, Tryd.ntmps91
  go_wp2_with fail
  refine (take_any hx (.kw INT) good_INT ne_bad _ x.rb l hi.rd).mono ?_
  rintro e w1 ⟨k1, h1⟩
  rw [if_pos hk] at h1
  obtain ⟨rfl, r1⟩ := h1
  have i1 := hi.step k1 r1
  obtain ⟨c1, _, _⟩ := i1.cells
  clear c0
  go_wp2_with fail
  refine (of_ok (bs INT) _ _ _ _).mono ?_
  rintro e w2 ⟨rfl, rfl⟩
  go_wp2_with fail
  go_ret
  subst hr
  obtain ⟨G5, g5, i5, y5⟩ := mk_con0 i1.inv (t := .int) rfl rfl
  exact ⟨keep0s (k1.mono one_S3) (Keep.alloc _ _ _), _, G5, A, rfl, Grew.keep k1 g5, GrewV.refl A w, i1.up (Keep.alloc _ _ _) g5 i5, y5⟩

set_option maxRecDepth 100000 in
set_option maxHeartbeats 4000000 in
theorem one_bool {kw : Str → Bool} {kwf : Nat} {S : ByteArray} (hx : Lx kw kwf S) (k : Nat) (x : RBs) (G : GH) (A : GV) (w : World) (st : TS) (l : List Tok) (r : Res (Ty × TS × List Tok)) (hr : qOne (k + 1) st l = r) (hne : r ≠ none) (hi : RI x S kw kwf G A w st l) (nINT : ¬ (hd l).kind = .kw INT) (hk : (hd l).kind = .kw BOOL) :
    Calls Tryd.prog 91 #[.pointer (some ⟨x.ab, 0, none⟩)] w (TPost x S kw kwf G A w r) := by
  obtain ⟨c0, _, _⟩ := hi.cells
  simp only [qOne, if_neg nINT, if_pos hk] at hr
  go_enter Tryd.func91, Tryd.ntmps91
  go_wp2_with fail
  refine (take_any hx (.kw INT) good_INT ne_bad _ x.rb l hi.rd).mono ?_
  rintro e w1 ⟨_, h1⟩
  rw [if_neg nINT] at h1
  obtain ⟨rfl, rfl⟩ := h1
  go_wp2_with fail
  refine (take_any hx (.kw BOOL) good_BOOL ne_bad _ x.rb l hi.rd).mono ?_
  rintro e w1 ⟨k1, h1⟩
  rw [if_pos hk] at h1
  obtain ⟨rfl, r1⟩ := h1
  have i1 := hi.step k1 r1
  obtain ⟨c1, _, _⟩ := i1.cells
  clear c0
  go_wp2_with fail
  refine (of_ok (bs BOOL) _ _ _ _).mono ?_
  rintro e w2 ⟨rfl, rfl⟩
  go_wp2_with fail
  go_ret
  subst hr
  obtain ⟨G5, g5, i5, y5⟩ := mk_con0 i1.inv (t := .bool) rfl rfl
  exact ⟨keep0s (k1.mono one_S3) (Keep.alloc _ _ _), _, G5, A, rfl, Grew.keep k1 g5, GrewV.refl A w, i1.up (Keep.alloc _ _ _) g5 i5, y5⟩

set_option maxRecDepth 100000 in
set_option maxHeartbeats 4000000 in
theorem one_list {kw : Str → Bool} {kwf : Nat} {S : ByteArray} (hx : Lx kw kwf S) (k : Nat) (ihW : WholeOk kwf kw S k) (x : RBs) (G : GH) (A : GV) (w : World) (st : TS) (l : List Tok) (r : Res (Ty × TS × List Tok)) (hr : qOne (k + 1) st l = r) (hne : r ≠ none) (hi : RI x S kw kwf G A w st l) (nINT : ¬ (hd l).kind = .kw INT) (nBOOL : ¬ (hd l).kind = .kw BOOL) (hk : (hd l).kind = .kw LB) :
    Calls Tryd.prog 91 #[.pointer (some ⟨x.ab, 0, none⟩)] w (TPost x S kw kwf G A w r) := by
  obtain ⟨c0, _, _⟩ := hi.cells
  simp only [qOne, if_neg nINT, if_neg nBOOL, if_pos hk] at hr
  have IHW := Lib.hid ihW; have HR := Lib.hid hr; have HNE := Lib.hid hne
  clear ihW hr hne
  go_enter Tryd.func91, Tryd.ntmps91
  go_wp2_with fail
  refine (take_any hx (.kw INT) good_INT ne_bad _ x.rb l hi.rd).mono ?_
  rintro e w1 ⟨_, h1⟩
  rw [if_neg nINT] at h1
  obtain ⟨rfl, rfl⟩ := h1
  go_wp2_with fail
  refine (take_any hx (.kw BOOL) good_BOOL ne_bad _ x.rb l hi.rd).mono ?_
  rintro e w1 ⟨_, h1⟩
  rw [if_neg nBOOL] at h1
  obtain ⟨rfl, rfl⟩ := h1
  go_wp2_with fail
  refine (take_any hx (.kw LB) good_LB ne_bad _ x.rb l hi.rd).mono ?_
  rintro e w1 ⟨k1, h1⟩
  rw [if_pos hk] at h1
  obtain ⟨rfl, r1⟩ := h1
  have i1 := hi.step k1 r1
  obtain ⟨c1, _, _⟩ := i1.cells
  clear c0
  go_wp2_with fail
  cases hp : qWhole k st (adv l) with
  | none => exact absurd (by rw [← HR.out]; simp only [Res.bind, hp]) HNE.out
  | some rr =>
    refine (IHW.out x G A w1 st (adv l) (some rr) hp (by simp) i1).mono ?_
    cases rr with
    | error p =>
      have hr : r = some (.error p) := by rw [← HR.out]; simp only [Res.bind, hp]
      clear HR
      rintro e we ⟨ke, rfl⟩
      go_wp2_with fail
      subst hr
      exact ⟨rfl, keepXs (k1.mono one_S3) ke, rfl⟩
    | ok xl =>
      obtain ⟨t2, st2, l2⟩ := xl
      have hr := HR.out; simp only [Res.bind, hp] at hr; clear HR
      have HR := Lib.hid hr; have HP2 := Lib.hid hp; clear hr hp
      rintro e w2 ⟨k2, v2, G2, A2, rfl, g2, a2, i2, y2⟩
      obtain ⟨T2, b2, rfl⟩ := y2.iface
      obtain ⟨c2, _, _⟩ := i2.cells
      have hr := HR.out
      go_wp2_with fail
      refine (want_any hx (.kw RB) good_RB ne_bad _ x.rb l2 i2.rd).mono ?_
      by_cases h6 : (hd l2).kind = .kw RB
      · rw [want_yes h6]
        rw [want_yes h6] at hr; simp only at hr; clear HR h6
        rintro e w6 ⟨k6, rfl, r6⟩
        have i6 := i2.step k6 r6
        have y6 := i2.trs (k6.mono one_S3) (GH.sub.refl _) (GV.sub.refl _) y2
        have HR := Lib.hid hr; clear hr
        go_wp2_with fail
        refine (of_ok (bs sList) _ _ _ _).mono ?_
        rintro e w7 ⟨rfl, rfl⟩
        go_wp2_with fail
        go_ret
        have hr := HR.out
        subst hr
        obtain ⟨G5, g5, i5, y5⟩ := mk_con1 i6.inv (t := .list t2) rfl rfl y6
        have k5 : Keep none' w6 ((w6.alloc (.cells #[.iface T2 (.pointer (some ⟨b2, 0, none⟩))] 126)).alloc (.cells #[.string (bs sList), .slice (some ⟨w6.heap.size, 0, none⟩) 1 1] 147)) := (Keep.alloc _ _ _).trans (Keep.alloc _ _ _)
        exact ⟨keep0s (keepRs (keepXs (k1.mono one_S3) k2) k6) k5, _, G5, A2, rfl, (Grew.keep k1 g2).trans (keepRs (keepXs (k1.mono one_S3) k2) k6) g5, GrewV.keep k1 a2, i6.up k5 g5 i5, y5⟩
      · rw [want_no h6]
        rw [want_no h6] at hr; simp only at hr
        clear HR h6
        rintro e w6 ⟨k6, rfl⟩
        go_wp2_with fail
        subst hr
        exact ⟨rfl, keepRs (keepXs (k1.mono one_S3) k2) k6, rfl⟩

set_option maxRecDepth 100000 in
set_option maxHeartbeats 4000000 in
theorem one_paren {kw : Str → Bool} {kwf : Nat} {S : ByteArray} (hx : Lx kw kwf S) (k : Nat) (ihW : WholeOk kwf kw S k) (x : RBs) (G : GH) (A : GV) (w : World) (st : TS) (l : List Tok) (r : Res (Ty × TS × List Tok)) (hr : qOne (k + 1) st l = r) (hne : r ≠ none) (hi : RI x S kw kwf G A w st l) (nINT : ¬ (hd l).kind = .kw INT) (nBOOL : ¬ (hd l).kind = .kw BOOL) (nLB : ¬ (hd l).kind = .kw LB) (hk : (hd l).kind = .kw LP) :
    Calls Tryd.prog 91 #[.pointer (some ⟨x.ab, 0, none⟩)] w (TPost x S kw kwf G A w r) := by
  obtain ⟨c0, _, _⟩ := hi.cells
  simp only [qOne, if_neg nINT, if_neg nBOOL, if_neg nLB, if_pos hk] at hr
  have IHW := Lib.hid ihW; have HR := Lib.hid hr; have HNE := Lib.hid hne
  clear ihW hr hne
  go_enter Tryd.func91, Tryd.ntmps91
  go_wp2_with fail
  refine (take_any hx (.kw INT) good_INT ne_bad _ x.rb l hi.rd).mono ?_
  rintro e w1 ⟨_, h1⟩
  rw [if_neg nINT] at h1
  obtain ⟨rfl, rfl⟩ := h1
  go_wp2_with fail
  refine (take_any hx (.kw BOOL) good_BOOL ne_bad _ x.rb l hi.rd).mono ?_
  rintro e w1 ⟨_, h1⟩
  rw [if_neg nBOOL] at h1
  obtain ⟨rfl, rfl⟩ := h1
  go_wp2_with fail
  refine (take_any hx (.kw LB) good_LB ne_bad _ x.rb l hi.rd).mono ?_
  rintro e w1 ⟨_, h1⟩
  rw [if_neg nLB] at h1
  obtain ⟨rfl, rfl⟩ := h1
  go_wp2_with fail
  refine (take_any hx (.kw LP) good_LP ne_bad _ x.rb l hi.rd).mono ?_
  rintro e w1 ⟨k1, h1⟩
  rw [if_pos hk] at h1
  obtain ⟨rfl, r1⟩ := h1
  have i1 := hi.step k1 r1
  obtain ⟨c1, _, _⟩ := i1.cells
  clear c0
  go_wp2_with fail
  cases hp : qWhole k st (adv l) with
  | none => exact absurd (by rw [← HR.out]; simp only [Res.bind, hp]) HNE.out
  | some rr =>
    refine (IHW.out x G A w1 st (adv l) (some rr) hp (by simp) i1).mono ?_
    cases rr with
    | error p =>
      have hr : r = some (.error p) := by rw [← HR.out]; simp only [Res.bind, hp]
      clear HR
      rintro e we ⟨ke, rfl⟩
      go_wp2_with fail
      subst hr
      exact ⟨rfl, keepXs (k1.mono one_S3) ke, rfl⟩
    | ok xl =>
      obtain ⟨t2, st2, l2⟩ := xl
      have hr := HR.out; simp only [Res.bind, hp] at hr; clear HR
      have HR := Lib.hid hr; have HP2 := Lib.hid hp; clear hr hp
      rintro e w2 ⟨k2, v2, G2, A2, rfl, g2, a2, i2, y2⟩
      obtain ⟨T2, b2, rfl⟩ := y2.iface
      obtain ⟨c2, _, _⟩ := i2.cells
      go_wp2_with fail
      refine (take_any hx (.kw COMMA) good_COMMA ne_bad _ x.rb l2 i2.rd).mono ?_
      by_cases h3 : (hd l2).kind = .kw COMMA
      · rintro e w3 ⟨k3, h3'⟩
        rw [if_pos h3] at h3'
        obtain ⟨rfl, r3⟩ := h3'
        have i3 := i2.step k3 r3
        have y3 := i2.trs (k3.mono one_S3) (GH.sub.refl _) (GV.sub.refl _) y2
        obtain ⟨c3, _, _⟩ := i3.cells
        have hr := HR.out; rw [if_pos h3] at hr; clear HR
        have HR := Lib.hid hr; clear hr h3
        go_wp2_with fail
        cases hp2 : qWhole k st2 (adv l2) with
        | none => exact absurd (by rw [← HR.out]; simp only [Res.bind, hp2]) HNE.out
        | some rr =>
          refine (IHW.out x G2 A2 w3 st2 (adv l2) (some rr) hp2 (by simp) i3).mono ?_
          cases rr with
          | error p =>
            have hr : r = some (.error p) := by rw [← HR.out]; simp only [Res.bind, hp2]
            clear HR
            rintro e we ⟨ke, rfl⟩
            go_wp2_with fail
            subst hr
            exact ⟨rfl, keepXs (keepRs (keepXs (k1.mono one_S3) k2) k3) ke, rfl⟩
          | ok xl =>
            obtain ⟨t4, st4, l4⟩ := xl
            have hr := HR.out; simp only [Res.bind, hp2] at hr; clear HR
            have HR := Lib.hid hr; have HP4 := Lib.hid hp2; clear hr hp2
            rintro e w4 ⟨k4, v4, G4, A4, rfl, g4, a4, i4, y4⟩
            obtain ⟨T4, b4, rfl⟩ := y4.iface
            obtain ⟨c4, _, _⟩ := i4.cells
            have y24 := i3.trs k4 g4.sub a4.sub y3
            obtain ⟨G5, g5, i5, y5⟩ := mk_con2 i4.inv (t := .pair t2 t4) rfl rfl y24 y4
            have k5 : Keep none' w4 ((w4.alloc (.cells #[.iface T2 (.pointer (some ⟨b2, 0, none⟩)), .iface T4 (.pointer (some ⟨b4, 0, none⟩))] 126)).alloc (.cells #[.string (bs sPair), .slice (some ⟨w4.heap.size, 0, none⟩) 2 2] 147)) := (Keep.alloc _ _ _).trans (Keep.alloc _ _ _)
            have i55 := i4.up k5 g5 i5
            obtain ⟨c5, _, _⟩ := i55.cells
            go_wp2_with fail
            refine (of_ok (bs sPair) _ _ _ _).mono ?_
            rintro e w5 ⟨rfl, rfl⟩
            simp only [conV]
            have hr := HR.out
            go_wp2_with fail
            refine (want_any hx (.kw RP) good_RP ne_bad _ x.rb l4 i55.rd).mono ?_
            by_cases h6 : (hd l4).kind = .kw RP
            · rw [want_yes h6]
              rw [want_yes h6] at hr; simp only at hr; clear HR h6
              rintro e w6 ⟨k6, rfl, r6⟩
              have i6 := i55.step k6 r6
              have y6 := i55.trs (k6.mono one_S3) (GH.sub.refl _) (GV.sub.refl _) y5
              go_wp2_with fail
              go_ret
              subst hr
              exact ⟨keepRs (keep0s (keepXs (keepRs (keepXs (k1.mono one_S3) k2) k3) k4) k5) k6, _, G5, A4, rfl, ((Grew.keep k1 g2).trans (keepXs (k1.mono one_S3) k2) (Grew.keep k3 g4)).trans (keepXs (keepRs (keepXs (k1.mono one_S3) k2) k3) k4) g5, (GrewV.keep k1 a2).trans (keepXs (k1.mono one_S3) k2) (GrewV.keep k3 a4), i6, y6⟩
            · rw [want_no h6]
              rw [want_no h6] at hr; simp only at hr
              clear HR h6
              rintro e w6 ⟨k6, rfl⟩
              go_wp2_with fail
              subst hr
              exact ⟨rfl, keepRs (keep0s (keepXs (keepRs (keepXs (k1.mono one_S3) k2) k3) k4) k5) k6, rfl⟩

      · rintro e w3 ⟨k3, h3'⟩
        rw [if_neg h3] at h3'
        obtain ⟨rfl, rfl⟩ := h3'
        have hr := HR.out; rw [if_neg h3] at hr; clear HR
        go_wp2_with fail
        refine (want_any hx (.kw RP) good_RP ne_bad _ x.rb l2 i2.rd).mono ?_
        by_cases h6 : (hd l2).kind = .kw RP
        · rw [want_yes h6]
          rw [want_yes h6] at hr; simp only at hr; clear h6
          rintro e w6 ⟨k6, rfl, r6⟩
          have i6 := i2.step k6 r6
          have y6 := i2.trs (k6.mono one_S3) (GH.sub.refl _) (GV.sub.refl _) y2
          go_wp2_with fail
          go_ret
          subst hr
          exact ⟨keepRs (keepXs (k1.mono one_S3) k2) k6, _, G2, A2, rfl, Grew.keep k1 g2, GrewV.keep k1 a2, i6, y6⟩
        · rw [want_no h6]
          rw [want_no h6] at hr; simp only at hr
          clear h6
          rintro e w6 ⟨k6, rfl⟩
          go_wp2_with fail
          subst hr
          exact ⟨rfl, keepRs (keepXs (k1.mono one_S3) k2) k6, rfl⟩

theorem lookup_mem {α : Type} {n : Str} {v : α} : ∀ {m : List (Str × α)}, m.lookup n = some v → (n, v) ∈ m
  | (a, u) :: r, h => by
    rw [List.lookup_cons] at h
    cases e : n == a with
    | true =>
      rw [e] at h; simp only [if_true] at h
      injection h with h
      have := eq_of_beq e
      subst this; subst h
      simp
    | false =>
      rw [e] at h
      exact List.mem_cons_of_mem _ (lookup_mem (m := r) (by simpa using h))

set_option maxRecDepth 100000 in
set_option maxHeartbeats 4000000 in
theorem one_name {kw : Str → Bool} {kwf : Nat} {S : ByteArray} (hx : Lx kw kwf S) (k : Nat) (x : RBs) (G : GH) (A : GV) (w : World) (st : TS) (l : List Tok) (r : Res (Ty × TS × List Tok)) (hr : qOne (k + 1) st l = r) (hne : r ≠ none) (hi : RI x S kw kwf G A w st l) (nINT : ¬ (hd l).kind = .kw INT) (nBOOL : ¬ (hd l).kind = .kw BOOL) (nLB : ¬ (hd l).kind = .kw LB) (nLP : ¬ (hd l).kind = .kw LP) :
    Calls Tryd.prog 91 #[.pointer (some ⟨x.ab, 0, none⟩)] w (TPost x S kw kwf G A w r) := by
  obtain ⟨c0, _, _⟩ := hi.cells
  simp only [qOne, if_neg nINT, if_neg nBOOL, if_neg nLB, if_neg nLP] at hr
  have HR := Lib.hid hr; have HNE := Lib.hid hne
  clear hr hne
  go_enter Tryd.func91, Tryd.ntmps91
  go_wp2_with fail
  refine (take_any hx (.kw INT) good_INT ne_bad _ x.rb l hi.rd).mono ?_
  rintro e w1 ⟨_, h1⟩
  rw [if_neg nINT] at h1
  obtain ⟨rfl, rfl⟩ := h1
  go_wp2_with fail
  refine (take_any hx (.kw BOOL) good_BOOL ne_bad _ x.rb l hi.rd).mono ?_
  rintro e w1 ⟨_, h1⟩
  rw [if_neg nBOOL] at h1
  obtain ⟨rfl, rfl⟩ := h1
  go_wp2_with fail
  refine (take_any hx (.kw LB) good_LB ne_bad _ x.rb l hi.rd).mono ?_
  rintro e w1 ⟨_, h1⟩
  rw [if_neg nLB] at h1
  obtain ⟨rfl, rfl⟩ := h1
  go_wp2_with fail
  refine (take_any hx (.kw LP) good_LP ne_bad _ x.rb l hi.rd).mono ?_
  rintro e w1 ⟨_, h1⟩
  rw [if_neg nLP] at h1
  obtain ⟨rfl, rfl⟩ := h1
  go_wp2_with fail
  refine (want_any hx .name good_name (by decide) _ x.rb l hi.rd).mono ?_
  by_cases h1 : (hd l).kind = .name
  · rw [want_yes h1]
    have hr := HR.out; rw [want_yes h1] at hr; simp only [Res.bind] at hr; clear HR h1
    rintro e w1 ⟨k1, rfl, r1⟩
    have i1 := hi.step k1 r1
    obtain ⟨c1, c2, c3⟩ := i1.cells
    clear c0
    cases hl : st.m.lookup (hd l).text with
    | some N =>
      rw [hl] at hr; simp only at hr
      obtain ⟨b, hA, hb⟩ := i1.nm _ (lookup_mem hl)
      have lk := run_look_some (P := Tryd.prog) str_map key_str (k := (hd l).text) (v := .pointer (some ⟨b, 0, none⟩)) i1.mp (by rw [vents_look, hl]; simp [vptr_some hA]) false
      simp only [Bool.false_eq_true, if_false] at lk
      unfold kStr at lk
      have HR := Lib.hid hr; have HL := Lib.hid hl; clear hr hl
      go_wp2_with fail
      go_ret
      have hr := HR.out
      subst hr
      exact ⟨k1.mono one_S3, _, G, A, rfl, Grew.refl G w, GrewV.refl A w, i1, .free hA hb⟩
    | none =>
      rw [hl] at hr; simp only at hr
      have hn : st.n < 1000000000 := by
        rcases Nat.lt_or_ge st.n 1000000000 with h | h
        · exact h
        · rw [if_neg (by omega)] at hr; exact absurd hr.symm HNE.out
      rw [if_pos hn] at hr
      have lk := run_look_none (P := Tryd.prog) str_map key_str zero_ptr (k := (hd l).text) i1.mp (by rw [vents_look, hl]; rfl) false
      simp only [Bool.false_eq_true, if_false] at lk
      unfold kStr at lk
      have HR := Lib.hid hr; have HL := Lib.hid hl; clear hr hl
      go_wp2_with fail
      refine (new_ok i1.cnt hn).mono ?_
      rintro e w3 ⟨rfl, hw3⟩
      have e3 : w3.heap[w1.heap.size]? = some (varObj (st.n + 1) .nilIface []) := by
        rw [hw3]
        have : (w1.setCell ⟨x.cb, 0, none⟩ (.int .i64 ((st.n + 1 : Nat) : Int))).heap.size = w1.heap.size := World.size_setCell _ _ _
        rw [← this]; exact heap_new _ _
      have kc : Keep (one' x.cb) w1 w3 := by rw [hw3]; exact (Keep.setCell (S := one' x.cb) w1 (p := ⟨x.cb, 0, none⟩) _ (fun _ => rfl)).trans (Keep.alloc _ _ _)
      have cnt3 : w3.heap[x.cb]? = some (cntObj (st.n + 1)) := by
        rw [hw3]; exact heap_old (heap_set_same (c := #[.int .i64 st.n]) i1.cnt)
      have f3 : ∀ i, w3.frozen? ⟨w1.heap.size, i, none⟩ = false := fun i => free_of_heap e3
      have g3 : w3.cell? ⟨w1.heap.size, 2, none⟩ = some (.string (bs [])) := cell_of_heap e3 rfl
      obtain ⟨w4, hw4⟩ : ∃ w4, w4 = w3.setCell ⟨w1.heap.size, 2, none⟩ (.string (bs (hd l).text)) := ⟨_, rfl⟩
      have e4 : w4.heap[w1.heap.size]? = some (varObj (st.n + 1) .nilIface (hd l).text) := by
        rw [hw4]; exact heap_set_same (c := #[.int .i64 ((st.n + 1 : Nat) : Int), .nilIface, .string (bs [])]) e3
      have k4 : Keep (one' x.cb) w1 w4 := by
        rw [hw4]
        exact kc.trans' (Keep.setCell (S := one' w1.heap.size) _ _ (fun _ => rfl)) (fun _ _ e => e) (fun i hi (e : i = w1.heap.size) => absurd hi (by omega))
      have cnt4 : w4.heap[x.cb]? = some (cntObj (st.n + 1)) := by
        have := i1.lt x.cb (.inr (.inr rfl))
        rw [hw4]; exact heap_set_other cnt3 (show x.cb ≠ w1.heap.size by omega)
      have hcg := i1.g x.cb (.inr (.inr rfl))
      obtain ⟨h0, a4, i4, y4⟩ := i1.inv.var k4 hcg.1 hcg.2 e4
      have mp4 : w4.heap[x.mb]? = some (kmap kStr (vents A st.m)) := k4.get i1.mp i1.ne.2.2
      have d1 : w4.cell? ⟨x.ab, 1, none⟩ = some (.map (some x.mb)) := cell_of_heap (i4.holds _ _ i1.ar) rfl
      have up := run_upd_new (P := Tryd.prog) str_map key_str (k := (hd l).text) (v := .pointer (some ⟨w1.heap.size, 0, none⟩)) mp4 (by rw [vents_look, HL.out]; rfl)
      obtain ⟨w5, hw5⟩ : ∃ w5, w5 = World.lay w4 x.mb (kmap kStr (vents A st.m ++ [((hd l).text, .pointer (some ⟨w1.heap.size, 0, none⟩))])) := ⟨_, rfl⟩
      rw [← hw5] at up
      unfold kStr at up
      have k5 : Keep (one' x.mb) w4 w5 := by rw [hw5]; exact lay_keep _ _ _
      have mp5 : w5.heap[x.mb]? = some (kmap kStr (vents A st.m ++ [((hd l).text, .pointer (some ⟨w1.heap.size, 0, none⟩))])) := by rw [hw5]; exact lay_same (lt_of_heap mp4)
      have hmg := i1.g x.mb (.inr (.inl rfl))
      have hvm : ∀ b, isV (A.put (st.n + 1) (w1.heap.size, (hd l).text)) b → ¬ one' x.mb b := fun b hb (e : b = x.mb) => a4.isV (i1.lt x.mb (.inr (.inl rfl))) hmg.2 (e ▸ hb)
      have hgm : G.off (one' x.mb) := fun b o hb (e : b = x.mb) => by subst e; rw [hmg.1] at hb; cases hb
      have i5 := i4.keep k5 hgm hvm
      have y5 := y4.keep i4 k5 hvm
      have d2 : w5.cell? ⟨x.ab, 1, none⟩ = some (.map (some x.mb)) := cell_of_heap (i5.holds _ _ i1.ar) rfl
      have ev : vents (A.put (st.n + 1) (w1.heap.size, (hd l).text)) (st.m ++ [((hd l).text, st.n + 1)]) = vents A st.m ++ [((hd l).text, .pointer (some ⟨w1.heap.size, 0, none⟩))] := by
        unfold vents
        rw [List.map_append]
        congr 1
        · refine List.map_congr_left (fun p hp => ?_)
          obtain ⟨b, hb, _⟩ := i1.nm p hp
          rw [vptr_some hb, vptr_some (a4.sub _ _ hb)]
        · simp [vptr_some (GV.put_same A (st.n + 1) (w1.heap.size, (hd l).text))]
      have lk5 := run_look_some (P := Tryd.prog) str_map key_str (k := (hd l).text) (v := .pointer (some ⟨w1.heap.size, 0, none⟩)) mp5 (by
        rw [← ev, vents_look, List.lookup_append, HL.out]
        simp [vptr_some (GV.put_same A (st.n + 1) (w1.heap.size, (hd l).text))]) false
      simp only [Bool.false_eq_true, if_false] at lk5
      unfold kStr at lk5
      have hvc : ∀ b, b < w1.heap.size → S3 x b → ¬ isV (A.put (st.n + 1) (w1.heap.size, (hd l).text)) b := fun b hb hs => a4.isV hb (i1.g b hs).2
      have RIF : RI x S kw kwf G (A.put (st.n + 1) (w1.heap.size, (hd l).text)) w5 ⟨st.m ++ [((hd l).text, st.n + 1)], st.n + 1⟩ (adv l) := by
        refine ⟨i5, i1.ar, fun b hs => ⟨(i1.g b hs).1, hvc b (i1.lt b hs) hs⟩, i1.ne, ?_, k5.get cnt4 (fun e => i1.ne.2.2 (Eq.symm e)), by rw [ev]; exact mp5, fun p hp => ?_, fun hf N b nm e => ?_⟩
        · exact (i1.rd.keep k4 i1.ne.2.1).keep k5 i1.ne.1
        · rcases List.mem_append.1 hp with hp | hp
          · obtain ⟨b, hb, hh⟩ := i1.nm p hp
            have hbs : b ≠ x.cb := fun e => hcg.2 (e ▸ ⟨_, _, hb⟩)
            exact ⟨b, a4.sub _ _ hb, k5.get (k4.get hh hbs) (hvm b ⟨_, _, a4.sub _ _ hb⟩)⟩
          · simp only [List.mem_singleton] at hp
            subst hp
            exact ⟨_, GV.put_same _ _ _, k5.get e4 (hvm _ ⟨_, _, GV.put_same _ _ _⟩)⟩
        · by_cases hN : N = st.n + 1
          · subst hN; rw [GV.put_same] at e; injection e with e; injection e with e1 e2; subst e1; subst e2
            exact k5.get e4 (hvm _ ⟨_, _, GV.put_same _ _ _⟩)
          · have e' := e
            rw [GV.put_other _ _ hN] at e'
            exact k5.get (k4.get (i1.fr hf N b nm e') (fun h => hcg.2 (show isV A x.cb from (show b = x.cb from h) ▸ ⟨_, _, e'⟩))) (hvm b ⟨_, _, e⟩)
      have HF := Lib.hid RIF; have HY := Lib.hid y5; have HA4 := Lib.hid a4
      have HK : Hid (Keep (S3 x) w w5) := Lib.hid (((k1.mono one_S3).trans (k4.mono (fun _ _ e => .inr (.inr e)))).trans (k5.mono (fun _ _ e => .inr (.inl e))))
      have d3 : w3.cell? ⟨x.ab, 1, none⟩ = some (.map (some x.mb)) := by
        have := kc.cell_some c2 (show ¬ one' x.cb x.ab from fun e => by have h := i1.ar; rw [show x.ab = x.cb from e, hcg.1] at h; cases h)
        exact this
      clear RIF y5 a4 i5 i4 y4 mp4 mp5 ev hvm hgm hmg hcg k4 k5 cnt3 cnt4 e3 e4 kc lk h0 hvc hw5
      have HW3 := Lib.hid hw3; clear hw3
      rw [hw4] at up d1
      clear hw4
      go_wp2_with fail
      go_ret
      have hr := HR.out
      subst hr
      exact ⟨HK.out, _, G, _, rfl, Grew.refl G w, GrewV.keep k1 HA4.out, HF.out, HY.out⟩
  · rw [want_no h1]
    have hr := HR.out; rw [want_no h1] at hr; simp only [Res.bind] at hr; clear HR h1
    rintro e w1 ⟨k1, rfl⟩
    go_wp2_with fail
    subst hr
    exact ⟨rfl, k1.mono one_S3, rfl⟩

theorem types_ok {kw : Str → Bool} {kwf : Nat} {S : ByteArray} (hx : Lx kw kwf S) : ∀ k, WholeOk kwf kw S k ∧ OneOk kwf kw S k
  | 0 => ⟨fun x G A w st l r hr hne _ => absurd (by rw [← hr]; rfl) hne, fun x G A w st l r hr hne _ => absurd (by rw [← hr]; rfl) hne⟩
  | k + 1 => by
    obtain ⟨hW, hO⟩ := types_ok hx k
    refine ⟨fun x G A w st l r hr hne hi => whole_step hx k hW hO x G A w st l r hr hne hi, fun x G A w st l r hr hne hi => ?_⟩
    by_cases h1 : (hd l).kind = .kw INT
    · exact one_int hx k x G A w st l r hr hne hi h1
    · by_cases h2 : (hd l).kind = .kw BOOL
      · exact one_bool hx k x G A w st l r hr hne hi h1 h2
      · by_cases h3 : (hd l).kind = .kw LB
        · exact one_list hx k hW x G A w st l r hr hne hi h1 h2 h3
        · by_cases h4 : (hd l).kind = .kw LP
          · exact one_paren hx k hW x G A w st l r hr hne hi h1 h2 h3 h4
          · exact one_name hx k x G A w st l r hr hne hi h1 h2 h3 h4

end Go.Proofs.YtabikmkoajdhmaaDoor

/- The engine's memory: the counter, the variables; and what a step leaves of the meaning of all values. -/
namespace Go.Proofs.YtabikmkoajdhmaaDoor
open Go.RowKit

structure EI (cb : Nat) (G : GH) (A : GV) (w : World) (n : Nat) : Prop where
  inv : TInv G A w n
  cnt : w.heap[cb]? = some (cntObj n)
  cg : G cb = none
  cv : ¬ isV A cb
def touch (cb : Nat) (A : GV) : Nat → Prop := fun b => b = cb ∨ isV A b
structure Ext (cb : Nat) (G : GH) (A : GV) (w : World) (d : Dl) (G' : GH) (A' : GV) (w' : World) : Prop where
  keep : Keep (touch cb A) w w'
  g : Grew G w G'
  a : GrewV A w A'
  tr : ∀ v t, TR G A w v t → TR G' A' w' v (app d t)
theorem touch_old {cb : Nat} {A A' : GV} {w : World} (a : GrewV A w A') {b : Nat} (hb : b < w.heap.size) (h : touch cb A' b) : touch cb A b := by
  rcases h with h | ⟨N, nm, e⟩
  · exact .inl h
  · rcases a.new N b nm e with e | e
    · exact .inr ⟨N, nm, e⟩
    · omega
theorem Ext.trans {cb : Nat} {G G1 G2 : GH} {A A1 A2 : GV} {w w1 w2 : World} {d e : Dl} (h : Ext cb G A w d G1 A1 w1) (k : Ext cb G1 A1 w1 e G2 A2 w2) : Ext cb G A w (d ++ e) G2 A2 w2 :=
  ⟨h.keep.trans' k.keep (fun _ _ x => x) (fun _ hi x => touch_old h.a hi x), h.g.trans h.keep k.g, h.a.trans h.keep k.a, fun v t r => by rw [app_append]; exact k.tr _ _ (h.tr _ _ r)⟩
theorem Ext.refl (cb : Nat) (G : GH) (A : GV) (w : World) : Ext cb G A w [] G A w := ⟨Keep.refl _ _, Grew.refl _ _, GrewV.refl _ _, fun _ _ r => r⟩
/-- A step that finds out nothing. -/
theorem Ext.then0 {cb : Nat} {G G1 G2 : GH} {A A1 A2 : GV} {w w1 w2 : World} {d : Dl} (h : Ext cb G A w d G1 A1 w1) (k : Ext cb G1 A1 w1 [] G2 A2 w2) : Ext cb G A w d G2 A2 w2 := by
  have := h.trans k; rwa [List.append_nil] at this
theorem EI.lt {cb : Nat} {G : GH} {A : GV} {w : World} {n : Nat} (h : EI cb G A w n) : cb < w.heap.size := lt_of_heap h.cnt
/-- New blocks alone. -/
theorem EI.up {cb : Nat} {G G' : GH} {A : GV} {w w' : World} {n : Nat} (h : EI cb G A w n) (k : Keep none' w w') (g : Grew G w G') (i : TInv G' A w' n) : EI cb G' A w' n ∧ Ext cb G A w [] G' A w' :=
  ⟨⟨i, k.get h.cnt (fun x => x), g.sz h.lt h.cg, h.cv⟩, ⟨k.of_none, g, GrewV.refl _ _, fun _ _ r => r.up h.inv k (fun _ _ x => x) g.sub (GV.sub.refl A)⟩⟩
theorem EI.keep0 {cb : Nat} {G : GH} {A : GV} {w w' : World} {n : Nat} (h : EI cb G A w n) (k : Keep none' w w') : EI cb G A w' n ∧ Ext cb G A w [] G A w' := h.up k (Grew.refl _ _) (h.inv.keep0 k)
/-- Ways made shorter. -/
theorem EI.same {cb : Nat} {G : GH} {A : GV} {w w' : World} {n : Nat} (h : EI cb G A w n) (s : Same G A n w w') : EI cb G A w' n ∧ Ext cb G A w [] G A w' :=
  ⟨⟨s.inv, s.keep.get h.cnt h.cv, h.cg, h.cv⟩, ⟨s.keep.mono (fun _ _ x => .inr x), Grew.refl _ _, GrewV.refl _ _, fun v t r => s.tr v t r⟩⟩
/-- A new variable, as (*types.Vars).New lays it. -/
theorem EI.new {cb : Nat} {G : GH} {A : GV} {w w2 : World} {n : Nat} {nm : Str} (h : EI cb G A w n) (k : Keep (one' cb) w w2) (hb : w2.heap[w.heap.size]? = some (varObj (n + 1) .nilIface nm)) (hc : w2.heap[cb]? = some (cntObj (n + 1))) :
    EI cb G (A.put (n + 1) (w.heap.size, nm)) w2 (n + 1) ∧ Ext cb G A w [] G (A.put (n + 1) (w.heap.size, nm)) w2 ∧ TR G (A.put (n + 1) (w.heap.size, nm)) w2 (varV w.heap.size) (.var (n + 1)) := by
  obtain ⟨h0, a, i, y⟩ := h.inv.var k h.cg h.cv hb
  have hv : ∀ b, isV A b → ¬ one' cb b := fun x hx (e : x = cb) => h.cv (e ▸ hx)
  exact ⟨⟨i, hc, h.cg, a.isV h.lt h.cv⟩, ⟨k.mono (fun _ _ e => .inl e), Grew.refl _ _, a, fun v t r => r.up h.inv k hv (GH.sub.refl _) a.sub⟩, y⟩
theorem new_world {w : World} {cb n : Nat} (h : w.heap[cb]? = some (cntObj n)) :
    let w2 := (w.setCell ⟨cb, 0, none⟩ (.int .i64 ((n + 1 : Nat) : Int))).alloc (varObj (n + 1) .nilIface [])
    Keep (one' cb) w w2 ∧ w2.heap[w.heap.size]? = some (varObj (n + 1) .nilIface []) ∧ w2.heap[cb]? = some (cntObj (n + 1)) := by
  refine ⟨(Keep.setCell (S := one' cb) w (p := ⟨cb, 0, none⟩) _ (fun _ => rfl)).trans (Keep.alloc _ _ _), ?_, heap_old (heap_set_same (c := #[.int .i64 n]) h)⟩
  have : (w.setCell ⟨cb, 0, none⟩ (.int .i64 ((n + 1 : Nat) : Int))).heap.size = w.heap.size := World.size_setCell _ _ _
  rw [← this]; exact heap_new _ _
end Go.Proofs.YtabikmkoajdhmaaDoor

/- types.Size by a contract: a number that tells whether the size is beyond the bound. -/
namespace Go.Proofs.YtabikmkoajdhmaaDoor
open Go.RowKit

def NB (S B k : Nat) : Prop := 1 ≤ k ∧ k ≤ B + 1 ∧ (S ≤ B → k = S) ∧ (B < S → B < k)
def sums : List Ty → Nat
  | [] => 1
  | t :: r => t.size + sums r
theorem sums_snoc (l : List Ty) (t : Ty) : sums (l ++ [t]) = sums l + t.size := by
  induction l with
  | nil => simp [sums]; omega
  | cons a r ih => simp only [List.cons_append, sums, ih]; omega
theorem Ty.size_pos : ∀ t : Ty, 1 ≤ t.size
  | .var _ => Nat.le_refl _
  | .int => Nat.le_refl _
  | .bool => Nat.le_refl _
  | .list _ => by simp [Ty.size]
  | .pair _ _ => by simp [Ty.size]
  | .fn _ _ => by simp [Ty.size]
theorem sums_args (t : Ty) : t.size = sums t.args := by
  cases t <;> simp [Ty.size, Ty.args, sums]
  omega
  omega
theorem sums_take (l : List Ty) (j : Nat) (h : j < l.length) : sums (l.take (j + 1)) = sums (l.take j) + (l[j]).size := by
  rw [← sums_snoc, List.take_succ_eq_append_getElem h]
def SizePost (G : GH) (A : GV) (n : Nat) (w : World) (t : Ty) (B : Nat) (e : Ending) (w' : World) : Prop := ∃ k : Nat, e = .returned (.int .i64 k) ∧ NB t.size B k ∧ Same G A n w w'
def SizeOk (m : Nat) : Prop := ∀ (G : GH) (A : GV) (w : World) (n : Nat) (v : Value) (t : Ty) (B : Nat), TInv G A w n → TR G A w v t → t.size ≤ m → B ≤ 1000 → Calls Tryd.prog 76 #[v, .int .i64 B] w (SizePost G A n w t B)

set_option maxRecDepth 100000 in
set_option maxHeartbeats 2000000 in
theorem size_step (m : Nat) (ih : SizeOk m) : SizeOk (m + 1) := by
  intro G A w n v t B hi hv hm hB
  obtain ⟨T, b, f, rfl, hmt, hent, hc⟩ := find_any hi hv
  have HC := Lib.hid hc; have IH := Lib.hid ih; have HI := Lib.hid hi; have HM := Lib.hid hm
  clear hc ih hi hm hv
  go_enter Tryd.func76, Tryd.ntmps76
  go_wp2_with fail
  refine HC.out.mono ?_
  rintro e w1 ⟨r, rfl, hs, hr⟩
  cases hr with
  | var hN hb =>
    have HS := Lib.hid hs; clear hs hb
    simp only [varV]
    have ta := taVarCon
    go_wp2_with fail
    go_ret
    exact ⟨1, rfl, ⟨by omega, by omega, fun _ => rfl, fun h => h⟩, HS.out⟩
  | con hcn hg hl hts =>
    rename_i b1 lv vs
    have c1 : w1.cell? ⟨b1, 1, none⟩ = some lv := cell_of_heap (hs.inv.holds _ _ hg) rfl
    obtain ⟨a, cap, rfl, hcells⟩ := hl.shp
    have HS := Lib.hid hs; have HL := Lib.hid hcells; have HT := Lib.hid hts; have HLen : Hid (vs.length = t.args.length) := Lib.hid hts.len
    clear hs hg hl hcells hts
    have hvl : vs.length ≤ 2 := by have := HLen.out; have := Ty.args_len (t := t); omega
    simp only [conV]
    have ta := taConCon
    go_wp2_with fail
    go_loopg [5, 22] vs.length (fun gn s5 s22 wr => ∃ j k : Nat, j ≤ vs.length ∧ Hid (gn = vs.length - j) ∧ s22 = .int .i64 j ∧ s5 = .int .i64 k ∧ 1 ≤ k ∧ k ≤ B + 1 ∧ Hid (NB (sums (t.args.take j)) B k) ∧ Hid (Same G A n w wr) ∧ Hid (TRs G A wr vs t.args))
    case atStart => exact ⟨0, 1, by omega, Lib.hid rfl, rfl, rfl, by omega, by omega, Lib.hid ⟨by omega, by omega, fun _ => by simp [sums], fun h => h⟩, HS, HT⟩
    case round =>
      obtain ⟨j, k, hj, HM2, rfl, rfl, hk1, hkB, HNB, HS2, HT2⟩ := hrel
      have hjj : (0 : Int) ≤ (j : Int) := by omega
      by_cases hlt : j < vs.length
      · have hltx : j < t.args.length := by have := HLen.out; omega
        obtain ⟨b2, rfl, cj⟩ := HL.out wr HS2.out.inv.holds j vs[j] (by simp [hlt])
        have hxj := HT2.out.get j hlt hltx
        obtain ⟨T2, b', e⟩ := hxj.iface
        rw [e] at cj hxj
        have HXJ := Lib.hid hxj; clear hxj e
        have hji : ((j : Int) < (vs.length : Int)) := by omega
        by_cases hkb : k ≤ B
        · have hkbi : (k : Int) ≤ (B : Int) := by omega
          have hsub : ((B : Int) - (k : Int)) = ((B - k : Nat) : Int) := by omega
          go_wp2_with fail
          refine (IH.out G A wr n _ _ (B - k) HS2.out.inv HXJ.out (by have := Ty.arg_sz (List.getElem_mem hltx); have := HM.out; omega) (by omega)).mono ?_
          rintro e w2 ⟨k2, rfl, hnb, hs2⟩
          have hk2 : k2 ≤ B - k + 1 := hnb.2.1
          have hk20 : 1 ≤ k2 := hnb.1
          have HNB2 := Lib.hid hnb; have HS3 := Lib.hid (HS2.out.trans hs2); have HT3 := Lib.hid (hs2.trs HT2.out)
          clear hnb hs2 hsub
          go_wp2_with fail
          go_roundg (vs.length - (j + 1))
          case measure => have := HM2.out; omega
          case rel => exact ⟨j + 1, k + k2, by omega, Lib.hid rfl, by go_num, by go_num, by omega, by omega, Lib.hid (by
            obtain ⟨n1, n2, n3, n4⟩ := HNB.out
            obtain ⟨m1, m2, m3, m4⟩ := HNB2.out
            rw [sums_take _ _ hltx]
            refine ⟨by omega, by omega, fun h => ?_, fun h => ?_⟩
            · rw [n3 (by omega), m3 (by omega)]
            · have e1 : sums (t.args.take j) ≤ B := by
                rcases Nat.lt_or_ge B (sums (t.args.take j)) with h' | h'
                · have := n4 h'; omega
                · exact h'
              have e2 := n3 e1
              have := m4 (by omega)
              omega), HS3, HT3⟩
        · have hkbi : ¬ (k : Int) ≤ (B : Int) := by omega
          go_wp2_with fail
          go_roundg (vs.length - (j + 1))
          case measure => have := HM2.out; omega
          case rel => exact ⟨j + 1, k, by omega, Lib.hid rfl, by go_num, rfl, hk1, hkB, Lib.hid (by
            obtain ⟨n1, n2, n3, n4⟩ := HNB.out
            rw [sums_take _ _ hltx]
            exact ⟨n1, n2, fun h => by omega, fun h => by omega⟩), HS2, HT2⟩
      · have hje : j = vs.length := by omega
        subst hje
        go_wp2_with fail
        go_ret
        refine ⟨k, rfl, ?_, HS2.out⟩
        have e1 : t.args.take vs.length = t.args := by rw [HLen.out, List.take_length]
        rw [sums_args, ← e1]
        exact HNB.out
theorem size_ok : ∀ m, SizeOk m
  | 0 => fun G A w n v t B hi hv hm hB => by have := t.size_pos; omega
  | m + 1 => size_step m (size_ok m)
theorem size_any {G : GH} {A : GV} {w : World} {n : Nat} {v : Value} {t : Ty} (hi : TInv G A w n) (hv : TR G A w v t) : Calls Tryd.prog 76 #[v, .int .i64 120] w (fun e w' => ∃ k : Nat, e = .returned (.int .i64 k) ∧ (t.size ≤ 120 ↔ k ≤ 120) ∧ Same G A n w w') := by
  refine (size_ok t.size G A w n v t 120 hi hv (Nat.le_refl _) (by omega)).mono ?_
  rintro e w' ⟨k, rfl, ⟨h1, h2, h3, h4⟩, hs⟩
  refine ⟨k, rfl, ⟨fun h => by have := h3 h; omega, fun h => ?_⟩, hs⟩
  rcases Nat.lt_or_ge 120 t.size with h' | h'
  · have := h4 h'; omega
  · exact h'
end Go.Proofs.YtabikmkoajdhmaaDoor

/- types.Show by a contract, for every closure that names variables and keeps a state. -/
namespace Go.Proofs.YtabikmkoajdhmaaDoor
open Go.RowKit

/-- The same meaning; touched are variables' blocks and those in S. -/
structure SameS (S : Nat → Prop) (G : GH) (A : GV) (n : Nat) (w w' : World) : Prop where
  keep : Keep (fun b => isV A b ∨ S b) w w'
  inv : TInv G A w' n
  tr : ∀ v t, TR G A w v t → TR G A w' v t
theorem Same.s {S : Nat → Prop} {G : GH} {A : GV} {n : Nat} {w w' : World} (h : Same G A n w w') : SameS S G A n w w' := ⟨h.keep.mono (fun _ _ x => .inl x), h.inv, h.tr⟩
theorem SameS.trans {S : Nat → Prop} {G : GH} {A : GV} {n : Nat} {a b c : World} (h : SameS S G A n a b) (k : SameS S G A n b c) : SameS S G A n a c := ⟨h.keep.trans k.keep, k.inv, fun v t r => k.tr v t (h.tr v t r)⟩
theorem SameS.trs {S : Nat → Prop} {G : GH} {A : GV} {n : Nat} {w w' : World} (h : SameS S G A n w w') : ∀ {vs : List Value} {ts : List Ty}, TRs G A w vs ts → TRs G A w' vs ts
  | _, _, .nil => .nil
  | _, _, .cons a b => .cons (h.tr _ _ a) (h.trs b)

/-- A closure that names variables: its state s, told by R of the world; it touches S alone. -/
structure NmOk (G : GH) (A : GV) (n : Nat) (S V : Nat → Prop) {St : Type} (nm : St → Nat → Str × St) (R : St → World → Prop) (f : FuncId) (caps : Array Value) : Prop where
  enter : ∀ args w, (callFunc f args).run Tryd.prog w = .ok (.enter f args) w
  len : ∀ s N, (nm s N).1.length ≤ 1000
  stable : ∀ s w w', R s w → Same G A n w w' → R s w'
  call : ∀ s w N b name, V N → R s w → TInv G A w n → A N = some (b, name) → TR G A w (varV b) (.var N) → Calls Tryd.prog f (#[.pointer (some ⟨b, 0, none⟩)] ++ caps) w (fun e w' => e = .returned (.string (bs (nm s N).1)) ∧ R (nm s N).2 w' ∧ SameS S G A n w w')

theorem TRs.one1 {G : GH} {A : GV} {w : World} {vs : List Value} {a : Ty} (h : TRs G A w vs [a]) : ∃ v, vs = [v] ∧ TR G A w v a := by
  cases h with
  | cons x y => cases y with | nil => exact ⟨_, rfl, x⟩
theorem TRs.two2 {G : GH} {A : GV} {w : World} {vs : List Value} {a b : Ty} (h : TRs G A w vs [a, b]) : ∃ v u, vs = [v, u] ∧ TR G A w v a ∧ TR G A w u b := by
  cases h with
  | cons x y =>
    obtain ⟨u, rfl, hu⟩ := y.one1
    exact ⟨_, u, rfl, x, hu⟩

theorem showS_len {St : Type} {nm : St → Nat → Str × St} (h : ∀ s N, (nm s N).1.length ≤ 1000) : ∀ (t : Ty) (s : St), (showS nm t s).1.length ≤ 1010 * t.size
  | .var N, s => by have := h s N; simp only [showS, Ty.size]; omega
  | .int, s => by simp [showS, Ty.size, INT]
  | .bool, s => by simp [showS, Ty.size, BOOL]
  | .list a, s => by have := showS_len h a s; simp [showS, Ty.size, LB, RB]; omega
  | .pair a b, s => by have := showS_len h a s; have := showS_len h b (showS nm a s).2; simp [showS, Ty.size, LP, RP]; omega
  | .fn a b, s => by
    have := showS_len h a s; have := showS_len h b (showS nm a s).2
    simp only [showS, Ty.size]
    split <;> simp [LP, RP] <;> omega

def ShowOk (G : GH) (A : GV) (n : Nat) (S V : Nat → Prop) {St : Type} (nm : St → Nat → Str × St) (R : St → World → Prop) (f : FuncId) (caps : Array Value) (m : Nat) : Prop :=
  ∀ (w : World) (v : Value) (t : Ty) (s : St), TInv G A w n → TR G A w v t → t.size ≤ m → (∀ N, t.has N = true → V N) → R s w → Calls Tryd.prog 52 #[v, .func (.func f) #[] caps] w (fun e w' => e = .returned (.string (bs (showS nm t s).1)) ∧ R (showS nm t s).2 w' ∧ SameS S G A n w w')

set_option maxRecDepth 100000 in
set_option maxHeartbeats 4000000 in
theorem show_step {G : GH} {A : GV} {n : Nat} {S V : Nat → Prop} {St : Type} {nm : St → Nat → Str × St} {R : St → World → Prop} {f : FuncId} {caps : Array Value} (hN : NmOk G A n S V nm R f caps) (m : Nat) (hmB : m + 1 ≤ 1000000000) (ih : ShowOk G A n S V nm R f caps m) : ShowOk G A n S V nm R f caps (m + 1) := by
  intro w v t s hi hv hm hVV hR
  obtain ⟨T, b, fd, rfl, hmt, hent, hF⟩ := find_fn hv
  have hc := hF _ _ _ _ _ hi hv
  have HF := Lib.hid hF; clear hF
  have HC := Lib.hid hc; have IH := Lib.hid ih; have HI := Lib.hid hi; have HM := Lib.hid hm; have HRR := Lib.hid hR; have HNM := Lib.hid hN; have HV := Lib.hid hv; have HVV := Lib.hid hVV
  have henf := hN.enter
  have HB := Lib.hid (fun (x : Ty) (s : St) (h : x.size ≤ m) => (show (bs (showS nm x s).1).size ≤ 1010000000000 from by rw [bs_size]; have := showS_len hN.len x s; omega))
  clear hc ih hi hm hv hVV hR hN
  go_enter Tryd.func52, Tryd.ntmps52
  go_wp2_with fail
  refine HC.out.mono ?_
  rintro e w1 ⟨r, rfl, hs, hr⟩
  cases hr with
  | @var N b1 name hA hb =>
    have hv1 := hs.tr _ _ HV.out
    have HS := Lib.hid hs; have HC2 := Lib.hid (HF.out _ _ _ _ _ hs.inv hv1); clear hs hb hv1
    simp only [varV]
    have ta := taVarCon
    have tb := tbVarVar
    go_wp2_with fail
    refine HC2.out.mono ?_
    rintro e w2 ⟨r2, rfl, hs2, hr2⟩
    cases hr2 with
    | con c _ _ _ => cases c
    | @var _ b2 name2 hA2 hb2 =>
      have hs3 := HS.out.trans hs2
      have hcl := HNM.out.call s w2 N b2 name2 (HVV.out N (by simp [Ty.has])) (HNM.out.stable _ _ _ HRR.out hs3) hs2.inv hA2 (.free hA2 hb2)
      have HCL := Lib.hid hcl; have HS3 := Lib.hid hs3; clear hcl hs3 hs2 hb2
      simp only [varV]
      go_wp2_with fail
      refine HCL.out.mono ?_
      rintro e w3 ⟨rfl, hR3, hs4⟩
      have HR3 := Lib.hid hR3; have HS4 := Lib.hid hs4; clear hR3 hs4
      go_wp2_with fail
      go_ret
      exact ⟨rfl, HR3.out, HS3.out.s.trans HS4.out⟩
  | con hcn hg hl hts =>
    rename_i b1 lv vs
    have c0 : w1.cell? ⟨b1, 0, none⟩ = some (.string (bs t.kind)) := cell_of_heap (hs.inv.holds _ _ hg) rfl
    have c1 : w1.cell? ⟨b1, 1, none⟩ = some lv := cell_of_heap (hs.inv.holds _ _ hg) rfl
    obtain ⟨a, cap, rfl, hcells⟩ := hl.shp
    have HS := Lib.hid hs; have HL := Lib.hid hcells
    have HK : Hid (∀ w', Holds G w' → w'.cell? ⟨b1, 1, none⟩ = some (.slice a vs.length cap)) := Lib.hid (fun w' h => cell_of_heap (h _ _ hg) rfl)
    clear hs hg hl hcells
    simp only [conV]
    have ta := taConCon
    cases t with
    | var x => cases hcn
    | int =>
      simp only [Ty.kind, bs, INT] at c0
      go_wp2_with fail
      go_ret
      exact ⟨rfl, HNM.out.stable _ _ _ HRR.out HS.out, HS.out.s⟩
    | bool =>
      simp only [Ty.kind, bs, BOOL] at c0
      go_wp2_with fail
      go_ret
      exact ⟨rfl, HNM.out.stable _ _ _ HRR.out HS.out, HS.out.s⟩
    | list x =>
      simp only [Ty.kind, bs, sList] at c0
      simp only [Ty.args] at hts
      obtain ⟨v1, rfl, hv1⟩ := hts.one1
      obtain ⟨b2, rfl, cj⟩ := HL.out w1 HS.out.inv.holds 0 v1 rfl
      obtain ⟨T2, b3, rfl⟩ := hv1.iface
      have HV1 := Lib.hid hv1; clear hv1
      go_wp2_with fail
      refine (IH.out w1 _ x s HS.out.inv HV1.out (by have := HM.out; simp only [Ty.size] at this; omega) (fun N h => HVV.out N (by simp [Ty.has, h])) (HNM.out.stable _ _ _ HRR.out HS.out)).mono ?_
      rintro e w2 ⟨rfl, hR2, hs2⟩
      have HR2 := Lib.hid hR2; have HS2 := Lib.hid hs2; clear hR2 hs2
      have b1 := HB.out x s (by have := HM.out; simp only [Ty.size] at this; omega)
      have q1 : ¬ 9223372036854775807 < 1 + (bs (showS nm x s).1).size := by omega
      have q2 : ¬ 9223372036854775807 < 1 + (bs (showS nm x s).1).size + 1 := by omega
      go_wp2_with fail
      go_ret
      refine ⟨?_, HR2.out, HS.out.s.trans HS2.out⟩
      show Ending.returned (.string (bs LB ++ bs _ ++ bs RB)) = _
      rw [bs_append, bs_append]; rfl
    | pair x y =>
      simp only [Ty.kind, bs, sPair] at c0
      simp only [Ty.args] at hts
      obtain ⟨v1, v2, rfl, hv1, hv2⟩ := hts.two2
      obtain ⟨b2, rfl, cj⟩ := HL.out w1 HS.out.inv.holds 0 v1 rfl
      have HCj : Hid (∀ w', Holds G w' → w'.cell? ⟨b2, 0, none⟩ = some v1 ∧ w'.cell? ⟨b2, 1, none⟩ = some v2) := Lib.hid (fun w' hG => by
        obtain ⟨b4, e4, g4⟩ := HL.out w' hG 0 v1 rfl
        obtain ⟨b5, e5, g5⟩ := HL.out w' hG 1 v2 rfl
        injection e4 with e4; injection e4 with e4; injection e5 with e5; injection e5 with e5
        subst e4; subst e5
        exact ⟨g4, g5⟩)
      obtain ⟨T2, b3, rfl⟩ := hv1.iface
      obtain ⟨T3, b4, rfl⟩ := hv2.iface
      have HV1 := Lib.hid hv1; have HV2 := Lib.hid hv2; clear hv1 hv2 hts cj
      have HSD1 : Hid (Same G A n w1 w1.drew) := Lib.hid (Same.of0 HS.out.inv (Keep.drew _ _))
      have HSD : Hid (Same G A n w w1.drew) := Lib.hid (HS.out.trans (Same.of0 HS.out.inv (Keep.drew _ _)))
      have HKK : Hid (∀ w', Holds G w' → w'.cell? ⟨b1, 1, none⟩ = some (.slice (some ⟨b2, 0, none⟩) 2 cap) ∧ w'.cell? ⟨b2, 0, none⟩ = some (.iface T2 (.pointer (some ⟨b3, 0, none⟩))) ∧ w'.cell? ⟨b2, 1, none⟩ = some (.iface T3 (.pointer (some ⟨b4, 0, none⟩)))) := Lib.hid (fun w' h => ⟨HK.out w' h, HCj.out w' h⟩)
      clear HK HCj c1
      (try simp only [List.length_cons, List.length_nil])
      go_wp2_with fail
      have S0 := HKK.out _ HSD.out.inv.holds
      refine wp_region_float (fun w' => w'.cell? ⟨b1, 1, none⟩ = some (.slice (some ⟨b2, 0, none⟩) 2 cap) ∧ w'.cell? ⟨b2, 0, none⟩ = some (.iface T2 (.pointer (some ⟨b3, 0, none⟩))) ∧ w'.cell? ⟨b2, 1, none⟩ = some (.iface T3 (.pointer (some ⟨b4, 0, none⟩)))) [0, 1, 2, 4, 6, 8, 9, 10, 11, 12, 14, 16, 18, 19] [3, 5, 13, 15] (by kernel_rfl) ?_
      (refine float0 (i := 0) (v := ?_) rfl (by kernel_rfl) (by kernel_rfl) (by kernel_rfl) (by kernel_rfl) (fun _ _ _ h => h) (by rfl) ?_ ?_); rotate_left
      (intro wF; go_simp; try with_reducible rfl)
      (try simp only [Act.put, List.setIfInBounds_toArray, List.set_cons_zero, List.set_cons_succ])
      (refine float0 (i := 1) (v := ?_) rfl (by kernel_rfl) (by kernel_rfl) (by kernel_rfl) (by kernel_rfl) (fun _ _ _ h => h) (by rfl) ?_ ?_); rotate_left
      (intro wF; go_simp; try with_reducible rfl)
      (try simp only [Act.put, List.setIfInBounds_toArray, List.set_cons_zero, List.set_cons_succ])
      (refine float0 (i := 2) (v := ?_) rfl (by kernel_rfl) (by kernel_rfl) (by kernel_rfl) (by kernel_rfl) (fun _ _ _ h => h) (by rfl) ?_ ?_); rotate_left
      (intro wF; go_simp; try with_reducible rfl)
      (try simp only [Act.put, List.setIfInBounds_toArray, List.set_cons_zero, List.set_cons_succ])
      (refine floatS (i := 3) (v := ?_) rfl (by kernel_rfl) (by kernel_rfl) (by kernel_rfl) (by kernel_rfl) (fun _ _ _ h => h) (by assumption) (by rfl) ?_ ?_); rotate_left
      (intro wF hF; (try dsimp only at hF); go_simp; try with_reducible rfl)
      (try simp only [Act.put, List.setIfInBounds_toArray, List.set_cons_zero, List.set_cons_succ])
      (refine float0 (i := 4) (v := ?_) rfl (by kernel_rfl) (by kernel_rfl) (by kernel_rfl) (by kernel_rfl) (fun _ _ _ h => h) (by rfl) ?_ ?_); rotate_left
      (intro wF; go_simp; try with_reducible rfl)
      (try simp only [Act.put, List.setIfInBounds_toArray, List.set_cons_zero, List.set_cons_succ])
      (refine floatS (i := 5) (v := ?_) rfl (by kernel_rfl) (by kernel_rfl) (by kernel_rfl) (by kernel_rfl) (fun _ _ _ h => h) (by assumption) (by rfl) ?_ ?_); rotate_left
      (intro wF hF; (try dsimp only at hF); go_simp; try with_reducible rfl)
      (try simp only [Act.put, List.setIfInBounds_toArray, List.set_cons_zero, List.set_cons_succ])
      (refine float0 (i := 6) (v := ?_) rfl (by kernel_rfl) (by kernel_rfl) (by kernel_rfl) (by kernel_rfl) (fun _ _ _ h => h) (by rfl) ?_ ?_); rotate_left
      (intro wF; go_simp; try with_reducible rfl)
      (try simp only [Act.put, List.setIfInBounds_toArray, List.set_cons_zero, List.set_cons_succ])
      (refine float0 (i := 10) (v := ?_) rfl (by kernel_rfl) (by kernel_rfl) (by kernel_rfl) (by kernel_rfl) (fun _ _ _ h => h) (by rfl) ?_ ?_); rotate_left
      (intro wF; go_simp; try with_reducible rfl)
      (try simp only [Act.put, List.setIfInBounds_toArray, List.set_cons_zero, List.set_cons_succ])
      (refine float0 (i := 11) (v := ?_) rfl (by kernel_rfl) (by kernel_rfl) (by kernel_rfl) (by kernel_rfl) (fun _ _ _ h => h) (by rfl) ?_ ?_); rotate_left
      (intro wF; go_simp; try with_reducible rfl)
      (try simp only [Act.put, List.setIfInBounds_toArray, List.set_cons_zero, List.set_cons_succ])
      (refine float0 (i := 12) (v := ?_) rfl (by kernel_rfl) (by kernel_rfl) (by kernel_rfl) (by kernel_rfl) (fun _ _ _ h => h) (by rfl) ?_ ?_); rotate_left
      (intro wF; go_simp; try with_reducible rfl)
      (try simp only [Act.put, List.setIfInBounds_toArray, List.set_cons_zero, List.set_cons_succ])
      (refine floatS (i := 13) (v := ?_) rfl (by kernel_rfl) (by kernel_rfl) (by kernel_rfl) (by kernel_rfl) (fun _ _ _ h => h) (by assumption) (by rfl) ?_ ?_); rotate_left
      (intro wF hF; (try dsimp only at hF); go_simp; try with_reducible rfl)
      (try simp only [Act.put, List.setIfInBounds_toArray, List.set_cons_zero, List.set_cons_succ])
      (refine float0 (i := 14) (v := ?_) rfl (by kernel_rfl) (by kernel_rfl) (by kernel_rfl) (by kernel_rfl) (fun _ _ _ h => h) (by rfl) ?_ ?_); rotate_left
      (intro wF; go_simp; try with_reducible rfl)
      (try simp only [Act.put, List.setIfInBounds_toArray, List.set_cons_zero, List.set_cons_succ])
      (refine floatS (i := 15) (v := ?_) rfl (by kernel_rfl) (by kernel_rfl) (by kernel_rfl) (by kernel_rfl) (fun _ _ _ h => h) (by assumption) (by rfl) ?_ ?_); rotate_left
      (intro wF hF; (try dsimp only at hF); go_simp; try with_reducible rfl)
      (try simp only [Act.put, List.setIfInBounds_toArray, List.set_cons_zero, List.set_cons_succ])
      (refine float0 (i := 16) (v := ?_) rfl (by kernel_rfl) (by kernel_rfl) (by kernel_rfl) (by kernel_rfl) (fun _ _ _ h => h) (by rfl) ?_ ?_); rotate_left
      (intro wF; go_simp; try with_reducible rfl)
      (try simp only [Act.put, List.setIfInBounds_toArray, List.set_cons_zero, List.set_cons_succ])
      (refine floatM (i := 7) rfl (by kernel_rfl) (by kernel_rfl) (fun K hK => ?_)); go_simp
      refine (IH.out _ _ x s HSD.out.inv (HSD1.out.tr _ _ HV1.out) (by have := HM.out; simp only [Ty.size] at this; omega) (fun N h => HVV.out N (by simp [Ty.has, h])) (HNM.out.stable _ _ _ HRR.out HSD.out)).mono ?_
      rintro e w2 ⟨rfl, hR2, hs2⟩
      have hs2' := (Same.s (S := S) HSD1.out).trans hs2
      have q1 : ¬ 9223372036854775807 < 1 + (bs (showS nm x s).1).size := by have := HB.out x s (by have := HM.out; simp only [Ty.size] at this; omega); omega
      have q2 : ¬ 9223372036854775807 < 1 + (bs (showS nm x s).1).size + 2 := by have := HB.out x s (by have := HM.out; simp only [Ty.size] at this; omega); omega
      have HR2 := Lib.hid hR2; have HS2 := Lib.hid hs2; have HS2' := Lib.hid hs2'; clear hR2 hs2 hs2'
      go_wp2_with fail
      refine hK.out _ _ (fun _ => HKK.out _ HS2.out.inv.holds) ?_
      clear hK K
      (try simp only [Act.put, List.setIfInBounds_toArray, List.set_cons_zero, List.set_cons_succ])
      (refine float0 (i := 8) (v := ?_) rfl (by kernel_rfl) (by kernel_rfl) (by kernel_rfl) (by kernel_rfl) (fun _ _ _ h => h) (by rfl) ?_ ?_); rotate_left
      (intro wF; go_simp; try with_reducible rfl)
      (try simp only [Act.put, List.setIfInBounds_toArray, List.set_cons_zero, List.set_cons_succ])
      (refine float0 (i := 9) (v := ?_) rfl (by kernel_rfl) (by kernel_rfl) (by kernel_rfl) (by kernel_rfl) (fun _ _ _ h => h) (by rfl) ?_ ?_); rotate_left
      (intro wF; go_simp; try with_reducible rfl)
      (try simp only [Act.put, List.setIfInBounds_toArray, List.set_cons_zero, List.set_cons_succ])
      (refine floatM (i := 17) rfl (by kernel_rfl) (by kernel_rfl) (fun K hK => ?_)); go_simp
      refine (IH.out _ _ y _ HS2.out.inv (HS2.out.tr _ _ (HSD1.out.tr _ _ HV2.out)) (by have := HM.out; simp only [Ty.size] at this; omega) (fun N h => HVV.out N (by simp [Ty.has, h])) HR2.out).mono ?_
      rintro e w3 ⟨rfl, hR3, hs3⟩
      have hs3' := HS2'.out.trans hs3
      have q3 : ¬ 9223372036854775807 < 1 + (bs (showS nm x s).1).size + 2 + (bs (showS nm y (showS nm x s).2).1).size := by
        have := HB.out x s (by have := HM.out; simp only [Ty.size] at this; omega)
        have := HB.out y (showS nm x s).2 (by have := HM.out; simp only [Ty.size] at this; omega)
        omega
      have q4 : ¬ 9223372036854775807 < 1 + (bs (showS nm x s).1).size + 2 + (bs (showS nm y (showS nm x s).2).1).size + 1 := by
        have := HB.out x s (by have := HM.out; simp only [Ty.size] at this; omega)
        have := HB.out y (showS nm x s).2 (by have := HM.out; simp only [Ty.size] at this; omega)
        omega
      have HR3 := Lib.hid hR3; have HS3 := Lib.hid hs3'; clear hR3 hs3 hs3'
      go_wp2_with fail
      refine hK.out _ _ (fun _ => HKK.out _ HS3.out.inv.holds) ?_
      clear hK K
      (try simp only [Act.put, List.setIfInBounds_toArray, List.set_cons_zero, List.set_cons_succ])
      (refine float0 (i := 18) (v := ?_) rfl (by kernel_rfl) (by kernel_rfl) (by kernel_rfl) (by kernel_rfl) (fun _ _ _ h => h) (by rfl) ?_ ?_); rotate_left
      (intro wF; go_simp; try with_reducible rfl)
      (try simp only [Act.put, List.setIfInBounds_toArray, List.set_cons_zero, List.set_cons_succ])
      (refine float0 (i := 19) (v := ?_) rfl (by kernel_rfl) (by kernel_rfl) (by kernel_rfl) (by kernel_rfl) (fun _ _ _ h => h) (by rfl) ?_ ?_); rotate_left
      (intro wF; go_simp; try with_reducible rfl)
      (try simp only [Act.put, List.setIfInBounds_toArray, List.set_cons_zero, List.set_cons_succ])
      (refine floatM (i := 20) rfl (by kernel_rfl) (by kernel_rfl) (fun K hK => ?_)); go_simp
      refine hK.out _ _ (fun _ => HKK.out _ HS3.out.inv.holds) ?_
      clear hK K
      (try simp only [Act.put, List.setIfInBounds_toArray, List.set_cons_zero, List.set_cons_succ])
      (refine floatE (by kernel_rfl) ?_)
      go_wp2_with fail
      go_ret
      refine ⟨?_, HR3.out, HS.out.s.trans HS3.out⟩
      show Ending.returned (.string (bs LP ++ bs _ ++ bs [44, 32] ++ bs _ ++ bs RP)) = _
      rw [bs_append, bs_append, bs_append, bs_append]; rfl
    | fn x y =>
      simp only [Ty.kind, bs, sFun] at c0
      simp only [Ty.args] at hts
      obtain ⟨v1, v2, rfl, hv1, hv2⟩ := hts.two2
      obtain ⟨b2, rfl, cj⟩ := HL.out w1 HS.out.inv.holds 0 v1 rfl
      have HCj : Hid (∀ w', Holds G w' → w'.cell? ⟨b2, 0, none⟩ = some v1 ∧ w'.cell? ⟨b2, 1, none⟩ = some v2) := Lib.hid (fun w' hG => by
        obtain ⟨b4, e4, g4⟩ := HL.out w' hG 0 v1 rfl
        obtain ⟨b5, e5, g5⟩ := HL.out w' hG 1 v2 rfl
        injection e4 with e4; injection e4 with e4; injection e5 with e5; injection e5 with e5
        subst e4; subst e5
        exact ⟨g4, g5⟩)
      obtain ⟨T2, b3, fd2, rfl, hmt2, hent2, hF2⟩ := find_fn hv1
      obtain ⟨T3, b4, rfl⟩ := hv2.iface
      have HF2 := Lib.hid hF2; clear hF2
      have HV1 := Lib.hid hv1; have HV2 := Lib.hid hv2; clear hv1 hv2 hts
      go_wp2_with fail
      refine (IH.out w1 _ x s HS.out.inv HV1.out (by have := HM.out; simp only [Ty.size] at this; omega) (fun N h => HVV.out N (by simp [Ty.has, h])) (HNM.out.stable _ _ _ HRR.out HS.out)).mono ?_
      rintro e w2 ⟨rfl, hR2, hs2⟩
      have d1 : w2.cell? ⟨b1, 1, none⟩ = some (.slice (some ⟨b2, 0, none⟩) 2 cap) := HK.out _ hs2.inv.holds
      obtain ⟨d2, d3⟩ := HCj.out _ hs2.inv.holds
      have hv12 := hs2.tr _ _ HV1.out
      have HFC := Lib.hid (HF2.out _ _ _ _ _ hs2.inv hv12)
      have q1 : (bs (showS nm x s).1).size ≤ 1010000000000 := HB.out x s (by have := HM.out; simp only [Ty.size] at this; omega)
      have HR2 := Lib.hid hR2; have HS2 := Lib.hid hs2; clear hR2 hs2 hv12 c0 c1 cj
      go_wp2_with fail
      refine HFC.out.mono ?_
      rintro e w3 ⟨r3, rfl, hs3, hr3⟩
      have c1 : w3.cell? ⟨b1, 1, none⟩ = some (.slice (some ⟨b2, 0, none⟩) 2 cap) := HK.out _ hs3.inv.holds
      obtain ⟨c2, c3⟩ := HCj.out _ hs3.inv.holds
      have HS3 := Lib.hid hs3
      clear d1 d2 d3
      clear HFC
      cases hr3 with
      | @var N5 b5 nm5 hA5 hb5 =>
        clear hb5
        simp only [varV]
        have taV := taVarCon
        have q2 : ¬ 9223372036854775807 < (bs (showS nm (.var N5) s).1).size + 4 := by omega
        clear hs3
        go_wp2_with fail
        refine (IH.out _ _ y _ HS3.out.inv (HS3.out.tr _ _ (HS2.out.tr _ _ HV2.out)) (by have := HM.out; simp only [Ty.size] at this; omega) (fun N h => HVV.out N (by simp [Ty.has, h])) (HNM.out.stable _ _ _ HR2.out HS3.out)).mono ?_
        rintro e w4 ⟨rfl, hR4, hs4⟩
        have q3 : ¬ 9223372036854775807 < (bs (showS nm (.var N5) s).1).size + 4 + (bs (showS nm y (showS nm (.var N5) s).2).1).size := by
          have := HB.out y (showS nm (.var N5) s).2 (by have := HM.out; simp only [Ty.size] at this; omega)
          omega
        have HR4 := Lib.hid hR4; have HS4 := Lib.hid hs4; clear hR4 hs4
        go_wp2_with fail
        go_ret
        refine ⟨?_, HR4.out, HS.out.s.trans (HS2.out.trans (HS3.out.s.trans HS4.out))⟩
        show Ending.returned (.string (bs _ ++ bs [32, 45, 62, 32] ++ bs _)) = _
        rw [bs_append, bs_append]; rfl
      | @con b5 lv5 vs5 _ hcn5 hg5 hl5 hts5 =>
        have d0 : w3.cell? ⟨b5, 0, none⟩ = some (.string (bs x.kind)) := cell_of_heap (hs3.inv.holds _ _ hg5) rfl
        clear hg5 hl5 hts5
        simp only [conV]
        cases x with
        | var N5 => cases hcn5
        | int  =>
          simp only [Ty.kind, bs, INT] at d0
          have q2 : ¬ 9223372036854775807 < (bs (showS nm .int s).1).size + 4 := by omega
          clear hs3
          go_wp2_with fail
          refine (IH.out _ _ y _ HS3.out.inv (HS3.out.tr _ _ (HS2.out.tr _ _ HV2.out)) (by have := HM.out; simp only [Ty.size] at this; omega) (fun N h => HVV.out N (by simp [Ty.has, h])) (HNM.out.stable _ _ _ HR2.out HS3.out)).mono ?_
          rintro e w4 ⟨rfl, hR4, hs4⟩
          have q3 : ¬ 9223372036854775807 < (bs (showS nm .int s).1).size + 4 + (bs (showS nm y (showS nm .int s).2).1).size := by
            have := HB.out y (showS nm .int s).2 (by have := HM.out; simp only [Ty.size] at this; omega)
            omega
          have HR4 := Lib.hid hR4; have HS4 := Lib.hid hs4; clear hR4 hs4
          go_wp2_with fail
          go_ret
          refine ⟨?_, HR4.out, HS.out.s.trans (HS2.out.trans (HS3.out.s.trans HS4.out))⟩
          show Ending.returned (.string (bs _ ++ bs [32, 45, 62, 32] ++ bs _)) = _
          rw [bs_append, bs_append]; rfl
        | bool  =>
          simp only [Ty.kind, bs, BOOL] at d0
          have q2 : ¬ 9223372036854775807 < (bs (showS nm .bool s).1).size + 4 := by omega
          clear hs3
          go_wp2_with fail
          refine (IH.out _ _ y _ HS3.out.inv (HS3.out.tr _ _ (HS2.out.tr _ _ HV2.out)) (by have := HM.out; simp only [Ty.size] at this; omega) (fun N h => HVV.out N (by simp [Ty.has, h])) (HNM.out.stable _ _ _ HR2.out HS3.out)).mono ?_
          rintro e w4 ⟨rfl, hR4, hs4⟩
          have q3 : ¬ 9223372036854775807 < (bs (showS nm .bool s).1).size + 4 + (bs (showS nm y (showS nm .bool s).2).1).size := by
            have := HB.out y (showS nm .bool s).2 (by have := HM.out; simp only [Ty.size] at this; omega)
            omega
          have HR4 := Lib.hid hR4; have HS4 := Lib.hid hs4; clear hR4 hs4
          go_wp2_with fail
          go_ret
          refine ⟨?_, HR4.out, HS.out.s.trans (HS2.out.trans (HS3.out.s.trans HS4.out))⟩
          show Ending.returned (.string (bs _ ++ bs [32, 45, 62, 32] ++ bs _)) = _
          rw [bs_append, bs_append]; rfl
        | list x1 =>
          simp only [Ty.kind, bs, sList] at d0
          have q2 : ¬ 9223372036854775807 < (bs (showS nm (.list x1) s).1).size + 4 := by omega
          clear hs3
          go_wp2_with fail
          refine (IH.out _ _ y _ HS3.out.inv (HS3.out.tr _ _ (HS2.out.tr _ _ HV2.out)) (by have := HM.out; simp only [Ty.size] at this; omega) (fun N h => HVV.out N (by simp [Ty.has, h])) (HNM.out.stable _ _ _ HR2.out HS3.out)).mono ?_
          rintro e w4 ⟨rfl, hR4, hs4⟩
          have q3 : ¬ 9223372036854775807 < (bs (showS nm (.list x1) s).1).size + 4 + (bs (showS nm y (showS nm (.list x1) s).2).1).size := by
            have := HB.out y (showS nm (.list x1) s).2 (by have := HM.out; simp only [Ty.size] at this; omega)
            omega
          have HR4 := Lib.hid hR4; have HS4 := Lib.hid hs4; clear hR4 hs4
          go_wp2_with fail
          go_ret
          refine ⟨?_, HR4.out, HS.out.s.trans (HS2.out.trans (HS3.out.s.trans HS4.out))⟩
          show Ending.returned (.string (bs _ ++ bs [32, 45, 62, 32] ++ bs _)) = _
          rw [bs_append, bs_append]; rfl
        | pair x1 x2 =>
          simp only [Ty.kind, bs, sPair] at d0
          have q2 : ¬ 9223372036854775807 < (bs (showS nm (.pair x1 x2) s).1).size + 4 := by omega
          clear hs3
          go_wp2_with fail
          refine (IH.out _ _ y _ HS3.out.inv (HS3.out.tr _ _ (HS2.out.tr _ _ HV2.out)) (by have := HM.out; simp only [Ty.size] at this; omega) (fun N h => HVV.out N (by simp [Ty.has, h])) (HNM.out.stable _ _ _ HR2.out HS3.out)).mono ?_
          rintro e w4 ⟨rfl, hR4, hs4⟩
          have q3 : ¬ 9223372036854775807 < (bs (showS nm (.pair x1 x2) s).1).size + 4 + (bs (showS nm y (showS nm (.pair x1 x2) s).2).1).size := by
            have := HB.out y (showS nm (.pair x1 x2) s).2 (by have := HM.out; simp only [Ty.size] at this; omega)
            omega
          have HR4 := Lib.hid hR4; have HS4 := Lib.hid hs4; clear hR4 hs4
          go_wp2_with fail
          go_ret
          refine ⟨?_, HR4.out, HS.out.s.trans (HS2.out.trans (HS3.out.s.trans HS4.out))⟩
          show Ending.returned (.string (bs _ ++ bs [32, 45, 62, 32] ++ bs _)) = _
          rw [bs_append, bs_append]; rfl
        | fn x1 x2 =>
          simp only [Ty.kind, bs, sFun] at d0
          have p1 : ¬ 9223372036854775807 < 1 + (bs (showS nm (.fn x1 x2) s).1).size := by omega
          have p2 : ¬ 9223372036854775807 < 1 + (bs (showS nm (.fn x1 x2) s).1).size + 1 := by omega
          have q2 : ¬ 9223372036854775807 < 1 + (bs (showS nm (.fn x1 x2) s).1).size + 1 + 4 := by omega
          clear hs3
          go_wp2_with fail
          refine (IH.out _ _ y _ HS3.out.inv (HS3.out.tr _ _ (HS2.out.tr _ _ HV2.out)) (by have := HM.out; simp only [Ty.size] at this; omega) (fun N h => HVV.out N (by simp [Ty.has, h])) (HNM.out.stable _ _ _ HR2.out HS3.out)).mono ?_
          rintro e w4 ⟨rfl, hR4, hs4⟩
          have q3 : ¬ 9223372036854775807 < 1 + (bs (showS nm (.fn x1 x2) s).1).size + 1 + 4 + (bs (showS nm y (showS nm (.fn x1 x2) s).2).1).size := by
            have := HB.out y (showS nm (.fn x1 x2) s).2 (by have := HM.out; simp only [Ty.size] at this; omega)
            omega
          have HR4 := Lib.hid hR4; have HS4 := Lib.hid hs4; clear hR4 hs4
          go_wp2_with fail
          go_ret
          refine ⟨?_, HR4.out, HS.out.s.trans (HS2.out.trans (HS3.out.s.trans HS4.out))⟩
          show Ending.returned (.string (bs LP ++ bs _ ++ bs RP ++ bs [32, 45, 62, 32] ++ bs _)) = _
          rw [bs_append, bs_append, bs_append, bs_append]; rfl
theorem show_ok {G : GH} {A : GV} {n : Nat} {S V : Nat → Prop} {St : Type} {nm : St → Nat → Str × St} {R : St → World → Prop} {f : FuncId} {caps : Array Value} (hN : NmOk G A n S V nm R f caps) : ∀ m, m ≤ 1000000000 → ShowOk G A n S V nm R f caps m
  | 0, _ => fun w v t s hi hv hm _ hR => by have : 1 ≤ t.size := (by cases t <;> simp [Ty.size]); omega
  | m + 1, h => show_step hN m h (show_ok hN m (by omega))
end Go.Proofs.YtabikmkoajdhmaaDoor

/- types.Letters, types.Namer and the closure that it hands out, by contracts. -/
namespace Go.Proofs.YtabikmkoajdhmaaDoor
open Go.RowKit

theorem digits_dec (n : Nat) (h : n < 100) : digits n = Lib.decDigits n := by
  unfold digits
  rw [Lib.decDigits]
  by_cases h1 : n < 10
  · simp [h1]
  · simp only [h1, if_false, dite_false]
    rw [Lib.decDigits]
    have : n / 10 < 10 := by omega
    simp [this]
theorem letters_len (n : Nat) : (letters n).length ≤ 3 := by
  unfold letters digits
  split
  · simp
  · split <;> simp

theorem und_bytes : Tryd.prog.underlying 123 = some (.slice 5) := by kernel_rfl
theorem und_u8 : Tryd.prog.underlying 5 = some (.int .u8) := by kernel_rfl
theorem und_str : Tryd.prog.underlying 9 = some .string := by kernel_rfl
theorem letter_conv (n : Nat) (w : World) : (convert 123 9 (.slice (some ⟨w.heap.size, 0, none⟩) 1 1)).run Tryd.prog (w.alloc (.cells #[.int .u8 (97 + (n : Int) % 26)] 5)) = .ok (.string ⟨#[UInt8.ofNat (97 + n % 26)]⟩) (w.alloc (.cells #[.int .u8 (97 + (n : Int) % 26)] 5)) := by
  refine run_convert_bytes_back _ _ _ 5 ⟨w.heap.size, 0, none⟩ 1 [UInt8.ofNat (97 + n % 26)] und_bytes und_u8 und_str ?_
  intro j hj
  have : j = 0 := by simpa using hj
  subst this
  have e : ((UInt8.ofNat (97 + n % 26)).toNat : Int) = 97 + (n : Int) % 26 := by
    rw [UInt8.toNat_ofNat']
    omega
  have : (⟨w.heap.size, 0, none⟩ : Addr).add 0 = ⟨w.heap.size, 0, none⟩ := by simp [Addr.add]
  rw [this]
  simp only [List.getElem_cons_zero, e]
  exact cell_of_heap (heap_new _ _) rfl

set_option maxRecDepth 100000 in
set_option maxHeartbeats 1000000 in
theorem letters_ok (n : Nat) (h : n < 2600) (w : World) : Calls Tryd.prog 78 #[.int .i64 n] w (fun e w' => e = .returned (.string (bs (letters n))) ∧ Keep none' w w') := by
  have h0 : (0 : Int) ≤ (n : Int) := by omega
  have hcv := letter_conv n w
  have hit := Tryd.strconv_Itoa_small (n / 26) (by omega)
  have HIT := Lib.hid hit; clear hit
  by_cases hn : n < 26
  · have hn' : (n : Int) < 26 := by omega
    go_enter Tryd.func78, Tryd.ntmps78
    go_wp2_with fail
    go_ret
    refine ⟨?_, Keep.alloc _ _ _⟩
    simp [letters, hn, bs]
  · have hn' : (26 : Int) ≤ (n : Int) := by omega
    go_enter Tryd.func78, Tryd.ntmps78
    go_wp2_with fail
    rw [show ((n : Int) / 26) = ((n / 26 : Nat) : Int) by omega]
    refine (HIT.out _).mono ?_
    rintro e w1 ⟨rfl, rfl⟩
    obtain ⟨dd, hdd⟩ : ∃ dd, dd = Lib.decDigits (n / 26) := ⟨_, rfl⟩
    have hl : dd.length ≤ 2 := by
      rw [hdd, ← digits_dec _ (by omega)]; unfold digits; split <;> simp
    rw [← hdd]
    have HD := Lib.hid hdd; clear hdd
    have q1 : ¬ 9223372036854775807 < 1 + dd.length := by omega
    have q2 : ¬ 9223372036854775807 < dd.length + 1 := by omega
    go_wp2_with fail
    go_ret
    refine ⟨?_, Keep.alloc _ _ _⟩
    have hd := HD.out
    rw [← digits_dec _ (by omega)] at hd
    subst hd
    have e : letters n = [UInt8.ofNat (97 + n % 26)] ++ digits (n / 26) := by simp [letters, hn]
    rw [e, ← bs_append]
    congr 1
    congr 1
    simp [bs]

def nments : Nat → List Nat → List (Int × Value)
  | _, [] => []
  | i, N :: r => ((N : Int), .int .i64 i) :: nments (i + 1) r
theorem nments_len : ∀ (i : Nat) (s : List Nat), (nments i s).length = s.length
  | _, [] => rfl
  | i, N :: r => by simp [nments, nments_len (i + 1) r]
theorem nments_snoc : ∀ (i : Nat) (s : List Nat) (N : Nat), nments i (s ++ [N]) = nments i s ++ [((N : Int), .int .i64 ((i + s.length : Nat) : Int))]
  | i, [], N => by simp [nments]
  | i, M :: r, N => by
    simp only [List.cons_append, nments, nments_snoc (i + 1) r N]
    rw [show i + 1 + r.length = i + (M :: r).length by simp; omega]
theorem nments_look : ∀ (s : List Nat) (i N : Nat), (nments i s).lookup (N : Int) = (s.idxOf? N).map (fun k => .int .i64 ((i + k : Nat) : Int))
  | [], i, N => by simp [nments]
  | M :: r, i, N => by
    simp only [nments, List.lookup_cons, List.idxOf?_cons]
    by_cases h : N = M
    · subst h; simp
    · have h1 : ((N : Int) == (M : Int)) = false := by
        have : ¬ (N : Int) = (M : Int) := by omega
        simpa using this
      have h2 : (M == N) = false := by simpa using fun e => h e.symm
      rw [h1, h2]
      simp only [Bool.false_eq_true, if_false, nments_look r (i + 1) N, Option.map_map]
      congr 1
      funext k
      simp only [Function.comp]
      congr 2
      omega

/-- A namer's state: the numbers that have been met, in order; all of them in F. -/
structure NamerR (G : GH) (A : GV) (F : List Nat) (c r : Nat) (s : List Nat) (w : World) : Prop where
  cel : w.heap[c]? = some (.cells #[.map (some r)] 206)
  mp : w.heap[r]? = some (kmap kInt (nments 0 s))
  nd : s.Nodup
  sub : ∀ x ∈ s, x ∈ F
  gr : G r = none
  vr : ¬ isV A r
  vc : ¬ isV A c
theorem nodup_len {s F : List Nat} (hn : s.Nodup) (hs : ∀ x ∈ s, x ∈ F) : s.length ≤ F.length := by
  induction s generalizing F with
  | nil => simp
  | cons a r ih =>
    have ha := hs a (by simp)
    have hn' := List.nodup_cons.1 hn
    have := ih (F := F.erase a) hn'.2 (fun x hx => (List.mem_erase_of_ne (fun e => hn'.1 (by rw [e] at hx; exact hx))).2 (hs x (by simp [hx])))
    have := List.length_erase_of_mem ha
    have := List.length_pos_of_mem ha
    simp only [List.length_cons]
    omega
theorem NamerR.stable {G : GH} {A : GV} {F : List Nat} {c r n : Nat} {s : List Nat} {w w' : World} (h : NamerR G A F c r s w) (k : Same G A n w w') : NamerR G A F c r s w' :=
  ⟨k.keep.get h.cel h.vc, k.keep.get h.mp h.vr, h.nd, h.sub, h.gr, h.vr, h.vc⟩
theorem und_mii : Tryd.prog.underlying 206 = some (.map 3 3) := by kernel_rfl
theorem zero_int : ∀ w, (zeroValue 3).run Tryd.prog w = .ok (.int .i64 0) w := fun w => by kernel_rfl

set_option maxRecDepth 100000 in
set_option maxHeartbeats 1000000 in
theorem namer_old {G : GH} {A : GV} {F : List Nat} {c r n N b k : Nat} {nm : Str} {is : Value} {s : List Nat} {w : World} (hF : F.length ≤ 2600) (h : NamerR G A F c r s w) (hb : w.heap[b]? = some (varObj N is nm)) (hk : s.idxOf? N = some k) :
    Calls Tryd.prog 77 #[.pointer (some ⟨b, 0, none⟩), .pointer (some ⟨c, 0, none⟩)] w (fun e w' => e = .returned (.string (bs (letters k))) ∧ Keep none' w w') := by
  have hkl : k < 2600 := by
    have h1 := nodup_len h.nd h.sub
    have h2 : k < s.length := by
      obtain ⟨h', _⟩ := List.findIdx?_eq_some_iff_getElem.1 (by simpa [List.idxOf?] using hk)
      exact h'
    omega
  have hlk : ∀ w', w'.heap[r]? = w.heap[r]? → (Instr.lookup 206 (.map (some r)) (.int .i64 N) true).run Tryd.prog w' = .ok (.tuple #[.int .i64 k, .bool true]) w' := fun w' e => by
    have := run_look_some (P := Tryd.prog) und_mii key_int (k := (N : Int)) (v := .int .i64 k) (w := w') (e.trans h.mp) (by rw [nments_look, hk]; simp) true
    exact this
  have l0 := hlk w rfl
  have c0 : w.cell? ⟨c, 0, none⟩ = some (.map (some r)) := cell_of_heap h.cel rfl
  have c1 : w.cell? ⟨b, 0, none⟩ = some (.int .i64 N) := cell_of_heap hb rfl
  have HL := Lib.hid hlk; have HB := Lib.hid hb; have HH := Lib.hid h; have HK := Lib.hid hk
  clear hlk hb h hk
  go_enter Tryd.func77, Tryd.ntmps77
  go_wp2_with fail
  refine wp_region_float (fun w' => w'.cell? ⟨c, 0, none⟩ = some (.map (some r)) ∧ w'.cell? ⟨b, 0, none⟩ = some (.int .i64 N) ∧ (Instr.lookup 206 (.map (some r)) (.int .i64 N) true).run Tryd.prog w' = .ok (.tuple #[.int .i64 k, .bool true]) w') [1, 2, 3, 6, 7, 8] [0, 4, 5] (by kernel_rfl) ?_
  have S0 : w.drew.cell? ⟨c, 0, none⟩ = some (.map (some r)) ∧ w.drew.cell? ⟨b, 0, none⟩ = some (.int .i64 N) ∧ (Instr.lookup 206 (.map (some r)) (.int .i64 N) true).run Tryd.prog w.drew = .ok (.tuple #[.int .i64 k, .bool true]) w.drew := ⟨c0, c1, HL.out w.drew rfl⟩
  (refine floatS (i := 0) (v := ?_) rfl (by kernel_rfl) (by kernel_rfl) (by kernel_rfl) (by kernel_rfl) (fun _ _ _ h => h) (by assumption) (by rfl) ?_ ?_); rotate_left
  (intro wF hF; (try dsimp only at hF); go_simp; try with_reducible rfl)
  (try simp only [Act.put, List.setIfInBounds_toArray, List.set_cons_zero, List.set_cons_succ])
  (refine float0 (i := 1) (v := ?_) rfl (by kernel_rfl) (by kernel_rfl) (by kernel_rfl) (by kernel_rfl) (fun _ _ _ h => h) (by rfl) ?_ ?_); rotate_left
  (intro wF; go_simp; try with_reducible rfl)
  (try simp only [Act.put, List.setIfInBounds_toArray, List.set_cons_zero, List.set_cons_succ])
  (refine float0 (i := 2) (v := ?_) rfl (by kernel_rfl) (by kernel_rfl) (by kernel_rfl) (by kernel_rfl) (fun _ _ _ h => h) (by rfl) ?_ ?_); rotate_left
  (intro wF; go_simp; try with_reducible rfl)
  (try simp only [Act.put, List.setIfInBounds_toArray, List.set_cons_zero, List.set_cons_succ])
  (refine float0 (i := 3) (v := ?_) rfl (by kernel_rfl) (by kernel_rfl) (by kernel_rfl) (by kernel_rfl) (fun _ _ _ h => h) (by rfl) ?_ ?_); rotate_left
  (intro wF; go_simp; try with_reducible rfl)
  (try simp only [Act.put, List.setIfInBounds_toArray, List.set_cons_zero, List.set_cons_succ])
  (refine floatS (i := 4) (v := ?_) rfl (by kernel_rfl) (by kernel_rfl) (by kernel_rfl) (by kernel_rfl) (fun _ _ _ h => h) (by assumption) (by rfl) ?_ ?_); rotate_left
  (intro wF hF; (try dsimp only at hF); go_simp; try with_reducible rfl)
  (try simp only [Act.put, List.setIfInBounds_toArray, List.set_cons_zero, List.set_cons_succ])
  (refine floatS (i := 5) (v := ?_) rfl (by kernel_rfl) (by kernel_rfl) (by kernel_rfl) (by kernel_rfl) (fun _ _ _ h => h) (by assumption) (by rfl) ?_ ?_); rotate_left
  (intro wF hF; (try dsimp only at hF); go_simp; try with_reducible rfl)
  (try simp only [Act.put, List.setIfInBounds_toArray, List.set_cons_zero, List.set_cons_succ])
  (refine float0 (i := 6) (v := ?_) rfl (by kernel_rfl) (by kernel_rfl) (by kernel_rfl) (by kernel_rfl) (fun _ _ _ h => h) (by rfl) ?_ ?_); rotate_left
  (intro wF; go_simp; try with_reducible rfl)
  (try simp only [Act.put, List.setIfInBounds_toArray, List.set_cons_zero, List.set_cons_succ])
  (refine float0 (i := 7) (v := ?_) rfl (by kernel_rfl) (by kernel_rfl) (by kernel_rfl) (by kernel_rfl) (fun _ _ _ h => h) (by rfl) ?_ ?_); rotate_left
  (intro wF; go_simp; try with_reducible rfl)
  (try simp only [Act.put, List.setIfInBounds_toArray, List.set_cons_zero, List.set_cons_succ])
  (refine float0 (i := 8) (v := ?_) rfl (by kernel_rfl) (by kernel_rfl) (by kernel_rfl) (by kernel_rfl) (fun _ _ _ h => h) (by rfl) ?_ ?_); rotate_left
  (intro wF; go_simp; try with_reducible rfl)
  (try simp only [Act.put, List.setIfInBounds_toArray, List.set_cons_zero, List.set_cons_succ])
  (refine floatT (l := _) (k := 9) rfl rfl (by kernel_rfl) ?_)
  go_wp2_with fail
  refine (letters_ok k hkl _).mono ?_
  rintro e w1 ⟨rfl, k1⟩
  go_wp2_with fail
  go_ret
  exact ⟨rfl, (Keep.drew _ _).trans k1⟩

set_option maxRecDepth 100000 in
set_option maxHeartbeats 1000000 in
theorem namer_new {G : GH} {A : GV} {F : List Nat} {c r n N b : Nat} {nm : Str} {is : Value} {s : List Nat} {w : World} (hF : F.length ≤ 2600) (h : NamerR G A F c r s w) (hb : w.heap[b]? = some (varObj N is nm)) (hNF : N ∈ F) (hbA : isV A b) (hk : s.idxOf? N = none) :
    Calls Tryd.prog 77 #[.pointer (some ⟨b, 0, none⟩), .pointer (some ⟨c, 0, none⟩)] w (fun e w' => e = .returned (.string (bs (letters s.length))) ∧ NamerR G A F c r (s ++ [N]) w' ∧ Keep (one' r) w w') := by
  have hNs : N ∉ s := by
    intro hm
    rw [List.idxOf?_eq_none_iff] at hk
    exact hk hm
  have hkl : s.length < 2600 := by
    have h1 := nodup_len (s := N :: s) (F := F) (List.nodup_cons.2 ⟨hNs, h.nd⟩) (fun x hx => by
      rcases List.mem_cons.1 hx with rfl | hx
      · exact hNF
      · exact h.sub x hx)
    simp only [List.length_cons] at h1
    omega
  have hlk : ∀ w', w'.heap[r]? = w.heap[r]? → (Instr.lookup 206 (.map (some r)) (.int .i64 N) true).run Tryd.prog w' = .ok (.tuple #[.int .i64 0, .bool false]) w' := fun w' e => by
    have := run_look_none (P := Tryd.prog) und_mii key_int zero_int (k := (N : Int)) (w := w') (e.trans h.mp) (by rw [nments_look, hk]; rfl) true
    exact this
  have c0 : w.cell? ⟨c, 0, none⟩ = some (.map (some r)) := cell_of_heap h.cel rfl
  have c1 : w.cell? ⟨b, 0, none⟩ = some (.int .i64 N) := cell_of_heap hb rfl
  have hup : (Instr.mapUpdate 206 (.map (some r)) (.int .i64 N) (.int .i64 s.length)).run Tryd.prog w.drew.drew = .ok () (World.lay w.drew.drew r (kmap kInt (nments 0 (s ++ [N])))) := by
    have := run_upd_new (P := Tryd.prog) und_mii key_int (k := (N : Int)) (v := .int .i64 s.length) (w := w.drew.drew) h.mp (by rw [nments_look, hk]; rfl)
    rw [nments_snoc]
    simpa using this
  have hlen : (Builtin.len_ #[206] 3 #[.map (some r)]).run Tryd.prog w.drew = .ok (.int .i64 s.length) w.drew := by
    have := run_len_map (P := Tryd.prog) und_mii (w := w.drew) h.mp 3
    rwa [nments_len] at this
  have HL := Lib.hid hlk; have HB := Lib.hid hb; have HH := Lib.hid h; have HK := Lib.hid hk; have HUP := Lib.hid hup
  clear hlk hb h hk hup
  go_enter Tryd.func77, Tryd.ntmps77
  go_wp2_with fail
  refine wp_region_float (fun w' => w'.cell? ⟨c, 0, none⟩ = some (.map (some r)) ∧ w'.cell? ⟨b, 0, none⟩ = some (.int .i64 N) ∧ (Instr.lookup 206 (.map (some r)) (.int .i64 N) true).run Tryd.prog w' = .ok (.tuple #[.int .i64 0, .bool false]) w') [1, 2, 3, 6, 7, 8] [0, 4, 5] (by kernel_rfl) ?_
  have S0 : w.drew.cell? ⟨c, 0, none⟩ = some (.map (some r)) ∧ w.drew.cell? ⟨b, 0, none⟩ = some (.int .i64 N) ∧ (Instr.lookup 206 (.map (some r)) (.int .i64 N) true).run Tryd.prog w.drew = .ok (.tuple #[.int .i64 0, .bool false]) w.drew := ⟨c0, c1, HL.out w.drew rfl⟩
  (refine floatS (i := 0) (v := ?_) rfl (by kernel_rfl) (by kernel_rfl) (by kernel_rfl) (by kernel_rfl) (fun _ _ _ h => h) (by assumption) (by rfl) ?_ ?_); rotate_left
  (intro wF hF; (try dsimp only at hF); go_simp; try with_reducible rfl)
  (try simp only [Act.put, List.setIfInBounds_toArray, List.set_cons_zero, List.set_cons_succ])
  (refine float0 (i := 1) (v := ?_) rfl (by kernel_rfl) (by kernel_rfl) (by kernel_rfl) (by kernel_rfl) (fun _ _ _ h => h) (by rfl) ?_ ?_); rotate_left
  (intro wF; go_simp; try with_reducible rfl)
  (try simp only [Act.put, List.setIfInBounds_toArray, List.set_cons_zero, List.set_cons_succ])
  (refine float0 (i := 2) (v := ?_) rfl (by kernel_rfl) (by kernel_rfl) (by kernel_rfl) (by kernel_rfl) (fun _ _ _ h => h) (by rfl) ?_ ?_); rotate_left
  (intro wF; go_simp; try with_reducible rfl)
  (try simp only [Act.put, List.setIfInBounds_toArray, List.set_cons_zero, List.set_cons_succ])
  (refine float0 (i := 3) (v := ?_) rfl (by kernel_rfl) (by kernel_rfl) (by kernel_rfl) (by kernel_rfl) (fun _ _ _ h => h) (by rfl) ?_ ?_); rotate_left
  (intro wF; go_simp; try with_reducible rfl)
  (try simp only [Act.put, List.setIfInBounds_toArray, List.set_cons_zero, List.set_cons_succ])
  (refine floatS (i := 4) (v := ?_) rfl (by kernel_rfl) (by kernel_rfl) (by kernel_rfl) (by kernel_rfl) (fun _ _ _ h => h) (by assumption) (by rfl) ?_ ?_); rotate_left
  (intro wF hF; (try dsimp only at hF); go_simp; try with_reducible rfl)
  (try simp only [Act.put, List.setIfInBounds_toArray, List.set_cons_zero, List.set_cons_succ])
  (refine floatS (i := 5) (v := ?_) rfl (by kernel_rfl) (by kernel_rfl) (by kernel_rfl) (by kernel_rfl) (fun _ _ _ h => h) (by assumption) (by rfl) ?_ ?_); rotate_left
  (intro wF hF; (try dsimp only at hF); go_simp; try with_reducible rfl)
  (try simp only [Act.put, List.setIfInBounds_toArray, List.set_cons_zero, List.set_cons_succ])
  (refine float0 (i := 6) (v := ?_) rfl (by kernel_rfl) (by kernel_rfl) (by kernel_rfl) (by kernel_rfl) (fun _ _ _ h => h) (by rfl) ?_ ?_); rotate_left
  (intro wF; go_simp; try with_reducible rfl)
  (try simp only [Act.put, List.setIfInBounds_toArray, List.set_cons_zero, List.set_cons_succ])
  (refine float0 (i := 7) (v := ?_) rfl (by kernel_rfl) (by kernel_rfl) (by kernel_rfl) (by kernel_rfl) (fun _ _ _ h => h) (by rfl) ?_ ?_); rotate_left
  (intro wF; go_simp; try with_reducible rfl)
  (try simp only [Act.put, List.setIfInBounds_toArray, List.set_cons_zero, List.set_cons_succ])
  (refine float0 (i := 8) (v := ?_) rfl (by kernel_rfl) (by kernel_rfl) (by kernel_rfl) (by kernel_rfl) (fun _ _ _ h => h) (by rfl) ?_ ?_); rotate_left
  (intro wF; go_simp; try with_reducible rfl)
  (try simp only [Act.put, List.setIfInBounds_toArray, List.set_cons_zero, List.set_cons_succ])
  (refine floatT (l := _) (k := 9) rfl rfl (by kernel_rfl) ?_)
  clear S0
  go_wp2_with fail
  (refine region_tail 6 (by kernel_rfl) (by kernel_rfl) ?_; simp only [List.take_succ_cons, List.take_zero, List.drop_succ_cons, List.drop_zero]; repeat still_step; try refine wpStill_nil ?_)
  have hup := HUP.out
  clear hlen
  go_wp2_with fail
  refine (letters_ok s.length hkl _).mono ?_
  rintro e w1 ⟨rfl, k1⟩
  go_wp2_with fail
  go_ret
  have k0 : Keep (one' r) w (World.lay w.drew.drew r (kmap kInt (nments 0 (s ++ [N])))) := ((Keep.drew _ _).trans (Keep.drew _ _)).trans (lay_keep w.drew.drew r _)
  have hcr : c ≠ r := by
    rintro rfl
    have e1 := HH.out.cel; rw [HH.out.mp] at e1; simp [kmap] at e1
  refine ⟨rfl, ⟨?_, ?_, ?_, ?_, HH.out.gr, HH.out.vr, HH.out.vc⟩, k0.trans k1.of_none⟩
  · exact k1.get (k0.get HH.out.cel hcr) (fun x => x)
  · exact k1.get (lay_same (lt_of_heap (w := w.drew.drew) HH.out.mp)) (fun x => x)
  · rw [List.nodup_append]
    refine ⟨HH.out.nd, by simp, fun a ha b hb => ?_⟩
    simp only [List.mem_singleton] at hb
    subst hb
    rintro rfl
    exact hNs ha
  · intro x hx
    rcases List.mem_append.1 hx with hx | hx
    · exact HH.out.sub x hx
    · simp only [List.mem_singleton] at hx
      subst hx
      exact hNF

theorem SameS.of_keep {S : Nat → Prop} {G : GH} {A : GV} {n : Nat} {w w' : World} (h : TInv G A w n) (k : Keep S w w') (hG : G.off S) (hS : ∀ b, isV A b → ¬ S b) : SameS S G A n w w' :=
  ⟨k.mono (fun _ _ x => .inr x), h.keep k hG hS, fun _ _ r => r.keep h k hS⟩
theorem off_one {G : GH} {r : Nat} (h : G r = none) : G.off (one' r) := fun b o hb (e : b = r) => by subst e; rw [h] at hb; cases hb

/-- The closure that types.Namer hands out. -/
theorem namer_ok {G : GH} {A : GV} {F : List Nat} {c r n : Nat} (hF : F.length ≤ 2600) : NmOk G A n (one' r) (fun N => N ∈ F) namer (NamerR G A F c r) 77 #[.pointer (some ⟨c, 0, none⟩)] where
  enter := fun args w => by kernel_rfl
  len := fun s N => by
    unfold namer
    split
    · exact Nat.le_trans (letters_len _) (by omega)
    · exact Nat.le_trans (letters_len _) (by omega)
  stable := fun s w w' h k => h.stable k
  call := fun s w N b name hN hR hi hA ht => by
    obtain ⟨_, _, _, is, hb⟩ := hi.vars N b name hA
    have hoff := off_one hR.gr
    have hvs : ∀ b, isV A b → ¬ one' r b := fun x hx (e : x = r) => hR.vr (e ▸ hx)
    cases hk : s.idxOf? N with
    | some k =>
      refine (namer_old (n := n) hF hR hb hk).mono ?_
      rintro e w' ⟨rfl, kk⟩
      have hs := Same.of0 hi kk
      have e1 : namer s N = (letters k, s) := by simp [namer, hk]
      rw [e1]
      exact ⟨rfl, hR.stable hs, hs.s⟩
    | none =>
      refine (namer_new (n := n) hF hR hb hN ⟨N, name, hA⟩ hk).mono ?_
      rintro e w' ⟨rfl, hr, kk⟩
      have e1 : namer s N = (letters s.length, s ++ [N]) := by simp [namer, hk]
      rw [e1]
      exact ⟨rfl, hr, SameS.of_keep hi kk hoff hvs⟩

theorem run_mk (w : World) : (Instr.makeMap 206 none).run Tryd.prog w = .ok (.map (some w.heap.size)) (w.alloc (kmap kInt [])) := rfl
/-- types.Namer. -/
theorem namer_fresh {G : GH} {A : GV} {n : Nat} (F : List Nat) {w : World} (hi : TInv G A w n) : Calls Tryd.prog 53 #[] w (fun e w' => ∃ c r, e = .returned (.func (.func 77) #[] #[.pointer (some ⟨c, 0, none⟩)]) ∧ NamerR G A F c r [] w' ∧ Keep none' w w' ∧ w.heap.size ≤ c ∧ w.heap.size ≤ r) := by
  have hmk := run_mk w
  have HI := Lib.hid hi; clear hi
  go_enter Tryd.func53, Tryd.ntmps53
  go_wp2_with fail
  go_ret
  refine ⟨_, _, rfl, ⟨?_, ?_, by simp, by simp, ?_, ?_, ?_⟩, (Keep.alloc _ _ _).trans (Keep.alloc _ _ _), by omega, Nat.le_refl _⟩
  · have : (w.alloc (kmap kInt [])).heap.size = w.heap.size + 1 := by simp
    rw [← this]; exact heap_new _ _
  · exact heap_old (heap_new _ _)
  · exact HI.out.holds.fresh (Nat.le_refl _)
  · intro h; have := HI.out.old h; omega
  · intro h; have := HI.out.old h; omega
end Go.Proofs.YtabikmkoajdhmaaDoor

/- types.occurs by a contract. -/
namespace Go.Proofs.YtabikmkoajdhmaaDoor
open Go.RowKit

end Go.Proofs.YtabikmkoajdhmaaDoor
