/- ast.Read by a contract: the expression of a text, or what is wrong with it. -/
import Derived.Test.YtabikmkoajdhmaaDoorQ24
import Derived.Test.YtabikmkoajdhmaaDoorQ26
import Derived.Test.YtabikmkoajdhmaaDoorQ05
import Derived.Test.YtabikmkoajdhmaaDoorQ25
import Derived.Test.YtabikmkoajdhmaaDoorQ28
set_option linter.unusedVariables false
set_option linter.unusedSimpArgs false
namespace Go.Proofs.YtabikmkoajdhmaaDoor
open Go.RowKit


def ReadPost (G : GH) (p : Nat → Addr) (w : World) (r : Option (Except Flt Ex)) (e : Ending) (w' : World) : Prop :=
  Keep none' w w' ∧ match r with
    | some (.ok x) => ∃ v G', e = .returned (.tuple #[v, .nilIface]) ∧ Grew G w G' ∧ Holds G' w' ∧ ExR G' v x
    | some (.error f) => ∃ u v G', e = .returned (.tuple #[u, v]) ∧ Grew G w G' ∧ Holds G' w' ∧ ErrR G' p v f
    | none => False

set_option maxRecDepth 100000 in
set_option maxHeartbeats 4000000 in
theorem read_long (G : GH) (p : Nat → Addr) (S : ByteArray) (w : World) (hG : Holds G w) (hs : Sents p w) (hl : ¬ (S.size : Int) ≤ 300) (hm : S.size ≤ 9223372036854775807) :
    Calls Tryd.prog 42 #[.string S] w (ReadPost G p w (some (.error { what := 1 }))) := by
  have g0 := hs.glob 0 (by omega)
  have l0 := lt_of_cell g0
  simp only [gno, sen] at g0 l0
  have hl' : (300 : Int) < (S.size : Int) := by omega
  clear hl
  have HG := Lib.hid hG; clear hG hs
  go_enter_defers Tryd.func42, Tryd.ntmps42
  go_wp2_with fail
  (refine region_tail 2 (by kernel_rfl) (by kernel_rfl) ?_; simp only [List.take_succ_cons, List.take_zero, List.drop_succ_cons, List.drop_zero]; repeat still_step; try refine wpStill_nil ?_)
  go_wp2_with fail
  have k : Keep none' w (w.alloc (.cells #[.iface 264 (.pointer (some (p 0)))] 52)).drew := (Keep.alloc _ _ _).trans (Keep.drew _ _)
  refine ⟨.tuple #[.nilIface, sen p 0], by simp [results, Tryd.results42, go_sem, sen], k, _, _, G, rfl, Grew.refl _ _, HG.out.keep0 k, ErrR.sen (j := 0) (by omega)⟩

theorem keepX {w a b : World} {x : Nat} (k : Keep none' w a) (h : Keep (one' x) a b) (hx : w.heap.size ≤ x) : Keep none' w b :=
  k.trans' h (fun _ _ x => x) (fun i hi (e : i = x) => by omega)
/-- What is left when the deferred literal has run. -/
theorem read_syn {G : GH} {p : Nat → Addr} {w a b : World} {u : Value} {q eb : Nat} (hG : Holds G w) (k : Keep none' w a) (kb : Keep (one' eb) a b) (he : w.heap.size ≤ eb) (hs : b.heap[a.heap.size + 1]? = some (.cells #[.int .i64 q] 60)) :
    ReadPost G p w (some (.error { what := 2, pos := q })) (.returned (.tuple #[u, .iface 58 (.pointer (some ⟨a.heap.size + 1, 0, none⟩))])) b := by
  have hf : G (a.heap.size + 1) = none := hG.fresh (by have := k.size; omega)
  refine ⟨keepX k kb he, _, _, G.put (a.heap.size + 1) (.cells #[.int .i64 q] 60), rfl, ⟨GH.sub_put hf, fun c hc => GH.put_other _ _ (by have := k.size; omega)⟩, (hG.keep0 (keepX k kb he)).put hs, ErrR.syn (GH.put_same _ _ _)⟩
/-- A text's expression by the plain parser, as readE tells it. -/
theorem readE_cases (s : Str) (h : ¬ s.length > 300) : readE s = (match pExp readFuel (toks wordsB s 0) with
    | none => none
    | some (.error q) => some (.error { what := 2, pos := q })
    | some (.ok (x, l)) => if (hd l).kind = .fin then (if x.depth > 40 then some (.error { what := 3 }) else some (.ok x)) else some (.error { what := 2, pos := (hd l).pos })) := by
  unfold readE
  rw [if_neg h]
  cases pExp readFuel (toks wordsB s 0) with
  | none => rfl
  | some r =>
    cases r with
    | error q => rfl
    | ok xl =>
      obtain ⟨x, l⟩ := xl
      by_cases hf : (hd l).kind = .fin
      · simp only [Res.bind, want, if_pos hf]
      · simp only [Res.bind, want, if_neg hf]

set_option maxRecDepth 100000 in
set_option maxHeartbeats 4000000 in
theorem read_short (G : GH) (p : Nat → Addr) (S : ByteArray) (w : World) (hG : Holds G w) (hs : Sents p w) (hl : S.size ≤ 300) (hx : Lx wordsB 67 S) (r : Option (Except Flt Ex)) (hr : readE (bytes S) = r) (hne : r ≠ none) (hdep : ∀ x l, pExp readFuel (toks wordsB (bytes S) 0) = some (.ok (x, l)) → x.depth ≤ 1000000000) :
    Calls Tryd.prog 42 #[.string S] w (ReadPost G p w r) := by
  have hlen : ¬ (bytes S).length > 300 := by rw [bytes_length]; omega
  rw [readE_cases _ hlen] at hr
  have HR := Lib.hid hr; clear hr
  have hl' : ¬ (300 : Int) < (S.size : Int) := by omega
  have hmf : ∀ (fn : Fn) (first cap : Array Value) (w : World), (Instr.makeFunc fn first cap).run Tryd.prog w = .ok (.func fn first cap) w := fun _ _ _ _ => rfl
  have HG := Lib.hid hG; have HS := Lib.hid hs; have HNE := Lib.hid hne; have HDEP := Lib.hid hdep
  clear hG hs hne hlen hdep
  go_enter_defers Tryd.func42, Tryd.ntmps42
  go_wp2_with fail
  refine (new_any hx _).mono ?_
  rintro e w1 ⟨rfl, k1, r1⟩
  have hz : (w.alloc (.cells #[.nilIface] 52)).heap.size = w.heap.size + 1 := by simp
  rw [hz]
  rw [hz] at r1
  have kA : Keep none' w w1 := (Keep.alloc _ _ _).trans k1
  have he1 : w1.heap[w.heap.size]? = some (.cells #[.nilIface] 52) := k1.get (heap_new _ _) (fun x => x)
  have hzr : w.heap.size + 1 < w1.heap.size := r1.lt
  clear k1
  go_wp2_with fail
  have i2 : AInv (G.put w1.heap.size (.cells #[.pointer (some ⟨w.heap.size + 1, 0, none⟩)] 169)) (w1.alloc (.cells #[.pointer (some ⟨w.heap.size + 1, 0, none⟩)] 169)) w1.heap.size (w.heap.size + 1) S wordsB 67 (toks wordsB (bytes S) 0) :=
    ⟨((HG.out.keep0 kA).keep0 (Keep.alloc none' _ _)).put (heap_new _ _), GH.put_same _ _ _, by rw [GH.put_other _ _ (by omega)]; exact HG.out.fresh (by omega), r1.keep (Keep.alloc none' _ _) (fun x => x)⟩
  have k2 : Keep none' w (w1.alloc (.cells #[.pointer (some ⟨w.heap.size + 1, 0, none⟩)] 169)) := kA.trans (Keep.alloc _ _ _)
  have he2 := heap_old (o' := .cells #[.pointer (some ⟨w.heap.size + 1, 0, none⟩)] 169) he1
  have hf0 : G w1.heap.size = none := HG.out.fresh (by have := kA.size; omega)
  cases hp : pExp readFuel (toks wordsB (bytes S) 0) with
  | none => exact absurd (by rw [← HR.out, hp]) HNE.out
  | some rr =>
    refine ((parse_ok hx readFuel (by decide)).1 _ _ w1.heap.size (w.heap.size + 1) _ (some rr) hp (by simp) i2).mono ?_
    cases rr with
    | error q =>
      have hr := HR.out; rw [hp] at hr; simp only at hr
      subst hr
      rintro e w3 ⟨k3, rfl⟩
      have k3' := keepX k2 k3 (by omega)
      have he3 := k3.get he2 (by simp [one'])
      clear k3 k2 he2 i2 kA he1 r1
      go_wp2_with fail
      refine leaves_cons (f := 64) (args := #[.pointer (some ⟨w.heap.size, 0, none⟩)]) (by simp) (by simp [go_sem]) ?_
      refine (rd1_stop w.heap.size q .nilIface _ (.inl rfl) he3).mono ?_
      rintro e u' wz ⟨rfl, rfl, kz, hsz, hez⟩
      have cz : wz.cell? ⟨w.heap.size, 0, none⟩ = some (.iface 58 (.pointer (some ⟨(w3).heap.size + 1, 0, none⟩))) := cell_of_heap hez rfl
      simp only [Leaves, settle, List.dropWhile]
      exact ⟨_, by simp [results, Tryd.results42, go_sem, cz] <;> first | rfl | exact ⟨rfl, rfl⟩, read_syn HG.out k3' kz (Nat.le_refl _) hsz⟩
    | ok xl =>
      obtain ⟨x, l⟩ := xl
      have hdx := HDEP.out x l hp
      have hr := HR.out; rw [hp] at hr; simp only at hr; clear HR
      have HR := Lib.hid hr; clear hr
      clear HNE HDEP hp
      rintro e w3 ⟨k3, v, G3, rfl, s3, i3, x3⟩
      obtain ⟨Tv, bv, rfl⟩ := x3.shape
      have k3' := keepX k2 k3 (by omega)
      have he3 := k3.get he2 (by simp [one'])
      have c3 := i3.cell
      have hg3 : Hid (Grew G w G3) := Lib.hid ⟨(GH.sub_put hf0).trans s3.sub, fun b hb => (s3.eq b (by have := k2.size; omega)).trans (GH.put_other _ _ (by have := kA.size; omega))⟩
      have hge : G3 w.heap.size = none := (s3.eq _ (by have := k2.size; have := kA.size; simp; omega)).trans ((GH.put_other _ _ (by omega)).trans (HG.out.fresh (Nat.le_refl _)))
      have hoff : Hid (G3.off (one' w.heap.size)) := Lib.hid (fun b o hb (e : b = w.heap.size) => by subst e; rw [hge] at hb; cases hb)
      clear k3 k2 he2 i2 kA he1 r1 s3 hge
      go_wp2_with fail
      refine (want_any hx .fin good_fin (by decide) _ (w.heap.size + 1) l i3.rd).mono ?_
      by_cases hf : (hd l).kind = .fin
      · have hr := HR.out; rw [if_pos hf] at hr; clear HR
        have HR := Lib.hid hr; clear hr
        rw [want_yes hf]
        rintro e w4 ⟨k4, rfl, r4⟩
        have i4 := i3.step k4 r4
        have k4' := keepX k3' k4 (by omega)
        have he4 := k4.get he3 (by simp [one'])
        clear k4 r4 i3 c3 he3 k3'
        go_wp2_with fail
        refine (depth_ok x.depth hdx G3 w4 _ x i4.holds x3 (Nat.le_refl _)).mono ?_
        rintro e w5 ⟨rfl, k5⟩
        have k5' := k4'.trans k5
        have he5 := k5.get he4 (fun x => x)
        have hG5 := i4.holds.keep0 k5
        have hs5 := HS.out.keep0 k5'
        clear k4' k5 he4 i4
        by_cases hd : x.depth > 40
        · have hr := HR.out; rw [if_pos hd] at hr; subst hr; clear HR
          have hdi : (40 : Int) < (x.depth : Int) := by omega
          have g1 := hs5.glob 1 (by omega)
          simp only [gno, sen] at g1
          have ce := cell_of_heap (i := 0) he5 rfl
          have fe : w5.frozen? ⟨w.heap.size, 0, none⟩ = false := free_of_heap he5
          go_wp2_with fail
          (refine region_tail 2 (by kernel_rfl) (by kernel_rfl) ?_; simp only [List.take_succ_cons, List.take_zero, List.drop_succ_cons, List.drop_zero]; repeat still_step; try refine wpStill_nil ?_)
          go_wp2_with fail
          have hez : (w5.setCell ⟨w.heap.size, 0, none⟩ (.iface 264 (.pointer (some (p 1))))).heap[w.heap.size]? = some (.cells #[.iface 264 (.pointer (some (p 1)))] 52) := heap_set_same (c := #[.nilIface]) he5
          have kst : Keep (one' w.heap.size) w5 (w5.setCell ⟨w.heap.size, 0, none⟩ (.iface 264 (.pointer (some (p 1))))) := Keep.setCell _ _ (fun _ => rfl)
          refine leaves_cons (f := 64) (args := #[.pointer (some ⟨w.heap.size, 0, none⟩)]) (by simp) (by simp [go_sem]) ?_
          refine (rd1_ret w.heap.size (.iface 264 (.pointer (some (p 1)))) (w5.setCell ⟨w.heap.size, 0, none⟩ (.iface 264 (.pointer (some (p 1))))).drew (.inr ⟨_, _, rfl⟩) hez).mono ?_
          rintro e u' wz ⟨rfl, rfl, kz, hz2⟩
          have cz : wz.cell? ⟨w.heap.size, 0, none⟩ = some (.iface 264 (.pointer (some (p 1)))) := cell_of_heap hz2 rfl
          have kAll : Keep (one' w.heap.size) w5 wz := kst.trans (Keep.trans (Keep.drew _ _) kz)
          simp only [Leaves, settle]
          exact ⟨_, by simp [results, Tryd.results42, go_sem, cz] <;> first | rfl | exact ⟨rfl, rfl⟩, keepX k5' kAll (Nat.le_refl _), _, _, G3, rfl, hg3.out, hG5.keep kAll hoff.out, ErrR.sen (j := 1) (by omega)⟩
        · have hr := HR.out; rw [if_neg hd] at hr; subst hr; clear HR
          have hdi : ¬ (40 : Int) < (x.depth : Int) := by omega
          have ce := cell_of_heap (i := 0) he5 rfl
          have fe : w5.frozen? ⟨w.heap.size, 0, none⟩ = false := free_of_heap he5
          go_wp2_with fail
          have hez : (w5.setCell ⟨w.heap.size, 0, none⟩ (.nilIface)).heap[w.heap.size]? = some (.cells #[.nilIface] 52) := heap_set_same (c := #[.nilIface]) he5
          have kst : Keep (one' w.heap.size) w5 (w5.setCell ⟨w.heap.size, 0, none⟩ (.nilIface)) := Keep.setCell _ _ (fun _ => rfl)
          refine leaves_cons (f := 64) (args := #[.pointer (some ⟨w.heap.size, 0, none⟩)]) (by simp) (by simp [go_sem]) ?_
          refine (rd1_ret w.heap.size (.nilIface) _ (.inl rfl) hez).mono ?_
          rintro e u' wz ⟨rfl, rfl, kz, hz2⟩
          have cz : wz.cell? ⟨w.heap.size, 0, none⟩ = some (.nilIface) := cell_of_heap hz2 rfl
          have kAll : Keep (one' w.heap.size) w5 wz := kst.trans (kz)
          simp only [Leaves, settle]
          exact ⟨_, by simp [results, Tryd.results42, go_sem, cz] <;> first | rfl | exact ⟨rfl, rfl⟩, keepX k5' kAll (Nat.le_refl _), _, G3, rfl, hg3.out, hG5.keep kAll hoff.out, x3⟩
      · have hr := HR.out; rw [if_neg hf] at hr; subst hr; clear HR
        rw [want_no hf]
        rintro e w4 ⟨k4, rfl⟩
        have k4' := keepX k3' k4 (by omega)
        have he4 := k4.get he3 (by simp [one'])
        clear k4 he3 k3'
        go_wp2_with fail
        refine leaves_cons (f := 64) (args := #[.pointer (some ⟨w.heap.size, 0, none⟩)]) (by simp) (by simp [go_sem]) ?_
        refine (rd1_stop w.heap.size (hd l).pos .nilIface _ (.inl rfl) he4).mono ?_
        rintro e u' wz ⟨rfl, rfl, kz, hsz, hez⟩
        have cz : wz.cell? ⟨w.heap.size, 0, none⟩ = some (.iface 58 (.pointer (some ⟨(w4).heap.size + 1, 0, none⟩))) := cell_of_heap hez rfl
        simp only [Leaves, settle, List.dropWhile]
        exact ⟨_, by simp [results, Tryd.results42, go_sem, cz] <;> first | rfl | exact ⟨rfl, rfl⟩, read_syn HG.out k4' kz (Nat.le_refl _) hsz⟩
end Go.Proofs.YtabikmkoajdhmaaDoor

/- infer.Show and plain.Show by contracts: what a text's expression reads as, or what is wrong. -/
namespace Go.Proofs.YtabikmkoajdhmaaDoor
open Go.RowKit

theorem readE_depth {s : Str} {x : Ex} (h : readE s = some (.ok x)) : x.depth ≤ 40 := by
  unfold readE at h
  split at h
  · cases h
  · split at h
    · cases h
    · cases h
    · split at h
      · cases h
      · injection h with h; injection h with h; subst h; omega
theorem readE_long {s : Str} (h : s.length > 300) : readE s = some (.error { what := 1 }) := by unfold readE; rw [if_pos h]
theorem ErrR.iface {G : GH} {p : Nat → Addr} {v : Value} {f : Flt} (h : ErrR G p v f) : ∃ T a, v = .iface T (.pointer (some a)) := by
  cases h <;> exact ⟨_, _, rfl⟩
def noG : GH := fun _ => none
theorem noG_holds (w : World) : Holds noG w := fun b o h => by cases h
theorem words_lx {S : ByteArray} (h : S.size ≤ 140737488351232) : Lx wordsB 67 S := ⟨keyword_ok, words_good, h⟩
/-- What is asked of a text's expression, for the walks. -/
structure ReadsOk (s : Str) (r : Option (Except Flt Ex)) : Prop where
  eq : readE s = r
  ne : r ≠ none
  dep : ∀ x l, pExp readFuel (toks wordsB s 0) = some (.ok (x, l)) → x.depth ≤ 1000000000
  len : ∀ x, r = some (.ok x) → x.show.length ≤ 1000000000000
theorem read_any (G : GH) (p : Nat → Addr) (S : ByteArray) (w : World) (hG : Holds G w) (hs : Sents p w) (hm : S.size ≤ 9223372036854775807) {r : Option (Except Flt Ex)} (hr : ReadsOk (bytes S) r) : Calls Tryd.prog 42 #[.string S] w (ReadPost G p w r) := by
  by_cases hl : S.size ≤ 300
  · exact read_short G p S w hG hs hl (words_lx (by omega)) r hr.eq hr.ne hr.dep
  · have : r = some (.error { what := 1 }) := by rw [← hr.eq]; exact readE_long (by rw [bytes_length]; omega)
    subst this
    exact read_long G p S w hG hs (by omega) hm

def IShowPost (p : Nat → Addr) (w : World) (r : Option (Except Flt Ex)) (e : Ending) (w' : World) : Prop :=
  Keep none' w w' ∧ match r with
    | some (.ok x) => e = .returned (.tuple #[.string (bs x.show), .nilIface])
    | some (.error f) => ∃ v G', e = .returned (.tuple #[.string (bs []), v]) ∧ Holds G' w' ∧ ErrR G' p v f
    | none => False

set_option maxHeartbeats 1000000 in
theorem infer_show (p : Nat → Addr) (S : ByteArray) (w : World) (hs : Sents p w) (hm : S.size ≤ 9223372036854775807) {r : Option (Except Flt Ex)} (hr : ReadsOk (bytes S) r) : Calls Tryd.prog 21 #[.string S] w (IShowPost p w r) := by
  have hc := read_any noG p S w (noG_holds w) hs hm hr
  have HC := Lib.hid hc; have HR := Lib.hid hr; clear hc hr hs
  go_enter Tryd.func21, Tryd.ntmps21
  go_wp2_with fail
  refine HC.out.mono ?_
  cases r with
  | none => exact absurd rfl HR.out.ne
  | some rr =>
    cases rr with
    | ok x =>
      rintro e w1 ⟨k1, v, G1, rfl, g1, hG1, hx⟩
      obtain ⟨T, b, rfl⟩ := hx.shape
      have hd := readE_depth HR.out.eq
      have hl := HR.out.len x rfl
      have HX := Lib.hid hx; have HK := Lib.hid k1; have HG := Lib.hid hG1
      clear hx k1 hG1 g1
      go_wp2_with fail
      refine (eshow_ok 40 (by omega) G1 w1 _ x HG.out HX.out hd hl).mono ?_
      rintro e w2 ⟨rfl, k2⟩
      go_wp2_with fail
      refine bodyPost_ret (v := .tuple #[.string (bs x.show), .nilIface]) (by simp [results, Tryd.results21, go_sem]) rfl ⟨HK.out.trans k2, rfl⟩
    | error f =>
      rintro e w1 ⟨k1, u, v, G1, rfl, g1, hG1, hx⟩
      obtain ⟨T, b, rfl⟩ := hx.iface
      have HX := Lib.hid hx; have HK := Lib.hid k1; have HG := Lib.hid hG1
      clear hx k1 hG1 g1
      go_wp2_with fail
      refine bodyPost_ret (v := .tuple #[.string (bs []), .iface T (.pointer (some b))]) (by simp [results, Tryd.results21, go_sem, bs]) rfl ⟨HK.out, _, G1, rfl, HG.out, HX.out⟩

def fltV (f : Flt) : Value := faultV f.what f.pos (bs f.s) f.inner f.innerAt
def showOf : Except Flt Ex → Str × Flt
  | .ok x => (x.show, { what := 0 })
  | .error f => ([], f)

set_option maxRecDepth 100000 in
set_option maxHeartbeats 1000000 in
theorem plain_show (p : Nat → Addr) (S : ByteArray) (w : World) (hs : Sents p w) (hm : S.size ≤ 9223372036854775807) {r : Except Flt Ex} (hr : ReadsOk (bytes S) (some r)) :
    Calls Tryd.prog 8 #[.string S] w (fun e w' => e = .returned (.tuple #[.string (bs (showOf r).1), fltV (showOf r).2]) ∧ Keep none' w w') := by
  have k0 : Keep none' w (w.alloc (.cells fz 28)) := Keep.alloc _ _ _
  have hc := infer_show p S (w.alloc (.cells fz 28)) (hs.keep0 k0) hm hr
  have HC := Lib.hid hc; have HS := Lib.hid hs; clear hc hr hs
  have x0 : (w.alloc (.cells fz 28)).heap[w.heap.size]? = some (.cells fz 28) := heap_new _ _
  have HX0 := Lib.hid x0; have HK0 := Lib.hid k0; clear x0 k0
  go_enter Tryd.func8, Tryd.ntmps8
  go_wp2_with fail
  refine HC.out.mono ?_
  cases r with
  | ok x =>
    rintro e w1 ⟨k1, rfl⟩
    have K1 := Lib.hid (HK0.out.trans k1)
    have HX1 := Lib.hid (k1.get HX0.out (fun x => x)); clear k1
    go_wp2_with fail
    refine (fault_nil _).mono ?_
    rintro e w2 ⟨rfl, k2⟩
    have x2 := k2.get HX1.out (fun x => x)
    have K2 := K1.out.trans k2
    obtain ⟨hz, f0⟩ := fz_cells x2
    have d0 := hz 0 _ rfl; have d1 := hz 1 _ rfl; have d2 := hz 2 _ rfl; have d3 := hz 3 _ rfl; have d4 := hz 4 _ rfl
    have KP := Lib.hid (fun u0 u1 u2 u3 u4 => keep5 K2 (Nat.le_refl _) u0 u1 u2 u3 u4)
    clear hz x2 K2 k2
    unfold faultV
    go_wp2_with fail
    refine bodyPost_ret (v := .tuple #[.string (bs x.show), faultV 0 0 (bs []) 0 0]) (by simp [results, Tryd.results8, go_sem, d0, d1, d2, d3, d4, faultV, bs]) rfl ⟨rfl, KP.out _ _ _ _ _⟩
  | error f =>
    rintro e w1 ⟨k1, v, G1, rfl, hG1, hv⟩
    have K1 := Lib.hid (HK0.out.trans k1)
    have HX1 := Lib.hid (k1.get HX0.out (fun x => x)); clear k1
    have hft := fault_any hv w1 hG1 (HS.out.keep0 K1.out)
    obtain ⟨T, a, rfl⟩ := hv.iface
    have HFT := Lib.hid hft; clear hft hv
    go_wp2_with fail
    refine HFT.out.mono ?_
    rintro e w2 ⟨rfl, k2⟩
    have x2 := k2.get HX1.out (fun x => x)
    have K2 := K1.out.trans k2
    obtain ⟨hz, f0⟩ := fz_cells x2
    have d0 := hz 0 _ rfl; have d1 := hz 1 _ rfl; have d2 := hz 2 _ rfl; have d3 := hz 3 _ rfl; have d4 := hz 4 _ rfl
    have KP := Lib.hid (fun u0 u1 u2 u3 u4 => keep5 K2 (Nat.le_refl _) u0 u1 u2 u3 u4)
    clear hz x2 K2 k2
    unfold faultV
    go_wp2_with fail
    refine bodyPost_ret (v := .tuple #[.string (bs []), faultV f.what f.pos (bs f.s) f.inner f.innerAt]) (by simp [results, Tryd.results8, go_sem, d0, d1, d2, d3, d4, faultV]) rfl ⟨rfl, KP.out _ _ _ _ _⟩
end Go.Proofs.YtabikmkoajdhmaaDoor

/- types.Read by a contract: the type of a text, or what is wrong with it. -/
namespace Go.Proofs.YtabikmkoajdhmaaDoor
open Go.RowKit

def TReadPost (cb : Nat) (G : GH) (A : GV) (p : Nat → Addr) (w : World) (r : Option (Except Flt (Ty × TS))) (e : Ending) (w' : World) : Prop :=
  match r with
    | some (.ok (t, st)) => ∃ v m G' A', e = .returned (.tuple #[v, .map (some m), .nilIface]) ∧ Ext cb G A w [] G' A' w' ∧ EI cb G' A' w' st.n ∧ TR G' A' w' v t ∧ (∀ q ∈ st.m, ∃ b, A' q.2 = some (b, q.1)) ∧ (FreeA A w → FreeA A' w')
    | some (.error f) => ∃ u u2 v G', e = .returned (.tuple #[u, u2, v]) ∧ Keep (touch cb A) w w' ∧ Grew G w G' ∧ Holds G' w' ∧ ErrR G' p v f
    | none => False

set_option maxRecDepth 100000 in
set_option maxHeartbeats 4000000 in
theorem tread_long (cb : Nat) (G : GH) (A : GV) (p : Nat → Addr) (S : ByteArray) (w : World) (hG : Holds G w) (hs : Sents p w) (hl : ¬ (S.size : Int) ≤ 300) (hm : S.size ≤ 9223372036854775807) :
    Calls Tryd.prog 51 #[.string S, .pointer (some ⟨cb, 0, none⟩)] w (TReadPost cb G A p w (some (.error { what := 1 }))) := by
  have g0 := hs.glob 0 (by omega)
  have l0 := lt_of_cell g0
  simp only [gno, sen] at g0 l0
  have hl' : (300 : Int) < (S.size : Int) := by omega
  clear hl
  have HG := Lib.hid hG; clear hG hs
  go_enter_defers Tryd.func51, Tryd.ntmps51
  go_wp2_with fail
  (refine region_tail 3 (by kernel_rfl) (by kernel_rfl) ?_; simp only [List.take_succ_cons, List.take_zero, List.drop_succ_cons, List.drop_zero]; repeat still_step; try refine wpStill_nil ?_)
  go_wp2_with fail
  have k : Keep none' w (w.alloc (.cells #[.iface 264 (.pointer (some (p 0)))] 52)).drew := (Keep.alloc _ _ _).trans (Keep.drew _ _)
  refine ⟨.tuple #[.nilIface, .map none, sen p 0], by simp [results, Tryd.results51, go_sem, sen], ?_⟩
  exact ⟨_, _, _, G, rfl, k.of_none, Grew.refl _ _, HG.out.keep0 k, ErrR.sen (j := 0) (by omega)⟩

/-- A text's type by the plain parser, as readTy tells it. -/
theorem readTy_cases (s : Str) (n : Nat) (h : ¬ s.length > 300) : readTy s n = (match qWhole readFuel ⟨[], n⟩ (toks kindsB s 0) with
    | none => none
    | some (.error q) => some (.error { what := 2, pos := q })
    | some (.ok (t, st, l)) => if (hd l).kind = .fin then (if t.size > 120 then some (.error { what := 8 }) else some (.ok (t, st))) else some (.error { what := 2, pos := (hd l).pos })) := by
  unfold readTy
  rw [if_neg h]
  cases qWhole readFuel ⟨[], n⟩ (toks kindsB s 0) with
  | none => rfl
  | some r =>
    cases r with
    | error q => rfl
    | ok xl =>
      obtain ⟨t, st, l⟩ := xl
      by_cases hf : (hd l).kind = .fin
      · simp only [Res.bind, want, if_pos hf]
      · simp only [Res.bind, want, if_neg hf]
theorem keepS {w a b : World} {x : RBs} {A : GV} (k : Keep none' w a) (h : Keep (S3 x) a b) (h1 : w.heap.size ≤ x.rb) (h2 : w.heap.size ≤ x.mb) : Keep (touch x.cb A) w b :=
  k.trans' h (fun _ _ x => x.elim) (fun i hi e => by
    rcases e with e | e | e
    · omega
    · omega
    · exact .inl e)
theorem keepB {w a b : World} {cb x : Nat} {A : GV} (k : Keep (touch cb A) w a) (h : Keep (one' x) a b) (hx : w.heap.size ≤ x) : Keep (touch cb A) w b :=
  k.trans' h (fun _ _ x => x) (fun i hi (e : i = x) => by omega)
/-- What is left when the deferred literal has run behind a stop. -/
theorem tread_syn {cb : Nat} {A : GV} {G : GH} {p : Nat → Addr} {w a b : World} {u u2 : Value} {q eb : Nat} (hG : G.off (touch cb A)) (hH : Holds G w) (k : Keep (touch cb A) w a) (kb : Keep (one' eb) a b) (he : w.heap.size ≤ eb) (hs : b.heap[a.heap.size + 1]? = some (.cells #[.int .i64 q] 60)) :
    TReadPost cb G A p w (some (.error { what := 2, pos := q })) (.returned (.tuple #[u, u2, .iface 58 (.pointer (some ⟨a.heap.size + 1, 0, none⟩))])) b := by
  have hf : G (a.heap.size + 1) = none := hH.fresh (by have := k.size; omega)
  exact ⟨_, _, _, G.put (a.heap.size + 1) (.cells #[.int .i64 q] 60), rfl, keepB k kb he, ⟨GH.sub_put hf, fun c hc => GH.put_other _ _ (by have := k.size; omega)⟩, (hH.keep (keepB k kb he) hG).put hs, ErrR.syn (GH.put_same _ _ _)⟩
theorem EI.off {cb : Nat} {G : GH} {A : GV} {w : World} {n : Nat} (h : EI cb G A w n) : G.off (touch cb A) := fun b o hb hs => by
  rcases hs with rfl | hs
  · rw [h.cg] at hb; cases hb
  · exact h.inv.off b o hb hs
theorem run_mks (w : World) : (Instr.makeMap 127 none).run Tryd.prog w = .ok (.map (some w.heap.size)) (w.alloc (kmap kStr [])) := rfl

set_option maxRecDepth 100000 in
set_option maxHeartbeats 4000000 in
theorem tread_short (cb : Nat) (G : GH) (A : GV) (p : Nat → Addr) (S : ByteArray) (w : World) (n : Nat) (hi : EI cb G A w n) (hs : Sents p w) (hso : Sents.off p (touch cb A)) (hl : S.size ≤ 300) (hx : Lx kindsB 74 S) (r : Option (Except Flt (Ty × TS))) (hr : readTy (bytes S) n = r) (hne : r ≠ none) :
    Calls Tryd.prog 51 #[.string S, .pointer (some ⟨cb, 0, none⟩)] w (TReadPost cb G A p w r) := by
  have hlen : ¬ (bytes S).length > 300 := by rw [bytes_length]; omega
  rw [readTy_cases _ _ hlen] at hr
  have HR := Lib.hid hr; clear hr
  have hl' : ¬ (300 : Int) < (S.size : Int) := by omega
  have hmf : ∀ (fn : Fn) (first cap : Array Value) (w : World), (Instr.makeFunc fn first cap).run Tryd.prog w = .ok (.func fn first cap) w := fun _ _ _ _ => rfl
  have hmk := run_mks
  have hcb := hi.lt
  have HI := Lib.hid hi; have HS := Lib.hid hs; have HSO := Lib.hid hso; have HNE := Lib.hid hne
  clear hi hs hso hne hlen
  go_enter_defers Tryd.func51, Tryd.ntmps51
  go_wp2_with fail
  refine (new_any hx _).mono ?_
  rintro e w1 ⟨rfl, k1, r1⟩
  have hz : (w.alloc (.cells #[.nilIface] 52)).heap.size = w.heap.size + 1 := by simp
  rw [hz]
  rw [hz] at r1
  have kA : Keep none' w w1 := (Keep.alloc _ _ _).trans k1
  have he1 : w1.heap[w.heap.size]? = some (.cells #[.nilIface] 52) := k1.get (heap_new _ _) (fun x => x)
  have hzr : w.heap.size + 1 < w1.heap.size := r1.lt
  clear k1
  go_wp2_with fail
  obtain ⟨ro, hro⟩ : ∃ o : Obj, o = .cells #[.pointer (some ⟨w.heap.size + 1, 0, none⟩), .map (some w1.heap.size), .pointer (some ⟨cb, 0, none⟩)] 203 := ⟨_, rfl⟩
  have hzm : (w1.alloc (kmap kStr [])).heap.size = w1.heap.size + 1 := by simp
  have hH1 := ((HI.out.inv.keep0 kA).keep0 (Keep.alloc none' w1 (kmap kStr [])))
  obtain ⟨g2, j2⟩ := hH1.alloc ro
  rw [hzm] at g2 j2
  have k2 : Keep none' w ((w1.alloc (kmap kStr [])).alloc ro) := (kA.trans (Keep.alloc _ _ _)).trans (Keep.alloc _ _ _)
  have hsz2 := k2.size
  have i2 : RI ⟨w1.heap.size + 1, w.heap.size + 1, w1.heap.size, cb, FreeA A w⟩ S kindsB 74 (G.put (w1.heap.size + 1) ro) A ((w1.alloc (kmap kStr [])).alloc ro) ⟨[], n⟩ (toks kindsB (bytes S) 0) := by
    refine ⟨j2, by rw [← hro]; exact GH.put_same _ _ _, fun b hb => ?_, ⟨by (try simp only); omega, by (try simp only); omega, by (try simp only); omega⟩, (r1.keep (Keep.alloc none' _ _) (fun x => x)).keep (Keep.alloc none' _ _) (fun x => x), k2.get HI.out.cnt (fun x => x), heap_old (heap_new _ _), fun q hq => by simp at hq, fun hf N b nm e => k2.get (hf N b nm e) (fun x => x)⟩
    rcases hb with rfl | rfl | rfl
    · exact ⟨by rw [GH.put_other _ _ (by (try simp only); omega)]; exact HI.out.inv.holds.fresh (by (try simp only); omega), fun h => by have := HI.out.inv.old h; (try simp only at this); omega⟩
    · exact ⟨by rw [GH.put_other _ _ (by (try simp only); omega)]; exact HI.out.inv.holds.fresh (by (try simp only); omega), fun h => by have := HI.out.inv.old h; (try simp only at this); omega⟩
    · exact ⟨by rw [GH.put_other _ _ (by (try simp only); omega)]; exact HI.out.cg, HI.out.cv⟩
  rw [← hro]
  have he2 : ((w1.alloc (kmap kStr [])).alloc ro).heap[w.heap.size]? = some (.cells #[.nilIface] 52) := heap_old (heap_old he1)
  have hgr : Grew G w (G.put (w1.heap.size + 1) ro) := Grew.keep ((kA.trans (Keep.alloc none' w1 (kmap kStr [])))) g2
  clear hro he1 r1 hH1 g2 j2 hzm
  obtain ⟨w2, hw2⟩ : ∃ w2, w2 = (w1.alloc (kmap kStr [])).alloc ro := ⟨_, rfl⟩
  obtain ⟨G2, hG2⟩ : ∃ G2, G2 = G.put (w1.heap.size + 1) ro := ⟨_, rfl⟩
  rw [← hw2] at i2 he2 k2 hsz2
  rw [← hw2]
  have hg2e : G2 w.heap.size = none := by rw [hG2, GH.put_other _ _ (by omega)]; exact HI.out.inv.holds.fresh (Nat.le_refl _)
  rw [← hG2] at i2 hgr
  clear hw2 hG2
  have HGR := Lib.hid hgr; have HOFF := Lib.hid HI.out.off; clear hgr
  cases hp : qWhole readFuel ⟨[], n⟩ (toks kindsB (bytes S) 0) with
  | none => exact absurd (by rw [← HR.out, hp]) HNE.out
  | some rr =>
    refine ((types_ok hx readFuel).1 _ _ _ w2 _ _ (some rr) hp (by simp) i2).mono ?_
    cases rr with
    | error q =>
      have hr := HR.out; rw [hp] at hr; simp only at hr
      subst hr
      rintro e w3 ⟨k3, rfl⟩
      have k3' := keepS (A := A) k2 k3 (by (try simp only); omega) (by (try simp only); omega)
      have he3 := k3.get he2 (by simp only [S3]; omega)
      clear k3 k2 he2 i2 kA
      go_wp2_with fail
      refine leaves_cons (f := 73) (args := #[.pointer (some ⟨w.heap.size, 0, none⟩)]) (by simp) (by simp [go_sem]) ?_
      refine (rd2_stop w.heap.size q .nilIface _ (.inl rfl) he3).mono ?_
      rintro e u' wz ⟨rfl, rfl, kz, hsz, hez⟩
      have cz : wz.cell? ⟨w.heap.size, 0, none⟩ = some (.iface 58 (.pointer (some ⟨(w3).heap.size + 1, 0, none⟩))) := cell_of_heap hez rfl
      simp only [Leaves, settle, List.dropWhile]
      exact ⟨_, by simp [results, Tryd.results51, go_sem, cz] <;> first | rfl | exact ⟨rfl, rfl⟩, tread_syn HOFF.out HI.out.inv.holds k3' kz (Nat.le_refl _) hsz⟩
    | ok xl =>
      obtain ⟨t, st, l⟩ := xl
      have hr := HR.out; rw [hp] at hr; simp only at hr; clear HR
      have HR := Lib.hid hr; clear hr
      clear HNE hp
      rintro e w3 ⟨k3, v, G3, A3, rfl, g3, a3, i3, y3⟩
      obtain ⟨Tv, bv, rfl⟩ := y3.iface
      have k3' := keepS (A := A) k2 k3 (by (try simp only); omega) (by (try simp only); omega)
      have he3 := k3.get he2 (by simp only [S3]; omega)
      obtain ⟨c3, c3', _⟩ := i3.cells
      have X3 : Ext cb G A w [] G3 A3 w3 := ⟨k3', HGR.out.trans k2 g3, GrewV.keep k2 a3, fun v t r => (r.up HI.out.inv k2 (fun _ _ x => x) HGR.out.sub (GV.sub.refl A)).up i2.inv k3 i2.vs g3.sub a3.sub⟩
      have hge : G3 w.heap.size = none := (g3.eq _ (lt_of_heap he2)).trans hg2e
      have hve : ¬ isV A3 w.heap.size := fun ⟨N, nm, e⟩ => by
        obtain ⟨_, _, _, is, h⟩ := i3.inv.vars N _ nm e
        rw [he3] at h; simp [varObj] at h
      have HGE := Lib.hid hge; have HVE := Lib.hid hve
      clear k3 k2 he2 i2 kA g3 a3 hge hve
      go_wp2_with fail
      refine (want_any hx .fin good_fin (by decide) _ (w.heap.size + 1) l i3.rd).mono ?_
      by_cases hf : (hd l).kind = .fin
      · have hr := HR.out; rw [if_pos hf] at hr; clear HR
        have HR := Lib.hid hr; clear hr
        rw [want_yes hf]
        rintro e w4 ⟨k4, rfl, r4⟩
        have i4 := i3.step k4 r4
        have y4 := i3.trs (k4.mono (fun _ _ e => .inl e)) (GH.sub.refl _) (GV.sub.refl _) y3
        have X4 : Ext cb G A w [] G3 A3 w4 := ⟨keepB X3.keep k4 (by omega), X3.g, X3.a, fun v t r => i3.trs (k4.mono (fun _ _ e => .inl e)) (GH.sub.refl _) (GV.sub.refl _) (X3.tr v t r)⟩
        have he4 := k4.get he3 (by simp [one'])
        have ei4 : EI cb G3 A3 w4 st.n := ⟨i4.inv, i4.cnt, (i4.g cb (.inr (.inr rfl))).1, (i4.g cb (.inr (.inr rfl))).2⟩
        have HNM : Hid (∀ q ∈ st.m, ∃ b, A3 q.2 = some (b, q.1)) := Lib.hid (fun q hq => let ⟨b, e, _⟩ := i4.nm q hq; ⟨b, e⟩)
        have HFR : Hid (FreeA A w → FreeA A3 w4) := Lib.hid i4.fr
        have HAR := Lib.hid i4.ar
        clear k4 r4 i3 c3 c3' he3 k3' y3 X3 hf i4
        go_wp2_with fail
        refine (size_any ei4.inv y4).mono ?_
        rintro e w5 ⟨kk, rfl, hkk, s5⟩
        have HF5 : Hid (FreeA A w → FreeA A3 w5) := Lib.hid (fun hf N b nm e => s5.free e (HFR.out hf N b nm e))
        obtain ⟨ei5, x5⟩ := ei4.same s5
        have X5 := X4.then0 x5
        have y5 := s5.tr _ _ y4
        have he5 := s5.keep.get he4 HVE.out
        have hs5 := HS.out.keep X5.keep HSO.out
        have c5 : w5.cell? ⟨w1.heap.size + 1, 1, none⟩ = some (.map (some w1.heap.size)) := cell_of_heap (ei5.inv.holds _ _ HAR.out) rfl
        clear ei4 X4 x5 s5 y4 he4
        have ce := cell_of_heap (i := 0) he5 rfl
        have fe : w5.frozen? ⟨w.heap.size, 0, none⟩ = false := free_of_heap he5
        by_cases hd : t.size > 120
        · have hr := HR.out; rw [if_pos hd] at hr; subst hr; clear HR
          have hdi : (120 : Int) < (kk : Int) := by omega
          have g1 := hs5.glob 4 (by omega)
          simp only [gno, sen] at g1
          have HX5 := Lib.hid X5; have HEI5 := Lib.hid ei5; have HE5 := Lib.hid he5
          clear X5 ei5 he5 y5 hs5 hkk
          go_wp2_with fail
          (refine region_tail 3 (by kernel_rfl) (by kernel_rfl) ?_; simp only [List.take_succ_cons, List.take_zero, List.drop_succ_cons, List.drop_zero]; repeat still_step; try refine wpStill_nil ?_)
          go_wp2_with fail
          have hez : (w5.setCell ⟨w.heap.size, 0, none⟩ (.iface 264 (.pointer (some (p 4))))).heap[w.heap.size]? = some (.cells #[.iface 264 (.pointer (some (p 4)))] 52) := heap_set_same (c := #[.nilIface]) HE5.out
          have kst : Keep (one' w.heap.size) w5 (w5.setCell ⟨w.heap.size, 0, none⟩ (.iface 264 (.pointer (some (p 4))))) := Keep.setCell (S := one' w.heap.size) w5 (p := ⟨w.heap.size, 0, none⟩) _ (fun _ => rfl)
          refine leaves_cons (f := 73) (args := #[.pointer (some ⟨w.heap.size, 0, none⟩)]) (by simp) (by simp [go_sem]) ?_
          refine (rd2_ret w.heap.size (.iface 264 (.pointer (some (p 4)))) (w5.setCell ⟨w.heap.size, 0, none⟩ (.iface 264 (.pointer (some (p 4))))).drew (.inr ⟨_, _, rfl⟩) hez).mono ?_
          rintro e u' wz ⟨rfl, rfl, kz, hz2⟩
          have cz : wz.cell? ⟨w.heap.size, 0, none⟩ = some (.iface 264 (.pointer (some (p 4)))) := cell_of_heap hz2 rfl
          have kAll : Keep (one' w.heap.size) w5 wz := kst.trans (Keep.trans (Keep.drew _ _) kz)
          have hgo : G3.off (one' w.heap.size) := fun b o hb (e : b = w.heap.size) => by subst e; rw [HGE.out] at hb; cases hb
          have hvo : ∀ b, isV A3 b → ¬ one' w.heap.size b := fun b hb (e : b = w.heap.size) => HVE.out (e ▸ hb)
          have k5 := keepB HX5.out.keep kAll (Nat.le_refl _)
          simp only [Leaves, settle]
          refine ⟨.tuple #[.nilIface, .map none, sen p 4], by simp [results, Tryd.results51, go_sem, cz, sen], ?_⟩
          exact ⟨_, _, _, G3, rfl, k5, HX5.out.g, HEI5.out.inv.holds.keep kAll hgo, ErrR.sen (j := 4) (by omega)⟩
        · have hr := HR.out; rw [if_neg hd] at hr; subst hr; clear HR
          have hdi : ¬ (120 : Int) < (kk : Int) := by omega
          have HX5 := Lib.hid X5; have HEI5 := Lib.hid ei5; have HE5 := Lib.hid he5; have HY5 := Lib.hid y5
          clear X5 ei5 he5 y5 hs5 hkk
          go_wp2_with fail
          (refine region_tail 7 (by kernel_rfl) (by kernel_rfl) ?_; simp only [List.take_succ_cons, List.take_zero, List.drop_succ_cons, List.drop_zero]; repeat still_step; try refine wpStill_nil ?_)
          go_wp2_with fail
          have hez : (w5.setCell ⟨w.heap.size, 0, none⟩ (.nilIface)).heap[w.heap.size]? = some (.cells #[.nilIface] 52) := heap_set_same (c := #[.nilIface]) HE5.out
          have kst : Keep (one' w.heap.size) w5 (w5.setCell ⟨w.heap.size, 0, none⟩ (.nilIface)) := Keep.setCell (S := one' w.heap.size) w5 (p := ⟨w.heap.size, 0, none⟩) _ (fun _ => rfl)
          refine leaves_cons (f := 73) (args := #[.pointer (some ⟨w.heap.size, 0, none⟩)]) (by simp) (by simp [go_sem]) ?_
          refine (rd2_ret w.heap.size (.nilIface) (w5.setCell ⟨w.heap.size, 0, none⟩ (.nilIface)).drew (.inl rfl) hez).mono ?_
          rintro e u' wz ⟨rfl, rfl, kz, hz2⟩
          have cz : wz.cell? ⟨w.heap.size, 0, none⟩ = some (.nilIface) := cell_of_heap hz2 rfl
          have kAll : Keep (one' w.heap.size) w5 wz := kst.trans (Keep.trans (Keep.drew _ _) kz)
          have hgo : G3.off (one' w.heap.size) := fun b o hb (e : b = w.heap.size) => by subst e; rw [HGE.out] at hb; cases hb
          have hvo : ∀ b, isV A3 b → ¬ one' w.heap.size b := fun b hb (e : b = w.heap.size) => HVE.out (e ▸ hb)
          have k5 := keepB HX5.out.keep kAll (Nat.le_refl _)
          simp only [Leaves, settle]
          refine ⟨.tuple #[.iface Tv (.pointer (some ⟨bv, 0, none⟩)), .map (some w1.heap.size), .nilIface], by simp [results, Tryd.results51, go_sem, cz], ?_⟩
          exact ⟨_, _, G3, A3, rfl, ⟨k5, HX5.out.g, HX5.out.a, fun v t r => (HX5.out.tr v t r).up HEI5.out.inv kAll hvo (GH.sub.refl _) (GV.sub.refl _)⟩, ⟨HEI5.out.inv.keep kAll hgo hvo, kAll.get HEI5.out.cnt (fun e => by have e' : cb = w.heap.size := e; omega), HEI5.out.cg, HEI5.out.cv⟩, HY5.out.up HEI5.out.inv kAll hvo (GH.sub.refl _) (GV.sub.refl _), HNM.out, fun hf N b nm e => kAll.get (HF5.out hf N b nm e) (hvo b ⟨_, _, e⟩)⟩
      · have hr := HR.out; rw [if_neg hf] at hr; subst hr; clear HR
        rw [want_no hf]
        rintro e w4 ⟨k4, rfl⟩
        have k4' := keepB X3.keep k4 (by omega)
        have he4 := k4.get he3 (by simp [one'])
        clear k4 he3 k3' X3
        go_wp2_with fail
        refine leaves_cons (f := 73) (args := #[.pointer (some ⟨w.heap.size, 0, none⟩)]) (by simp) (by simp [go_sem]) ?_
        refine (rd2_stop w.heap.size (hd l).pos .nilIface _ (.inl rfl) he4).mono ?_
        rintro e u' wz ⟨rfl, rfl, kz, hsz, hez⟩
        have cz : wz.cell? ⟨w.heap.size, 0, none⟩ = some (.iface 58 (.pointer (some ⟨(w4).heap.size + 1, 0, none⟩))) := cell_of_heap hez rfl
        simp only [Leaves, settle, List.dropWhile]
        exact ⟨_, by simp [results, Tryd.results51, go_sem, cz] <;> first | rfl | exact ⟨rfl, rfl⟩, tread_syn HOFF.out HI.out.inv.holds k4' kz (Nat.le_refl _) hsz⟩
end Go.Proofs.YtabikmkoajdhmaaDoor

/- infer.Canon and plain.Canon by contracts: what a text's type reads as, or what is wrong. -/
namespace Go.Proofs.YtabikmkoajdhmaaDoor
open Go.RowKit

def noA : GV := fun _ => none
theorem noA_isV (b : Nat) : ¬ isV noA b := fun ⟨_, _, e⟩ => by cases e
theorem readTy_size {s : Str} {n : Nat} {t : Ty} {st : TS} (h : readTy s n = some (.ok (t, st))) : t.size ≤ 120 := by
  unfold readTy at h
  split at h
  · cases h
  · split at h
    · cases h
    · cases h
    · split at h
      · cases h
      · injection h with h; injection h with h; injection h with h1 h2; subst h1; omega
theorem readTy_long {s : Str} {n : Nat} (h : s.length > 300) : readTy s n = some (.error { what := 1 }) := by unfold readTy; rw [if_pos h]
theorem kinds_lx {S : ByteArray} (h : S.size ≤ 140737488351232) : Lx kindsB 74 S := ⟨kinds_ok, kinds_good, h⟩
theorem tread_any (cb : Nat) (G : GH) (A : GV) (p : Nat → Addr) (S : ByteArray) (w : World) (n : Nat) (hi : EI cb G A w n) (hs : Sents p w) (hso : Sents.off p (touch cb A)) (hm : S.size ≤ 9223372036854775807) {r : Option (Except Flt (Ty × TS))} (hr : readTy (bytes S) n = r) (hne : r ≠ none) :
    Calls Tryd.prog 51 #[.string S, .pointer (some ⟨cb, 0, none⟩)] w (TReadPost cb G A p w r) := by
  by_cases hl : S.size ≤ 300
  · exact tread_short cb G A p S w n hi hs hso hl (kinds_lx (by omega)) r hr hne
  · have : r = some (.error { what := 1 }) := by rw [← hr]; exact readTy_long (by rw [bytes_length]; omega)
    subst this
    exact tread_long cb G A p S w hi.inv.holds hs (by omega) hm

theorem Sents.lt {p : Nat → Addr} {w : World} (h : Sents p w) : (∀ j, j < 8 → gno j < w.heap.size ∧ (p j).block < w.heap.size) ∧ 10 < w.heap.size := by
  refine ⟨fun j hj => ⟨lt_of_cell (h.glob j hj), ?_⟩, ?_⟩
  · obtain ⟨c, T, hc⟩ := h.blk j hj; exact lt_of_heap hc
  · obtain ⟨T, f, hT⟩ := h.et; exact lt_of_heap hT
/-- What lies behind w touches no sentinel. -/
theorem Sents.off_new {p : Nat → Addr} {w : World} (h : Sents p w) {S : Nat → Prop} (hS : ∀ b, S b → w.heap.size ≤ b) : Sents.off p S :=
  ⟨fun j hj => ⟨fun e => by have := (h.lt.1 j hj).1; have := hS _ e; omega, fun e => by have := (h.lt.1 j hj).2; have := hS _ e; omega⟩, fun e => by have := h.lt.2; have := hS _ e; omega⟩
theorem Keep.behind {S : Nat → Prop} {w a b : World} (k : Keep none' w a) (h : Keep S a b) (hS : ∀ i, S i → w.heap.size ≤ i) : Keep none' w b :=
  k.trans' h (fun _ _ x => x) (fun i hi e => by have := hS i e; omega)
theorem GrewV.behind {A A' : GV} {w a : World} {cb : Nat} (k : w.heap.size ≤ a.heap.size) (g : GrewV A a A') (h : ∀ i, touch cb A i → w.heap.size ≤ i) : ∀ i, touch cb A' i → w.heap.size ≤ i := fun i hi => by
  rcases hi with rfl | ⟨N, nm, e⟩
  · exact h _ (.inl rfl)
  · rcases g.new N i nm e with e | e
    · exact h _ (.inr ⟨N, nm, e⟩)
    · omega

def Ty.vars : Ty → List Nat
  | .var n => [n]
  | .int | .bool => []
  | .list a => a.vars
  | .pair a b | .fn a b => a.vars ++ b.vars
theorem Ty.vars_len : ∀ t : Ty, t.vars.length ≤ t.size
  | .var _ => by simp [Ty.vars, Ty.size]
  | .int => by simp [Ty.vars, Ty.size]
  | .bool => by simp [Ty.vars, Ty.size]
  | .list a => by have := a.vars_len; simp [Ty.vars, Ty.size]; omega
  | .pair a b => by have := a.vars_len; have := b.vars_len; simp [Ty.vars, Ty.size]; omega
  | .fn a b => by have := a.vars_len; have := b.vars_len; simp [Ty.vars, Ty.size]; omega
theorem Ty.has_mem {N : Nat} : ∀ {t : Ty}, t.has N = true → N ∈ t.vars
  | .var n, h => by simp [Ty.has] at h; simp [Ty.vars, h]
  | .int, h => by simp [Ty.has] at h
  | .bool, h => by simp [Ty.has] at h
  | .list a, h => Ty.has_mem (t := a) h
  | .pair a b, h => by
    simp only [Ty.has, Bool.or_eq_true] at h
    rcases h with h | h
    · exact List.mem_append.2 (.inl (Ty.has_mem h))
    · exact List.mem_append.2 (.inr (Ty.has_mem h))
  | .fn a b, h => by
    simp only [Ty.has, Bool.or_eq_true] at h
    rcases h with h | h
    · exact List.mem_append.2 (.inl (Ty.has_mem h))
    · exact List.mem_append.2 (.inr (Ty.has_mem h))

def ICanonPost (p : Nat → Addr) (w : World) (r : Option (Except Flt (Ty × TS))) (e : Ending) (w' : World) : Prop :=
  Keep none' w w' ∧ match r with
    | some (.ok (t, _)) => e = .returned (.tuple #[.string (bs (canonT t)), .nilIface])
    | some (.error f) => ∃ v G', e = .returned (.tuple #[.string (bs []), v]) ∧ Holds G' w' ∧ ErrR G' p v f
    | none => False
theorem EI.start (w : World) : EI w.heap.size noG noA (w.alloc (cntObj 0)) 0 :=
  ⟨⟨noG_holds _, fun N b nm e => by cases e⟩, heap_new _ _, rfl, noA_isV _⟩

set_option maxHeartbeats 1000000 in
theorem infer_canon (p : Nat → Addr) (S : ByteArray) (w : World) (hs : Sents p w) (hm : S.size ≤ 9223372036854775807) {r : Option (Except Flt (Ty × TS))} (hr : readTy (bytes S) 0 = r) (hne : r ≠ none) : Calls Tryd.prog 27 #[.string S] w (ICanonPost p w r) := by
  have ei := EI.start w
  have k0 : Keep none' w (w.alloc (cntObj 0)) := Keep.alloc _ _ _
  have hb0 : ∀ i, touch w.heap.size noA i → w.heap.size ≤ i := fun i hi => by
    rcases hi with rfl | hi
    · exact Nat.le_refl _
    · exact absurd hi (noA_isV i)
  have hc := tread_any w.heap.size noG noA p S (w.alloc (cntObj 0)) 0 ei (hs.keep0 k0) (hs.off_new hb0) hm hr hne
  have HC := Lib.hid hc; have HR := Lib.hid hr; have HB0 := Lib.hid hb0; have HK0 := Lib.hid k0; clear hc hr hs hb0 k0 ei
  unfold cntObj at HC
  go_enter Tryd.func27, Tryd.ntmps27
  go_wp2_with fail
  refine HC.out.mono ?_
  cases r with
  | none => exact absurd rfl hne
  | some rr =>
    cases rr with
    | ok ts =>
      obtain ⟨t, st⟩ := ts
      rintro e w1 ⟨v, m, G1, A1, rfl, x1, ei1, y1, _⟩
      obtain ⟨T, b, rfl⟩ := y1.iface
      have hsz := readTy_size HR.out
      have hb1 := GrewV.behind (by simp) x1.a HB0.out
      have HK1 : Hid (Keep none' w w1) := Lib.hid (HK0.out.behind x1.keep HB0.out)
      have HEI := Lib.hid ei1; have HY := Lib.hid y1; have HB1 := Lib.hid hb1
      clear ei1 y1 x1 hb1
      go_wp2_with fail
      refine (namer_fresh (n := st.n) t.vars HEI.out.inv).mono ?_
      rintro e w2 ⟨c, r, rfl, hR, k2, hc2, hr2⟩
      have HR2 := Lib.hid hR; have HK2 := Lib.hid (HK1.out.trans k2)
      have hi2 := HEI.out.inv.keep0 k2
      have y2 := HY.out.keep0 HEI.out.inv k2
      have hF : t.vars.length ≤ 2600 := by have := t.vars_len; omega
      have hsh := show_ok (namer_ok (n := st.n) (G := G1) (A := A1) (F := t.vars) (c := c) (r := r) hF) 120 (by omega) w2 _ t [] hi2 y2 hsz (fun N h => Ty.has_mem h) hR
      have HSH := Lib.hid hsh
      have hrw : w.heap.size ≤ r := by have := HK1.out.size; omega
      clear hR k2 hi2 y2 hsh hc2 hr2
      go_wp2_with fail
      refine HSH.out.mono ?_
      rintro e w3 ⟨rfl, _, s3⟩
      go_wp2_with fail
      refine bodyPost_ret (v := .tuple #[.string (bs (canonT t)), .nilIface]) (by simp [results, Tryd.results27, go_sem, canonT]) rfl ⟨?_, rfl⟩
      refine HK2.out.behind s3.keep (fun i hi => ?_)
      rcases hi with hi | hi
      · exact HB1.out i (.inr hi)
      · have e : i = r := hi
        omega
    | error f =>
      rintro e w1 ⟨u, u2, v, G1, rfl, k1, g1, hG1, hx⟩
      obtain ⟨T, b, rfl⟩ := hx.iface
      have HX := Lib.hid hx; have HG := Lib.hid hG1
      have HK1 : Hid (Keep none' w w1) := Lib.hid (HK0.out.behind k1 HB0.out)
      clear hx k1 hG1 g1
      go_wp2_with fail
      refine bodyPost_ret (v := .tuple #[.string (bs []), .iface T (.pointer (some b))]) (by simp [results, Tryd.results27, go_sem, bs]) rfl ⟨HK1.out, _, G1, rfl, HG.out, HX.out⟩

def canonOf : Except Flt (Ty × TS) → Str × Flt
  | .ok (t, _) => (canonT t, { what := 0 })
  | .error f => ([], f)

set_option maxRecDepth 100000 in
set_option maxHeartbeats 1000000 in
theorem plain_canon (p : Nat → Addr) (S : ByteArray) (w : World) (hs : Sents p w) (hm : S.size ≤ 9223372036854775807) {r : Except Flt (Ty × TS)} (hr : readTy (bytes S) 0 = some r) :
    Calls Tryd.prog 12 #[.string S] w (fun e w' => e = .returned (.tuple #[.string (bs (canonOf r).1), fltV (canonOf r).2]) ∧ Keep none' w w') := by
  have k0 : Keep none' w (w.alloc (.cells fz 28)) := Keep.alloc _ _ _
  have hc := infer_canon p S (w.alloc (.cells fz 28)) (hs.keep0 k0) hm hr (by simp)
  have HC := Lib.hid hc; have HS := Lib.hid hs; clear hc hr hs
  have x0 : (w.alloc (.cells fz 28)).heap[w.heap.size]? = some (.cells fz 28) := heap_new _ _
  have HX0 := Lib.hid x0; have HK0 := Lib.hid k0; clear x0 k0
  go_enter Tryd.func12, Tryd.ntmps12
  go_wp2_with fail
  refine HC.out.mono ?_
  cases r with
  | ok ts =>
    obtain ⟨x, st⟩ := ts
    rintro e w1 ⟨k1, rfl⟩
    have K1 := Lib.hid (HK0.out.trans k1)
    have HX1 := Lib.hid (k1.get HX0.out (fun x => x)); clear k1
    go_wp2_with fail
    refine (fault_nil _).mono ?_
    rintro e w2 ⟨rfl, k2⟩
    have x2 := k2.get HX1.out (fun x => x)
    have K2 := K1.out.trans k2
    obtain ⟨hz, f0⟩ := fz_cells x2
    have d0 := hz 0 _ rfl; have d1 := hz 1 _ rfl; have d2 := hz 2 _ rfl; have d3 := hz 3 _ rfl; have d4 := hz 4 _ rfl
    have KP := Lib.hid (fun u0 u1 u2 u3 u4 => keep5 K2 (Nat.le_refl _) u0 u1 u2 u3 u4)
    clear hz x2 K2 k2
    unfold faultV
    go_wp2_with fail
    refine bodyPost_ret (v := .tuple #[.string (bs (canonT x)), faultV 0 0 (bs []) 0 0]) (by simp [results, Tryd.results12, go_sem, d0, d1, d2, d3, d4, faultV, bs]) rfl ⟨rfl, KP.out _ _ _ _ _⟩
  | error f =>
    rintro e w1 ⟨k1, v, G1, rfl, hG1, hv⟩
    have K1 := Lib.hid (HK0.out.trans k1)
    have HX1 := Lib.hid (k1.get HX0.out (fun x => x)); clear k1
    have hft := fault_any hv w1 hG1 (HS.out.keep0 K1.out)
    obtain ⟨T, a, rfl⟩ := hv.iface
    have HFT := Lib.hid hft; clear hft hv
    go_wp2_with fail
    refine HFT.out.mono ?_
    rintro e w2 ⟨rfl, k2⟩
    have x2 := k2.get HX1.out (fun x => x)
    have K2 := K1.out.trans k2
    obtain ⟨hz, f0⟩ := fz_cells x2
    have d0 := hz 0 _ rfl; have d1 := hz 1 _ rfl; have d2 := hz 2 _ rfl; have d3 := hz 3 _ rfl; have d4 := hz 4 _ rfl
    have KP := Lib.hid (fun u0 u1 u2 u3 u4 => keep5 K2 (Nat.le_refl _) u0 u1 u2 u3 u4)
    clear hz x2 K2 k2
    unfold faultV
    go_wp2_with fail
    refine bodyPost_ret (v := .tuple #[.string (bs []), faultV f.what f.pos (bs f.s) f.inner f.innerAt]) (by simp [results, Tryd.results12, go_sem, d0, d1, d2, d3, d4, faultV]) rfl ⟨rfl, KP.out _ _ _ _ _⟩
end Go.Proofs.YtabikmkoajdhmaaDoor
