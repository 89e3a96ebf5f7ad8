/- infer.Watch without a watcher, by a contract. -/
import Derived.Test.YtabikmkoajdhmaaGreatDoorQ24
import Derived.Test.YtabikmkoajdhmaaGreatDoorQ28
import Derived.Test.YtabikmkoajdhmaaGreatDoorQ30
import Derived.Test.YtabikmkoajdhmaaGreatDoorQ29
import Derived.Test.YtabikmkoajdhmaaGreatDoorQ32
import Derived.Test.YtabikmkoajdhmaaGreatDoorQ36
set_option linter.unusedVariables false
set_option linter.unusedSimpArgs false
namespace Go.Proofs.YtabikmkoajdhmaaGreatDoor
open Go.RowKit

def lookS (nm : Str) : List (Str × Str) → Str
  | [] => []
  | (a, t) :: r => if nm = a then t else lookS nm r
def envS (m : List (Str × Str)) : List Str → Env → Nat → Option (Except Flt (Env × Nat))
  | [], en, n => some (.ok (en, n))
  | nm :: r, en, n => match schS nm (lookS nm m) n with
    | none => none
    | some (.error f) => some (.error f)
    | some (.ok (s, n')) => envS m r ((nm, s) :: en) n'
def kFuel : Nat := 1000
/-- The type's text of an expression, or what is wrong. -/
def watchS (src : Str) (m : List (Str × Str)) (fuel : Int) : Option (Except Flt Str) :=
  match readE src with
  | none => none
  | some (.error f) => some (.error f)
  | some (.ok x) =>
    if fuel < 1 ∨ 12 < fuel then some (.error { what := 6 })
    else match envS m (sortS (m.map (·.1))) [] 0 with
      | none => none
      | some (.error f) => some (.error f)
      | some (.ok (en, n)) => match unbK 40 (fun nm => (en.lookup nm).isSome) x with
        | some (p, s) => some (.error { what := 4, pos := p, s := s })
        | none => match ofS fuel.toNat 1000000 kFuel en x n [] with
          | none => none
          | some (.error (k, _)) => if k < 8 then some (.error { what := kno k }) else none
          | some (.ok (t, _, _, _)) => some (.ok (canonT t))

def WatchPost (p : Nat → Addr) (w : World) (r : Option (Except Flt Str)) (e : Ending) (w' : World) : Prop :=
  Keep none' w w' ∧ match r with
    | some (.ok s) => e = .returned (.tuple #[.string (bs s), .nilIface])
    | some (.error f) => ∃ v G', e = .returned (.tuple #[.string (bs []), v]) ∧ Holds G' w' ∧ ErrR G' p v f
    | none => False

theorem look_envS (nm : Str) : ∀ m : List (Str × Str), nm ∈ m.map (·.1) → @List.lookup Str Value instBEqOfDecidableEq nm (envV m) = some (typedV (lookS nm m))
  | [], h => by cases h
  | (a, t) :: r, h => by
    simp only [envV, List.map_cons, List.lookup_cons, lookS]
    by_cases e : nm = a
    · subst e; simp
    · rw [if_neg e]
      split
      · rename_i he; exact absurd (by simpa using he) e
      · refine look_envS nm r ?_
        rcases List.mem_cons.1 h with h | h
        · exact absurd h e
        · exact h
theorem lookS_len {nm : Str} {B : Nat} : ∀ m : List (Str × Str), (∀ q ∈ m, q.2.length ≤ B) → (lookS nm m).length ≤ B
  | [], _ => Nat.zero_le _
  | (a, t) :: r, h => by
    simp only [lookS]
    split
    · exact h (a, t) (by simp)
    · exact lookS_len r (fun q hq => h q (by simp [hq]))
/-- Watch's own boxes: its results, the names' scope. -/
def hW (tb cb : Nat) (eo : Option Addr) : GH := (((noG.put tb (.cells #[.string ⟨#[]⟩] 9)).put (tb + 1) (.cells #[.nilIface] 67)).put (cb + 1) (.cells #[.pointer eo] 177))
theorem field_typed (s : ByteArray) (w : World) : (Instr.field 76 (.agg #[.string s]) 0).run Tryz.prog w = .ok (.string s) w := by kernel_rfl
theorem hW_e (tb cb : Nat) (eo : Option Addr) (h : tb + 1 ≠ cb + 1) : hW tb cb eo (tb + 1) = some (.cells #[.nilIface] 67) := by
  unfold hW; rw [GH.put_other _ _ h]; exact GH.put_same _ _ _
theorem hW_t (tb cb : Nat) (eo : Option Addr) (h : tb ≠ cb + 1) : hW tb cb eo tb = some (.cells #[.string ⟨#[]⟩] 9) := by
  unfold hW; rw [GH.put_other _ _ h, GH.put_other _ _ (by omega)]; exact GH.put_same _ _ _
theorem ofS_size {fuel stop k : Nat} {env : Env} {x : Ex} {n : Nat} {l : List Told} {t : Ty} {d : Dl} {n' : Nat} {l' : List Told} (h : ofS fuel stop k env x n l = some (.ok (t, d, n', l'))) : t.size ≤ 120 := by
  cases k with
  | zero => simp [ofS] at h
  | succ k =>
    simp only [ofS] at h
    split at h
    · split at h
      · cases h
      · injection h with h; injection h with h; subst h; rename_i hs; simp only at hs; omega
    · rename_i hn; exact absurd h (hn _)
/-- The surroundings of the engine as Watch lays them, without a watcher. -/
def wSur (tb cb gB fuel : Nat) (p : Nat → Addr) : Sur := ⟨fun b => tb + 2 ≤ b, cb, gB, fuel, 1000000, .nilFunc, fun _ _ => True, p⟩
theorem wSur_ok {tb cb gB fuel : Nat} {p : Nat → Addr} {w : World} (h : Sents p w) (ht : tb = w.heap.size) : SurOk (wSur tb cb gB fuel p) :=
  ⟨fun _ _ _ _ _ _ _ _ _ => trivial, fun s k => s.keep k (h.off_new (fun b (hb : tb + 2 ≤ b) => by omega))⟩
theorem WatchPost.drew {p : Nat → Addr} {w w' : World} {r : Option (Except Flt Str)} {e : Ending} (h : WatchPost p w r e w') : WatchPost p w r e w'.drew := by
  obtain ⟨k, h⟩ := h
  refine ⟨k.trans (Keep.drew _ _), ?_⟩
  match r, h with
  | some (.ok s), h => exact h
  | some (.error f), ⟨v, G', a, b, c⟩ => exact ⟨v, G', a, b.keep0 (Keep.drew _ _), c⟩
theorem two_boxes {w : World} {tb eb : Nat} {ov : ByteArray} {oe v : Value} (t : w.heap[tb]? = some (.cells #[.string ov] 9)) (e : w.heap[eb]? = some (.cells #[oe] 67)) (hne : tb ≠ eb) :
    let W := (w.setCell ⟨tb, 0, none⟩ (.string ⟨#[]⟩)).setCell ⟨eb, 0, none⟩ v
    W.cell? ⟨tb, 0, none⟩ = some (.string ⟨#[]⟩) ∧ W.cell? ⟨eb, 0, none⟩ = some v ∧ Keep (fun i => i = tb ∨ i = eb) w W := by
  have k1 : Keep (one' tb) w (w.setCell ⟨tb, 0, none⟩ (.string ⟨#[]⟩)) := Keep.setCell w _ (fun _ => rfl)
  have k2 : Keep (one' eb) (w.setCell ⟨tb, 0, none⟩ (.string ⟨#[]⟩)) ((w.setCell ⟨tb, 0, none⟩ (.string ⟨#[]⟩)).setCell ⟨eb, 0, none⟩ v) := Keep.setCell _ _ (fun _ => rfl)
  have t1 : (w.setCell ⟨tb, 0, none⟩ (.string ⟨#[]⟩)).heap[tb]? = some (.cells #[.string ⟨#[]⟩] 9) := heap_set_same (c := #[.string ov]) t
  have e1 := k1.get e (fun (h : eb = tb) => hne h.symm)
  exact ⟨cell_of_heap (k2.get t1 (fun (h : tb = eb) => hne h)) rfl, cell_of_heap (heap_set_same (c := #[oe]) e1) rfl, (k1.mono (fun i _ (h : i = tb) => .inl h)).trans (k2.mono (fun i _ (h : i = eb) => .inr h))⟩

theorem werr {G1 : GH} {p : Nat → Addr} {w w1 : World} {tb : Nat} {ov : ByteArray} {oe v : Value} {f : Flt} (hK : Keep none' w w1) (h1 : Holds G1 w1) (t : w1.heap[tb]? = some (.cells #[.string ov] 9)) (e : w1.heap[tb + 1]? = some (.cells #[oe] 67)) (hw : w.heap.size ≤ tb) (hg : G1 tb = none) (hg' : G1 (tb + 1) = none) (er : ErrR G1 p v f) :
    let W := ((w1.setCell ⟨tb, 0, none⟩ (.string ⟨#[]⟩)).setCell ⟨tb + 1, 0, none⟩ v)
    W.cell? ⟨tb, 0, none⟩ = some (.string ⟨#[]⟩) ∧ W.cell? ⟨tb + 1, 0, none⟩ = some v ∧ WatchPost p w (some (.error f)) (.returned (.tuple #[.string ⟨#[]⟩, v])) W := by
  obtain ⟨c0, c1, kk⟩ := two_boxes (v := v) t e (by omega)
  refine ⟨c0, c1, hK.behind kk (fun i hi => by omega), v, G1, rfl, h1.keep kk (fun b o hb hi => ?_), er⟩
  rcases hi with rfl | rfl
  · rw [hg] at hb; cases hb
  · rw [hg'] at hb; cases hb
theorem wbox0 {W1 : World} {tb : Nat} {ov : ByteArray} {oe : Value} (t : W1.heap[tb]? = some (.cells #[.string ov] 9)) (e : W1.heap[tb + 1]? = some (.cells #[oe] 67)) :
    (W1.cell? ⟨tb + 1, 0, none⟩ = some oe ∧ W1.cell? ⟨tb, 0, none⟩ = some (.string ov)) ∧ (∀ i, W1.frozen? ⟨tb, i, none⟩ = false) ∧ (∀ i, W1.frozen? ⟨tb + 1, i, none⟩ = false) ∧
    (W1.setCell ⟨tb, 0, none⟩ (.string ⟨#[]⟩)).cell? ⟨tb + 1, 0, none⟩ = some oe ∧ (∀ i, (W1.setCell ⟨tb, 0, none⟩ (.string ⟨#[]⟩)).frozen? ⟨tb + 1, i, none⟩ = false) := by
  have k2 : Keep (one' tb) W1 (W1.setCell ⟨tb, 0, none⟩ (.string ⟨#[]⟩)) := Keep.setCell _ _ (fun _ => rfl)
  have e2 := k2.get e (fun (h : tb + 1 = tb) => by omega)
  exact ⟨⟨cell_of_heap e rfl, cell_of_heap t rfl⟩, fun i => free_of_heap t, fun i => free_of_heap e, cell_of_heap e2 rfl, fun i => free_of_heap e2⟩
theorem wboxS {W1 : World} {tb : Nat} {ov : ByteArray} {oe : Value} (s : ByteArray) (t : W1.heap[tb]? = some (.cells #[.string ov] 9)) (e : W1.heap[tb + 1]? = some (.cells #[oe] 67)) :
    ((W1.cell? ⟨tb + 1, 0, none⟩ = some oe ∧ W1.cell? ⟨tb, 0, none⟩ = some (.string ov)) ∧ (∀ i, W1.frozen? ⟨tb, i, none⟩ = false) ∧ (∀ i, W1.frozen? ⟨tb + 1, i, none⟩ = false) ∧
    (W1.setCell ⟨tb, 0, none⟩ (.string s)).cell? ⟨tb + 1, 0, none⟩ = some oe ∧ (∀ i, (W1.setCell ⟨tb, 0, none⟩ (.string s)).frozen? ⟨tb + 1, i, none⟩ = false)) ∧
    ((W1.setCell ⟨tb, 0, none⟩ (.string s)).setCell ⟨tb + 1, 0, none⟩ .nilIface).cell? ⟨tb, 0, none⟩ = some (.string s) ∧ ((W1.setCell ⟨tb, 0, none⟩ (.string s)).setCell ⟨tb + 1, 0, none⟩ .nilIface).cell? ⟨tb + 1, 0, none⟩ = some .nilIface ∧
    Keep (fun i => i = tb ∨ i = tb + 1) W1 ((W1.setCell ⟨tb, 0, none⟩ (.string s)).setCell ⟨tb + 1, 0, none⟩ .nilIface) := by
  have k2 : Keep (one' tb) W1 (W1.setCell ⟨tb, 0, none⟩ (.string s)) := Keep.setCell _ _ (fun _ => rfl)
  have e2 := k2.get e (fun (h : tb + 1 = tb) => by omega)
  have t2 : (W1.setCell ⟨tb, 0, none⟩ (.string s)).heap[tb]? = some (.cells #[.string s] 9) := heap_set_same (c := #[.string ov]) t
  have k3 : Keep (one' (tb + 1)) (W1.setCell ⟨tb, 0, none⟩ (.string s)) ((W1.setCell ⟨tb, 0, none⟩ (.string s)).setCell ⟨tb + 1, 0, none⟩ .nilIface) := Keep.setCell _ _ (fun _ => rfl)
  exact ⟨⟨⟨cell_of_heap e rfl, cell_of_heap t rfl⟩, fun i => free_of_heap t, fun i => free_of_heap e, cell_of_heap e2 rfl, fun i => free_of_heap e2⟩,
    cell_of_heap (k3.get t2 (fun (h : tb = tb + 1) => by omega)) rfl, cell_of_heap (heap_set_same (c := #[oe]) e2) rfl, (k2.mono (fun i _ (h : i = tb) => .inl h)).trans (k3.mono (fun i _ (h : i = tb + 1) => .inr h))⟩
/-- What the region reads and writes that lays the results. -/
theorem wbox {W1 : World} {tb : Nat} {ov : ByteArray} {oe : Value} (t : W1.heap[tb]? = some (.cells #[.string ov] 9)) (e : W1.heap[tb + 1]? = some (.cells #[oe] 67)) :
    (W1.drew.cell? ⟨tb + 1, 0, none⟩ = some oe ∧ W1.drew.cell? ⟨tb, 0, none⟩ = some (.string ov)) ∧ (∀ i, W1.drew.frozen? ⟨tb, i, none⟩ = false) ∧ (∀ i, W1.drew.frozen? ⟨tb + 1, i, none⟩ = false) ∧
    (W1.setCell ⟨tb, 0, none⟩ (.string ⟨#[]⟩)).drew.cell? ⟨tb + 1, 0, none⟩ = some oe ∧ (∀ i, (W1.setCell ⟨tb, 0, none⟩ (.string ⟨#[]⟩)).drew.frozen? ⟨tb + 1, i, none⟩ = false) := by
  have k2 : Keep (one' tb) W1 (W1.setCell ⟨tb, 0, none⟩ (.string ⟨#[]⟩)) := Keep.setCell _ _ (fun _ => rfl)
  have e2 := k2.get e (fun (h : tb + 1 = tb) => by omega)
  exact ⟨⟨cell_of_heap (w := W1) e rfl, cell_of_heap (w := W1) t rfl⟩, fun i => free_of_heap (w := W1) t, fun i => free_of_heap (w := W1) e, cell_of_heap (w := W1.setCell ⟨tb, 0, none⟩ (.string ⟨#[]⟩)) e2 rfl, fun i => free_of_heap (w := W1.setCell ⟨tb, 0, none⟩ (.string ⟨#[]⟩)) e2⟩

set_option maxRecDepth 100000 in
set_option maxHeartbeats 4000000 in
theorem watch_ok (G : GH) (p : Nat → Addr) (S : ByteArray) (w : World) (mb : Nat) (m : List (Str × Str)) (fuel : Int) (hG : Holds G w) (hs : Sents p w) (hm : S.size ≤ 9223372036854775807) {rr : Option (Except Flt Ex)} (hrr : ReadsOk (bytes S) rr) (hgm : G mb = some (kmap kStr (envV m))) (hnd : (m.map (·.1)).Nodup) (hml : m.length ≤ 1000) (hms : ∀ q ∈ m, q.1.length ≤ 1000000 ∧ q.2.length ≤ 1000000)
    (hf : -1000000 ≤ fuel ∧ fuel ≤ 1000000) {r : Option (Except Flt Str)} (hr : watchS (bytes S) m fuel = r) (hne : r ≠ none) :
    Calls Tryz.prog 46 #[.string S, .map (some mb), .int .i64 fuel, .nilFunc] w (WatchPost p w r) := by
  obtain ⟨w0, hw0⟩ : ∃ w0, w0 = (w.alloc (.cells #[.string ⟨#[]⟩] 9)).alloc (.cells #[.nilIface] 67) := ⟨_, rfl⟩
  obtain ⟨tb, htb⟩ : ∃ tb, tb = w.heap.size := ⟨_, rfl⟩
  have hz0 : Keep none' w w0 := by rw [hw0]; exact (Keep.alloc _ _ _).trans (Keep.alloc _ _ _)
  have hzs : w0.heap.size = tb + 2 := by rw [hw0, htb]; simp
  have ht0 : w0.heap[tb]? = some (.cells #[.string ⟨#[]⟩] 9) := by rw [hw0, htb]; exact heap_old (heap_new _ _)
  have he0 : w0.heap[tb + 1]? = some (.cells #[.nilIface] 67) := by
    have : tb + 1 = (w.alloc (.cells #[.string ⟨#[]⟩] 9)).heap.size := by rw [htb]; simp
    rw [hw0, this]; exact heap_new _ _
  have hrd := read_any G p S w0 (hG.keep0 hz0) (hs.keep0 hz0) hm hrr
  have HRD := Lib.hid hrd; have HG := Lib.hid hG; have HS := Lib.hid hs; have HRR := Lib.hid hrr; have HGM := Lib.hid hgm; have HND := Lib.hid hnd; have HMS := Lib.hid hms; have HR := Lib.hid hr; have HNE := Lib.hid hne; have HZ0 := Lib.hid hz0; have HML := Lib.hid hml; have HT0 := Lib.hid ht0; have HE0 := Lib.hid he0; have HW0 := Lib.hid hw0; have HTB := Lib.hid htb; have HZS := Lib.hid hzs
  clear hrd hG hs hrr hgm hnd hms hr hne hz0 hml ht0 he0 hw0 hzs htb
  go_enter_defers Tryz.func46, Tryz.ntmps46
  go_wp2_with fail
  rw [← HW0.out, ← HTB.out]
  refine HRD.out.mono ?_
  rintro e w1 ⟨k1, hr1⟩
  cases rr with
  | none => exact absurd rfl HRR.out.ne
  | some r1 =>
  cases r1 with
  | error f =>
    obtain ⟨u, v, G1, rfl, g1, h1, er1⟩ := hr1
    obtain ⟨Te, ae, rfl⟩ := er1.iface
    have t1 := k1.get HT0.out (fun x => x)
    have e1 := k1.get HE0.out (fun x => x)
    have hr := HR.out
    simp only [watchS, HRR.out.eq] at hr
    have tc := cell_of_heap (i := 0) t1 rfl
    have tf : ∀ i, w1.frozen? ⟨tb, i, none⟩ = false := fun i => free_of_heap t1
    have ec := cell_of_heap (i := 0) e1 rfl
    have ef : ∀ i, w1.frozen? ⟨tb + 1, i, none⟩ = false := fun i => free_of_heap e1
    have HX := Lib.hid er1; have HH := Lib.hid h1; have HK1 := Lib.hid k1; have HT1 := Lib.hid t1; have HE1 := Lib.hid e1; have HRR2 := Lib.hid hr
    clear k1 er1 h1 hr
    obtain ⟨W1, hW1⟩ : ∃ W1, W1 = w1.setCell ⟨tb + 1, 0, none⟩ (.iface Te (.pointer (some ae))) := ⟨_, rfl⟩
    have tE : W1.heap[tb + 1]? = some (.cells #[.iface Te (.pointer (some ae))] 67) := by rw [hW1]; exact heap_set_same (c := #[.nilIface]) e1
    have kE : Keep (one' (tb + 1)) w1 W1 := by rw [hW1]; exact Keep.setCell _ _ (fun _ => rfl)
    have tT := kE.get t1 (fun (h : tb = tb + 1) => by omega)
    have hg : ∀ b, tb ≤ b → b < tb + 2 → G1 b = none := fun b h2 h3 => by
      rw [g1.eq b (by have := HZS.out; omega)]; exact HG.out.fresh (by have := HTB.out; omega)
    obtain ⟨⟨S0, a0⟩, a1, b1, S2, b2⟩ := wbox tT tE
    have hfin := werr (w := w) (p := p) (f := f) ((HZ0.out.trans HK1.out).behind kE (fun i (h : i = tb + 1) => by have := HTB.out; omega)) (HH.out.keep kE (off_one (hg _ (by omega) (by omega)))) tT tE (by have := HTB.out; omega) (hg _ (by omega) (by omega)) (hg _ (by omega) (by omega)) HX.out
    have HFIN := Lib.hid hfin; have HW1 := Lib.hid hW1
    clear tE kE tT hW1 e1 t1 g1 hg hfin
    go_wp2_with fail
    rw [← HW1.out]
    go_region
    all_goals
      go_wp2_with fail
    obtain ⟨c0, c1, hp⟩ := HFIN.out
    refine ⟨.tuple #[.string ⟨#[]⟩, .iface Te (.pointer (some ae))], by simp [results, Tryz.results46, go_sem, show (((W1.setCell ⟨tb, 0, none⟩ (.string ⟨#[]⟩)).setCell ⟨tb + 1, 0, none⟩ (.iface Te (.pointer (some ae)))).drew).cell? _ = _ from c0, show (((W1.setCell ⟨tb, 0, none⟩ (.string ⟨#[]⟩)).setCell ⟨tb + 1, 0, none⟩ (.iface Te (.pointer (some ae)))).drew).cell? _ = _ from c1], ?_⟩
    rw [← HRR2.out]
    exact hp.drew
  | ok x =>
    obtain ⟨xv, G1, rfl, g1, h1, ex1⟩ := hr1
    obtain ⟨Tx, bx, rfl⟩ := ex1.shape
    have t1 := k1.get HT0.out (fun x => x)
    have e1 := k1.get HE0.out (fun x => x)
    have hr := HR.out
    simp only [watchS, HRR.out.eq] at hr
    have HDEP := Lib.hid (readE_depth HRR.out.eq)
    have hg : ∀ b, tb ≤ b → b < tb + 2 → G1 b = none := fun b h2 h3 => by
      rw [g1.eq b (by have := HZS.out; omega)]; exact HG.out.fresh (by have := HTB.out; omega)
    have hs1 := HS.out.keep0 (HZ0.out.trans k1)
    have hgm1 := g1.sub _ _ HGM.out
    have hk1 := HZ0.out.trans k1
    have hw1 : tb + 2 ≤ w1.heap.size := by have := k1.size; have := HZS.out; omega
    have ec := cell_of_heap (i := 0) e1 rfl
    have ef : ∀ i, w1.frozen? ⟨tb + 1, i, none⟩ = false := fun i => free_of_heap e1
    have HR2 := Lib.hid hr; have HG1 := Lib.hid h1; have HX := Lib.hid ex1; have HT1 := Lib.hid t1; have HE1 := Lib.hid e1; have HGB := Lib.hid hg; have HS1 := Lib.hid hs1; have HGM1 := Lib.hid hgm1; have HK1 := Lib.hid hk1; have HSZ := Lib.hid hw1
    have HS0 := Lib.hid HS.out
    clear hr h1 ex1 g1 t1 e1 hg hs1 hgm1 hk1 k1 hw1 HRD HG HS HGM HR HRR HT0 HE0 HW0
    by_cases hfu : fuel < 1 ∨ 12 < fuel
    · have hr := HR2.out
      rw [if_pos hfu] at hr
      have HR3 := Lib.hid hr; clear hr HR2
      obtain ⟨W1, hW1⟩ : ∃ W1, W1 = w1.setCell ⟨tb + 1, 0, none⟩ .nilIface := ⟨_, rfl⟩
      have tE : W1.heap[tb + 1]? = some (.cells #[.nilIface] 67) := by rw [hW1]; exact heap_set_same (c := #[.nilIface]) HE1.out
      have kE : Keep (one' (tb + 1)) w1 W1 := by rw [hW1]; exact Keep.setCell _ _ (fun _ => rfl)
      have tT := kE.get HT1.out (fun (h : tb = tb + 1) => by omega)
      have kw : Keep none' w W1 := HK1.out.behind kE (fun i (h : i = tb + 1) => by have := HTB.out; omega)
      have hS := HS0.out.keep0 kw
      obtain ⟨⟨S0, a0⟩, a1, b1, S2, b2⟩ := wbox tT tE
      have g2 := hS.glob 2 (by omega)
      have k2 : Keep (one' tb) W1 (W1.setCell ⟨tb, 0, none⟩ (.string ⟨#[]⟩)) := Keep.setCell _ _ (fun _ => rfl)
      have g3 := (HS0.out.keep0 (kw.behind k2 (fun i (h : i = tb) => by have := HTB.out; omega))).glob 2 (by omega)
      simp only [gno, sen] at g2 g3
      have G2 : W1.drew.cell? ⟨3, 0, none⟩ = some (.iface 364 (.pointer (some (p 2)))) := g2
      have G3 : (W1.setCell ⟨tb, 0, none⟩ (.string ⟨#[]⟩)).drew.cell? ⟨3, 0, none⟩ = some (.iface 364 (.pointer (some (p 2)))) := g3
      have hfin := werr (w := w) (p := p) (f := { what := 6 }) (v := sen p 2) kw (HG1.out.keep kE (off_one (HGB.out (tb + 1) (by omega) (by omega)))) tT tE (by have := HTB.out; omega) (HGB.out tb (by omega) (by omega)) (HGB.out (tb + 1) (by omega) (by omega)) (show ErrR G1 p (sen p 2) { what := 6 } from ErrR.sen (j := 2) (by omega))
      unfold sen at hfin
      have HFIN := Lib.hid hfin; have HW1 := Lib.hid hW1
      clear tE kE tT hW1 kw hS g2 g3 k2 hfin
      have hfs : fuel < 1 ∨ (¬ fuel < 1 ∧ 12 < fuel) := by omega
      clear hfu
      rcases hfs with hfa | ⟨hfa, hfb⟩
      all_goals
        go_wp2_with fail
        rw [← HW1.out]
        go_region
        all_goals
          go_wp2_with fail
        obtain ⟨c0, c1, hp⟩ := HFIN.out
        refine ⟨.tuple #[.string ⟨#[]⟩, sen p 2], by simp [results, Tryz.results46, go_sem, sen, show (((W1.setCell ⟨tb, 0, none⟩ (.string ⟨#[]⟩)).setCell ⟨tb + 1, 0, none⟩ (.iface 364 (.pointer (some (p 2))))).drew).cell? _ = _ from c0, show (((W1.setCell ⟨tb, 0, none⟩ (.string ⟨#[]⟩)).setCell ⟨tb + 1, 0, none⟩ (.iface 364 (.pointer (some (p 2))))).drew).cell? _ = _ from c1], ?_⟩
        rw [← HR3.out]
        exact hp.drew
    · have hr := HR2.out
      rw [if_neg hfu] at hr
      have HR3 := Lib.hid hr; clear hr HR2
      have hfa : ¬ fuel < 1 := fun h => hfu (.inl h)
      have hfb : ¬ 12 < fuel := fun h => hfu (.inr h)
      clear hfu
      have kE : Keep (one' (tb + 1)) w1 (w1.setCell ⟨tb + 1, 0, none⟩ .nilIface) := Keep.setCell _ _ (fun _ => rfl)
      have tE : (w1.setCell ⟨tb + 1, 0, none⟩ .nilIface).heap[tb + 1]? = some (.cells #[.nilIface] 67) := heap_set_same (c := #[.nilIface]) HE1.out
      have tT := kE.get HT1.out (fun (h : tb = tb + 1) => by omega)
      have kw := HK1.out.behind kE (fun i (h : i = tb + 1) => by have := HTB.out; omega)
      have hg1 := HG1.out.keep kE (off_one (HGB.out (tb + 1) (by omega) (by omega)))
      obtain ⟨cb, hcb⟩ : ∃ cb, cb = w1.heap.size := ⟨_, rfl⟩
      have hcz : (w1.setCell ⟨tb + 1, 0, none⟩ .nilIface).heap.size = cb := by rw [hcb]; exact World.size_setCell _ _ _
      have st0 := WSt.start kw hg1
      rw [hcz] at st0
      have htw := HTB.out
      have hsz := HSZ.out
      have st1 := (st0.put (heap_old tT) (HGB.out tb (by omega) (by omega)) (by omega) (fun h => by
        rcases h with h | h
        · omega
        · exact noA_isV _ h)).put (heap_old tE) (HGB.out (tb + 1) (by omega) (by omega)) (by omega) (fun h => by
        rcases h with h | h
        · omega
        · exact noA_isV _ h)
      obtain ⟨W2, hW2⟩ : ∃ W2, W2 = (((w1.setCell ⟨tb + 1, 0, none⟩ .nilIface).alloc (.cells #[.int .i64 0] 155))).alloc (.cells #[.pointer none] 177) := ⟨_, rfl⟩
      have hz2 : ((w1.setCell ⟨tb + 1, 0, none⟩ .nilIface).alloc (cntObj 0)).heap.size = cb + 1 := by rw [← hcz]; simp
      have k2 : Keep none' ((w1.setCell ⟨tb + 1, 0, none⟩ .nilIface).alloc (cntObj 0)) W2 := by rw [hW2]; exact Keep.alloc _ _ _
      have b2 : W2.heap[cb + 1]? = some (.cells #[.pointer none] 177) := by rw [hW2, ← hz2]; exact heap_new _ _
      have st2 := st1.new k2 b2 (by omega)
      have hm2 := st2.ei.inv.holds _ _ HGM1.out
      have HW2 := Lib.hid hW2; have HST := Lib.hid st2; have HCB := Lib.hid hcb
      have hsrt := sorted_call W2 hm2 (by rw [show (envV m).map (·.1) = m.map (·.1) by simp [envV, Function.comp_def]]; exact HND.out) (fun q hq => by
        obtain ⟨q', hq', rfl⟩ := List.mem_map.1 hq
        exact (HMS.out q' hq').1) (by have := HML.out; simp [envV]; omega)
      have HSRT := Lib.hid hsrt
      clear kE tE tT kw hg1 hcb hcz st0 htw hsz st1 hW2 hz2 k2 b2 st2 hm2 hsrt
      go_wp2_with fail
      rw [← HW2.out, ← HCB.out]
      refine (keys_call (some mb) W2).mono ?_
      rintro e w3 ⟨rfl, rfl⟩
      go_wp2_with fail
      refine HSRT.out.mono ?_
      rintro e w4 ⟨sv, rfl, hrow, k4⟩
      obtain ⟨NS, hNS⟩ : ∃ NS, NS = sortS (m.map (·.1)) := ⟨_, rfl⟩
      have hlen : (envV m).length = NS.length := by rw [hNS]; unfold sortS envV; simp
      have hmem : ∀ nm ∈ NS, nm ∈ m.map (·.1) := fun nm h => by rw [hNS] at h; exact List.mem_mergeSort.1 h
      have hml : NS.length ≤ 1000 := by rw [← hlen]; unfold envV; rw [List.length_map]; exact HML.out
      rw [hlen, show (envV m).map (·.1) = m.map (·.1) by simp [envV, Function.comp_def], ← hNS] at hrow
      have hr3 := HR3.out
      rw [← hNS] at hr3
      obtain ⟨G4, st4, sl4, g4⟩ := HST.out.rowG (xs := NS.map fun s => Value.string (bs s)) ((Keep.alloc none' W2 _).trans k4) (by rw [List.length_map]; exact hrow) (Nat.le_succ _)
      have st4 : WSt w cb (hW tb cb none) G4 G4 noA 0 w4 := st4
      obtain ⟨sa, sc, rfl, hsl⟩ := sl4.shape
      rw [List.length_map]
      have HR4 := Lib.hid hr3; have HST4 := Lib.hid st4; have HSL := Lib.hid hsl; have HMEM := Lib.hid hmem; have HLEN := Lib.hid hml; have HX4 := Lib.hid (HX.out.sub g4); have HGM4 := Lib.hid (g4 _ _ HGM1.out); have HNS := Lib.hid hNS
      clear hlen hmem hml hrow hr3 st4 sl4 g4 hsl hNS k4 HSRT HST HR3 HX HGM1
      go_wp2_with fail
      go_loopg [40] NS.length (fun gn s40 wr => ∃ (j n : Nat) (en : Env) (eo : Option Addr) (Gj : GH) (Aj : GV), j ≤ NS.length ∧ Hid (gn = NS.length - j) ∧ s40 = .int .i64 j ∧ Hid (WSt w cb (hW tb cb eo) G4 Gj Aj n wr) ∧ Hid (EnvR Gj Aj wr eo en) ∧ Hid (envS m (NS.drop j) en n = envS m NS [] 0))
      case atStart => exact ⟨0, 0, [], none, G4, noA, by omega, Lib.hid rfl, rfl, HST4, Lib.hid .nil, Lib.hid rfl⟩
      case round =>
        obtain ⟨j, n, en, eo, Gj, Aj, hj, HM, rfl, HSTJ, HENV, HEQ⟩ := hrel
        have hjj : (0 : Int) ≤ (j : Int) := by omega
        by_cases hlt : j < NS.length
        · have hji : ((j : Int) < (NS.length : Int)) := by omega
          obtain ⟨q, rfl, cj⟩ := HSL.out wr (HSTJ.out.ei.inv.holds.sub HSTJ.out.g) j (.string (bs NS[j])) (by simp [hlt])
          have lk := run_look_some (P := Tryz.prog) und_env key_str (k := NS[j]) ((HSTJ.out.ei.inv.holds.sub HSTJ.out.g) _ _ HGM4.out) (look_envS NS[j] m (HMEM.out _ (List.getElem_mem hlt))) false
          simp only [Bool.false_eq_true, if_false, kStr, typedV] at lk
          have ft := field_typed
          have hbs : ∀ x : Str, bytes (bs x) = x := fun x => by simp [bytes, bs]
          have hT : bytes (bs (lookS NS[j] m)) = lookS NS[j] m := hbs _
          have hnj : (NS[j]).length ≤ 1000000 := by
            obtain ⟨q', hq', he⟩ := List.mem_map.1 (HMEM.out _ (List.getElem_mem hlt))
            rw [← he]; exact (HMS.out q' hq').1
          have hlj : (lookS NS[j] m).length ≤ 1000000 := lookS_len m (fun q hq => (HMS.out q hq).2)
          obtain ⟨nm, hnm⟩ : ∃ nm, nm = NS[j] := ⟨_, rfl⟩
          obtain ⟨ty, hty⟩ : ∃ ty, ty = lookS NS[j] m := ⟨_, rfl⟩
          have heq := HEQ.out
          rw [List.drop_eq_getElem_cons hlt] at heq
          simp only [envS] at heq
          rw [← hty, ← hnm] at heq
          rw [← hty] at lk hT hlj
          rw [← hnm] at lk cj hnj
          have hHJ := HSTJ.out
          have hoff := HS0.out.off_new hHJ.hb
          have hSj := HS0.out.keep0 hHJ.k
          cases hsc : schS nm ty n with
          | none =>
            rw [hsc] at heq; simp only at heq
            have h4 := HR4.out
            rw [← heq] at h4
            exact absurd h4.symm HNE.out
          | some rs =>
            rw [hsc] at heq
            have hcall := scheme_ok cb Gj Aj p nm (bs ty) wr n hHJ.ei hSj hoff hnj (by rw [bs_size]; omega) (r := some rs) (by rw [hT]; exact hsc) (by simp)
            have HCALL := Lib.hid hcall; have HQ := Lib.hid heq; have HNM := Lib.hid hnm; have HTY := Lib.hid hty; have HOFF := Lib.hid hoff; have HSJ := Lib.hid hSj
            clear hcall heq hnm hty hHJ hoff hSj hsc hT hbs hnj hlj
            go_wp2_with fail
            refine HCALL.out.mono ?_
            cases rs with
            | error f =>
              rintro e w5 ⟨v, G5, rfl, k5, g5, h5, er5⟩
              obtain ⟨Te, ae, rfl⟩ := er5.iface
              have hne1 : tb ≠ cb + 1 := by have := HCB.out; have := HSZ.out; omega
              have hne2 : tb + 1 ≠ cb + 1 := by have := HCB.out; have := HSZ.out; omega
              have hHJ := HSTJ.out
              have ot := hHJ.off tb _ (hW_t tb cb eo hne1)
              have oe := hHJ.off (tb + 1) _ (hW_e tb cb eo hne2)
              have wt := hHJ.own _ _ (hW_t tb cb eo hne1)
              have we := hHJ.own _ _ (hW_e tb cb eo hne2)
              have kA : Keep none' w5 (w5.alloc (.cells #[.nilIface, .map none] 180)) := Keep.alloc _ _ _
              have t5 := kA.get (k5.get wt ot.2.1) (fun x => x)
              have e5 := kA.get (k5.get we oe.2.1) (fun x => x)
              obtain ⟨⟨S0, a0⟩, a1, b1, S2, b2⟩ := wbox0 t5 e5
              have hfin := werr (w := w) (p := p) (f := f) (v := .iface Te (.pointer (some ae))) ((hHJ.k.behind k5 hHJ.hb).trans kA) (h5.keep0 kA) t5 e5 (by have := HTB.out; omega) ((g5.eq _ (lt_of_heap wt)).trans ot.1) ((g5.eq _ (lt_of_heap we)).trans oe.1) er5
              have hq := HQ.out
              simp only at hq
              have hr4 := HR4.out
              rw [← hq] at hr4
              have HFIN := Lib.hid hfin; have HRF := Lib.hid hr4
              clear hne1 hne2 hHJ ot oe wt we kA t5 e5 k5 g5 h5 er5 hfin hq hr4
              go_wp2_with fail
              obtain ⟨c0, c1, hp⟩ := HFIN.out
              refine ⟨.tuple #[.string ⟨#[]⟩, .iface Te (.pointer (some ae))], by simp [results, Tryz.results46, go_sem, c0, c1], ?_⟩
              rw [← HRF.out]
              exact hp
            | ok sn =>
              obtain ⟨s, n'⟩ := sn
              rintro e w5 ⟨tv, mv, G5, A5, rfl, x5, ei5, y5, al5⟩
              obtain ⟨Tt, bt, rfl⟩ := y5.iface
              obtain ⟨mo, rfl⟩ := al5.map
              have st5 := HSTJ.out.ext x5 ei5
              have kA : Keep none' w5 (w5.alloc (.cells #[.iface Tt (.pointer (some ⟨bt, 0, none⟩)), .map mo] 180)) := Keep.alloc _ _ _
              have st6 := st5.keep0 kA
              have env6 : EnvR G5 A5 (w5.alloc (.cells #[.iface Tt (.pointer (some ⟨bt, 0, none⟩)), .map mo] 180)) eo en := by
                have h1 := HENV.out.ext x5
                rw [envApp_nil] at h1
                have h2 := h1.ext (st5.ei.keep0 kA).2
                rwa [envApp_nil] at h2
              have y6 := y5.keep0 st5.ei.inv kA
              have bx6 := cell_of_heap (i := 0) (st6.own _ _ (GH.put_same _ (cb + 1) (.cells #[.pointer eo] 177))) rfl
              have bf6 : ∀ i, (w5.alloc (.cells #[.iface Tt (.pointer (some ⟨bt, 0, none⟩)), .map mo] 180)).frozen? ⟨cb + 1, i, none⟩ = false := fun i => free_of_heap (st6.own _ _ (GH.put_same _ (cb + 1) (.cells #[.pointer eo] 177)))
              have s0 := cell_of_heap (i := 0) (heap_new w5 (.cells #[.iface Tt (.pointer (some ⟨bt, 0, none⟩)), .map mo] 180)) rfl
              have s1 := cell_of_heap (i := 1) (heap_new w5 (.cells #[.iface Tt (.pointer (some ⟨bt, 0, none⟩)), .map mo] 180)) rfl
              have HST6 := Lib.hid st6; have HENV6 := Lib.hid env6; have HY6 := Lib.hid y6; have HAL := Lib.hid al5
              clear st5 kA st6 env6 y6 al5 x5 ei5 y5
              go_wp2_with fail
              refine (with_ok eo (bs nm) Tt bt mo _).mono ?_
              rintro e w7 ⟨sb, rfl, hsb, k7, b7⟩
              have h6 := HST6.out
              have hfr : G5 sb = none := h6.ei.inv.holds.fresh hsb
              have hG7 : Holds (G5.put sb (.cells #[.pointer eo, .string (bs nm), .iface Tt (.pointer (some ⟨bt, 0, none⟩)), .map mo] 275)) w7 := (h6.ei.inv.holds.keep0 k7).put b7
              have gr7 : Grew G5 (w5.alloc (.cells #[.iface Tt (.pointer (some ⟨bt, 0, none⟩)), .map mo] 180)) (G5.put sb (.cells #[.pointer eo, .string (bs nm), .iface Tt (.pointer (some ⟨bt, 0, none⟩)), .map mo] 275)) := ⟨GH.sub_put hfr, fun b hb => GH.put_other _ _ (by omega)⟩
              have st7 := h6.grow k7 gr7 hG7
              have x7 := (h6.ei.up k7 gr7 ⟨hG7, fun N b nm e => by
                obtain ⟨a, b', c, is, d⟩ := h6.ei.inv.vars N b nm e
                exact ⟨a, b', (gr7.eq b (lt_of_heap d)).trans c, is, k7.get d (fun x => x)⟩⟩).2
              have env7 := HENV6.out.ext x7
              rw [envApp_nil] at env7
              have y7 := x7.tr _ _ HY6.out
              have k8 : Keep (one' (cb + 1)) w7 (w7.setCell ⟨cb + 1, 0, none⟩ (.pointer (some ⟨sb, 0, none⟩))) := Keep.setCell _ _ (fun _ => rfl)
              have o7 := st7.own _ _ (GH.put_same _ (cb + 1) (.cells #[.pointer eo] 177))
              have bx7 := cell_of_heap (i := 0) o7 rfl
              have bf7 : ∀ i, w7.frozen? ⟨cb + 1, i, none⟩ = false := fun i => free_of_heap o7
              have tr8 := (st7.keepOwn (GH.put_same _ (cb + 1) (.cells #[.pointer eo] 177)) k8).1
              have st8 := st7.set (GH.put_same _ (cb + 1) (.cells #[.pointer eo] 177)) k8 (heap_set_same (c := #[.pointer eo]) o7)
              unfold hW at st8
              rw [GH.put_put] at st8
              have st8 : WSt w cb (hW tb cb (some ⟨sb, 0, none⟩)) G4 _ A5 n' _ := st8
              have env8 := EnvR.map (d := []) (GH.sub.refl _) tr8 env7
              rw [envApp_nil] at env8
              have envF := EnvR.cons (nm := nm) (s := s) (GH.put_same G5 sb _) (tr8 _ _ y7) (HAL.out.sub gr7.sub) env8
              have heq := HQ.out
              have HSTF := Lib.hid st8; have HENVF := Lib.hid envF; have HQF := Lib.hid heq
              clear h6 hfr hG7 gr7 st7 x7 env7 y7 k8 o7 tr8 st8 env8 envF heq hsb k7 b7 bx6 bf6 s0 s1
              have hlb : NS.length ≤ 1000 := HLEN.out
              go_wp2_with fail
              go_roundg (NS.length - (j + 1))
              case measure => have := HM.out; omega
              case rel => exact ⟨j + 1, n', (nm, s) :: en, some ⟨sb, 0, none⟩, _, A5, by omega, Lib.hid rfl, by go_num, HSTF, HENVF, HQF⟩
        · have hje : j = NS.length := by omega
          subst hje
          have heq := HEQ.out
          rw [List.drop_length] at heq
          simp only [envS] at heq
          have hr4 := HR4.out
          rw [← heq] at hr4
          have HR5 := Lib.hid hr4
          clear hr4 heq
          have st := HSTJ.out
          have ob := st.off _ _ (GH.put_same _ (cb + 1) (.cells #[.pointer eo] 177))
          have hG6 := st.ei.inv.holds.put (st.own _ _ (GH.put_same _ (cb + 1) (.cells #[.pointer eo] 177)))
          have sub6 : Gj.sub (Gj.put (cb + 1) (.cells #[.pointer eo] 177)) := GH.sub_put ob.1
          have hub := unb_ok 40 (Gj.put (cb + 1) (.cells #[.pointer eo] 177)) wr _ _ x _ hG6 ((HX4.out.sub st.g).sub sub6) (scf_watch (GH.put_same _ _ _) (HENV.out.names.sub sub6)) HDEP.out
          have HUB := Lib.hid hub; have HSUB := Lib.hid sub6
          clear st ob hG6 hub sub6
          go_wp2_with fail
          refine HUB.out.mono ?_
          rintro e w5 ⟨G5, k5, g5, h5, h6⟩
          cases hu : unbK 40 (fun nm => (List.lookup nm en).isSome) x with
          | some q =>
            obtain ⟨pp, nn⟩ := q
            rw [hu] at h6
            obtain ⟨ub, rfl, hub⟩ := h6
            have hne1 : tb ≠ cb + 1 := by have := HCB.out; have := HSZ.out; omega
            have hne2 : tb + 1 ≠ cb + 1 := by have := HCB.out; have := HSZ.out; omega
            have hHJ := HSTJ.out
            have ot := hHJ.off tb _ (hW_t tb cb eo hne1)
            have oe := hHJ.off (tb + 1) _ (hW_e tb cb eo hne2)
            have wt := hHJ.own _ _ (hW_t tb cb eo hne1)
            have we := hHJ.own _ _ (hW_e tb cb eo hne2)
            have t5 := k5.get wt (fun x => x)
            have e5 := k5.get we (fun x => x)
            obtain ⟨⟨S0, a0⟩, a1, b1, S2, b2⟩ := wbox0 t5 e5
            have hfin := werr (w := w) (p := p) (f := { what := 4, pos := pp, s := nn }) (v := .iface 133 (.pointer (some ⟨ub, 0, none⟩))) (hHJ.k.trans k5) h5 t5 e5 (by have := HTB.out; omega) ((g5.eq _ (lt_of_heap wt)).trans ((GH.put_other _ _ hne1).trans ot.1)) ((g5.eq _ (lt_of_heap we)).trans ((GH.put_other _ _ hne2).trans oe.1)) (.unb hub)
            have hr4 := HR5.out
            rw [hu] at hr4
            have HFIN := Lib.hid hfin; have HRF := Lib.hid hr4
            clear hne1 hne2 hHJ ot oe wt we t5 e5 k5 g5 h5 hfin hr4 hu hub
            go_wp2_with fail
            obtain ⟨c0, c1, hp⟩ := HFIN.out
            refine ⟨.tuple #[.string ⟨#[]⟩, .iface 133 (.pointer (some ⟨ub, 0, none⟩))], by simp [results, Tryz.results46, go_sem, c0, c1], ?_⟩
            rw [← HRF.out]
            exact hp
          | none =>
            rw [hu] at h6
            have h6 : e = .returned .nilIface := h6
            subst h6
            have hne1 : tb ≠ cb + 1 := by have := HCB.out; have := HSZ.out; omega
            have hne2 : tb + 1 ≠ cb + 1 := by have := HCB.out; have := HSZ.out; omega
            have hfn : ((fuel.toNat : Nat) : Int) = fuel := Int.toNat_of_nonneg (by omega)
            have st5 := HSTJ.out.keep0 k5
            have env5 := HENV.out.ext (HSTJ.out.ei.keep0 k5).2
            rw [envApp_nil] at env5
            obtain ⟨W6, hW6⟩ : ∃ W6, W6 = w5.alloc (.cells #[.pointer (some ⟨cb, 0, none⟩), .int .i64 fuel, .nilFunc] 191) := ⟨_, rfl⟩
            have k6 : Keep none' w5 W6 := by rw [hW6]; exact Keep.alloc _ _ _
            have b6 : W6.heap[w5.heap.size]? = some (.cells #[.pointer (some ⟨cb, 0, none⟩), .int .i64 fuel, .nilFunc] 191) := by rw [hW6]; exact heap_new _ _
            have hfr : Gj w5.heap.size = none := st5.ei.inv.holds.fresh (Nat.le_refl _)
            have hG6 := (st5.ei.inv.holds.keep0 k6).put b6
            have gr6 : Grew Gj w5 (Gj.put w5.heap.size (.cells #[.pointer (some ⟨cb, 0, none⟩), .int .i64 fuel, .nilFunc] 191)) := ⟨GH.sub_put hfr, fun b hb => GH.put_other _ _ (by omega)⟩
            have st6 := st5.grow k6 gr6 hG6
            have x6 := (st5.ei.up k6 gr6 ⟨hG6, fun N b nm e => by
                obtain ⟨a, b', c, is, d⟩ := st5.ei.inv.vars N b nm e
                exact ⟨a, b', (gr6.eq b (lt_of_heap d)).trans c, is, k6.get d (fun x => x)⟩⟩).2
            have env6 := env5.ext x6
            rw [envApp_nil] at env6
            have ot := st6.off tb _ (hW_t tb cb eo hne1)
            have oe := st6.off (tb + 1) _ (hW_e tb cb eo hne2)
            have hin : EngIn (wSur tb cb w5.heap.size fuel.toNat p) (Gj.put w5.heap.size (.cells #[.pointer (some ⟨cb, 0, none⟩), .int .i64 fuel, .nilFunc] 191)) Aj W6 n [] en eo :=
              ⟨st6.ei, ⟨fun b hb => by
                have h1 := st6.hb b hb
                have h2 : b ≠ tb := fun e => ot.2.1 (e ▸ hb)
                have h3 : b ≠ tb + 1 := fun e => oe.2.1 (e ▸ hb)
                have := HTB.out
                show tb + 2 ≤ b
                omega, fun b hb => by
                have h1 := st6.k.size
                have h2 := lt_of_heap (st6.own _ _ (hW_e tb cb eo hne2))
                show tb + 2 ≤ b
                omega⟩, trivial, env6, by
                show GH.put _ _ _ w5.heap.size = some (.cells #[.pointer (some ⟨cb, 0, none⟩), .int .i64 ((fuel.toNat : Nat) : Int), .nilFunc] 191)
                rw [hfn]
                exact GH.put_same _ _ _, HS0.out.keep0 st6.k⟩
            have hr5 := HR5.out
            rw [hu] at hr5
            cases ho : ofS fuel.toNat 1000000 kFuel en x n [] with
            | none => rw [ho] at hr5; exact absurd hr5.symm HNE.out
            | some ro =>
              rw [ho] at hr5
              have hcall := (engine_okN (wSur tb cb w5.heap.size fuel.toNat p) (wSur_ok HS0.out HTB.out) (by show ¬ (1000000 : Nat) < 1000000; omega) kFuel).1 _ Aj W6 n [] en eo _ x (some ro) hin ((HX4.out.sub st5.g).sub gr6.sub) ho (by simp)
              have ob := cell_of_heap (w := W6) (i := 0) (st6.own _ _ (GH.put_same _ (cb + 1) (.cells #[.pointer eo] 177))) rfl
              have HCALL := Lib.hid hcall; have HST6 := Lib.hid st6; have HRF := Lib.hid hr5; have HW6 := Lib.hid hW6; have HO := Lib.hid ho
              rw [hW6] at ob
              clear ho hcall st6 hr5 hW6 hin ot oe env6 x6 gr6 hG6 hfr b6 k6 env5 st5 k5 g5 h5 hu
              go_wp2_with fail
              rw [← HW6.out]
              refine HCALL.out.mono ?_
              have HT6 := Lib.hid (HST6.out.own _ _ (hW_t tb cb eo hne1))
              have HE6 := Lib.hid (HST6.out.own _ _ (hW_e tb cb eo hne2))
              have HGT := Lib.hid (HST6.out.off _ _ (hW_t tb cb eo hne1)); have HGE := Lib.hid (HST6.out.off _ _ (hW_e tb cb eo hne2))
              cases ro with
              | error kq =>
                obtain ⟨kk, lq⟩ := kq
                have hr5 := HRF.out
                simp only at hr5
                by_cases hk8 : kk < 8
                · rw [if_pos hk8] at hr5
                  rintro e w7 ⟨rfl, k7, _⟩
                  have t7 := k7.get HT6.out (fun (h : tb + 2 ≤ tb) => by omega)
                  have e7 := k7.get HE6.out (fun (h : tb + 2 ≤ tb + 1) => by omega)
                  have hoff : ∀ b, (wSur tb cb w5.heap.size fuel.toNat p).P b → w.heap.size ≤ b := fun b (hb : tb + 2 ≤ b) => by have := HTB.out; omega
                  have HK7 := Lib.hid (HST6.out.k.behind k7 hoff); have HT7 := Lib.hid t7; have HE7 := Lib.hid e7; have HRE := Lib.hid hr5; have HK8 := Lib.hid hk8
                  clear hoff k7 t7 e7 hr5 hk8
                  go_wp2_with fail
                  refine leaves_cons (f := 85) (args := #[.pointer (some ⟨tb, 0, none⟩), .pointer (some ⟨tb + 1, 0, none⟩)]) (by simp) (by simp [go_sem]) ?_
                  refine (watch2_fail tb (tb + 1) 364 (p kk) ⟨#[]⟩ w7 HT7.out HE7.out (by omega)).mono ?_
                  rintro e u' w8 ⟨rfl, rfl, k8, ht8, he8⟩
                  have c0 := cell_of_heap (i := 0) ht8 rfl
                  have c1 := cell_of_heap (i := 0) he8 rfl
                  have kF := HK7.out.behind k8 (fun i hi => by have := HTB.out; omega)
                  simp only [Leaves, settle]
                  refine ⟨.tuple #[.string ⟨#[]⟩, sen p kk], by simp [results, Tryz.results46, go_sem, sen, c0, c1], ?_⟩
                  rw [← HRE.out]
                  exact ⟨kF, sen p kk, noG, rfl, noG_holds _, ErrR.sen HK8.out⟩
                · rw [if_neg hk8] at hr5; exact absurd hr5.symm HNE.out
              | ok q =>
                obtain ⟨t, d, n', lq⟩ := q
                rintro e w7 ⟨v7, G7, A7, rfl, x7, ei7, _, y7⟩
                obtain ⟨Tt, bt, rfl⟩ := y7.iface
                have hsz := ofS_size HO.out
                have hF : t.vars.length ≤ 2600 := by have := t.vars_len; omega
                have hoff : ∀ b, (wSur tb cb w5.heap.size fuel.toNat p).P b → w.heap.size ≤ b := fun b (hb : tb + 2 ≤ b) => by have := HTB.out; omega
                have t7 := x7.keep.get HT6.out (fun (h : tb + 2 ≤ tb) => by omega)
                have e7 := x7.keep.get HE6.out (fun (h : tb + 2 ≤ tb + 1) => by omega)
                have vt : ¬ isV A7 tb := x7.a.isV (lt_of_heap HT6.out) (fun h => HGT.out.2.1 (.inr h))
                have ve : ¬ isV A7 (tb + 1) := x7.a.isV (lt_of_heap HE6.out) (fun h => HGE.out.2.1 (.inr h))
                have hv7 : ∀ b, isV A7 b → w.heap.size ≤ b := fun b ⟨N, nm, e⟩ => by
                  rcases x7.a.new N b nm e with e | e
                  · exact HST6.out.hb b (.inr ⟨N, nm, e⟩)
                  · have := HST6.out.k.size; omega
                have HK7 := Lib.hid (HST6.out.k.behind x7.keep hoff)
                have HT7 := Lib.hid t7; have HE7 := Lib.hid e7; have HVT := Lib.hid vt; have HVE := Lib.hid ve; have HV7 := Lib.hid hv7; have HEI := Lib.hid ei7; have HY := Lib.hid y7; have HSZ2 := Lib.hid hsz
                clear hoff t7 e7 vt ve hv7 ei7 y7 x7
                go_wp2_with fail
                refine (namer_fresh (n := n') t.vars HEI.out.inv).mono ?_
                rintro e w8 ⟨c, rb, rfl, hR, k8, hc8, hr8⟩
                have hi8 := HEI.out.inv.keep0 k8
                have y8 := HY.out.keep0 HEI.out.inv k8
                have hsh := show_ok (namer_ok (n := n') (G := G7) (A := A7) (F := t.vars) (c := c) (r := rb) hF) 120 (by omega) w8 _ t [] hi8 y8 hsz (fun N h => Ty.has_mem h) hR
                have HSH := Lib.hid hsh; have HK8 := Lib.hid k8; have HR8 := Lib.hid hr8
                clear hR k8 hi8 y8 hsh hc8 hr8 hsz hF
                go_wp2_with fail
                refine HSH.out.mono ?_
                rintro e w9 ⟨rfl, _, s9⟩
                have hrb : tb + 1 < rb := by have := lt_of_heap HE7.out; have := HR8.out; omega
                have t9 := s9.keep.get (HK8.out.get HT7.out (fun x => x)) (fun h => by
                  rcases h with h | h
                  · exact HVT.out h
                  · have h : tb = rb := h
                    omega)
                have e9 := s9.keep.get (HK8.out.get HE7.out (fun x => x)) (fun h => by
                  rcases h with h | h
                  · exact HVE.out h
                  · have h : tb + 1 = rb := h
                    omega)
                have k9 : Keep none' w w9 := (HK7.out.trans HK8.out).behind s9.keep (fun i hi => by
                  rcases hi with hi | hi
                  · exact HV7.out i hi
                  · have h : i = rb := hi
                    have := HTB.out
                    omega)
                obtain ⟨⟨⟨S0, a0⟩, a1, b1, S2, b2⟩, hfin⟩ := wboxS (bs (showS namer t []).1) t9 e9
                have hr5 := HRF.out
                have HFIN := Lib.hid hfin; have HK9 := Lib.hid k9; have HRE := Lib.hid hr5
                clear t9 e9 k9 s9 hrb hfin hr5
                go_wp2_with fail
                refine leaves_cons (f := 85) (args := #[.pointer (some ⟨tb, 0, none⟩), .pointer (some ⟨tb + 1, 0, none⟩)]) (by simp) (by simp [go_sem]) ?_
                refine (watch2_ret tb (tb + 1) _).mono ?_
                rintro e u' wz ⟨rfl, rfl, rfl⟩
                obtain ⟨c0, c1, kk⟩ := HFIN.out
                simp only [Leaves, settle]
                refine ⟨.tuple #[.string (bs (showS namer t []).1), .nilIface], by simp [results, Tryz.results46, go_sem, c0, c1], ?_⟩
                rw [← HRE.out]
                exact ⟨HK9.out.behind kk (fun i hi => by have := HTB.out; omega), rfl⟩
end Go.Proofs.YtabikmkoajdhmaaGreatDoor

/- infer.Infer and plain.Infer by contracts: the type's text of an expression, or what is wrong. -/
namespace Go.Proofs.YtabikmkoajdhmaaGreatDoor
open Go.RowKit

theorem infer_ok (G : GH) (p : Nat → Addr) (S : ByteArray) (w : World) (mb : Nat) (m : List (Str × Str)) (fuel : Int) (hG : Holds G w) (hs : Sents p w) (hm : S.size ≤ 9223372036854775807) {rr : Option (Except Flt Ex)} (hrr : ReadsOk (bytes S) rr) (hgm : G mb = some (kmap kStr (envV m))) (hnd : (m.map (·.1)).Nodup) (hml : m.length ≤ 1000) (hms : ∀ q ∈ m, q.1.length ≤ 1000000 ∧ q.2.length ≤ 1000000)
    (hf : -1000000 ≤ fuel ∧ fuel ≤ 1000000) {r : Option (Except Flt Str)} (hr : watchS (bytes S) m fuel = r) (hne : r ≠ none) :
    Calls Tryz.prog 35 #[.string S, .map (some mb), .int .i64 fuel] w (WatchPost p w r) := by
  have hc := watch_ok G p S w mb m fuel hG hs hm hrr hgm hnd hml hms hf hr hne
  have HC := Lib.hid hc; clear hc hG hs hgm hr
  go_enter Tryz.func35, Tryz.ntmps35
  go_wp2_with fail
  refine HC.out.mono ?_
  rintro e w1 ⟨k1, h1⟩
  match r, h1 with
  | some (.ok s), h1 =>
    subst h1
    have HK := Lib.hid k1; clear k1
    go_wp2_with fail
    exact bodyPost_ret (v := .tuple #[.string (bs s), .nilIface]) (by simp [results, Tryz.results35, go_sem]) rfl ⟨HK.out, rfl⟩
  | some (.error f), h1 =>
    obtain ⟨v, G', rfl, hG', hx⟩ := h1
    obtain ⟨T, b, rfl⟩ := hx.iface
    have HK := Lib.hid k1; have HG := Lib.hid hG'; have HX := Lib.hid hx; clear k1 hG' hx
    clear h1
    go_wp2_with fail
    exact bodyPost_ret (v := .tuple #[.string (bs []), .iface T (.pointer (some b))]) (by simp [results, Tryz.results35, go_sem]) rfl ⟨HK.out, _, G', rfl, HG.out, HX.out⟩

def inferOf : Except Flt Str → Str × Flt
  | .ok s => (s, { what := 0 })
  | .error f => ([], f)

set_option maxRecDepth 100000 in
set_option maxHeartbeats 800000 in
theorem plain_infer (G : GH) (p : Nat → Addr) (S : ByteArray) (w : World) (nv tv : Value) (names types : List Str) (fuel : Int) (hG : Holds G w) (hs : Sents p w) (hm : S.size ≤ 9223372036854775807) {rr : Option (Except Flt Ex)} (hrr : ReadsOk (bytes S) rr) (hn : SlR G nv (names.map fun n => .string (bs n))) (ht : SlR G tv (types.map fun n => .string (bs n))) (hl : names.length = types.length) (hd : names.Nodup) (hb : names.length ≤ 1000)
    (hms : ∀ q ∈ names.zip types, q.1.length ≤ 1000000 ∧ q.2.length ≤ 1000000) (hf : -1000000 ≤ fuel ∧ fuel ≤ 1000000) {r : Except Flt Str} (hr : watchS (bytes S) (names.zip types) fuel = some r) :
    Calls Tryz.prog 16 #[.string S, nv, tv, .int .i64 fuel] w (fun e w' => (∃ c, e = .returned (.tuple #[.string (bs (inferOf r).1), fltV (inferOf r).2, .bool c])) ∧ Keep none' w w') := by
  have k0 : Keep none' w (w.alloc (.cells fz 28)) := Keep.alloc _ _ _
  have henv := fun (W : World) (hW : Holds G W) => env_ok hW hn ht hl hd (by omega)
  have x0 : (w.alloc (.cells fz 28)).heap[w.heap.size]? = some (.cells fz 28) := heap_new _ _
  obtain ⟨an, cn, rfl, hcn⟩ := hn.shp
  obtain ⟨at', ct, rfl, hct⟩ := ht.shp
  simp only [List.length_map] at henv ⊢
  obtain ⟨w0, hw0⟩ : ∃ w0, w0 = w.alloc (.cells fz 28) := ⟨_, rfl⟩
  obtain ⟨fb, hfb⟩ : ∃ fb, fb = w.heap.size := ⟨_, rfl⟩
  have hz0 : w0.heap.size = fb + 1 := by rw [hw0, hfb]; simp
  rw [← hw0] at k0 x0
  rw [← hfb] at x0
  have HENV := Lib.hid henv; have HG := Lib.hid hG; have HS := Lib.hid hs; have HX0 := Lib.hid x0; have HK0 := Lib.hid k0; have HZ0 := Lib.hid hz0; have HR := Lib.hid hr; have HMS := Lib.hid hms; have HD := Lib.hid hd; have HRR := Lib.hid hrr; have HL := Lib.hid hl; have HW0 := Lib.hid hw0; have HFB := Lib.hid hfb
  clear henv hG hs x0 k0 hz0 hr hn ht hms hd hrr hl hcn hct hw0 hfb
  unfold fz at HW0
  go_enter Tryz.func16, Tryz.ntmps16
  go_wp2_with fail
  rw [← HW0.out, ← HFB.out]
  refine (HENV.out w0 (HG.out.keep0 HK0.out)).mono ?_
  rintro e w1 ⟨rfl, k1, b1⟩
  have hmz : (names.zip types).map (·.1) = names := by rw [List.map_fst_zip]; exact Nat.le_of_eq HL.out
  have hfr : G w0.heap.size = none := HG.out.fresh HK0.out.size
  have hG1 := ((HG.out.keep0 (HK0.out.trans k1)).put b1)
  have hcall := infer_ok (G.put w0.heap.size (kmap kStr (envV (names.zip types)))) p S w1 w0.heap.size (names.zip types) fuel hG1 (HS.out.keep0 (HK0.out.trans k1)) hm HRR.out (GH.put_same _ _ _) (by rw [hmz]; exact HD.out) (by simp; omega) HMS.out hf HR.out (by simp)
  have HCALL := Lib.hid hcall; have HK1 := Lib.hid k1; have HB1 := Lib.hid b1; have HMZ := Lib.hid hmz
  clear hcall k1 b1 hmz hfr hG1
  go_wp2_with fail
  refine HCALL.out.mono ?_
  rintro e w2 ⟨k2, hr2⟩
  have hT : ∃ (st : Str) (f : Flt) (ev : Value), inferOf r = (st, f) ∧ e = .returned (.tuple #[.string (bs st), ev]) ∧ (ev = .nilIface ∨ ∃ T b, ev = .iface T (.pointer (some b))) ∧ Calls Tryz.prog 32 #[ev] w2 (fun e w' => e = .returned (faultV f.what f.pos (bs f.s) f.inner f.innerAt) ∧ Keep none' w2 w') := by
    match r, hr2 with
    | .ok st, hr2 => exact ⟨st, _, _, rfl, hr2, .inl rfl, fault_nil w2⟩
    | .error f, ⟨v, G', he, hG', hx⟩ =>
      obtain ⟨T, b, hv⟩ := hx.iface
      exact ⟨[], f, v, rfl, he, .inr ⟨T, b, hv⟩, fault_any hx w2 hG' (HS.out.keep0 ((HK0.out.trans HK1.out).trans k2))⟩
  obtain ⟨st, f, ev, hof, rfl, hsh, hft⟩ := hT
  have HFT := Lib.hid hft; have HK2 := Lib.hid k2; have HOF := Lib.hid hof
  clear hft k2 hof hr2
  rcases hsh with rfl | ⟨T, b, rfl⟩
  all_goals
    go_wp2_with fail
    refine HFT.out.mono ?_
    rintro e w3 ⟨rfl, k3⟩
    have K3 := ((HK0.out.trans HK1.out).trans HK2.out).trans k3
    have HK3 := Lib.hid K3
    have HM3 := Lib.hid (k3.get (HK2.out.get HB1.out (fun x => x)) (fun x => x))
    have HX3 := Lib.hid (k3.get (HK2.out.get (HK1.out.get HX0.out (fun x => x)) (fun x => x)) (fun x => x))
    have henv := HENV.out w3 (HG.out.keep0 K3)
    have HENV3 := Lib.hid henv
    clear k3 K3 henv
    unfold faultV
    go_wp2_with fail
    refine HENV3.out.mono ?_
    rintro e w4 ⟨rfl, k4, b4⟩
    have heq := equal_any (k4.get HM3.out (fun x => x)) b4 (by simp; omega) (by simp; omega)
    have HEQ := Lib.hid heq; have HK4 := Lib.hid (HK3.out.trans k4); have HX4 := Lib.hid (k4.get HX3.out (fun x => x))
    clear heq k4 b4
    go_wp2_with fail
    refine HEQ.out.mono ?_
    rintro e w5 ⟨⟨c, rfl⟩, k5⟩
    have x5 := k5.get HX4.out (fun x => x)
    have K5 := HK4.out.trans k5
    obtain ⟨hz, f0⟩ := fz_cells x5
    have d0 := hz 0 _ rfl; have d1 := hz 1 _ rfl; have d2 := hz 2 _ rfl; have d3 := hz 3 _ rfl; have d4 := hz 4 _ rfl
    have KP := Lib.hid (fun u0 u1 u2 u3 u4 => keep5 (x := fb) K5 (by have := HFB.out; omega) u0 u1 u2 u3 u4)
    clear hz x5 K5 k5
    go_wp2_with fail
    refine bodyPost_ret (v := .tuple #[.string (bs st), faultV f.what f.pos (bs f.s) f.inner f.innerAt, .bool (!c)]) (by simp [results, Tryz.results16, go_sem, d0, d1, d2, d3, d4, faultV]) rfl ⟨⟨_, by rw [HOF.out]; rfl⟩, KP.out _ _ _ _ _⟩
end Go.Proofs.YtabikmkoajdhmaaGreatDoor
