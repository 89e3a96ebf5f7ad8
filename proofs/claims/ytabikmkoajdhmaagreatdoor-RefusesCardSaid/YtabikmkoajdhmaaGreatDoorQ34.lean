/- Schemes in memory; rec's closure bind by a contract. -/
import Derived.Test.YtabikmkoajdhmaaGreatDoorQ33
set_option linter.unusedVariables false
set_option linter.unusedSimpArgs false
namespace Go.Proofs.YtabikmkoajdhmaaGreatDoor
open Go.RowKit

/-- A slice of schemes, each at its place. -/
structure SchAt (G : GH) (A : GV) (w : World) (arr : Array Value) (k : Nat) (s : Sch) : Prop where
  ex : ∃ tv mv, arr[k * 2]? = some tv ∧ arr[k * 2 + 1]? = some mv ∧ TR G A w tv s.t ∧ AllG G mv s.all
def SchSl (G : GH) (A : GV) (w : World) (sv : Value) (ss : List Sch) : Prop :=
  ∃ blk arr, sv = .slice (some ⟨blk, 0, none⟩) ss.length ss.length ∧ G blk = some (.cells arr 180) ∧ ∀ k (h : k < ss.length), SchAt G A w arr k ss[k]
theorem SchAt.map {G G' : GH} {A A' : GV} {w w' : World} {d : Dl} {arr : Array Value} {k : Nat} {s : Sch} (hG : G.sub G') (h : ∀ v t, TR G A w v t → TR G' A' w' v (app d t)) (r : SchAt G A w arr k s) : SchAt G' A' w' arr k (s.app d) := by
  obtain ⟨tv, mv, a, b, c, e⟩ := r.ex
  exact ⟨tv, mv, a, b, h _ _ c, e.sub hG⟩
theorem SchSl.map {G G' : GH} {A A' : GV} {w w' : World} {d : Dl} {sv : Value} {ss : List Sch} (hG : G.sub G') (h : ∀ v t, TR G A w v t → TR G' A' w' v (app d t)) (r : SchSl G A w sv ss) : SchSl G' A' w' sv (ss.map (Sch.app d)) := by
  obtain ⟨blk, arr, rfl, hb, hk⟩ := r
  refine ⟨blk, arr, by simp, hG _ _ hb, fun k hk' => ?_⟩
  rw [List.getElem_map]
  exact (hk k (by simpa using hk')).map hG h
theorem SchSl.same {G G' : GH} {A A' : GV} {w w' : World} {sv : Value} {ss : List Sch} (hG : G.sub G') (h : ∀ v t, TR G A w v t → TR G' A' w' v t) (r : SchSl G A w sv ss) : SchSl G' A' w' sv ss := by
  obtain ⟨blk, arr, rfl, hb, hk⟩ := r
  refine ⟨blk, arr, rfl, hG _ _ hb, fun k hk' => ?_⟩
  obtain ⟨tv, mv, a, b, c, e⟩ := (hk k hk').ex
  exact ⟨tv, mv, a, b, h _ _ c, e.sub hG⟩
theorem bindS_drop : ∀ (names : List Str) (ss : List Sch) (e : Env) (k : Nat) (h : k < names.length) (h' : k < ss.length), bindS (names.drop k) (ss.drop k) e = bindS (names.drop (k + 1)) (ss.drop (k + 1)) ((names[k], ss[k]) :: e) := by
  intro names ss e k h h'
  rw [List.drop_eq_getElem_cons h, List.drop_eq_getElem_cons h']
  rfl

def BindPost (G : GH) (A : GV) (n : Nat) (w : World) (env : Env) (e : Ending) (w' : World) : Prop :=
  ∃ e' G', e = .returned (.pointer e') ∧ Keep none' w w' ∧ Grew G w G' ∧ TInv G' A w' n ∧ EnvR G' A w' e' env

set_option maxRecDepth 100000 in
set_option maxHeartbeats 4000000 in
theorem bind_ok {G : GH} {A : GV} {n : Nat} {w : World} {eb yb sb b : Nat} {pos : Int} {nv lv ev sv : Value} {e : Option Addr} {names : List Str} {ss : List Sch} {env : Env} (hi : TInv G A w n) (he : G eb = some (.cells #[.pointer e] 177)) (hy : G yb = some (.cells #[.pointer (some ⟨b, 0, none⟩)] 230))
    (hb : G b = some (.cells #[.int .i64 pos, nv, lv, ev] 233)) (hn : SlR G nv (names.map fun n => .string (bs n))) (hs : w.heap[sb]? = some (.cells #[sv] 340)) (hsl : SchSl G A w sv ss) (henv : EnvR G A w e env) (hlen : names.length = ss.length) (hbig : names.length ≤ 1000000000) :
    Calls Tryz.prog 186 #[.pointer (some ⟨eb, 0, none⟩), .pointer (some ⟨yb, 0, none⟩), .pointer (some ⟨sb, 0, none⟩)] w (BindPost G A n w (bindS names ss env)) := by
  obtain ⟨a, cap, rfl, hc⟩ := hn.shp
  have c0 : w.cell? ⟨eb, 0, none⟩ = some (.pointer e) := cell_of_heap (hi.holds _ _ he) rfl
  have c1 : w.cell? ⟨yb, 0, none⟩ = some (.pointer (some ⟨b, 0, none⟩)) := cell_of_heap (hi.holds _ _ hy) rfl
  have c2 : w.cell? ⟨b, 1, none⟩ = some (.slice a (names.map fun n => Value.string (bs n)).length cap) := cell_of_heap (hi.holds _ _ hb) rfl
  have HC := Lib.hid hc; have HI := Lib.hid hi; have HS := Lib.hid hs; have HSL := Lib.hid hsl; have HENV := Lib.hid henv; have HLEN := Lib.hid hlen
  clear hc hi hs hsl henv hlen he hy hb hn
  simp only [List.length_map] at c2
  go_enter Tryz.func186, Tryz.ntmps186
  go_wp2_with fail
  go_loopg [4, 13] names.length (fun gn s4 s13 wr => ∃ (j : Nat) (ej : Option Addr) (envj : Env) (Gj : GH), j ≤ names.length ∧ Hid (gn = names.length - j) ∧ s13 = .int .i64 j ∧ s4 = .pointer ej ∧ Hid (Keep none' w wr) ∧ Hid (Grew G w Gj) ∧ Hid (TInv Gj A wr n) ∧ Hid (EnvR Gj A wr ej envj) ∧ Hid (bindS (names.drop j) (ss.drop j) envj = bindS names ss env))
  case atStart => exact ⟨0, e, env, G, by omega, Lib.hid rfl, rfl, rfl, Lib.hid (Keep.refl _ _), Lib.hid (Grew.refl _ _), HI, HENV, Lib.hid rfl⟩
  case round =>
    obtain ⟨j, ej, envj, Gj, hj, HM, rfl, rfl, HK, HG, HIJ, HEJ, HBJ⟩ := hrel
    have hjj : (0 : Int) ≤ (j : Int) := by omega
    by_cases hlt : j < names.length
    · have hlts : j < ss.length := by have := HLEN.out; omega
      obtain ⟨q, rfl, cj⟩ := HC.out wr (HIJ.out.holds.sub HG.out.sub) j (.string (bs names[j])) (by simp [hlt])
      obtain ⟨blk, arr, rfl, hblk, hat⟩ := HSL.out
      obtain ⟨tv, mv, ha1, ha2, ht, hm⟩ := (hat j hlts).ex
      have d0 : wr.cell? ⟨sb, 0, none⟩ = some (.slice (some ⟨blk, 0, none⟩) ss.length ss.length) := cell_of_heap (HK.out.get HS.out (fun x => x)) rfl
      have d1 : wr.cell? ⟨blk, j * 2, none⟩ = some tv := cell_of_heap (HIJ.out.holds _ _ (HG.out.sub _ _ hblk)) ha1
      have d2 : wr.cell? ⟨blk, j * 2 + 1, none⟩ = some mv := cell_of_heap (HIJ.out.holds _ _ (HG.out.sub _ _ hblk)) ha2
      obtain ⟨Tt, tb, rfl⟩ := ht.iface
      obtain ⟨mo, rfl⟩ := hm.map
      have htj : TR Gj A wr (.iface Tt (.pointer (some ⟨tb, 0, none⟩))) ss[j].t := (ht.keep0 HI.out HK.out).mono HG.out.sub (GV.sub.refl _) (fun _ _ _ _ => rfl)
      have hmj := hm.sub HG.out.sub
      have HTJ := Lib.hid htj; have HMJ := Lib.hid hmj
      clear hblk hat ha1 ha2 ht hm htj hmj HSL
      have hji : ((j : Int) < (names.length : Int)) := by omega
      have hjs : ((j : Int) < (ss.length : Int)) := by omega
      go_wp2_with fail
      refine (with_ok _ _ _ _ _ _).mono ?_
      rintro e3 w3 ⟨nb, rfl, hsb, k3, hb3⟩
      have hfr : Gj nb = none := HIJ.out.holds.fresh hsb
      have hv3 : ¬ isV A nb := fun h => by have := HIJ.out.old h; omega
      have g3 : Grew Gj wr (Gj.put nb (.cells #[.pointer ej, .string (bs names[j]), .iface Tt (.pointer (some ⟨tb, 0, none⟩)), .map mo] 275)) := ⟨GH.sub_put hfr, fun i hi => GH.put_other _ _ (by omega)⟩
      have i3 := (HIJ.out.keep0 k3).put hb3 hv3
      have en3 : EnvR (Gj.put nb (.cells #[.pointer ej, .string (bs names[j]), .iface Tt (.pointer (some ⟨tb, 0, none⟩)), .map mo] 275)) A w3 (some ⟨nb, 0, none⟩) ((names[j], ss[j]) :: envj) := by
        have hm : ∀ v t, TR Gj A wr v t → TR (Gj.put nb (.cells #[.pointer ej, .string (bs names[j]), .iface Tt (.pointer (some ⟨tb, 0, none⟩)), .map mo] 275)) A w3 v t := fun v t r => (r.keep0 HIJ.out k3).mono g3.sub (GV.sub.refl _) (fun _ _ _ _ => rfl)
        refine .cons (GH.put_same _ _ _) (hm _ _ HTJ.out) (HMJ.out.sub g3.sub) ?_
        have := HEJ.out.map g3.sub (d := []) hm
        rwa [envApp_nil] at this
      have HI3 := Lib.hid i3; have HE3 := Lib.hid en3; have HK3 := Lib.hid (HK.out.trans k3); have HG3 := Lib.hid (HG.out.trans HK.out g3)
      clear i3 en3 k3 hb3 g3 hv3 hfr
      go_wp2_with fail
      go_roundg (names.length - (j + 1))
      case measure => have := HM.out; omega
      case rel => exact ⟨j + 1, _, _, _, by omega, Lib.hid rfl, by go_num, rfl, HK3, HG3, HI3, HE3, Lib.hid (by rw [← HBJ.out, bindS_drop names ss envj j hlt hlts])⟩
    · have hje : j = names.length := by omega
      subst hje
      have hb := HBJ.out
      rw [List.drop_of_length_le (Nat.le_refl _), List.drop_of_length_le (by have := HLEN.out; omega)] at hb
      have HB := Lib.hid hb; clear hb
      go_wp2_with fail
      go_ret
      rw [← HB.out]
      exact ⟨_, Gj, rfl, HK.out, HG.out, HIJ.out, HEJ.out⟩
end Go.Proofs.YtabikmkoajdhmaaGreatDoor

/- alike: two schemes compared but for the names of what stands for any type: plain laws. -/
namespace Go.Proofs.YtabikmkoajdhmaaGreatDoor
open Go.RowKit

/-- The two ways' maps as entries. -/
def toE (m : List (Nat × Nat)) : List (Int × Value) := m.map fun p => ((p.1 : Int), .int .i64 (p.2 : Int))
def fromE (m : List (Nat × Nat)) : List (Int × Value) := m.map fun p => ((p.2 : Int), .int .i64 (p.1 : Int))
/-- What a map gives: 0 if there is no entry. -/
def lt0 : List (Nat × Nat) → Nat → Nat
  | [], _ => 0
  | p :: r, v => if p.1 = v then p.2 else lt0 r v
def rt0 : List (Nat × Nat) → Nat → Nat
  | [], _ => 0
  | p :: r, u => if p.2 = u then p.1 else rt0 r u
structure TwoWay (m : List (Nat × Nat)) : Prop where
  l : ∀ p ∈ m, ∀ q ∈ m, p.1 = q.1 → p = q
  r : ∀ p ∈ m, ∀ q ∈ m, p.2 = q.2 → p = q
  pos : ∀ p ∈ m, 1 ≤ p.1 ∧ 1 ≤ p.2
theorem TwoWay.nil : TwoWay [] := ⟨by simp, by simp, by simp⟩
theorem toE_look (v : Nat) : ∀ m : List (Nat × Nat), TwoWay m → ((toE m).lookup (v : Int) = none ∧ lt0 m v = 0) ∨ (∃ u, (v, u) ∈ m ∧ (toE m).lookup (v : Int) = some (.int .i64 ((lt0 m v : Nat) : Int)) ∧ lt0 m v = u ∧ 1 ≤ u)
  | [], _ => .inl ⟨rfl, rfl⟩
  | p :: r, h => by
    simp only [toE, List.map_cons, List.lookup_cons, lt0]
    by_cases e : p.1 = v
    · right
      refine ⟨p.2, by rw [← e]; simp, ?_, by simp [e], (h.pos p (by simp)).2⟩
      have : ((v : Int) == (p.1 : Int)) = true := by rw [e]; simp
      simp [this, e]
    · have : ((v : Int) == (p.1 : Int)) = false := by simp; omega
      have hr : TwoWay r := ⟨fun a ha b hb => h.l a (by simp [ha]) b (by simp [hb]), fun a ha b hb => h.r a (by simp [ha]) b (by simp [hb]), fun a ha => h.pos a (by simp [ha])⟩
      rcases toE_look v r hr with ⟨a, b⟩ | ⟨u, a, b, c, d⟩
      · left; simp only [this, if_neg e]; exact ⟨a, b⟩
      · right; refine ⟨u, by simp [a], ?_, by simp [e, c], d⟩
        simp only [this, if_neg e]; exact b
theorem fromE_look (u : Nat) : ∀ m : List (Nat × Nat), TwoWay m → ((fromE m).lookup (u : Int) = none ∧ rt0 m u = 0) ∨ (∃ v, (v, u) ∈ m ∧ (fromE m).lookup (u : Int) = some (.int .i64 ((rt0 m u : Nat) : Int)) ∧ rt0 m u = v ∧ 1 ≤ v)
  | [], _ => .inl ⟨rfl, rfl⟩
  | p :: r, h => by
    simp only [fromE, List.map_cons, List.lookup_cons, rt0]
    by_cases e : p.2 = u
    · right
      refine ⟨p.1, by rw [← e]; simp, ?_, by simp [e], (h.pos p (by simp)).1⟩
      have : ((u : Int) == (p.2 : Int)) = true := by rw [e]; simp
      simp [this, e]
    · have : ((u : Int) == (p.2 : Int)) = false := by simp; omega
      have hr : TwoWay r := ⟨fun a ha b hb => h.l a (by simp [ha]) b (by simp [hb]), fun a ha b hb => h.r a (by simp [ha]) b (by simp [hb]), fun a ha => h.pos a (by simp [ha])⟩
      rcases fromE_look u r hr with ⟨a, b⟩ | ⟨v, a, b, c, d⟩
      · left; simp only [this, if_neg e]; exact ⟨a, b⟩
      · right; refine ⟨v, by simp [a], ?_, by simp [e, c], d⟩
        simp only [this, if_neg e]; exact b
theorem toE_mem (v : Nat) : ∀ {m : List (Nat × Nat)} {p : Nat × Nat}, p ∈ m → p.1 = v → (toE m).lookup (v : Int) ≠ none
  | q :: r, p, hp, e => by
    simp only [toE, List.map_cons, List.lookup_cons]
    by_cases e2 : q.1 = v
    · have : ((v : Int) == (q.1 : Int)) = true := by rw [e2]; simp
      simp [this]
    · have : ((v : Int) == (q.1 : Int)) = false := by simp; omega
      simp only [this]
      refine toE_mem v (m := r) (p := p) ?_ e
      rcases List.mem_cons.1 hp with rfl | hp
      · exact absurd e e2
      · exact hp
theorem fromE_mem (u : Nat) : ∀ {m : List (Nat × Nat)} {p : Nat × Nat}, p ∈ m → p.2 = u → (fromE m).lookup (u : Int) ≠ none
  | q :: r, p, hp, e => by
    simp only [fromE, List.map_cons, List.lookup_cons]
    by_cases e2 : q.2 = u
    · have : ((u : Int) == (q.2 : Int)) = true := by rw [e2]; simp
      simp [this]
    · have : ((u : Int) == (q.2 : Int)) = false := by simp; omega
      simp only [this]
      refine fromE_mem u (m := r) (p := p) ?_ e
      rcases List.mem_cons.1 hp with rfl | hp
      · exact absurd e e2
      · exact hp
/-- The ways of the comparison at two variables that stand for any type. -/
inductive VarWay (v u : Nat) (m : List (Nat × Nat)) : Option (List (Nat × Nat)) → Prop
  | new : lt0 m v = 0 → rt0 m u = 0 → (toE m).lookup (v : Int) = none → (fromE m).lookup (u : Int) = none → TwoWay (m ++ [(v, u)]) → VarWay v u m (some (m ++ [(v, u)]))
  | old : lt0 m v = u → rt0 m u = v → 1 ≤ u → 1 ≤ v → VarWay v u m (some m)
  | bad1 : lt0 m v ≠ 0 → lt0 m v ≠ u → VarWay v u m none
  | bad2 : lt0 m v = 0 → rt0 m u ≠ 0 → 1 ≤ u → VarWay v u m none
def varW (v u : Nat) (m : List (Nat × Nat)) : Option (List (Nat × Nat)) := match m.find? (fun p => p.1 == v || p.2 == u) with | none => some (m ++ [(v, u)]) | some _ => if m.contains (v, u) then some m else none
theorem alike_var {a b : List Nat} {v u : Nat} (h : a.contains v = true) (k : b.contains u = true) (m : List (Nat × Nat)) : alikeT a b (.var v) (.var u) m = varW v u m := by
  unfold alikeT varW
  rw [h, k]
  cases m.find? (fun p => p.1 == v || p.2 == u) <;> rfl
theorem var_way {v u : Nat} {m : List (Nat × Nat)} (h : TwoWay m) (hv : 1 ≤ v) (hu : 1 ≤ u) :
    VarWay v u m (varW v u m) := by
  unfold varW
  rcases toE_look v m h with ⟨a, a0⟩ | ⟨u', a1, a2, a3, a4⟩
  · have hl : ∀ p ∈ m, p.1 ≠ v := fun p hp e => toE_mem v hp e a
    rcases fromE_look u m h with ⟨b, b0⟩ | ⟨v', b1, b2, b3, b4⟩
    · have hr : ∀ p ∈ m, p.2 ≠ u := fun p hp e => fromE_mem u hp e b
      have hf : m.find? (fun p => p.1 == v || p.2 == u) = none := by
        rw [List.find?_eq_none]
        intro p hp
        simp [hl p hp, hr p hp]
      rw [hf]
      refine .new a0 b0 a b ⟨fun p hp q hq e => ?_, fun p hp q hq e => ?_, fun p hp => ?_⟩
      · rcases List.mem_append.1 hp with hp | hp <;> rcases List.mem_append.1 hq with hq | hq
        · exact h.l p hp q hq e
        · simp only [List.mem_singleton] at hq; subst hq; exact absurd e (hl p hp)
        · simp only [List.mem_singleton] at hp; subst hp; exact absurd e.symm (hl q hq)
        · simp only [List.mem_singleton] at hp hq; rw [hp, hq]
      · rcases List.mem_append.1 hp with hp | hp <;> rcases List.mem_append.1 hq with hq | hq
        · exact h.r p hp q hq e
        · simp only [List.mem_singleton] at hq; subst hq; exact absurd e (hr p hp)
        · simp only [List.mem_singleton] at hp; subst hp; exact absurd e.symm (hr q hq)
        · simp only [List.mem_singleton] at hp hq; rw [hp, hq]
      · rcases List.mem_append.1 hp with hp | hp
        · exact h.pos p hp
        · simp only [List.mem_singleton] at hp; subst hp; exact ⟨hv, hu⟩
    · cases hf : m.find? (fun p => p.1 == v || p.2 == u) with
      | none =>
        rw [List.find?_eq_none] at hf
        have := hf _ b1
        simp at this
      | some p =>
        have hc : m.contains (v, u) = false := by
          cases hc : m.contains (v, u) with
          | false => rfl
          | true => exact absurd rfl (hl (v, u) (by simpa using hc))
        simp only [hc, Bool.false_eq_true, if_false]
        exact .bad2 a0 (by omega) hu
  · by_cases e : u' = u
    · subst e
      cases hf : m.find? (fun p => p.1 == v || p.2 == u') with
      | none =>
        rw [List.find?_eq_none] at hf
        have := hf _ a1
        simp at this
      | some p =>
        have hc : m.contains (v, u') = true := by simpa using a1
        simp only [hc, if_true]
        refine .old a3 ?_ hu hv
        rcases fromE_look u' m h with ⟨b, b0⟩ | ⟨v', b1, b2, b3, b4⟩
        · exact absurd b (fromE_mem u' a1 rfl)
        · have := h.r _ b1 _ a1 rfl
          injection this with e1 _
          omega
    · cases hf : m.find? (fun p => p.1 == v || p.2 == u) with
      | none =>
        rw [List.find?_eq_none] at hf
        have := hf _ a1
        simp at this
      | some p =>
        have hc : m.contains (v, u) = false := by
          cases hc : m.contains (v, u) with
          | false => rfl
          | true =>
            exfalso
            have hm : (v, u) ∈ m := by simpa using hc
            have := h.l _ a1 _ hm rfl
            injection this with _ e1
            exact e e1
        simp only [hc, Bool.false_eq_true, if_false]
        exact .bad1 (by omega) (by omega)
/-- The comparison over parts. -/
def alikeL (a b : List Nat) : List Ty → List Ty → List (Nat × Nat) → Option (List (Nat × Nat))
  | x :: r, y :: s, m => (alikeT a b x y m).bind fun m => alikeL a b r s m
  | [], [], m => some m
  | _, _, _ => none
theorem alike_con {a b : List Nat} {x y : Ty} (hx : x.con = true) (hy : y.con = true) (hk : x.kind = y.kind) (m : List (Nat × Nat)) : alikeT a b x y m = alikeL a b x.args y.args m := by
  cases x <;> cases y <;> simp_all [Ty.con, Ty.kind, Ty.args, alikeT, alikeL, INT, BOOL, sList, sPair, sFun] <;> (try (cases alikeT a b _ _ m <;> simp_all)) <;> (try (rename_i q; cases alikeT a b _ _ q <;> simp_all))
theorem alike_kind {a b : List Nat} {x y : Ty} (hx : x.con = true) (hy : y.con = true) (hk : x.kind ≠ y.kind) (m : List (Nat × Nat)) : alikeT a b x y m = none := by
  cases x <;> cases y <;> simp_all [Ty.con, Ty.kind, alikeT, INT, BOOL, sList, sPair, sFun]
theorem alike_mix1 {a b : List Nat} {N : Nat} {y : Ty} (hy : y.con = true) (m : List (Nat × Nat)) : alikeT a b (.var N) y m = none := by
  cases y <;> simp_all [Ty.con, alikeT]
theorem alike_mix2 {a b : List Nat} {N : Nat} {x : Ty} (hx : x.con = true) (m : List (Nat × Nat)) : alikeT a b x (.var N) m = none := by
  cases x <;> simp_all [Ty.con, alikeT]
theorem kind_len {x y : Ty} (hx : x.con = true) (hy : y.con = true) (hk : x.kind = y.kind) : x.args.length = y.args.length := by
  cases x <;> cases y <;> simp_all [Ty.con, Ty.kind, Ty.args, INT, BOOL, sList, sPair, sFun]
theorem toE_snoc (m : List (Nat × Nat)) (v u : Nat) : toE (m ++ [(v, u)]) = toE m ++ [((v : Int), .int .i64 (u : Int))] := by simp [toE]
theorem fromE_snoc (m : List (Nat × Nat)) (v u : Nat) : fromE (m ++ [(v, u)]) = fromE m ++ [((u : Int), .int .i64 (v : Int))] := by simp [fromE]
end Go.Proofs.YtabikmkoajdhmaaGreatDoor

/- (*engine).part at numbers and names. -/
namespace Go.Proofs.YtabikmkoajdhmaaGreatDoor
open Go.RowKit

set_option maxRecDepth 100000 in
set_option maxHeartbeats 2000000 in
theorem part_num (u : Sur) (hu : SurOk u) {G : GH} {A : GV} {w : World} {n : Nat} {l : List Told} {env : Env} {e : Option Addr} {b : Nat} (hin : EngIn u G A w n l env e) :
    Calls Tryz.prog 131 #[.pointer (some ⟨u.gB, 0, none⟩), .iface 215 (.pointer (some ⟨b, 0, none⟩)), .pointer e] w (EngPost u G A w (some (.ok (.int, [], n, l)))) := by
  have HIN := Lib.hid hin; have HU := Lib.hid hu; clear hin hu
  have aNumNum := taNumNum
  go_enter Tryz.func131, Tryz.ntmps131
  go_wp2_with fail
  refine (of_ok (bs INT) _ _ _ _).mono ?_
  rintro e w2 ⟨rfl, rfl⟩
  go_wp2_with fail
  go_ret
  obtain ⟨G5, g5, i5, y5⟩ := mk_con0 HIN.out.ei.inv (t := .int) rfl rfl
  have kA : Keep none' w (w.alloc (.cells #[.string (bs INT), .slice none 0 0] 169)) := Keep.alloc _ _ _
  obtain ⟨ei5, x5⟩ := HIN.out.ei.up kA g5 i5
  exact ⟨_, G5, A, rfl, x5.p HIN.out.po, ei5, HU.out.stable l G A n w _ HIN.out.rw' HIN.out.ei x5.keep, y5⟩

set_option maxRecDepth 100000 in
set_option maxHeartbeats 2000000 in
theorem part_name (u : Sur) (hu : SurOk u) {G : GH} {A : GV} {w : World} {n pos : Nat} {l : List Told} {env : Env} {e : Option Addr} {b : Nat} {nm : Str} {s : Sch} {t : Ty} {f : FS} (hin : EngIn u G A w n l env e)
    (hg : G b = some (.cells #[.int .i64 pos, .string (bs nm)] 214)) (hs : env.lookup nm = some s) (hf : inst s.all s.t ⟨[], n⟩ = some (t, f)) :
    Calls Tryz.prog 131 #[.pointer (some ⟨u.gB, 0, none⟩), .iface 211 (.pointer (some ⟨b, 0, none⟩)), .pointer e] w (EngPost u G A w (some (.ok (t, [], f.n, l)))) := by
  have c1 : w.cell? ⟨b, 1, none⟩ = some (.string (bs nm)) := cell_of_heap (hin.ei.inv.holds _ _ hg) rfl
  have hget := get_ok nm hin.ei.inv.holds hin.env
  rw [hs] at hget
  have HGET := Lib.hid hget; have HIN := Lib.hid hin; have HU := Lib.hid hu; have HF := Lib.hid hf; clear hin hu hget hg hs hf
  have aNameNum := taNameNum
  have aNameName := taNameName
  go_enter Tryz.func131, Tryz.ntmps131
  go_wp2_with fail
  refine HGET.out.mono ?_
  rintro e1 w1 ⟨k1, tv, mv, rfl, ht, ha⟩
  obtain ⟨T, tb, rfl⟩ := ht.iface
  obtain ⟨mo, rfl⟩ := ha.map
  have k2 : Keep none' w ((w1.alloc (.cells #[.iface T (.pointer (some ⟨tb, 0, none⟩)), .map mo] 180)).drew) := (k1.trans (Keep.alloc _ _ _)).trans (Keep.drew _ _)
  obtain ⟨ei2, x2⟩ := HIN.out.ei.keep0 k2
  have t2 := x2.tr _ _ ht
  have hnew := inst_ok ei2 t2 ha HF.out
  have S0 : ((w1.alloc (.cells #[.iface T (.pointer (some ⟨tb, 0, none⟩)), .map mo] 180)).drew).cell? ⟨w1.heap.size, 0, none⟩ = some (.iface T (.pointer (some ⟨tb, 0, none⟩))) ∧ ((w1.alloc (.cells #[.iface T (.pointer (some ⟨tb, 0, none⟩)), .map mo] 180)).drew).cell? ⟨w1.heap.size, 1, none⟩ = some (.map mo) ∧ ((w1.alloc (.cells #[.iface T (.pointer (some ⟨tb, 0, none⟩)), .map mo] 180)).drew).cell? ⟨u.gB, 0, none⟩ = some (.pointer (some ⟨u.cb, 0, none⟩)) :=
    ⟨cell_of_heap (heap_new w1 _) rfl, cell_of_heap (heap_new w1 _) rfl, cell_of_heap (k2.get (HIN.out.ei.inv.holds _ _ HIN.out.eng) (fun x => x)) rfl⟩
  have HNEW := Lib.hid hnew; have HX2 := Lib.hid x2; have HE2 := Lib.hid ei2
  have HRW := Lib.hid (HU.out.stable l G A n w _ HIN.out.rw' HIN.out.ei x2.keep)
  clear k1 ht ha k2 ei2 x2 t2 hnew
  go_wp2_with fail
  refine wp_region_float (fun w' => w'.cell? ⟨w1.heap.size, 0, none⟩ = some (.iface T (.pointer (some ⟨tb, 0, none⟩))) ∧ w'.cell? ⟨w1.heap.size, 1, none⟩ = some (.map mo) ∧ w'.cell? ⟨u.gB, 0, none⟩ = some (.pointer (some ⟨u.cb, 0, none⟩))) [1, 2, 3] [0, 4] (by kernel_rfl) ?_
  (refine floatS (i := 0) (v := ?_) rfl (by kernel_rfl) (by kernel_rfl) (by kernel_rfl) (by kernel_rfl) (fun _ _ _ h => h) (by assumption) (by rfl) ?_ ?_); rotate_left
  (intro wF hF; (try dsimp only at hF); go_simp; try with_reducible rfl)
  (try simp only [Act.put, List.setIfInBounds_toArray, List.set_cons_zero, List.set_cons_succ])
  (refine float0 (i := 1) (v := ?_) rfl (by kernel_rfl) (by kernel_rfl) (by kernel_rfl) (by kernel_rfl) (fun _ _ _ h => h) (by rfl) ?_ ?_); rotate_left
  (intro wF; go_simp; try with_reducible rfl)
  (try simp only [Act.put, List.setIfInBounds_toArray, List.set_cons_zero, List.set_cons_succ])
  (refine float0 (i := 2) (v := ?_) rfl (by kernel_rfl) (by kernel_rfl) (by kernel_rfl) (by kernel_rfl) (fun _ _ _ h => h) (by rfl) ?_ ?_); rotate_left
  (intro wF; go_simp; try with_reducible rfl)
  (try simp only [Act.put, List.setIfInBounds_toArray, List.set_cons_zero, List.set_cons_succ])
  (refine float0 (i := 3) (v := ?_) rfl (by kernel_rfl) (by kernel_rfl) (by kernel_rfl) (by kernel_rfl) (fun _ _ _ h => h) (by rfl) ?_ ?_); rotate_left
  (intro wF; go_simp; try with_reducible rfl)
  (try simp only [Act.put, List.setIfInBounds_toArray, List.set_cons_zero, List.set_cons_succ])
  (refine floatS (i := 4) (v := ?_) rfl (by kernel_rfl) (by kernel_rfl) (by kernel_rfl) (by kernel_rfl) (fun _ _ _ h => h) (by assumption) (by rfl) ?_ ?_); rotate_left
  (intro wF hF; (try dsimp only at hF); go_simp; try with_reducible rfl)
  (try simp only [Act.put, List.setIfInBounds_toArray, List.set_cons_zero, List.set_cons_succ])
  (refine floatT (l := _) (k := 5) rfl rfl (by kernel_rfl) ?_)
  go_wp2_with fail
  refine HNEW.out.mono ?_
  rintro e3 w3 ⟨v, G3, A3, rfl, ei3, x3, y3⟩
  obtain ⟨T3, b3, rfl⟩ := y3.iface
  have HX3 := Lib.hid x3; have HE3 := Lib.hid ei3; have HY3 := Lib.hid y3; clear x3 ei3 y3
  go_wp2_with fail
  go_ret
  have X2 := HX2.out.p HIN.out.po
  exact ⟨_, G3, A3, rfl, X2.then0 (HX3.out.p (HIN.out.po.up X2)), HE3.out, HU.out.stable l G A n _ _ HRW.out HE2.out HX3.out.keep, HY3.out⟩
end Go.Proofs.YtabikmkoajdhmaaGreatDoor

/- (*engine).part at pairs, given of one step down. -/
namespace Go.Proofs.YtabikmkoajdhmaaGreatDoor
open Go.RowKit

theorem EngIn.up {u : Sur} (hu : SurOk u) {G G1 : GH} {A A1 : GV} {w w1 : World} {n n1 : Nat} {l l1 : List Told} {env : Env} {e : Option Addr} {d : Dl} (h : EngIn u G A w n l env e) (x : ExtP u.P G A w d G1 A1 w1) (ei : EI u.cb G1 A1 w1 n1) (r : u.RW l1 w1) : EngIn u G1 A1 w1 n1 l1 (envApp d env) e :=
  ⟨ei, h.po.up x, r, h.env.extP x, x.g.sub _ _ h.eng, hu.sents h.sen x.keep⟩

set_option maxRecDepth 100000 in
set_option maxHeartbeats 4000000 in
theorem part_pair (u : Sur) (hu : SurOk u) (k : Nat) (ih : OfOk u k) {G : GH} {A : GV} {w : World} {n : Nat} {pos : Int} {l : List Told} {env : Env} {e : Option Addr} {b : Nat} {v1 v2 : Value} {x y : Ex} {r : ERes} (hin : EngIn u G A w n l env e)
    (hg : G b = some (.cells #[.int .i64 pos, v1, v2] 223)) (hx : ExR G v1 x) (hy : ExR G v2 y) (hr : partS u.fuel u.stop (k + 1) env (.pair x y) n l = r) (hne : r ≠ none) :
    Calls Tryz.prog 131 #[.pointer (some ⟨u.gB, 0, none⟩), .iface 221 (.pointer (some ⟨b, 0, none⟩)), .pointer e] w (EngPost u G A w r) := by
  simp only [partS] at hr
  have hK : ∀ (G' : GH) (w' : World), G.sub G' → Holds G' w' → w'.cell? ⟨b, 1, none⟩ = some v1 ∧ w'.cell? ⟨b, 2, none⟩ = some v2 := fun G' w' hs h => ⟨cell_of_heap (h _ _ (hs _ _ hg)) rfl, cell_of_heap (h _ _ (hs _ _ hg)) rfl⟩
  obtain ⟨c1, c2⟩ := hK G w (GH.sub.refl G) hin.ei.inv.holds
  obtain ⟨Tx, bx, rfl⟩ := hx.shape
  obtain ⟨Ty', by', rfl⟩ := hy.shape
  cases hp : ofS u.fuel u.stop k env x n l with
  | none => rw [hp] at hr; exact absurd hr.symm hne
  | some rr =>
    have hc := ih G A w n l env e _ x _ hin hx hp (by simp)
    rw [hp] at hr
    have HC := Lib.hid hc; have HR := Lib.hid hr; have HU := Lib.hid hu; have HIN := Lib.hid hin; have HK := Lib.hid hK; have HY := Lib.hid hy; have IH := Lib.hid ih; have HNE := Lib.hid hne
    clear hc hr hu hin hK hy hx hp ih hg hne
    have aPairNum := taPairNum
    have aPairName := taPairName
    have aPairFun := taPairFun
    have aPairApp := taPairApp
    have aPairPair := taPairPair
    go_enter Tryz.func131, Tryz.ntmps131
    go_wp2_with fail
    refine HC.out.mono ?_
    cases rr with
    | error q =>
      obtain ⟨kq, lq⟩ := q
      have hr := HR.out; simp only at hr; subst hr
      rintro e1 w1 ⟨rfl, k1, r1⟩
      have HK1 := Lib.hid k1; have HRW := Lib.hid r1; clear k1 r1
      go_wp2_with fail
      exact ⟨rfl, rfl, HK1.out, HRW.out⟩
    | ok q =>
      obtain ⟨t1, d1, n1, l1⟩ := q
      rintro e1 w1 ⟨u1, G1, A1, rfl, x1, ei1, r1, y1⟩
      obtain ⟨T1, b1, rfl⟩ := y1.iface
      have in1 := HIN.out.up HU.out x1 ei1 r1
      obtain ⟨d2', d3'⟩ := HK.out G1 w1 x1.g.sub ei1.inv.holds
      have hr := HR.out; simp only at hr
      cases hp2 : ofS u.fuel u.stop k (envApp d1 env) y n1 l1 with
      | none => rw [hp2] at hr; exact absurd hr.symm HNE.out
      | some rr2 =>
        have hc2 := IH.out G1 A1 w1 n1 l1 (envApp d1 env) e _ y _ in1 (HY.out.sub x1.g.sub) hp2 (by simp)
        rw [hp2] at hr
        have HC2 := Lib.hid hc2; have HR2 := Lib.hid hr; have HX1 := Lib.hid x1; have HY1 := Lib.hid y1
        clear hc2 hr HR x1 ei1 r1 y1 in1 c1 c2 hp2
        go_wp2_with fail
        refine HC2.out.mono ?_
        cases rr2 with
        | error q =>
          obtain ⟨kq, lq⟩ := q
          have hr := HR2.out; simp only at hr; subst hr
          rintro e2 w2 ⟨rfl, k2, r2⟩
          have HK1 := Lib.hid (HX1.out.keep.trans k2); have HRW := Lib.hid r2; clear k2 r2
          go_wp2_with fail
          exact ⟨rfl, rfl, HK1.out, HRW.out⟩
        | ok q =>
          obtain ⟨t2, d2, n2, l2⟩ := q
          rintro e2 w2 ⟨u2, G2, A2, rfl, x2, ei2, r2, y2⟩
          obtain ⟨T2, b2, rfl⟩ := y2.iface
          have hr := HR2.out; simp only at hr; subst hr
          have y12 := x2.tr _ _ HY1.out
          have HX2 := Lib.hid (HX1.out.trans x2)
          have HPO := Lib.hid (HIN.out.po.up HX2.out)
          obtain ⟨G5, g5, i5, y5⟩ := mk_con2 ei2.inv (t := .pair (app d2 t1) t2) rfl rfl y12 y2
          have k5 : Keep none' w2 ((w2.alloc (.cells #[.iface T1 (.pointer (some ⟨b1, 0, none⟩)), .iface T2 (.pointer (some ⟨b2, 0, none⟩))] 149)).alloc (.cells #[.string (bs sPair), .slice (some ⟨w2.heap.size, 0, none⟩) 2 2] 169)) := (Keep.alloc _ _ _).trans (Keep.alloc _ _ _)
          obtain ⟨ei5, x5⟩ := ei2.up k5 g5 i5
          have HE5 := Lib.hid ei5; have HX5 := Lib.hid (HX2.out.then0 (x5.p HPO.out)); have HY5 := Lib.hid y5
          have HR5 := Lib.hid (HU.out.stable l2 G2 A2 n2 w2 _ r2 ei2 x5.keep)
          clear x2 ei2 r2 y2 y12 g5 i5 y5 k5 ei5 x5
          go_wp2_with fail
          refine (of_ok (bs sPair) _ _ _ _).mono ?_
          rintro e5 w5 ⟨rfl, rfl⟩
          go_wp2_with fail
          go_ret
          exact ⟨_, G5, A2, rfl, HX5.out, HE5.out, HR5.out, HY5.out⟩
end Go.Proofs.YtabikmkoajdhmaaGreatDoor

/- (*engine).part at applications, given of one step down. -/
namespace Go.Proofs.YtabikmkoajdhmaaGreatDoor
open Go.RowKit

set_option maxRecDepth 100000 in
set_option maxHeartbeats 4000000 in
theorem part_app (u : Sur) (hu : SurOk u) (k : Nat) (ih : OfOk u k) {G : GH} {A : GV} {w : World} {n : Nat} {pos : Int} {l : List Told} {env : Env} {e : Option Addr} {b : Nat} {v1 v2 : Value} {x y : Ex} {r : ERes} (hin : EngIn u G A w n l env e)
    (hg : G b = some (.cells #[.int .i64 pos, v1, v2] 237)) (hx : ExR G v1 x) (hy : ExR G v2 y) (hr : partS u.fuel u.stop (k + 1) env (.app x y) n l = r) (hne : r ≠ none) :
    Calls Tryz.prog 131 #[.pointer (some ⟨u.gB, 0, none⟩), .iface 235 (.pointer (some ⟨b, 0, none⟩)), .pointer e] w (EngPost u G A w r) := by
  simp only [partS] at hr
  have hK : ∀ (G' : GH) (w' : World), G.sub G' → Holds G' w' → w'.cell? ⟨b, 1, none⟩ = some v1 ∧ w'.cell? ⟨b, 2, none⟩ = some v2 := fun G' w' hs h => ⟨cell_of_heap (h _ _ (hs _ _ hg)) rfl, cell_of_heap (h _ _ (hs _ _ hg)) rfl⟩
  obtain ⟨c1, c2⟩ := hK G w (GH.sub.refl G) hin.ei.inv.holds
  obtain ⟨Tx, bx, rfl⟩ := hx.shape
  obtain ⟨Ty', by', rfl⟩ := hy.shape
  cases hp : ofS u.fuel u.stop k env x n l with
  | none => rw [hp] at hr; exact absurd hr.symm hne
  | some rr =>
    have hc := ih G A w n l env e _ x _ hin hx hp (by simp)
    rw [hp] at hr
    have HC := Lib.hid hc; have HR := Lib.hid hr; have HU := Lib.hid hu; have HIN := Lib.hid hin; have HK := Lib.hid hK; have HY := Lib.hid hy; have IH := Lib.hid ih; have HNE := Lib.hid hne
    clear hc hr hu hin hK hy hx hp ih hg hne
    have aAppNum := taAppNum
    have aAppName := taAppName
    have aAppFun := taAppFun
    have aAppApp := taAppApp
    go_enter Tryz.func131, Tryz.ntmps131
    go_wp2_with fail
    refine HC.out.mono ?_
    cases rr with
    | error q =>
      obtain ⟨kq, lq⟩ := q
      have hr := HR.out; simp only at hr; subst hr
      rintro e1 w1 ⟨rfl, k1, r1⟩
      have HK1 := Lib.hid k1; have HRW := Lib.hid r1; clear k1 r1
      go_wp2_with fail
      exact ⟨rfl, rfl, HK1.out, HRW.out⟩
    | ok q =>
      obtain ⟨t1, d1, n1, l1⟩ := q
      rintro e1 w1 ⟨u1, G1, A1, rfl, x1, ei1, r1, y1⟩
      obtain ⟨T1, b1, rfl⟩ := y1.iface
      have in1 := HIN.out.up HU.out x1 ei1 r1
      obtain ⟨d2', d3'⟩ := HK.out G1 w1 x1.g.sub ei1.inv.holds
      have hr := HR.out; simp only at hr
      cases hp2 : ofS u.fuel u.stop k (envApp d1 env) y n1 l1 with
      | none => rw [hp2] at hr; exact absurd hr.symm HNE.out
      | some rr2 =>
        have hc2 := IH.out G1 A1 w1 n1 l1 (envApp d1 env) e _ y _ in1 (HY.out.sub x1.g.sub) hp2 (by simp)
        rw [hp2] at hr
        have HC2 := Lib.hid hc2; have HR2 := Lib.hid hr; have HX1 := Lib.hid x1; have HY1 := Lib.hid y1
        clear hc2 hr HR x1 ei1 r1 y1 in1 c1 c2 hp2
        go_wp2_with fail
        refine HC2.out.mono ?_
        cases rr2 with
        | error q =>
          obtain ⟨kq, lq⟩ := q
          have hr := HR2.out; simp only at hr; subst hr
          rintro e2 w2 ⟨rfl, k2, r2⟩
          have HK1 := Lib.hid (HX1.out.keep.trans k2); have HRW := Lib.hid r2; clear k2 r2
          go_wp2_with fail
          exact ⟨rfl, rfl, HK1.out, HRW.out⟩
        | ok q =>
          obtain ⟨t2, d2, n2, l2⟩ := q
          rintro e2 w2 ⟨u2, G2, A2, rfl, x2, ei2, r2, y2⟩
          obtain ⟨T2, b2, rfl⟩ := y2.iface
          have hr := HR2.out; simp only at hr
          have hn : n2 < 1000000000 := by
            rcases Nat.lt_or_ge n2 1000000000 with h | h
            · exact h
            · rw [if_neg (by omega)] at hr; exact absurd hr.symm HNE.out
          rw [if_pos hn] at hr
          have X2 := HX1.out.trans x2
          have in2 := (HIN.out.up HU.out X2 ei2 r2)
          have y12 := x2.tr _ _ HY1.out
          have g0 : w2.cell? ⟨u.gB, 0, none⟩ = some (.pointer (some ⟨u.cb, 0, none⟩)) := cell_of_heap (ei2.inv.holds _ _ in2.eng) rfl
          have hnew := new_ok ei2.cnt hn
          obtain ⟨kc, e5, cnt5⟩ := new_world ei2.cnt
          obtain ⟨ei3, x3, y3⟩ := ei2.new kc e5 cnt5
          have HNEW := Lib.hid hnew; have HX2 := Lib.hid X2; have HIN2 := Lib.hid in2; have HR3 := Lib.hid hr; have HY12 := Lib.hid y12; have HY2 := Lib.hid y2
          have HE3 := Lib.hid ei3; have HX3 := Lib.hid x3; have HY3 := Lib.hid y3; have HRW2 := Lib.hid r2; have HE2 := Lib.hid ei2
          clear hnew kc e5 cnt5 ei3 x3 y3 X2 in2 hr y12 y2 x2 ei2 r2
          go_wp2_with fail
          refine HNEW.out.mono ?_
          rintro e3 w3 ⟨rfl, hw3⟩
          rw [← hw3] at HE3 HX3 HY3
          obtain ⟨nb, hnb⟩ : ∃ nb, nb = w2.heap.size := ⟨_, rfl⟩
          rw [← hnb]
          rw [← hnb] at HE3 HX3 HY3
          clear hw3 hnb
          have X3 := HX2.out.then0 (HX3.out.p HIN2.out.po)
          have r3 := HU.out.stable l2 G2 A2 n2 w2 w3 HRW2.out HE2.out HX3.out.keep
          have in3 := HIN.out.up HU.out X3 HE3.out r3
          have t12 := HX3.out.tr _ _ HY12.out
          have t2' := HX3.out.tr _ _ HY2.out
          have y3' := HY3.out
          unfold varV at y3'
          obtain ⟨G5, g5, i5, y5⟩ := mk_con2 HE3.out.inv (t := .fn t2 (.var (n2 + 1))) rfl rfl t2' y3'
          have k5 : Keep none' w3 ((w3.alloc (.cells #[.iface T2 (.pointer (some ⟨b2, 0, none⟩)), .iface 160 (.pointer (some ⟨nb, 0, none⟩))] 149)).alloc (.cells #[.string (bs sFun), .slice (some ⟨w3.heap.size, 0, none⟩) 2 2] 169)) := (Keep.alloc _ _ _).trans (Keep.alloc _ _ _)
          obtain ⟨ei5, x5⟩ := HE3.out.up k5 g5 i5
          have X5 := X3.then0 (x5.p in3.po)
          have r5 := HU.out.stable l2 G2 _ (n2 + 1) w3 _ r3 HE3.out x5.keep
          have in5 := HIN.out.up HU.out X5 ei5 r5
          have tf := x5.tr _ _ t12
          have tv := x5.tr _ _ y3'
          have hr := HR3.out
          cases hun : uni uniK (app d2 t1) (.fn t2 (.var (n2 + 1))) with
          | none => rw [hun] at hr; exact absurd hr.symm HNE.out
          | some ru =>
            rw [hun] at hr
            have heq := equal_ok (p := u.p) ei5.inv tf y5 hun (fun w' kk => HU.out.sents in5.sen (kk.mono (fun i _ h => in5.po.t i (.inr h)))) ⟨⟨u.gB, 0, none⟩, rfl⟩
            simp only [conV] at heq
            have HEQ := Lib.hid heq; have HR4 := Lib.hid hr; have HX5 := Lib.hid X5; have HE5 := Lib.hid ei5; have HTV := Lib.hid tv; have HR5 := Lib.hid r5; have HPO5 := Lib.hid in5.po
            clear heq hr X5 ei5 tv r5 in5 tf y5 i5 g5 x5 k5 y3' t2' t12 in3 r3 X3 hun
            go_wp2_with fail
            refine (of_ok (bs sFun) _ _ _ _).mono ?_
            rintro e6 w6 ⟨rfl, rfl⟩
            simp only [conV]
            go_wp2_with fail
            refine HEQ.out.mono ?_
            cases ru with
            | none =>
              rintro e7 w7 ⟨rfl, k7⟩
              have hr := HR4.out; simp only at hr; subst hr
              have k7' := k7.mono (T := u.P) (fun i _ h => HPO5.out.t i (.inr h))
              have HK7 := Lib.hid (HX5.out.keep.trans k7')
              have HR7 := Lib.hid (HU.out.stable l2 _ _ _ _ w7 HR5.out HE5.out (k7.mono (fun _ _ h => .inr h)))
              clear k7 k7'
              go_wp2_with fail
              exact ⟨rfl, rfl, HK7.out, HR7.out⟩
            | some d3 =>
              rintro e7 w7 ⟨rfl, d7⟩
              have hr := HR4.out; simp only at hr; subst hr
              have X7 : ExtP u.P G5 (A2.put (n2 + 1) (nb, [])) _ d3 G5 (A2.put (n2 + 1) (nb, [])) w7 := ⟨d7.keep.mono (fun i _ h => HPO5.out.t i (.inr h)), Grew.refl _ _, GrewV.refl _ _, d7.tr⟩
              have XX := HX5.out.trans X7
              rw [List.append_assoc] at XX
              have HXX := Lib.hid XX
              have HR7 := Lib.hid (HU.out.stable l2 _ _ _ _ w7 HR5.out HE5.out (d7.keep.mono (fun _ _ h => .inr h)))
              have HE7 : Hid (EI u.cb G5 (A2.put (n2 + 1) (nb, [])) w7 (n2 + 1)) := Lib.hid ⟨d7.inv, d7.keep.get HE5.out.cnt HE5.out.cv, HE5.out.cg, HE5.out.cv⟩
              have HT7 := Lib.hid (d7.tr _ _ HTV.out)
              clear X7 XX d7
              go_wp2_with fail
              go_ret
              exact ⟨_, G5, _, rfl, HXX.out, HE7.out, HR7.out, HT7.out⟩
end Go.Proofs.YtabikmkoajdhmaaGreatDoor

/- (*engine).part at let, given of one step down. -/
namespace Go.Proofs.YtabikmkoajdhmaaGreatDoor
open Go.RowKit

set_option maxRecDepth 100000 in
set_option maxHeartbeats 4000000 in
theorem part_lt (u : Sur) (hu : SurOk u) (k : Nat) (ih : OfOk u k) {G : GH} {A : GV} {w : World} {n : Nat} {pos : Int} {l : List Told} {env : Env} {e : Option Addr} {b : Nat} {nm : Str} {v1 v2 : Value} {x y : Ex} {r : ERes} (hin : EngIn u G A w n l env e)
    (hg : G b = some (.cells #[.int .i64 pos, .string (bs nm), v1, v2] 226)) (hx : ExR G v1 x) (hy : ExR G v2 y) (hr : partS u.fuel u.stop (k + 1) env (.lt nm x y) n l = r) (hne : r ≠ none) :
    Calls Tryz.prog 131 #[.pointer (some ⟨u.gB, 0, none⟩), .iface 224 (.pointer (some ⟨b, 0, none⟩)), .pointer e] w (EngPost u G A w r) := by
  simp only [partS] at hr
  have hK : ∀ (G' : GH) (w' : World), G.sub G' → Holds G' w' → w'.cell? ⟨b, 2, none⟩ = some v1 ∧ w'.cell? ⟨b, 3, none⟩ = some v2 ∧ w'.cell? ⟨b, 1, none⟩ = some (.string (bs nm)) := fun G' w' hs h => ⟨cell_of_heap (h _ _ (hs _ _ hg)) rfl, cell_of_heap (h _ _ (hs _ _ hg)) rfl, cell_of_heap (h _ _ (hs _ _ hg)) rfl⟩
  obtain ⟨c1, c2, c3⟩ := hK G w (GH.sub.refl G) hin.ei.inv.holds
  obtain ⟨Tx, bx, rfl⟩ := hx.shape
  obtain ⟨Ty', by', rfl⟩ := hy.shape
  cases hp : ofS u.fuel u.stop k env x n l with
  | none => rw [hp] at hr; exact absurd hr.symm hne
  | some rr =>
    have hc := ih G A w n l env e _ x _ hin hx hp (by simp)
    rw [hp] at hr
    have HC := Lib.hid hc; have HR := Lib.hid hr; have HU := Lib.hid hu; have HIN := Lib.hid hin; have HK := Lib.hid hK; have HY := Lib.hid hy; have IH := Lib.hid ih; have HNE := Lib.hid hne
    clear hc hr hu hin hK hy hx hp ih hg hne
    have aLetNum := taLetNum
    have aLetName := taLetName
    have aLetFun := taLetFun
    have aLetApp := taLetApp
    have aLetPair := taLetPair
    have aLetIf := taLetIf
    have aLetLet := taLetLet
    go_enter Tryz.func131, Tryz.ntmps131
    go_wp2_with fail
    refine HC.out.mono ?_
    cases rr with
    | error q =>
      obtain ⟨kq, lq⟩ := q
      have hr := HR.out; simp only at hr; subst hr
      rintro e1 w1 ⟨rfl, k1, r1⟩
      have HK1 := Lib.hid k1; have HRW := Lib.hid r1; clear k1 r1
      go_wp2_with fail
      exact ⟨rfl, rfl, HK1.out, HRW.out⟩
    | ok q =>
      obtain ⟨t1, d1, n1, l1⟩ := q
      rintro e1 w1 ⟨u1, G1, A1, rfl, x1, ei1, r1, y1⟩
      obtain ⟨T1, b1, rfl⟩ := y1.iface
      have in1 := HIN.out.up HU.out x1 ei1 r1
      have hr := HR.out; simp only at hr
      have kd : Keep none' w1 w1.drew := Keep.drew _ _
      obtain ⟨eid, xd⟩ := ei1.keep0 kd
      have X1 := x1.then0 (xd.p in1.po)
      have rd := HU.out.stable l1 G1 A1 n1 w1 w1.drew r1 ei1 xd.keep
      have ind := HIN.out.up HU.out X1 eid rd
      have yd := xd.tr _ _ y1
      have S0 : w1.drew.cell? ⟨b, 3, none⟩ = some (.iface Ty' (.pointer (some ⟨by', 0, none⟩))) ∧ w1.drew.cell? ⟨b, 1, none⟩ = some (.string (bs nm)) := (HK.out G1 w1.drew x1.g.sub eid.inv.holds).2
      have hcl := close_ok eid.inv ind.env yd
      have HCL := Lib.hid hcl; have HX1 := Lib.hid X1; have HYD := Lib.hid yd; have HIND := Lib.hid ind; have HRD := Lib.hid rd; have HED := Lib.hid eid
      have HR1 := Lib.hid hr
      clear hcl X1 yd ind rd eid xd kd x1 ei1 r1 y1 in1 hr HR c1 c2 c3
      go_wp2_with fail
      refine wp_region_float (fun w' => w'.cell? ⟨b, 3, none⟩ = some (.iface Ty' (.pointer (some ⟨by', 0, none⟩))) ∧ w'.cell? ⟨b, 1, none⟩ = some (.string (bs nm))) [0, 1, 2, 3, 5, 6, 7, 8, 10, 11] [4, 9] (by kernel_rfl) ?_
      (refine float0 (i := 0) (v := ?_) rfl (by kernel_rfl) (by kernel_rfl) (by kernel_rfl) (by kernel_rfl) (fun _ _ _ h => h) (by rfl) ?_ ?_); rotate_left
      (intro wF; go_simp; try with_reducible rfl)
      (try simp only [Act.put, List.setIfInBounds_toArray, List.set_cons_zero, List.set_cons_succ])
      (refine float0 (i := 1) (v := ?_) rfl (by kernel_rfl) (by kernel_rfl) (by kernel_rfl) (by kernel_rfl) (fun _ _ _ h => h) (by rfl) ?_ ?_); rotate_left
      (intro wF; go_simp; try with_reducible rfl)
      (try simp only [Act.put, List.setIfInBounds_toArray, List.set_cons_zero, List.set_cons_succ])
      (refine float0 (i := 2) (v := ?_) rfl (by kernel_rfl) (by kernel_rfl) (by kernel_rfl) (by kernel_rfl) (fun _ _ _ h => h) (by rfl) ?_ ?_); rotate_left
      (intro wF; go_simp; try with_reducible rfl)
      (try simp only [Act.put, List.setIfInBounds_toArray, List.set_cons_zero, List.set_cons_succ])
      (refine float0 (i := 3) (v := ?_) rfl (by kernel_rfl) (by kernel_rfl) (by kernel_rfl) (by kernel_rfl) (fun _ _ _ h => h) (by rfl) ?_ ?_); rotate_left
      (intro wF; go_simp; try with_reducible rfl)
      (try simp only [Act.put, List.setIfInBounds_toArray, List.set_cons_zero, List.set_cons_succ])
      (refine floatS (i := 4) (v := ?_) rfl (by kernel_rfl) (by kernel_rfl) (by kernel_rfl) (by kernel_rfl) (fun _ _ _ h => h) (by assumption) (by rfl) ?_ ?_); rotate_left
      (intro wF hF; (try dsimp only at hF); go_simp; try with_reducible rfl)
      (try simp only [Act.put, List.setIfInBounds_toArray, List.set_cons_zero, List.set_cons_succ])
      (refine float0 (i := 5) (v := ?_) rfl (by kernel_rfl) (by kernel_rfl) (by kernel_rfl) (by kernel_rfl) (fun _ _ _ h => h) (by rfl) ?_ ?_); rotate_left
      (intro wF; go_simp; try with_reducible rfl)
      (try simp only [Act.put, List.setIfInBounds_toArray, List.set_cons_zero, List.set_cons_succ])
      (refine float0 (i := 6) (v := ?_) rfl (by kernel_rfl) (by kernel_rfl) (by kernel_rfl) (by kernel_rfl) (fun _ _ _ h => h) (by rfl) ?_ ?_); rotate_left
      (intro wF; go_simp; try with_reducible rfl)
      (try simp only [Act.put, List.setIfInBounds_toArray, List.set_cons_zero, List.set_cons_succ])
      (refine float0 (i := 7) (v := ?_) rfl (by kernel_rfl) (by kernel_rfl) (by kernel_rfl) (by kernel_rfl) (fun _ _ _ h => h) (by rfl) ?_ ?_); rotate_left
      (intro wF; go_simp; try with_reducible rfl)
      (try simp only [Act.put, List.setIfInBounds_toArray, List.set_cons_zero, List.set_cons_succ])
      (refine float0 (i := 8) (v := ?_) rfl (by kernel_rfl) (by kernel_rfl) (by kernel_rfl) (by kernel_rfl) (fun _ _ _ h => h) (by rfl) ?_ ?_); rotate_left
      (intro wF; go_simp; try with_reducible rfl)
      (try simp only [Act.put, List.setIfInBounds_toArray, List.set_cons_zero, List.set_cons_succ])
      (refine floatS (i := 9) (v := ?_) rfl (by kernel_rfl) (by kernel_rfl) (by kernel_rfl) (by kernel_rfl) (fun _ _ _ h => h) (by assumption) (by rfl) ?_ ?_); rotate_left
      (intro wF hF; (try dsimp only at hF); go_simp; try with_reducible rfl)
      (try simp only [Act.put, List.setIfInBounds_toArray, List.set_cons_zero, List.set_cons_succ])
      (refine float0 (i := 10) (v := ?_) rfl (by kernel_rfl) (by kernel_rfl) (by kernel_rfl) (by kernel_rfl) (fun _ _ _ h => h) (by rfl) ?_ ?_); rotate_left
      (intro wF; go_simp; try with_reducible rfl)
      (try simp only [Act.put, List.setIfInBounds_toArray, List.set_cons_zero, List.set_cons_succ])
      (refine float0 (i := 11) (v := ?_) rfl (by kernel_rfl) (by kernel_rfl) (by kernel_rfl) (by kernel_rfl) (fun _ _ _ h => h) (by rfl) ?_ ?_); rotate_left
      (intro wF; go_simp; try with_reducible rfl)
      (try simp only [Act.put, List.setIfInBounds_toArray, List.set_cons_zero, List.set_cons_succ])
      (refine floatM (i := 12) rfl (by kernel_rfl) (by kernel_rfl) (fun K hK => ?_)); go_simp
      refine HCL.out.mono ?_
      rintro e2 w2 ⟨om, G2, rfl, g2, i2, k2, tr2, ag2⟩
      have S2 : w2.cell? ⟨b, 3, none⟩ = some (.iface Ty' (.pointer (some ⟨by', 0, none⟩))) ∧ w2.cell? ⟨b, 1, none⟩ = some (.string (bs nm)) := (HK.out G2 w2 (HX1.out.g.sub.trans g2.sub) i2.holds).2
      have x2 : ExtP u.P G1 A1 w1.drew [] G2 A1 w2 := ⟨k2.mono (fun i _ h => HIND.out.po.t i (.inr h)), g2, GrewV.refl _ _, fun v t r => tr2 v t r⟩
      have ei2 : EI u.cb G2 A1 w2 n1 := ⟨i2, k2.get HED.out.cnt HED.out.cv, g2.sz HED.out.lt HED.out.cg, HED.out.cv⟩
      have r2 := HU.out.stable l1 G1 A1 n1 w1.drew w2 HRD.out HED.out (k2.mono (fun _ _ h => .inr h))
      have in2 := HIND.out.up HU.out x2 ei2 r2
      have HX2 := Lib.hid (HX1.out.then0 x2); have HE2 := Lib.hid ei2; have HR2 := Lib.hid r2; have HIN2 := Lib.hid in2; have HAG := Lib.hid ag2; have HY2 := Lib.hid (tr2 _ _ HYD.out)
      clear g2 i2 k2 tr2 ag2 x2 ei2 r2 in2 S0
      go_wp2_with fail
      refine hK.out _ _ (fun _ => S2) ?_
      clear hK K
      (try simp only [Act.put, List.setIfInBounds_toArray, List.set_cons_zero, List.set_cons_succ])
      (refine floatM (i := 13) rfl (by kernel_rfl) (by kernel_rfl) (fun K hK => ?_)); go_simp
      refine (with_ok _ _ _ _ _ _).mono ?_
      rintro e3 w3 ⟨sb, rfl, hsb, k3, hb3⟩
      have hfr : G2 sb = none := HE2.out.inv.holds.fresh hsb
      have hv3 : ¬ isV A1 sb := fun h => by have := HE2.out.inv.old h; omega
      have g3 : Grew G2 w2 (G2.put sb (.cells #[.pointer e, .string (bs nm), .iface T1 (.pointer (some ⟨b1, 0, none⟩)), .map (some om)] 275)) := ⟨GH.sub_put hfr, fun i hi => GH.put_other _ _ (by omega)⟩
      obtain ⟨ei3, x3⟩ := HE2.out.up k3 g3 ((HE2.out.inv.keep0 k3).put hb3 hv3)
      have X3 := HX2.out.then0 (x3.p HIN2.out.po)
      have r3 := HU.out.stable l1 G2 A1 n1 w2 w3 HR2.out HE2.out x3.keep
      have in3' := HIN2.out.up HU.out (x3.p HIN2.out.po) ei3 r3
      have en3 : EnvR (G2.put sb (.cells #[.pointer e, .string (bs nm), .iface T1 (.pointer (some ⟨b1, 0, none⟩)), .map (some om)] 275)) A1 w3 (some ⟨sb, 0, none⟩) ((nm, ⟨t1, closeAll (envApp d1 env) t1⟩) :: envApp d1 env) :=
        .cons (GH.put_same _ _ _) (x3.tr _ _ HY2.out) (HAG.out.sub g3.sub) (by have := in3'.env; rwa [envApp_nil, envApp_nil] at this)
      have in3 : EngIn u (G2.put sb (.cells #[.pointer e, .string (bs nm), .iface T1 (.pointer (some ⟨b1, 0, none⟩)), .map (some om)] 275)) A1 w3 n1 l1 ((nm, ⟨t1, closeAll (envApp d1 env) t1⟩) :: envApp d1 env) (some ⟨sb, 0, none⟩) := ⟨in3'.ei, in3'.po, in3'.rw', en3, in3'.eng, in3'.sen⟩
      have S3 : w3.cell? ⟨b, 3, none⟩ = some (.iface Ty' (.pointer (some ⟨by', 0, none⟩))) ∧ w3.cell? ⟨b, 1, none⟩ = some (.string (bs nm)) := (HK.out _ w3 (HX2.out.g.sub.trans g3.sub) ei3.inv.holds).2
      have hr := HR1.out
      cases hp2 : ofS u.fuel u.stop k ((nm, ⟨t1, closeAll (envApp d1 env) t1⟩) :: envApp d1 env) y n1 l1 with
      | none => rw [hp2] at hr; exact absurd hr.symm HNE.out
      | some rr2 =>
        have hc2 := IH.out _ A1 w3 n1 l1 _ _ _ y _ in3 (HY.out.sub (HX2.out.g.sub.trans g3.sub)) hp2 (by simp)
        rw [hp2] at hr
        have HC2 := Lib.hid hc2; have HR3 := Lib.hid hr; have HX3 := Lib.hid X3
        have HS3 := Lib.hid (fun (G' : GH) (w' : World) (hs : (G2.put sb (.cells #[.pointer e, .string (bs nm), .iface T1 (.pointer (some ⟨b1, 0, none⟩)), .map (some om)] 275)).sub G') (h : Holds G' w') => (HK.out G' w' ((HX2.out.g.sub.trans g3.sub).trans hs) h).2)
        clear hc2 hr in3 en3 in3' X3 x3 ei3 hb3 k3 g3 r3 hp2
        go_wp2_with fail
        refine hK.out _ _ (fun _ => S3) ?_
        clear hK K
        (try simp only [Act.put, List.setIfInBounds_toArray, List.set_cons_zero, List.set_cons_succ])
        (refine floatM (i := 14) rfl (by kernel_rfl) (by kernel_rfl) (fun K hK => ?_)); go_simp
        refine HC2.out.mono ?_
        cases rr2 with
        | error q =>
          obtain ⟨kq, lq⟩ := q
          have hr := HR3.out; simp only at hr; subst hr
          rintro e4 w4 ⟨rfl, k4, r4⟩
          have HK4 := Lib.hid (HX3.out.keep.trans k4); have HRW := Lib.hid r4; clear k4 r4
          go_wp2_with fail
          exact ⟨rfl, rfl, HK4.out, HRW.out⟩
        | ok q =>
          obtain ⟨t2, d2, n2, l2⟩ := q
          rintro e4 w4 ⟨u2, G4, A4, rfl, x4, ei4, r4, y4⟩
          obtain ⟨T4, b4, rfl⟩ := y4.iface
          have hr := HR3.out; simp only at hr; subst hr
          have S4 := HS3.out G4 w4 x4.g.sub ei4.inv.holds
          have HX4 := Lib.hid (HX3.out.trans x4); have HE4 := Lib.hid ei4; have HR4 := Lib.hid r4; have HY4 := Lib.hid y4
          clear x4 ei4 r4 y4
          go_wp2_with fail
          refine hK.out _ _ (fun _ => S4) ?_
          clear hK K
          (try simp only [Act.put, List.setIfInBounds_toArray, List.set_cons_zero, List.set_cons_succ])
          (refine floatM (i := 15) rfl (by kernel_rfl) (by kernel_rfl) (fun K hK => ?_)); go_simp
          refine hK.out _ _ (fun _ => S4) ?_
          clear hK K
          (try simp only [Act.put, List.setIfInBounds_toArray, List.set_cons_zero, List.set_cons_succ])
          (refine floatE (by kernel_rfl) ?_)
          go_wp2_with fail
          go_ret
          exact ⟨_, G4, A4, rfl, HX4.out, HE4.out, HR4.out, HY4.out⟩
end Go.Proofs.YtabikmkoajdhmaaGreatDoor
