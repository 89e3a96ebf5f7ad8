/- typerref's equal by a contract. -/
import Derived.Test.YtabikmkoajdhmaaDoorCanA
import Derived.BigQuiet
import Derived.Deep.QuietTactic
import Derived.Test.YtabikmkoajdhmaaDoorTrParse
import Derived.Test.YtabikmkoajdhmaaDoorQ04
import Derived.Test.YtabikmkoajdhmaaDoorTrMatch
import Derived.Test.YtabikmkoajdhmaaDoorCanB
import Derived.Test.YtabikmkoajdhmaaDoorQ31
import Derived.Sort.Walk0
import Derived.Test.YtabikmkoajdhmaaDoorCanC
set_option linter.unusedVariables false
set_option linter.unusedSimpArgs false
set_option linter.unnecessarySimpa false
namespace Go.Proofs.YtabikmkoajdhmaaDoor
open Go.RowKit

theorem ty_eta {t u : Ty} (ht : ∀ v, t.has v = true → 1 ≤ v) (hu : ∀ v, u.has v = true → 1 ≤ v) : t = u ↔ t.rk = u.rk ∧ t.rv = u.rv ∧ t.rl = u.rl := by
  constructor
  · rintro rfl; exact ⟨rfl, rfl, rfl⟩
  · intro h
    cases t <;> cases u <;> simp [Ty.rk, Ty.rv, Ty.rl, INT, BOOL, rLIST, rPAIR, FUN] at h ⊢
    · rename_i v w
      have h1 := ht v (by simp [Ty.has]); have h2 := hu w (by simp [Ty.has])
      omega
    · exact h
    · exact h
    · exact h
theorem rl_rk {t u : Ty} (h : t.rk = u.rk) : t.rl.length = u.rl.length := by
  cases t <;> cases u <;> simp [Ty.rk, Ty.rl, INT, BOOL, rLIST, rPAIR, FUN] at h ⊢
theorem has_kid {t : Ty} {i : Nat} (h : i < t.rl.length) {v : Nat} (hv : t.rl[i].has v = true) : t.has v = true := by
  cases t with
  | var _ => cases h
  | int => cases h
  | bool => cases h
  | list a =>
    have hi : i = 0 := by simp [Ty.rl] at h; omega
    subst hi; simpa [Ty.rl, Ty.has] using hv
  | pair a b =>
    have hi : i = 0 ∨ i = 1 := by simp [Ty.rl] at h; omega
    rcases hi with rfl | rfl
    · simp only [Ty.rl, List.getElem_cons_zero] at hv; simp [Ty.has, hv]
    · simp only [Ty.rl, List.getElem_cons_succ, List.getElem_cons_zero] at hv; simp [Ty.has, hv]
  | fn a b =>
    have hi : i = 0 ∨ i = 1 := by simp [Ty.rl] at h; omega
    rcases hi with rfl | rfl
    · simp only [Ty.rl, List.getElem_cons_zero] at hv; simp [Ty.has, hv]
    · simp only [Ty.rl, List.getElem_cons_succ, List.getElem_cons_zero] at hv; simp [Ty.has, hv]
theorem rv_size {G : GH} {b : Nat} {t : Ty} (h : RTy G b t) : ∃ lv, G b = some (tO t.rk t.rv lv) := by cases h with | mk h1 _ _ _ => exact ⟨_, h1⟩
def EqQ (a b : Nat) (r : Bool) (w : World) : Prop := Calls Tryd.prog 35 #[.pointer (some ⟨a, 0, none⟩), .pointer (some ⟨b, 0, none⟩)] w fun e w' => e = .returned (.bool r) ∧ ∃ m, w' = w.drewN m
theorem EqQ.quiet {a b : Nat} {r : Bool} {w : World} {n : Nat} (h : EqQ a b r (w.drewN n)) : Calls Tryd.prog 35 #[.pointer (some ⟨a, 0, none⟩), .pointer (some ⟨b, 0, none⟩)] (w.drewN n) fun e w'' => e = .returned (.bool r) ∧ ∃ m, w'' = w.drewN m :=
  h.mono fun _ _ ⟨he, m, hm⟩ => ⟨he, n + m, by rw [hm, World.drewN_drewN]⟩
set_option maxRecDepth 100000 in
set_option maxHeartbeats 4000000 in
theorem tr_equal {G : GH} {a : Nat} {t : Ty} (h : RTy G a t) : (∀ v, t.has v = true → 1 ≤ v) → ∀ {b : Nat} {u : Ty}, RTy G b u → (∀ v, u.has v = true → 1 ≤ v) → ∀ w : World, Holds G w → EqQ a b (decide (t = u)) w := by
  induction h with
  | @mk a t lv ks h1 h2 h3 h4 ih =>
    intro ht b u hu hhu w hw
    have hkn : ks.length ≤ 2 := by have := rl_len t; omega
    have heta := ty_eta ht hhu
    cases hu with
    | @mk _ _ lv2 ks2 g1 g2 g3 g4 =>
    have hkn2 : ks2.length ≤ 2 := by have := rl_len u; omega
    obtain ⟨ao, cap, rfl, hc⟩ := slr_shp h2
    obtain ⟨ao2, cap2, rfl, hc2⟩ := slr_shp g2
    rw [List.length_map] at h1 g1
    have hcs : ∀ m : Nat, (w.drewN m).cell? ⟨a, 0, none⟩ = some (.string (bs t.rk)) ∧ (w.drewN m).cell? ⟨a, 1, none⟩ = some (.int .i64 t.rv) ∧ (w.drewN m).cell? ⟨a, 2, none⟩ = some (.slice ao ks.length cap) ∧ (w.drewN m).cell? ⟨b, 0, none⟩ = some (.string (bs u.rk)) ∧ (w.drewN m).cell? ⟨b, 1, none⟩ = some (.int .i64 u.rv) ∧ (w.drewN m).cell? ⟨b, 2, none⟩ = some (.slice ao2 ks2.length cap2) := fun m => by
      have hwm := hw.keep0 (Keep.drewN none' w m)
      exact ⟨cell_of_heap (hwm _ _ h1) rfl, cell_of_heap (hwm _ _ h1) rfl, cell_of_heap (hwm _ _ h1) rfl, cell_of_heap (hwm _ _ g1) rfl, cell_of_heap (hwm _ _ g1) rfl, cell_of_heap (hwm _ _ g1) rfl⟩
    have c0 : w.cell? ⟨a, 0, none⟩ = some (.string (bs t.rk)) := (hcs 0).1
    have c1 : w.cell? ⟨a, 1, none⟩ = some (.int .i64 t.rv) := (hcs 0).2.1
    have c2 : w.cell? ⟨a, 2, none⟩ = some (.slice ao ks.length cap) := (hcs 0).2.2.1
    have d0 : w.cell? ⟨b, 0, none⟩ = some (.string (bs u.rk)) := (hcs 0).2.2.2.1
    have d1 : w.cell? ⟨b, 1, none⟩ = some (.int .i64 u.rv) := (hcs 0).2.2.2.2.1
    have d2 : w.cell? ⟨b, 2, none⟩ = some (.slice ao2 ks2.length cap2) := (hcs 0).2.2.2.2.2
    have q1 : ((bs t.rk).toList == (bs u.rk).toList) = decide (t.rk = u.rk) := str_cc _ _
    obtain ⟨tk, htk⟩ : ∃ tk, tk = t.rk := ⟨_, rfl⟩
    obtain ⟨uk, huk⟩ : ∃ uk, uk = u.rk := ⟨_, rfl⟩
    obtain ⟨tv, htv⟩ : ∃ tv, tv = t.rv := ⟨_, rfl⟩
    obtain ⟨uv, huv⟩ : ∃ uv, uv = u.rv := ⟨_, rfl⟩
    rw [← htk] at c0 q1 hcs heta; rw [← huk] at d0 q1 hcs heta; rw [← htv] at c1 hcs heta; rw [← huv] at d1 hcs heta
    have hrl : tk = uk → ks.length = ks2.length := fun e => by rw [h3, g3]; exact rl_rk (by rw [← htk, ← huk, e])
    by_cases hk : tk = uk
    · by_cases hvv : tv = uv
      · rw [decide_eq_true hk] at q1
        have q2 : ((tv : Int) = (uv : Int)) := by omega
        have hlen := hrl hk
        have heta2 : t = u ↔ t.rl = u.rl := heta.trans ⟨fun e => e.2.2, fun e => ⟨hk, hvv, e⟩⟩
        have HW := Lib.hid hw; have HC := Lib.hid hc; have HC2 := Lib.hid hc2; have H3 := Lib.hid h3; have G3 := Lib.hid g3; have IH := Lib.hid ih; have G4 := Lib.hid g4; have HT := Lib.hid ht; have HU := Lib.hid hhu; have HCS := Lib.hid hcs; have HE := Lib.hid heta2
        clear h1 h2 h3 h4 g1 g2 g3 g4 ih hw ht hhu heta heta2 hc hc2 hcs htk huk htv huv hrl hk
        subst hvv
        rw [← hlen] at d2
        unfold EqQ
        go_enter Tryd.func35, Tryd.ntmps35
        go_wp2_with fail
        go_quiet (fail)
        go_wp2_with fail
        go_loopg [44] ks.length (fun gn s44 wr => ∃ i : Nat, i ≤ ks.length ∧ Hid (gn = ks.length - i) ∧ s44 = .int .i64 i ∧ Hid (∃ m, wr = w.drewN m) ∧ Hid (∀ k, k < i → t.rl[k]? = u.rl[k]?))
        case atStart => exact ⟨0, by omega, Lib.hid rfl, rfl, Lib.hid ⟨_, rfl⟩, Lib.hid (fun k h => by omega)⟩
        case round =>
          obtain ⟨i, hi, HM, rfl, HWR, HQ⟩ := hrel
          have h0i : (0 : Int) ≤ (i : Int) := by omega
          by_cases hlt : i < ks.length
          · have hii : (i : Int) < (ks.length : Int) := by omega
            have hlk : i < t.rl.length := by rw [← H3.out]; exact hlt
            have hlt2 : i < ks2.length := by omega
            have hlk2 : i < u.rl.length := by rw [← G3.out]; exact hlt2
            obtain ⟨lb, rfl, hcl⟩ := HC.out i (by simpa using hlt)
            obtain ⟨lb2, rfl, hcl2⟩ := HC2.out i (by simpa using hlt2)
            have hwr : Holds G wr := by obtain ⟨m, e⟩ := HWR.out; rw [e]; exact HW.out.keep0 (Keep.drewN _ _ _)
            have cm : wr.cell? ⟨lb, i, none⟩ = some (.pointer (some ⟨ks[i], 0, none⟩)) := by rw [hcl wr hwr]; simp [ptr]
            have cm2 : wr.cell? ⟨lb2, i, none⟩ = some (.pointer (some ⟨ks2[i], 0, none⟩)) := by rw [hcl2 wr hwr]; simp [ptr]
            have e0 : wr.cell? ⟨a, 2, none⟩ = some (.slice (some ⟨lb, 0, none⟩) ks.length cap) := by obtain ⟨m, e⟩ := HWR.out; rw [e]; exact (HCS.out m).2.2.1
            have e1 : wr.cell? ⟨b, 2, none⟩ = some (.slice (some ⟨lb2, 0, none⟩) ks.length cap2) := by obtain ⟨m, e⟩ := HWR.out; rw [e, (HCS.out m).2.2.2.2.2, hlen]
            have hcall : ∀ n, EqQ ks[i] ks2[i] (decide (t.rl[i] = u.rl[i])) (wr.drewN n) := fun n => IH.out i hlt hlk (fun v hv => HT.out v (has_kid hlk hv)) (G4.out i hlt2 hlk2) (fun v hv => HU.out v (has_kid hlk2 hv)) _ (hwr.keep0 (Keep.drewN _ _ _))
            obtain ⟨ki, hki⟩ : ∃ ki, ki = ks[i] := ⟨_, rfl⟩
            obtain ⟨ki2, hki2⟩ : ∃ ki2, ki2 = ks2[i] := ⟨_, rfl⟩
            rw [← hki] at cm hcall; rw [← hki2] at cm2 hcall
            by_cases heq : t.rl[i] = u.rl[i]
            · have HHH : Hid (t.rl[i]? = u.rl[i]?) := Lib.hid (by rw [List.getElem?_eq_getElem hlk, List.getElem?_eq_getElem hlk2, heq])
              rw [decide_eq_true heq] at hcall
              have HCALL := Lib.hid hcall
              clear hcall hki hki2 hcl hcl2 hwr heq hlk hlk2 hlt2 c0 c1 c2 d0 d1 d2
              go_wp2_with fail
              go_quiet (exact (HCALL.out _).quiet)
              go_wp2_with fail
              go_roundg (ks.length - (i + 1))
              case measure => have := HM.out; omega
              case rel => exact ⟨i + 1, by omega, Lib.hid rfl, by go_num, Lib.hid (by obtain ⟨m, e⟩ := HWR.out; exact ⟨_, by rw [e, World.drewN_drewN]⟩), Lib.hid (fun k hk => by
                by_cases h : k < i
                · exact HQ.out k h
                · have : k = i := by omega
                  rw [this]; exact HHH.out)⟩
            · have HHH : Hid (decide (t = u) = false) := Lib.hid (decide_eq_false (by rw [HE.out]; intro e; exact heq (by simp only [e])))
              rw [decide_eq_false heq] at hcall
              have HCALL := Lib.hid hcall
              clear hcall hki hki2 hcl hcl2 hwr heq hlk hlk2 hlt2 c0 c1 c2 d0 d1 d2
              go_wp2_with fail
              go_quiet (exact (HCALL.out _).quiet)
              go_wp2_with fail
              go_ret
              exact ⟨by rw [HHH.out]; rfl, by obtain ⟨m, e⟩ := HWR.out; exact ⟨_, by rw [e, World.drewN_drewN]⟩⟩
          · have hie : i = ks.length := by omega
            subst hie
            have HHH : Hid (decide (t = u) = true) := Lib.hid (decide_eq_true (by
              rw [HE.out]
              apply List.ext_getElem?
              intro k
              by_cases h : k < ks.length
              · exact HQ.out k h
              · rw [List.getElem?_eq_none (by rw [← H3.out]; omega), List.getElem?_eq_none (by rw [← G3.out]; omega)]))
            go_wp2_with fail
            go_ret
            exact ⟨by rw [HHH.out]; rfl, HWR.out⟩
      · have hd : decide (t = u) = false := decide_eq_false (by rw [heta]; exact fun e => hvv e.2.1)
        have q2 : ¬ ((tv : Int) = (uv : Int)) := by omega
        unfold EqQ
        rw [hd]
        rw [decide_eq_true hk] at q1
        clear h1 h2 h3 h4 g1 g2 g3 g4 ih hw ht hhu heta hc hc2 hcs htk huk htv huv hrl hk hvv hd
        go_enter Tryd.func35, Tryd.ntmps35
        go_wp2_with fail
        go_quiet (fail)
        go_wp2_with fail
        go_ret
        exact ⟨rfl, _, rfl⟩
    · have hd : decide (t = u) = false := decide_eq_false (by rw [heta]; exact fun e => hk e.1)
      unfold EqQ
      rw [hd]
      rw [decide_eq_false hk] at q1
      clear h1 h2 h3 h4 g1 g2 g3 g4 ih hw ht hhu heta hc hc2 hcs htk huk htv huv hrl hk hd
      go_enter Tryd.func35, Tryd.ntmps35
      go_wp2_with fail
      go_quiet (fail)
      go_wp2_with fail
      go_ret
      exact ⟨rfl, _, rfl⟩
end Go.Proofs.YtabikmkoajdhmaaDoor

set_option linter.unusedVariables false
set_option linter.unusedSimpArgs false
set_option linter.unnecessarySimpa false
namespace Go.Proofs.YtabikmkoajdhmaaDoor
open Go.RowKit

theorem own_shapeM {w : World} {base : Nat} {e : TypeId} {v : Value} {n : Nat} {xs : List Value} (h : w.ownsRow base e 1 v n xs) (hn : 0 < n) :
    ∃ g cap, v = .slice (some ⟨g, 0, none⟩) n cap ∧ ∀ j u, xs[j]? = some u → w.cell? ⟨g, j, none⟩ = some u := by
  have h1 := h
  rcases h.2 with ⟨_, rfl⟩ | ⟨g, cap, cur, rfl, rest⟩
  · omega
  · refine ⟨g, cap, rfl, fun j u hu => ?_⟩
    have hadd : (⟨g, 0, none⟩ : Addr).add j = ⟨g, j, none⟩ := by unfold Addr.add; split <;> simp_all
    rw [← hadd]
    exact h1.cells (g := g) rfl j u hu
def oV : Option Nat → Value
  | none => .pointer none
  | some k => ptr k
inductive OR (G : GH) : Option Nat → Option Ty → Prop
  | none : OR G none none
  | some {k : Nat} {t : Ty} : RTy G k t → OR G (some k) (some t)
theorem OR.sub {G G' : GH} (hs : G.sub G') {o : Option Nat} {t : Option Ty} (h : OR G o t) : OR G' o t := by
  cases h with
  | none => exact .none
  | some h => exact .some (h.sub hs)
def GotR (G : GH) (gv : Value) (got : List (Option Ty)) : Prop := ∃ os : List (Option Nat), os.length = got.length ∧ SlR G gv (os.map oV) ∧ ∀ i (h : i < os.length) (h2 : i < got.length), OR G os[i] got[i]
theorem GotR.sub {G G' : GH} (hs : G.sub G') {v : Value} {got : List (Option Ty)} (h : GotR G v got) : GotR G' v got := by
  obtain ⟨os, h1, h2, h3⟩ := h
  exact ⟨os, h1, h2.sub hs, fun i h h2 => (h3 i h h2).sub hs⟩
def Pos (t : Ty) : Prop := ∀ v, t.has v = true → 1 ≤ v
def PosG (got : List (Option Ty)) : Prop := ∀ t, some t ∈ got → Pos t
/-- Matching of lists. -/
def matL : List Ty → List Ty → List (Option Ty) → Option (List (Option Ty))
  | a :: r, b :: s, got => (matchR a b got).bind (matL r s)
  | _, _, got => some got
theorem matchR_con {a : Ty} (h : ¬ ∃ v, a = .var v) (b : Ty) (got : List (Option Ty)) : matchR a b got = if a.rk = b.rk then matL a.rl b.rl got else none := by
  cases a with
  | var v => exact absurd ⟨v, rfl⟩ h
  | _ =>
    cases b <;> simp [matchR, matL, Ty.rk, Ty.rl, INT, BOOL, rLIST, rPAIR, FUN]
theorem matL_cons {l m : List Ty} {i : Nat} (h1 : i < l.length) (h2 : i < m.length) (got : List (Option Ty)) : matL (l.drop i) (m.drop i) got = (matchR l[i] m[i] got).bind (matL (l.drop (i + 1)) (m.drop (i + 1))) := by
  rw [List.drop_eq_getElem_cons h1, List.drop_eq_getElem_cons h2]
  rfl
def MtPost (G : GH) (w : World) (r : Option (List (Option Ty))) (e : Ending) (w' : World) : Prop := Keep none' w w' ∧ ∃ ao n cap G', Grew G w G' ∧ Holds G' w' ∧ match r with
  | some got' => e = .returned (.tuple #[.slice ao n cap, .bool true]) ∧ GotR G' (.slice ao n cap) got'
  | none => e = .returned (.tuple #[.slice ao n cap, .bool false])
theorem und_rtys : Tryd.prog.underlying 45 = some (.slice 38) := by kernel_rfl
theorem info_rty : (Tryd.prog.info? 38).map (fun i => (i.zero, i.size, i.bytes)) = some (some (.pointer none), 1, 8) := by kernel_rfl
theorem posG_set {got : List (Option Ty)} {i : Nat} {b : Ty} (h : PosG got) (hb : Pos b) : PosG (got.set i (some b)) := fun t ht => by
  rcases List.mem_or_eq_of_mem_set ht with h1 | h1
  · exact h t h1
  · injection h1 with h1; rw [h1]; exact hb
theorem matchR_pos : ∀ (a b : Ty) (got got' : List (Option Ty)), PosG got → Pos b → matchR a b got = some got' → PosG got' ∧ got'.length = got.length
  | .var v, b, got, got', hg, hb, h => by
    simp only [matchR] at h
    split at h
    · split at h
      · injection h with h; subst h; exact ⟨hg, rfl⟩
      · cases h
    · injection h with h; subst h; exact ⟨posG_set hg hb, by simp⟩
  | .int, b, got, got', hg, hb, h => by
    cases b <;> simp only [matchR] at h <;> first | (cases h; done) | (injection h with h; subst h; exact ⟨hg, rfl⟩)
  | .bool, b, got, got', hg, hb, h => by
    cases b <;> simp only [matchR] at h <;> first | (cases h; done) | (injection h with h; subst h; exact ⟨hg, rfl⟩)
  | .list a, b, got, got', hg, hb, h => by
    cases b <;> simp only [matchR] at h <;> first | (cases h; done) | exact matchR_pos a _ _ _ hg (fun v hv => hb v (by simp [Ty.has, hv])) h
  | .pair a a', b, got, got', hg, hb, h => by
    cases b <;> simp only [matchR] at h <;> first
      | (cases h; done)
      | (obtain ⟨g1, h1, h2⟩ := Option.bind_eq_some_iff.1 h
         have k1 := matchR_pos a _ _ _ hg (fun v hv => hb v (by simp [Ty.has, hv])) h1
         have k2 := matchR_pos a' _ _ _ k1.1 (fun v hv => hb v (by simp [Ty.has, hv])) h2
         exact ⟨k2.1, k2.2.trans k1.2⟩)
  | .fn a a', b, got, got', hg, hb, h => by
    cases b <;> simp only [matchR] at h <;> first
      | (cases h; done)
      | (obtain ⟨g1, h1, h2⟩ := Option.bind_eq_some_iff.1 h
         have k1 := matchR_pos a _ _ _ hg (fun v hv => hb v (by simp [Ty.has, hv])) h1
         have k2 := matchR_pos a' _ _ _ k1.1 (fun v hv => hb v (by simp [Ty.has, hv])) h2
         exact ⟨k2.1, k2.2.trans k1.2⟩)
theorem pos_kid {t : Ty} (h : Pos t) {i : Nat} (hi : i < t.rl.length) : Pos t.rl[i] := fun v hv => h v (has_kid hi hv)
/-- The variable's arm. -/
theorem mat_var_some {G : GH} {a b : Nat} {v : Nat} {u : Ty} {lv : Value} {gv : Value} {got : List (Option Ty)} (h1 : G a = some (tO [] v lv)) (hb : RTy G b u) (hu : Pos u) (hg : GotR G gv got) (hgp : PosG got) (hv : v < got.length) (hlen : got.length ≤ 1000) {o : Ty} (ho : got[v] = some o) (w : World) (hw : Holds G w) :
    Calls Tryd.prog 16 #[.pointer (some ⟨a, 0, none⟩), .pointer (some ⟨b, 0, none⟩), gv] w (MtPost G w (if o = u then some got else none)) := by
  have hop : Pos o := hgp o (ho ▸ List.getElem_mem hv)
  obtain ⟨os, hol, hsl, hor⟩ := hg
  obtain ⟨ao, cap, rfl, hc⟩ := slr_shp hsl
  have hv2 : v < os.length := by omega
  obtain ⟨lb, rfl, hcl⟩ := hc v (by simpa using hv2)
  have hov := hor v hv2 hv
  rw [ho] at hov
  obtain ⟨k, hk, hkr⟩ : ∃ k, os[v] = some k ∧ RTy G k o := by
    cases e : os[v] with
    | none => rw [e] at hov; cases hov
    | some k => rw [e] at hov; cases hov with | some h => exact ⟨k, rfl, h⟩
  have c0 : w.cell? ⟨a, 0, none⟩ = some (.string (bs [])) := cell_of_heap (hw _ _ h1) rfl
  have c1 : w.cell? ⟨a, 1, none⟩ = some (.int .i64 (v : Nat)) := cell_of_heap (hw _ _ h1) rfl
  have cg : w.cell? ⟨lb, v, none⟩ = some (.pointer (some ⟨k, 0, none⟩)) := by rw [hcl w hw]; simp [hk, oV, ptr]
  have q2 : ((bs []).toList == []) = true := (str_c _ _).trans (by decide)
  have hcall := tr_equal hkr hop hb hu w hw
  unfold EqQ at hcall
  have hl2 : (os.map oV).length = got.length := by simp [hol]
  have hgr : GotR G (.slice (some ⟨lb, 0, none⟩) (os.map oV).length cap) got := ⟨os, hol, hsl, hor⟩
  rw [hl2] at hgr ⊢
  have h0i : (0 : Int) ≤ (v : Int) := by omega
  have hvi : (v : Int) < (got.length : Int) := by omega
  obtain ⟨n, hn⟩ : ∃ n, n = got.length := ⟨_, rfl⟩
  rw [← hn] at hgr hvi hlen ⊢
  obtain ⟨rb, hrb⟩ : ∃ rb, rb = decide (o = u) := ⟨_, rfl⟩
  obtain ⟨R, hR⟩ : ∃ R, R = (if o = u then some got else none) := ⟨_, rfl⟩
  have hfin : (rb = true ∧ R = some got) ∨ (rb = false ∧ R = none) := by
    by_cases he : o = u
    · left; simp [hR, hrb, he]
    · right; simp [hR, hrb, he]
  have HF := Lib.hid hfin
  rw [← hR]
  rw [← hrb] at hcall
  have HCALL := Lib.hid hcall; have HG := Lib.hid hgr; have HW := Lib.hid hw
  clear hrb hR hfin
  clear h1 hb hu hgp hv ho hw hop hsl hor hc hv2 hcl hov hkr hcall hl2 hgr hk hol hn
  go_enter Tryd.func16, Tryd.ntmps16
  go_wp2_with fail
  refine HCALL.out.mono ?_
  rintro e w1 ⟨rfl, m, rfl⟩
  go_wp2_with fail
  refine bodyPost_ret (v := .tuple #[.slice (some ⟨lb, 0, none⟩) n cap, .bool rb]) (by simp [results, Tryd.results16, go_sem]) rfl ?_
  refine ⟨Keep.drewN _ _ _, some ⟨lb, 0, none⟩, n, cap, G, Grew.refl _ _, HW.out.keep0 (Keep.drewN _ _ _), ?_⟩
  rcases HF.out with ⟨rfl, rfl⟩ | ⟨rfl, rfl⟩
  · exact ⟨rfl, HG.out⟩
  · rfl
set_option maxRecDepth 100000 in
set_option maxHeartbeats 2000000 in
theorem mat_var_none {G : GH} {a b : Nat} {v : Nat} {u : Ty} {lv : Value} {gv : Value} {got : List (Option Ty)} (h1 : G a = some (tO [] v lv)) (hb : RTy G b u) (hg : GotR G gv got) (hv : v < got.length) (hlen : got.length ≤ 1000) (ho : got[v] = none) (w : World) (hw : Holds G w) :
    Calls Tryd.prog 16 #[.pointer (some ⟨a, 0, none⟩), .pointer (some ⟨b, 0, none⟩), gv] w (MtPost G w (some (got.set v (some u)))) := by
  obtain ⟨is, his, zs0, zs1, zs2⟩ := info_parts info_rty
  obtain ⟨os, hol, hsl, hor⟩ := hg
  obtain ⟨ao, cap, rfl, hc⟩ := slr_shp hsl
  have hv2 : v < os.length := by omega
  obtain ⟨lb, rfl, hcl⟩ := hc v (by simpa using hv2)
  have hov := hor v hv2 hv
  rw [ho] at hov
  have hk : os[v] = none := by
    cases e : os[v] with
    | none => rfl
    | some k => rw [e] at hov; cases hov
  have c0 : w.cell? ⟨a, 0, none⟩ = some (.string (bs [])) := cell_of_heap (hw _ _ h1) rfl
  have c1 : w.cell? ⟨a, 1, none⟩ = some (.int .i64 (v : Nat)) := cell_of_heap (hw _ _ h1) rfl
  have cg : w.cell? ⟨lb, v, none⟩ = some (.pointer none) := by rw [hcl w hw]; simp [hk, oV]
  have q2 : ((bs []).toList == []) = true := (str_c _ _).trans (by decide)
  have hl2 : (os.map oV).length = got.length := by simp [hol]
  have hnews : ∀ j x, (os.map oV)[j]? = some x → w.cell? ((⟨lb, 0, none⟩ : Addr).add j) = some x := fun j x hx => by
    have hj : j < (os.map oV).length := (List.getElem?_eq_some_iff.1 hx).1
    obtain ⟨lb', e, hcj⟩ := hc j hj
    injection e with e; injection e with e
    have := hcj w hw
    rw [← e] at this
    have ha : (⟨lb, 0, none⟩ : Addr).add j = ⟨lb, j, none⟩ := by
      unfold Addr.add
      by_cases h : j = 0
      · subst h; rfl
      · rw [if_neg h]; simp
    rw [ha, this, ← hx, List.getElem?_eq_getElem hj]
  have hone : ∀ x ∈ os.map oV, x.oneCell' = true := fun x hx => by
    obtain ⟨o, -, rfl⟩ := List.mem_map.1 hx
    cases o <;> rfl
  obtain ⟨n, hn⟩ : ∃ n, n = got.length := ⟨_, rfl⟩
  obtain ⟨xs, hxs⟩ : ∃ xs, xs = os.map oV := ⟨_, rfl⟩
  have h0i : (0 : Int) ≤ (v : Int) := by omega
  have hvi : (v : Int) < (n : Int) := by omega
  have hvn : v < n := by omega
  have hnl : n ≤ 1000 := by omega
  rw [← hxs] at hl2 hnews hone ⊢
  rw [← hn] at hl2
  have HN := Lib.hid hnews; have HO := Lib.hid hone; have HL := Lib.hid hl2; have HXS := Lib.hid hxs
  have HFIN : Hid (∀ w4 w5 v4, Keep none' w w5 → w5 = w4 → w5.ownsRow w.heap.size 38 1 v4 n (xs.set v (ptr b)) → ∃ G', Grew G w G' ∧ Holds G' w5 ∧ GotR G' v4 (got.set v (some u))) := Lib.hid (fun w4 w5 v4 k _ own => by
    obtain ⟨G2, s1, s2, s3, s4⟩ := seal_row0 (hw.keep0 k) own (fun k hk => by
      have := (own.lt k hk).1
      exact hw.fresh this)
    refine ⟨G2, ⟨s1, s4⟩, s2, os.set v (some b), by simp [hol], ?_, fun i hi hi2 => ?_⟩
    · rw [hxs] at s3
      have e : (os.map oV).set v (ptr b) = (os.set v (some b)).map oV := by rw [List.map_set]; rfl
      rw [← e]; exact s3
    · rw [List.getElem_set, List.getElem_set]
      by_cases e : v = i
      · rw [if_pos e, if_pos e]; exact .some (hb.sub s1)
      · rw [if_neg e, if_neg e]; exact (hor i (by simpa using hi) (by simpa using hi2)).sub s1)
  have HA : Hid (∀ v4 w4, w4.ownsRow w.heap.size 38 1 v4 (0 + n) ([] ++ xs) → w.grownBy w4 (Value.slice none 0 0).ownBlock → ∃ nb cap4, v4 = .slice (some ⟨nb, 0, none⟩) (0 + n) cap4 ∧ Hid (Keep none' w w4 ∧ w4.ownsRow w.heap.size 38 1 (.slice (some ⟨nb, 0, none⟩) n cap4) n xs) ∧ w4.cell? ⟨a, 1, none⟩ = some (.int .i64 (v : Nat)) ∧ w4.frozen? ⟨nb, v, none⟩ = false ∧ w4.cell? ⟨nb, v, none⟩ = some (xs.getD v .nilIface)) := Lib.hid (fun v4 w4 own4 g4 => by
    obtain ⟨nb, cap4, rfl, hcells⟩ := own_shapeM own4 (by omega)
    have k4 : Keep none' w w4 := Keep.grown g4 (fun k e _ => by cases e)
    rw [List.nil_append] at own4
    rw [Nat.zero_add] at own4 ⊢
    refine ⟨nb, cap4, rfl, Lib.hid ⟨k4, own4⟩, k4.cell_some c1 (fun x => x), own4.frozenAt v, hcells v _ ?_⟩
    have hvx : v < xs.length := by omega
    rw [List.nil_append, List.getElem?_eq_getElem hvx]; simp [hvx])
  have hms : n ≤ maxLen := by unfold maxLen; omega
  clear h1 hb hv ho hw hsl hor hc hv2 hcl hov hk hol hn hlen hl2 hnews hone hxs
  go_enter Tryd.func16, Tryd.ntmps16
  rw [HL.out]
  go_wp2_with (first | (at_builtin; refine wpList_append_own_at _ rfl _ _ 45 rfl w.heap.size 38 is (.pointer none) 1 8 und_rtys his zs0 zs1 zs2 rfl (by decide) (.slice none 0 0) 0 [] rfl (World.ownsRow_nil _ _ _ _) ⟨lb, 0, none⟩ n cap xs rfl (by rw [HL.out]; omega) HN.out HO.out (by unfold maxLen; omega) (by omega) (Nat.le_refl _) ?_; intro v4 w4 own4 g4 _ at4; obtain ⟨nb, cap4, rfl, HS, d1, d2, d3⟩ := HA.out v4 w4 own4 g4))
  have hkk := HS.out
  obtain ⟨k4, o4⟩ := hkk
  obtain ⟨os5, g5⟩ := o4.stored v (ptr b)
  have k5 : Keep none' w (w4.setCell ⟨nb, v, none⟩ (ptr b)) := k4.trans' (Keep.setCell (S := one' nb) _ _ (fun _ => rfl)) (fun _ _ x => x) (fun c hc (e : c = nb) => by
    have := (o4.lt nb rfl).1
    omega)
  obtain ⟨G', f1, f2, f3⟩ := HFIN.out _ _ _ k5 rfl os5
  refine bodyPost_ret (v := .tuple #[.slice (some ⟨nb, 0, none⟩) n cap4, .bool true]) (by simp [results, Tryd.results16, go_sem]) rfl ?_
  exact ⟨k5, some ⟨nb, 0, none⟩, n, cap4, G', f1, f2, rfl, f3⟩
end Go.Proofs.YtabikmkoajdhmaaDoor

set_option linter.unusedVariables false
set_option linter.unusedSimpArgs false
set_option linter.unnecessarySimpa false
namespace Go.Proofs.YtabikmkoajdhmaaDoor
open Go.RowKit

def MtQ (G1 : GH) (a b : Nat) (gv : Value) (r : Option (List (Option Ty))) (w : World) : Prop := Calls Tryd.prog 16 #[.pointer (some ⟨a, 0, none⟩), .pointer (some ⟨b, 0, none⟩), gv] w (MtPost G1 w r)
set_option maxRecDepth 100000 in
set_option maxHeartbeats 4000000 in
theorem mat_con {G1 : GH} {a b : Nat} {t u : Ty} {lv : Value} {ks : List Nat} (h1 : G1 a = some (tO t.rk t.rv lv)) (h2 : SlR G1 lv (ks.map ptr)) (h3 : ks.length = t.rl.length) (hu : RTy G1 b u) (htc : ¬ ∃ v, t = .var v) {gv : Value} {got : List (Option Ty)} (hg : GotR G1 gv got) (hgp : PosG got) (hup : Pos u)
    (ih : ∀ i (hi : i < ks.length) (h : i < t.rl.length), ∀ G2, G1.sub G2 → ∀ kb (b : Ty), RTy G2 kb b → Pos b → ∀ gv got', GotR G2 gv got' → PosG got' → got'.length = got.length → ∀ w, Holds G2 w → MtQ G2 ks[i] kb gv (matchR t.rl[i] b got') w)
    (w : World) (hw : Holds G1 w) : MtQ G1 a b gv (matchR t u got) w := by
  cases hu with
  | @mk _ _ lv2 ks2 g1 g2 g3 g4 =>
  have hkn : ks.length ≤ 2 := by have := rl_len t; omega
  have hkn2 : ks2.length ≤ 2 := by have := rl_len u; omega
  obtain ⟨ao, cap, rfl, hc⟩ := slr_shp h2
  obtain ⟨ao2, cap2, rfl, hc2⟩ := slr_shp g2
  rw [List.length_map] at h1 g1
  have hcon : t.rk ≠ [] := by
    cases t with
    | var v => exact absurd ⟨v, rfl⟩ htc
    | _ => simp [Ty.rk, INT, BOOL, rLIST, rPAIR, FUN]
  have hR := matchR_con htc u got
  obtain ⟨R, hRR⟩ : ∃ R, R = matchR t u got := ⟨_, rfl⟩
  rw [← hRR] at hR ⊢
  obtain ⟨go, gn, gcap, hgv⟩ : ∃ ao n cap, gv = .slice ao n cap := by
    obtain ⟨os, _, hs, _⟩ := hg
    obtain ⟨ao, cap, e, _⟩ := slr_shp hs
    exact ⟨_, _, _, e⟩
  subst hgv
  have c0 : w.cell? ⟨a, 0, none⟩ = some (.string (bs t.rk)) := cell_of_heap (hw _ _ h1) rfl
  have d0 : w.cell? ⟨b, 0, none⟩ = some (.string (bs u.rk)) := cell_of_heap (hw _ _ g1) rfl
  have q0 : ((bs t.rk).toList == []) = false := by rw [str_c, decide_eq_false hcon]
  have q1 : ((bs t.rk).toList == (bs u.rk).toList) = decide (t.rk = u.rk) := str_cc _ _
  have hrl : t.rk = u.rk → ks.length = ks2.length := fun e => by rw [h3, g3]; exact rl_rk e
  have hcs : ∀ G2, G1.sub G2 → ∀ W, Holds G2 W → W.cell? ⟨a, 2, none⟩ = some (.slice ao ks.length cap) ∧ W.cell? ⟨b, 2, none⟩ = some (.slice ao2 ks2.length cap2) := fun G2 hs W hW =>
    ⟨cell_of_heap (hW _ _ (hs _ _ h1)) rfl, cell_of_heap (hW _ _ (hs _ _ g1)) rfl⟩
  have hci : ∀ i (h : i < ks.length), ∃ lb, ao = some ⟨lb, 0, none⟩ ∧ ∀ G2, G1.sub G2 → ∀ W, Holds G2 W → W.cell? ⟨lb, i, none⟩ = some (.pointer (some ⟨ks[i], 0, none⟩)) := fun i h => by
    have hi : i < (ks.map ptr).length := by simpa using h
    rcases h2.sub (GH.sub.refl G1) with ⟨e, e2⟩ | ⟨lb, arr, T, cp, e, e2, e3⟩
    · rw [e2] at hi; cases hi
    · injection e with e4 e5 e6
      exact ⟨lb, e4, fun G2 hs W hW => by
        have := cell_of_heap (hW _ _ (hs _ _ e2)) (e3 i hi)
        rw [this]; simp [ptr]⟩
  have hci2 : ∀ i (h : i < ks2.length), ∃ lb, ao2 = some ⟨lb, 0, none⟩ ∧ ∀ G2, G1.sub G2 → ∀ W, Holds G2 W → W.cell? ⟨lb, i, none⟩ = some (.pointer (some ⟨ks2[i], 0, none⟩)) := fun i h => by
    have hi : i < (ks2.map ptr).length := by simpa using h
    rcases g2.sub (GH.sub.refl G1) with ⟨e, e2⟩ | ⟨lb, arr, T, cp, e, e2, e3⟩
    · rw [e2] at hi; cases hi
    · injection e with e4 e5 e6
      exact ⟨lb, e4, fun G2 hs W hW => by
        have := cell_of_heap (hW _ _ (hs _ _ e2)) (e3 i hi)
        rw [this]; simp [ptr]⟩
  obtain ⟨tk, htk⟩ : ∃ tk, tk = t.rk := ⟨_, rfl⟩
  obtain ⟨uk, huk⟩ : ∃ uk, uk = u.rk := ⟨_, rfl⟩
  rw [← htk, ← huk] at hR
  rw [← htk] at c0 q0 q1 hrl; rw [← huk] at d0 q1 hrl
  unfold MtQ
  by_cases hk : tk = uk
  · rw [if_pos hk] at hR
    rw [decide_eq_true hk] at q1
    have hlen := hrl hk
    obtain ⟨c2, d2⟩ := hcs G1 (GH.sub.refl G1) w hw
    have HW := Lib.hid hw; have HCI := Lib.hid hci; have HCI2 := Lib.hid hci2; have H3 := Lib.hid h3; have G3 := Lib.hid g3; have IH := Lib.hid ih; have G4 := Lib.hid g4; have HCS := Lib.hid hcs; have HR := Lib.hid hR; have HG := Lib.hid hg; have HGP := Lib.hid hgp; have HUP := Lib.hid hup
    clear h1 h2 h3 g1 g2 g3 g4 ih hw htc hc hc2 hcs hci hci2 htk huk hrl hk hR hRR hg hgp hup hcon
    go_enter Tryd.func16, Tryd.ntmps16
    go_wp2_with fail
    go_quiet (fail)
    go_wp2_with fail
    have HS0 : Hid (Holds G1 (w.drewN nq)) := Lib.hid (HW.out.keep0 (Keep.drewN _ _ _))
    obtain ⟨c2', d2'⟩ := HCS.out G1 (GH.sub.refl G1) _ HS0.out
    go_wp2_with fail
    clear c0 d0 c2 d2 q0 q1 c2' d2'
    go_loopg [2, 59] ks.length (fun gz s2 s59 wr => ∃ (i : Nat) (xo : Option Addr) (xn xc : Nat) (got' : List (Option Ty)) (G' : GH), i ≤ ks.length ∧ Hid (gz = ks.length - i) ∧ s59 = .int .i64 i ∧ s2 = .slice xo xn xc ∧ Hid (Keep none' w wr ∧ Grew G1 w G' ∧ Holds G' wr ∧ GotR G' (.slice xo xn xc) got' ∧ PosG got' ∧ got'.length = got.length) ∧ Hid (matL (t.rl.drop i) (u.rl.drop i) got' = R))
    case atStart => exact ⟨0, go, gn, gcap, got, G1, by omega, Lib.hid rfl, rfl, rfl, Lib.hid ⟨Keep.drewN _ _ _, Grew.refl _ _, HS0.out, HG.out, HGP.out, rfl⟩, Lib.hid HR.out.symm⟩
    case round =>
      obtain ⟨i, xo, xn, xc, got', G', hi, HM, rfl, rfl, HI, HQ⟩ := hrel
      have h0i : (0 : Int) ≤ (i : Int) := by omega
      by_cases hlt : i < ks.length
      · have hii : (i : Int) < (ks.length : Int) := by omega
        have hlk : i < t.rl.length := by rw [← H3.out]; exact hlt
        have hlt2 : i < ks2.length := by omega
        have hlk2 : i < u.rl.length := by rw [← G3.out]; exact hlt2
        obtain ⟨lb, rfl, hcl⟩ := HCI.out i hlt
        obtain ⟨lb2, rfl, hcl2⟩ := HCI2.out i hlt2
        obtain ⟨ik, ig, ih, io, ip, il⟩ := HI.out
        have hd : Holds G' wr.drew := ih.keep0 (Keep.drew _ _)
        have hm := HQ.out
        rw [matL_cons hlk hlk2] at hm
        have hcall := IH.out i hlt hlk G' ig.sub ks2[i] u.rl[i] ((G4.out i hlt2 hlk2).sub ig.sub) (pos_kid HUP.out hlk2) (.slice xo xn xc) got' io ip il wr.drew hd
        have hpos := fun g2 (h : matchR t.rl[i] u.rl[i] got' = some g2) => matchR_pos _ _ _ _ ip (pos_kid HUP.out hlk2) h
        have S0 : wr.drew.cell? ⟨a, 2, none⟩ = some (.slice (some ⟨lb, 0, none⟩) ks.length cap) ∧ wr.drew.cell? ⟨lb, i, none⟩ = some (.pointer (some ⟨ks[i], 0, none⟩)) ∧ wr.drew.cell? ⟨b, 2, none⟩ = some (.slice (some ⟨lb2, 0, none⟩) ks.length cap2) ∧ wr.drew.cell? ⟨lb2, i, none⟩ = some (.pointer (some ⟨ks2[i], 0, none⟩)) := ⟨(HCS.out G' ig.sub _ hd).1, hcl G' ig.sub _ hd, by rw [(HCS.out G' ig.sub _ hd).2, hlen], hcl2 G' ig.sub _ hd⟩
        have hS : ∀ G2 W, G1.sub G2 → Holds G2 W → W.cell? ⟨a, 2, none⟩ = some (.slice (some ⟨lb, 0, none⟩) ks.length cap) ∧ W.cell? ⟨lb, i, none⟩ = some (.pointer (some ⟨ks[i], 0, none⟩)) ∧ W.cell? ⟨b, 2, none⟩ = some (.slice (some ⟨lb2, 0, none⟩) ks.length cap2) ∧ W.cell? ⟨lb2, i, none⟩ = some (.pointer (some ⟨ks2[i], 0, none⟩)) := fun G2 W hs hW => ⟨(HCS.out G2 hs _ hW).1, hcl G2 hs _ hW, by rw [(HCS.out G2 hs _ hW).2, hlen], hcl2 G2 hs _ hW⟩
        obtain ⟨ki, hki⟩ : ∃ ki, ki = ks[i] := ⟨_, rfl⟩
        obtain ⟨ki2, hki2⟩ : ∃ ki2, ki2 = ks2[i] := ⟨_, rfl⟩
        obtain ⟨ri, hri⟩ : ∃ ri, ri = matchR t.rl[i] u.rl[i] got' := ⟨_, rfl⟩
        rw [← hki, ← hki2] at S0 hcall hS; rw [← hri] at hcall hm hpos
        unfold MtQ at hcall
        have HCALL := Lib.hid hcall; have HS := Lib.hid hS; have HMM := Lib.hid hm; have HP := Lib.hid hpos
        clear hcall hki hki2 hcl hcl2 hS hm hpos ik ig ih io ip il hd hri hlk hlk2 hlt2
        go_wp2_with fail
        refine wp_region_float (fun w' => w'.cell? ⟨a, 2, none⟩ = some (.slice (some ⟨lb, 0, none⟩) ks.length cap) ∧ w'.cell? ⟨lb, i, none⟩ = some (.pointer (some ⟨ki, 0, none⟩)) ∧ w'.cell? ⟨b, 2, none⟩ = some (.slice (some ⟨lb2, 0, none⟩) ks.length cap2) ∧ w'.cell? ⟨lb2, i, none⟩ = some (.pointer (some ⟨ki2, 0, none⟩))) [0, 1, 2, 4, 5, 7, 8, 9, 11, 12, 14, 16, 17, 18] [3, 6, 10, 13] (by kernel_rfl) ?_
        (refine float0 (i := 0) (v := ?_) rfl (by kernel_rfl) (by kernel_rfl) (by kernel_rfl) (by kernel_rfl) (fun _ _ _ h => h) (by rfl) ?_ ?_); rotate_left
        (intro wF; go_simp; try with_reducible rfl)
        (try simp only [Act.put, List.setIfInBounds_toArray, List.set_cons_zero, List.set_cons_succ])
        (refine float0 (i := 1) (v := ?_) rfl (by kernel_rfl) (by kernel_rfl) (by kernel_rfl) (by kernel_rfl) (fun _ _ _ h => h) (by rfl) ?_ ?_); rotate_left
        (intro wF; go_simp; try with_reducible rfl)
        (try simp only [Act.put, List.setIfInBounds_toArray, List.set_cons_zero, List.set_cons_succ])
        (refine float0 (i := 2) (v := ?_) rfl (by kernel_rfl) (by kernel_rfl) (by kernel_rfl) (by kernel_rfl) (fun _ _ _ h => h) (by rfl) ?_ ?_); rotate_left
        (intro wF; go_simp; try with_reducible rfl)
        (try simp only [Act.put, List.setIfInBounds_toArray, List.set_cons_zero, List.set_cons_succ])
        (refine floatS (i := 3) (v := ?_) rfl (by kernel_rfl) (by kernel_rfl) (by kernel_rfl) (by kernel_rfl) (fun _ _ _ h => h) (by assumption) (by rfl) ?_ ?_); rotate_left
        (intro wF hF; (try dsimp only at hF); go_simp; try with_reducible rfl)
        (try simp only [Act.put, List.setIfInBounds_toArray, List.set_cons_zero, List.set_cons_succ])
        (refine float0 (i := 4) (v := ?_) rfl (by kernel_rfl) (by kernel_rfl) (by kernel_rfl) (by kernel_rfl) (fun _ _ _ h => h) (by rfl) ?_ ?_); rotate_left
        (intro wF; go_simp; try with_reducible rfl)
        (try simp only [Act.put, List.setIfInBounds_toArray, List.set_cons_zero, List.set_cons_succ])
        (refine float0 (i := 5) (v := ?_) rfl (by kernel_rfl) (by kernel_rfl) (by kernel_rfl) (by kernel_rfl) (fun _ _ _ h => h) (by rfl) ?_ ?_); rotate_left
        (intro wF; go_simp; try with_reducible rfl)
        (try simp only [Act.put, List.setIfInBounds_toArray, List.set_cons_zero, List.set_cons_succ])
        (refine floatS (i := 6) (v := ?_) rfl (by kernel_rfl) (by kernel_rfl) (by kernel_rfl) (by kernel_rfl) (fun _ _ _ h => h) (by assumption) (by rfl) ?_ ?_); rotate_left
        (intro wF hF; (try dsimp only at hF); go_simp; try with_reducible rfl)
        (try simp only [Act.put, List.setIfInBounds_toArray, List.set_cons_zero, List.set_cons_succ])
        (refine float0 (i := 7) (v := ?_) rfl (by kernel_rfl) (by kernel_rfl) (by kernel_rfl) (by kernel_rfl) (fun _ _ _ h => h) (by rfl) ?_ ?_); rotate_left
        (intro wF; go_simp; try with_reducible rfl)
        (try simp only [Act.put, List.setIfInBounds_toArray, List.set_cons_zero, List.set_cons_succ])
        (refine float0 (i := 8) (v := ?_) rfl (by kernel_rfl) (by kernel_rfl) (by kernel_rfl) (by kernel_rfl) (fun _ _ _ h => h) (by rfl) ?_ ?_); rotate_left
        (intro wF; go_simp; try with_reducible rfl)
        (try simp only [Act.put, List.setIfInBounds_toArray, List.set_cons_zero, List.set_cons_succ])
        (refine float0 (i := 9) (v := ?_) rfl (by kernel_rfl) (by kernel_rfl) (by kernel_rfl) (by kernel_rfl) (fun _ _ _ h => h) (by rfl) ?_ ?_); rotate_left
        (intro wF; go_simp; try with_reducible rfl)
        (try simp only [Act.put, List.setIfInBounds_toArray, List.set_cons_zero, List.set_cons_succ])
        (refine floatS (i := 10) (v := ?_) rfl (by kernel_rfl) (by kernel_rfl) (by kernel_rfl) (by kernel_rfl) (fun _ _ _ h => h) (by assumption) (by rfl) ?_ ?_); rotate_left
        (intro wF hF; (try dsimp only at hF); go_simp; try with_reducible rfl)
        (try simp only [Act.put, List.setIfInBounds_toArray, List.set_cons_zero, List.set_cons_succ])
        (refine float0 (i := 11) (v := ?_) rfl (by kernel_rfl) (by kernel_rfl) (by kernel_rfl) (by kernel_rfl) (fun _ _ _ h => h) (by rfl) ?_ ?_); rotate_left
        (intro wF; go_simp; try with_reducible rfl)
        (try simp only [Act.put, List.setIfInBounds_toArray, List.set_cons_zero, List.set_cons_succ])
        (refine float0 (i := 12) (v := ?_) rfl (by kernel_rfl) (by kernel_rfl) (by kernel_rfl) (by kernel_rfl) (fun _ _ _ h => h) (by rfl) ?_ ?_); rotate_left
        (intro wF; go_simp; try with_reducible rfl)
        (try simp only [Act.put, List.setIfInBounds_toArray, List.set_cons_zero, List.set_cons_succ])
        (refine floatS (i := 13) (v := ?_) rfl (by kernel_rfl) (by kernel_rfl) (by kernel_rfl) (by kernel_rfl) (fun _ _ _ h => h) (by assumption) (by rfl) ?_ ?_); rotate_left
        (intro wF hF; (try dsimp only at hF); go_simp; try with_reducible rfl)
        (try simp only [Act.put, List.setIfInBounds_toArray, List.set_cons_zero, List.set_cons_succ])
        (refine float0 (i := 14) (v := ?_) rfl (by kernel_rfl) (by kernel_rfl) (by kernel_rfl) (by kernel_rfl) (fun _ _ _ h => h) (by rfl) ?_ ?_); rotate_left
        (intro wF; go_simp; try with_reducible rfl)
        (try simp only [Act.put, List.setIfInBounds_toArray, List.set_cons_zero, List.set_cons_succ])
        (refine floatM (i := 15) rfl (by kernel_rfl) (by kernel_rfl) (fun K hK => ?_)); go_simp
        refine HCALL.out.mono ?_
        cases ri with
        | none =>
          rintro e w2 ⟨k2, yo, yn, yc, G2, g2, h2, rfl⟩
          have HK2 := Lib.hid (((HI.out.1).trans (Keep.drew _ _)).trans k2)
          have hg2 : Grew G1 w G2 := HI.out.2.1.trans ((HI.out.1).trans (Keep.drew _ _)) g2
          have HG2 := Lib.hid hg2; have HH2 := Lib.hid h2
          clear k2 g2 h2 hg2
          go_wp2_with fail
          refine hK.out _ _ (fun _ => HS.out _ _ HG2.out.sub HH2.out) ?_
          clear hK K
          (try simp only [Act.put, List.setIfInBounds_toArray, List.set_cons_zero, List.set_cons_succ])
          (refine float0 (i := 16) (v := ?_) rfl (by kernel_rfl) (by kernel_rfl) (by kernel_rfl) (by kernel_rfl) (fun _ _ _ h => h) (by rfl) ?_ ?_); rotate_left
          (intro wF; go_simp; try with_reducible rfl)
          (try simp only [Act.put, List.setIfInBounds_toArray, List.set_cons_zero, List.set_cons_succ])
          (refine float0 (i := 17) (v := ?_) rfl (by kernel_rfl) (by kernel_rfl) (by kernel_rfl) (by kernel_rfl) (fun _ _ _ h => h) (by rfl) ?_ ?_); rotate_left
          (intro wF; go_simp; try with_reducible rfl)
          (try simp only [Act.put, List.setIfInBounds_toArray, List.set_cons_zero, List.set_cons_succ])
          (refine float0 (i := 18) (v := ?_) rfl (by kernel_rfl) (by kernel_rfl) (by kernel_rfl) (by kernel_rfl) (fun _ _ _ h => h) (by rfl) ?_ ?_); rotate_left
          (intro wF; go_simp; try with_reducible rfl)
          (try simp only [Act.put, List.setIfInBounds_toArray, List.set_cons_zero, List.set_cons_succ])
          (refine floatT (l := _) (k := 19) rfl rfl (by kernel_rfl) ?_)
          go_wp2_with fail
          refine bodyPost_ret (v := .tuple #[.slice xo xn xc, .bool false]) (by simp [results, Tryd.results16, go_sem]) rfl ?_
          have hr : R = none := HMM.out.symm
          rw [hr]
          exact ⟨HK2.out, xo, xn, xc, G2, HG2.out, HH2.out, rfl⟩
        | some g3 =>
          rintro e w2 ⟨k2, yo, yn, yc, G2, g2, h2, rfl, o2⟩
          have HK2 := Lib.hid (((HI.out.1).trans (Keep.drew _ _)).trans k2)
          have hg2 : Grew G1 w G2 := HI.out.2.1.trans ((HI.out.1).trans (Keep.drew _ _)) g2
          have HG2 := Lib.hid hg2; have HH2 := Lib.hid h2; have HO2 := Lib.hid o2
          clear k2 g2 h2 hg2 o2
          go_wp2_with fail
          refine hK.out _ _ (fun _ => HS.out _ _ HG2.out.sub HH2.out) ?_
          clear hK K
          (try simp only [Act.put, List.setIfInBounds_toArray, List.set_cons_zero, List.set_cons_succ])
          (refine float0 (i := 16) (v := ?_) rfl (by kernel_rfl) (by kernel_rfl) (by kernel_rfl) (by kernel_rfl) (fun _ _ _ h => h) (by rfl) ?_ ?_); rotate_left
          (intro wF; go_simp; try with_reducible rfl)
          (try simp only [Act.put, List.setIfInBounds_toArray, List.set_cons_zero, List.set_cons_succ])
          (refine float0 (i := 17) (v := ?_) rfl (by kernel_rfl) (by kernel_rfl) (by kernel_rfl) (by kernel_rfl) (fun _ _ _ h => h) (by rfl) ?_ ?_); rotate_left
          (intro wF; go_simp; try with_reducible rfl)
          (try simp only [Act.put, List.setIfInBounds_toArray, List.set_cons_zero, List.set_cons_succ])
          (refine float0 (i := 18) (v := ?_) rfl (by kernel_rfl) (by kernel_rfl) (by kernel_rfl) (by kernel_rfl) (fun _ _ _ h => h) (by rfl) ?_ ?_); rotate_left
          (intro wF; go_simp; try with_reducible rfl)
          (try simp only [Act.put, List.setIfInBounds_toArray, List.set_cons_zero, List.set_cons_succ])
          (refine floatT (l := _) (k := 19) rfl rfl (by kernel_rfl) ?_)
          go_wp2_with fail
          go_roundg (ks.length - (i + 1))
          case measure => have := HM.out; omega
          case rel =>
            have hpp := HP.out g3 rfl
            exact ⟨i + 1, yo, yn, yc, g3, G2, by omega, Lib.hid rfl, by go_num, rfl, Lib.hid ⟨HK2.out, HG2.out, HH2.out, HO2.out, hpp.1, hpp.2.trans HI.out.2.2.2.2.2⟩, Lib.hid HMM.out⟩
      · have hie : i = ks.length := by omega
        subst hie
        have hq := HQ.out
        rw [List.drop_of_length_le (by rw [← H3.out]; omega)] at hq
        have hq2 : R = some got' := by
          rw [← hq]
          cases u.rl.drop ks.length <;> rfl
        have HQQ := Lib.hid hq2
        clear hq hq2
        go_wp2_with fail
        refine bodyPost_ret (v := .tuple #[.slice xo xn xc, .bool true]) (by simp [results, Tryd.results16, go_sem]) rfl ?_
        obtain ⟨ik, ig, ih, io, ip, il⟩ := HI.out
        rw [HQQ.out]
        exact ⟨ik, xo, xn, xc, G', ig, ih, rfl, io⟩
  · rw [if_neg hk] at hR
    rw [decide_eq_false hk] at q1
    have HW := Lib.hid hw
    subst hR
    clear h1 h2 h3 g1 g2 g3 g4 ih hw htc hc hc2 hcs hci hci2 htk huk hrl hk hRR hg hgp hup hcon
    go_enter Tryd.func16, Tryd.ntmps16
    go_wp2_with fail
    go_quiet (fail)
    go_wp2_with fail
    refine bodyPost_ret (v := .tuple #[.slice go gn gcap, .bool false]) (by simp [results, Tryd.results16, go_sem]) rfl ?_
    exact ⟨Keep.drewN _ _ _, go, gn, gcap, G1, Grew.refl _ _, HW.out.keep0 (Keep.drewN _ _ _), rfl⟩
theorem tr_matched {G : GH} {a : Nat} {t : Ty} (h : RTy G a t) : ∀ G1, G.sub G1 → ∀ (b : Nat) (u : Ty), RTy G1 b u → Pos u → ∀ gv got, GotR G1 gv got → PosG got → (∀ v, t.has v = true → 1 ≤ v ∧ v ≤ got.length) → got.length ≤ 1000 → ∀ w, Holds G1 w → MtQ G1 a b gv (matchR t u got) w := by
  induction h with
  | @mk a t lv ks h1 h2 h3 h4 ih =>
    intro G1 hs b u hu hup gv got hg hgp hb hl w hw
    by_cases hv : ∃ v, t = .var v
    · obtain ⟨v, rfl⟩ := hv
      have hbv := hb v (by simp [Ty.has])
      have hvl : v - 1 < got.length := by omega
      unfold MtQ
      simp only [matchR]
      rw [List.getElem?_eq_getElem hvl]
      cases ho : got[v - 1] with
      | none => exact mat_var_none (v := v - 1) (hs _ _ h1) hu hg hvl hl ho w hw
      | some o => exact mat_var_some (v := v - 1) (hs _ _ h1) hu hup hg hgp hvl hl ho w hw
    · exact mat_con (hs _ _ h1) (h2.sub hs) h3 hu hv hg hgp hup (fun i hi h G2 hs2 kb b' hkb hpb gv' got' hg' hp' hl' W hW => ih i hi h G2 (hs.trans hs2) kb b' hkb hpb gv' got' hg' hp' (fun v hv => by rw [hl']; exact hb v (has_kid h hv)) (by omega) W hW) w hw
end Go.Proofs.YtabikmkoajdhmaaDoor

set_option linter.unusedVariables false
set_option linter.unusedSimpArgs false
set_option linter.unnecessarySimpa false
namespace Go.Proofs.YtabikmkoajdhmaaDoor

def shR (d : Nat) : Except Nat (Ty × TS × List Tok) → Except Nat (Ty × TS × List Tok)
  | .ok (t, st, l) => .ok (t.mapv (· + d), st.sh d, l)
  | .error p => .error p
def BkOk (d : Nat) (f : TS → List Tok → Res (Ty × TS × List Tok)) : Prop := ∀ st l R, f (st.sh d) l = some R → ∃ R0, f st l = some R0 ∧ R = shR d R0
theorem want_ne (k : TK) (l : List Tok) : ∃ r, want k l = some r := by unfold want; split <;> exact ⟨_, rfl⟩
mutual
theorem whole_bk (d : Nat) : ∀ k : Nat, BkOk d (qWhole k)
  | 0 => fun st l R h => by simp [qWhole] at h
  | k + 1 => fun st l R h => by
    simp only [qWhole] at h ⊢
    cases h1 : qOne k (st.sh d) l with
    | none => rw [h1] at h; cases h
    | some r1 =>
      obtain ⟨r0, e1, rfl⟩ := one_bk d k _ _ _ h1
      rw [h1] at h; rw [e1]
      cases r0 with
      | error p => simp only [shR, Res.bind, Option.some.injEq] at h; subst h; exact ⟨_, rfl, rfl⟩
      | ok v =>
        obtain ⟨t, s1, l1⟩ := v
        simp only [shR, Res.bind] at h ⊢
        split at h
        · rename_i ha
          rw [if_pos ha]
          cases h2 : qWhole k (s1.sh d) (adv l1) with
          | none => rw [h2] at h; cases h
          | some r2 =>
            obtain ⟨r3, e2, rfl⟩ := whole_bk d k _ _ _ h2
            rw [h2] at h; rw [e2]
            cases r3 with
            | error p => simp only [shR, Option.some.injEq] at h; subst h; exact ⟨_, rfl, rfl⟩
            | ok v =>
              obtain ⟨u, s2, l2⟩ := v
              simp only [shR, Option.some.injEq] at h; subst h
              exact ⟨_, rfl, rfl⟩
        · rename_i ha
          rw [if_neg ha]
          simp only [Option.some.injEq] at h; subst h
          exact ⟨_, rfl, rfl⟩
theorem one_bk (d : Nat) : ∀ k : Nat, BkOk d (qOne k)
  | 0 => fun st l R h => by simp [qOne] at h
  | k + 1 => fun st l R h => by
    simp only [qOne] at h ⊢
    by_cases a1 : (hd l).kind = .kw INT
    · rw [if_pos a1] at h ⊢
      simp only [Option.some.injEq] at h; subst h
      exact ⟨_, rfl, rfl⟩
    rw [if_neg a1] at h ⊢
    by_cases a2 : (hd l).kind = .kw BOOL
    · rw [if_pos a2] at h ⊢
      simp only [Option.some.injEq] at h; subst h
      exact ⟨_, rfl, rfl⟩
    rw [if_neg a2] at h ⊢
    by_cases a3 : (hd l).kind = .kw LB
    · rw [if_pos a3] at h ⊢
      cases h1 : qWhole k (st.sh d) (adv l) with
      | none => rw [h1] at h; cases h
      | some r1 =>
        obtain ⟨r0, e1, rfl⟩ := whole_bk d k _ _ _ h1
        rw [h1] at h; rw [e1]
        cases r0 with
        | error p => simp only [shR, Res.bind, Option.some.injEq] at h; subst h; exact ⟨_, rfl, rfl⟩
        | ok v =>
          obtain ⟨t, s1, l1⟩ := v
          obtain ⟨w, hw⟩ := want_ne (.kw RB) l1
          simp only [shR, Res.bind, hw] at h ⊢
          cases w with
          | error p => simp only [Option.some.injEq] at h; subst h; exact ⟨_, rfl, rfl⟩
          | ok v => simp only [Option.some.injEq] at h; subst h; exact ⟨_, rfl, rfl⟩
    rw [if_neg a3] at h ⊢
    by_cases a4 : (hd l).kind = .kw LP
    · rw [if_pos a4] at h ⊢
      cases h1 : qWhole k (st.sh d) (adv l) with
      | none => rw [h1] at h; cases h
      | some r1 =>
        obtain ⟨r0, e1, rfl⟩ := whole_bk d k _ _ _ h1
        rw [h1] at h; rw [e1]
        cases r0 with
        | error p => simp only [shR, Res.bind, Option.some.injEq] at h; subst h; exact ⟨_, rfl, rfl⟩
        | ok v =>
          obtain ⟨t, s1, l1⟩ := v
          simp only [shR, Res.bind] at h ⊢
          by_cases a5 : (hd l1).kind = .kw COMMA
          · rw [if_pos a5] at h ⊢
            cases h2 : qWhole k (s1.sh d) (adv l1) with
            | none => rw [h2] at h; cases h
            | some r2 =>
              obtain ⟨r3, e2, rfl⟩ := whole_bk d k _ _ _ h2
              rw [h2] at h; rw [e2]
              cases r3 with
              | error p => simp only [shR, Option.some.injEq] at h; subst h; exact ⟨_, rfl, rfl⟩
              | ok v =>
                obtain ⟨u, s2, l2⟩ := v
                obtain ⟨w, hw⟩ := want_ne (.kw RP) l2
                simp only [shR, hw] at h ⊢
                cases w with
                | error p => simp only [Option.some.injEq] at h; subst h; exact ⟨_, rfl, rfl⟩
                | ok v => simp only [Option.some.injEq] at h; subst h; exact ⟨_, rfl, rfl⟩
          · rw [if_neg a5] at h ⊢
            obtain ⟨w, hw⟩ := want_ne (.kw RP) l1
            simp only [hw] at h ⊢
            cases w with
            | error p => simp only [Option.some.injEq] at h; subst h; exact ⟨_, rfl, rfl⟩
            | ok v => simp only [Option.some.injEq] at h; subst h; exact ⟨_, rfl, rfl⟩
    rw [if_neg a4] at h ⊢
    obtain ⟨w, hw⟩ := want_ne .name l
    simp only [hw, Res.bind] at h ⊢
    cases w with
    | error p => simp only [Option.some.injEq] at h; subst h; exact ⟨_, rfl, rfl⟩
    | ok v =>
      obtain ⟨x, l1⟩ := v
      simp only [TS.sh, look_sh] at h ⊢
      cases hl : st.m.lookup x with
      | some v =>
        simp only [hl, Option.map_some, Option.some.injEq] at h; subst h
        exact ⟨_, rfl, rfl⟩
      | none =>
        simp only [hl, Option.map_none] at h
        by_cases hn : st.n + d < 1000000000
        · have hlt : st.n < 1000000000 := by omega
          simp only [hn, if_true, Option.some.injEq] at h; subst h
          simp only [hlt, if_true]
          exact ⟨_, rfl, by simp [shR, TS.sh, Ty.mapv, Nat.add_right_comm]⟩
        · simp only [hn, if_false] at h; cases h
end
theorem readTy_bad {s : Str} {f : Flt} (h : readTy s 0 = some (.error f)) {d : Nat} (hd' : d ≤ 100000) : readTy s d = some (.error f) := by
  cases hr : readTy s d with
  | none => exact absurd hr (readTy_total s d hd')
  | some R =>
    unfold readTy at h hr
    split at h
    · rename_i hl
      rw [if_pos hl] at hr
      rw [← hr]; exact h
    · rename_i hl
      rw [if_neg hl] at hr
      have e0 : TS.sh d ⟨[], 0⟩ = ⟨[], d⟩ := by simp [TS.sh]
      cases hq : qWhole readFuel ⟨[], d⟩ (toks kindsB s 0) with
      | none => rw [hq] at hr; cases hr
      | some R1 =>
        obtain ⟨R0, e1, rfl⟩ := whole_bk d readFuel ⟨[], 0⟩ _ _ (e0 ▸ hq)
        rw [hq] at hr
        rw [e1] at h
        cases R0 with
        | error p =>
          simp only [shR, Res.bind] at h hr
          rw [← hr]; exact h
        | ok v =>
          obtain ⟨t, s1, l1⟩ := v
          obtain ⟨w, hw⟩ := want_ne .fin l1
          simp only [shR, Res.bind, hw] at h hr
          cases w with
          | error p => rw [← hr]; exact h
          | ok v =>
            simp only [Ty.mapv_size] at h hr
            split at h
            · rename_i hz
              rw [if_pos hz] at hr
              rw [← hr]; exact h
            · cases h
/-- What infer.Instance says if one of the two texts is wrong. -/
theorem inst_bad1 {g s : Str} {f : Flt} (h : readTy g 0 = some (.error f)) : instF g s = some (.error f) := by
  unfold instF; rw [h]
theorem inst_bad2 {g s : Str} {a : Ty} {st : TS} {f : Flt} (hg : readTy g 0 = some (.ok (a, st))) (h : readTy s 0 = some (.error f)) : instF g s = some (.error f) := by
  have hn := readTy_n hg
  unfold instF; rw [hg]; simp only
  rw [readTy_bad h (by omega)]
end Go.Proofs.YtabikmkoajdhmaaDoor

set_option linter.unusedVariables false
set_option linter.unusedSimpArgs false
set_option linter.unnecessarySimpa false
namespace Go.Proofs.YtabikmkoajdhmaaDoor
open Go.RowKit

theorem matchR_all (P : Ty → Prop) (hk : ∀ t i (h : i < t.rl.length), P t → P t.rl[i]) : ∀ (a b : Ty) (got got' : List (Option Ty)), (∀ t, some t ∈ got → P t) → P b → matchR a b got = some got' → ∀ t, some t ∈ got' → P t
  | .var v, b, got, got', hg, hb, h => by
    simp only [matchR] at h
    split at h
    · split at h
      · injection h with h; subst h; exact hg
      · cases h
    · injection h with h; subst h
      intro t ht
      rcases List.mem_or_eq_of_mem_set ht with h1 | h1
      · exact hg t h1
      · injection h1 with h1; rw [h1]; exact hb
  | .int, b, got, got', hg, hb, h => by
    cases b <;> simp only [matchR] at h <;> first | (cases h; done) | (injection h with h; subst h; exact hg)
  | .bool, b, got, got', hg, hb, h => by
    cases b <;> simp only [matchR] at h <;> first | (cases h; done) | (injection h with h; subst h; exact hg)
  | .list a, b, got, got', hg, hb, h => by
    cases b with
    | list c => simp only [matchR] at h; exact matchR_all P hk a _ _ _ hg (hk _ 0 (by simp [Ty.rl]) hb) h
    | _ => simp only [matchR] at h; cases h
  | .pair a a', b, got, got', hg, hb, h => by
    cases b with
    | pair c c' =>
      simp only [matchR] at h
      obtain ⟨g1, h1, h2⟩ := Option.bind_eq_some_iff.1 h
      exact matchR_all P hk a' _ _ _ (matchR_all P hk a _ _ _ hg (hk (.pair c c') 0 (by simp [Ty.rl]) hb) h1) (hk (.pair c c') 1 (by simp [Ty.rl]) hb) h2
    | _ => simp only [matchR] at h; cases h
  | .fn a a', b, got, got', hg, hb, h => by
    cases b with
    | fn c c' =>
      simp only [matchR] at h
      obtain ⟨g1, h1, h2⟩ := Option.bind_eq_some_iff.1 h
      exact matchR_all P hk a' _ _ _ (matchR_all P hk a _ _ _ hg (hk (.fn c c') 0 (by simp [Ty.rl]) hb) h1) (hk (.fn c c') 1 (by simp [Ty.rl]) hb) h2
    | _ => simp only [matchR] at h; cases h
theorem size_kid {t : Ty} {i : Nat} (h : i < t.rl.length) : t.rl[i].size ≤ t.size := by
  have h1 := rsize_kids t
  have h2 := sumL_take (l := t.rl.map Ty.size) (i := i) (by simpa using h)
  have h3 := sumL_take_le (t.rl.map Ty.size) (i + 1)
  simp only [List.getElem_map] at h2
  omega
theorem inst_tot (g s : Str) : ∃ r, instF g s = some r := by
  unfold instF
  cases h : readTy g 0 with
  | none => exact absurd h (readTy_total g 0 (by omega))
  | some r =>
    rcases r with f | ⟨a, st⟩
    · exact ⟨_, rfl⟩
    · have hn := readTy_n h
      simp only
      cases h2 : readTy s st.n with
      | none => exact absurd h2 (readTy_total s st.n (by omega))
      | some r2 =>
        rcases r2 with f | ⟨b, st2⟩
        · exact ⟨_, rfl⟩
        · simp only
          split <;> exact ⟨_, rfl⟩
theorem ins_len (m : List (Str × Str)) : (instN m).length = m.length := by unfold instN sortS; simp
theorem ins_mem (m : List (Str × Str)) (x : Str) : x ∈ instN m ↔ x ∈ m.map (·.1) := by unfold instN sortS; exact (List.mergeSort_perm _ _).mem_iff
theorem lk_mem {x y : Str} : ∀ {m : List (Str × Str)}, m.lookup x = some y → x ∈ m.map (·.1)
  | [], h => by cases h
  | (a, b) :: r, h => by
    rw [List.lookup_cons] at h
    split at h
    · rename_i e; simp at e; simp [e]
    · exact List.mem_cons_of_mem _ (lk_mem h)
theorem ins_up (m : List (Str × Str)) (hn : (m.map (·.1)).Nodup) (i : Nat) (h : i + 1 < (instN m).length) : (instN m)[i] < (instN m)[i + 1] := by
  have hs : (instN m).Pairwise (fun x y => decide (x ≤ y) = true) := by
    unfold instN sortS
    exact List.pairwise_mergeSort (fun a b c h1 h2 => by simp only [decide_eq_true_eq] at *; exact List.le_trans h1 h2) (fun a b => by simp only [Bool.or_eq_true, decide_eq_true_eq]; exact List.le_total a b) _
  have hd : (instN m).Nodup := by
    unfold instN sortS
    exact (List.mergeSort_perm _ _).nodup_iff.2 hn
  have h1 := List.pairwise_iff_getElem.1 hs i (i + 1) (by omega) h (by omega)
  have h2 := List.pairwise_iff_getElem.1 hd i (i + 1) (by omega) h (by omega)
  simp only [decide_eq_true_eq] at h1
  rcases List.le_iff_lt_or_eq.1 h1 with h3 | h3
  · exact h3
  · exact absurd h3 h2
def SpP (N : Nat) (t : Ty) : Prop := (∀ v, t.has v = true → 1 ≤ v ∧ v ≤ N) ∧ t.size ≤ 120
theorem inst_law {g s : Str} {a b : Ty} {st sb : TS} (hg : readTy g 0 = some (.ok (a, st))) (hs : readTy s 0 = some (.ok (b, sb))) {got : List (Option Ty)} (hm : matchR a b (List.replicate st.n none) = some got) :
    ∃ m, instF g s = some (.ok m) ∧ got.length = st.m.length ∧ (instN m).length = st.m.length ∧ (instT m).length = st.m.length ∧ (∀ i (h : i + 1 < (instN m).length), (instN m)[i] < (instN m)[i + 1]) ∧
      ∀ k (h : k < st.m.length), ∃ o, got[k]? = some (some o) ∧ SpP sb.m.length o ∧ (st.m[k]).1 ∈ instN m ∧ ∀ i (hi : i < (instN m).length), (instN m)[i] = (st.m[k]).1 → (instT m)[i]? = some (shownT (nmG (sb.m.map (·.1))) o) := by
  have hr := inst_ref hg hs
  rw [hm] at hr
  simp only at hr
  obtain ⟨hgl, m, h1, h2, h3⟩ := hr
  obtain ⟨w1, -⟩ := readTy_w hg
  obtain ⟨w2, -⟩ := readTy_w hs
  have hnd := (inst_m h1).1
  have hil := ins_len m
  refine ⟨m, h1, by rw [hgl, w1.1], by rw [hil, h2, w1.1], by unfold instT; rw [List.length_map, hil, h2, w1.1], ins_up m hnd, fun k hk => ?_⟩
  obtain ⟨o, ho, hl⟩ := h3 k hk
  have hP := matchR_all (SpP sb.m.length) (fun t i h hp => ⟨fun v hv => hp.1 v (has_kid h hv), Nat.le_trans (size_kid h) hp.2⟩) a b _ _ (fun t ht => by simp [List.mem_replicate] at ht) ⟨fun v hv => by have := readTy_has hs hv; rw [w2.1] at this; exact this, readTy_size hs⟩ hm o (List.mem_of_getElem? ho)
  refine ⟨o, ho, hP, (ins_mem _ _).2 (lk_mem hl), fun i hi e => ?_⟩
  unfold instT
  rw [List.getElem?_map, List.getElem?_eq_getElem hi, Option.map_some, e, hl]
  simp only [Option.getD_some, Option.some.injEq]
  have := shown_is (nmG (sb.m.map (·.1))) 0 o
  rw [show o.mapv (· + 0) = o from Ty.mapv_id o] at this
  rw [this]
  congr 1
  apply named_congr
  intro v hv
  unfold ownN nmG
  simp [List.getD_eq_getElem?_getD]
end Go.Proofs.YtabikmkoajdhmaaDoor

set_option linter.unusedVariables false
set_option linter.unusedSimpArgs false
set_option linter.unnecessarySimpa false
namespace Go.Proofs.YtabikmkoajdhmaaDoor
open Go.RowKit

/-- A list of texts, as it lies in memory. -/
def RowT (l : List Str) (v : Value) (w : World) : Prop := ∃ ao cap, v = .slice ao l.length cap ∧ ∀ i (h : i < l.length), ∃ lb, ao = some ⟨lb, 0, none⟩ ∧ w.cell? ⟨lb, i, none⟩ = some (.string (bs l[i]))
theorem RowT.drewN {l : List Str} {v : Value} {w : World} (h : RowT l v w) (n : Nat) : RowT l v (w.drewN n) := by
  obtain ⟨ao, cap, e, h⟩ := h
  exact ⟨ao, cap, e, fun i hi => by obtain ⟨lb, e, c⟩ := h i hi; exact ⟨lb, e, c⟩⟩
theorem RowT.keep {l : List Str} {v : Value} {w w' : World} (h : RowT l v w) (k : Keep none' w w') : RowT l v w' := by
  obtain ⟨ao, cap, e, h⟩ := h
  exact ⟨ao, cap, e, fun i hi => by obtain ⟨lb, e, c⟩ := h i hi; exact ⟨lb, e, k.cell_some c (fun x => x)⟩⟩
theorem rowT_own {w : World} {base : Nat} {v : Value} {l : List Str} {n : Nat} (hn : n = l.length) (h : w.ownsRow base 9 1 v n (strsV l)) : RowT l v w := by
  subst hn
  obtain ⟨ao, cap, rfl, hc⟩ := own_shape h
  refine ⟨ao, cap, rfl, fun i hi => ?_⟩
  obtain ⟨g, e, hc⟩ := hc (by omega)
  exact ⟨g, e, hc i _ (by simp [strsV, hi])⟩
theorem rowT_slr {G : GH} {w : World} {v : Value} {l : List Str} (h : SlR G v (l.map fun n => .string (bs n))) (hw : Holds G w) : RowT l v w := by
  obtain ⟨ao, cap, rfl, hc⟩ := slr_shp h
  refine ⟨ao, cap, by rw [List.length_map], fun i hi => ?_⟩
  obtain ⟨lb, e, hc⟩ := hc i (by simpa using hi)
  exact ⟨lb, e, by rw [hc w hw]; simp⟩
set_option maxRecDepth 100000 in
set_option maxHeartbeats 4000000 in
theorem tr_lin {w : World} {v : Value} {l : List Str} (h : RowT l v w) (hl : l.length ≤ 1000) (x : Str) : Calls Tryd.prog 18 #[v, .string (bs x)] w fun e w' => e = .returned (.bool (decide (x ∈ l))) ∧ w' = w := by
  obtain ⟨ao, cap, rfl, hc⟩ := h
  have HC := Lib.hid hc
  clear hc
  go_enter Tryd.func18, Tryd.ntmps18
  go_wp2_with fail
  go_loopg [9] l.length (fun gn s9 wr => ∃ i : Nat, i ≤ l.length ∧ Hid (gn = l.length - i) ∧ s9 = .int .i64 i ∧ wr = w ∧ Hid (x ∉ l.take i))
  case atStart => exact ⟨0, by omega, Lib.hid rfl, rfl, rfl, Lib.hid (by simp)⟩
  case round =>
    obtain ⟨i, hi, HM, rfl, rfl, HN⟩ := hrel
    have h0i : (0 : Int) ≤ (i : Int) := by omega
    by_cases hlt : i < l.length
    · have hii : (i : Int) < (l.length : Int) := by omega
      obtain ⟨g, rfl, cm⟩ := HC.out i hlt
      obtain ⟨li, hli⟩ : ∃ li, li = l[i] := ⟨_, rfl⟩
      rw [← hli] at cm
      have q1 : ((bs li).toList == (bs x).toList) = decide (li = x) := str_cc _ _
      have HL := Lib.hid hli
      clear hli
      by_cases hq : li = x
      · rw [decide_eq_true hq] at q1
        have hm : decide (x ∈ l) = true := by
          rw [decide_eq_true_eq, ← hq, HL.out]; exact List.getElem_mem hlt
        have HMM := Lib.hid hm
        clear hm hq
        go_wp2_with fail
        go_ret
        exact ⟨show Ending.returned (Value.bool true) = _ by rw [HMM.out], rfl⟩
      · rw [decide_eq_false hq] at q1
        have HQ := Lib.hid hq
        clear hq
        go_wp2_with fail
        go_roundg (l.length - (i + 1))
        case measure => have := HM.out; omega
        case rel => exact ⟨i + 1, by omega, Lib.hid rfl, by go_num, rfl, Lib.hid (by rw [List.take_succ_eq_append_getElem hlt, List.mem_append, List.mem_singleton, ← HL.out]; rintro (e | e); exact HN.out e; exact HQ.out e.symm)⟩
    · have hie : i = l.length := by omega
      subst hie
      have hn := HN.out
      rw [List.take_length] at hn
      have hm : decide (x ∈ l) = false := by simpa using hn
      have HMM := Lib.hid hm
      clear hn hm HN
      go_wp2_with fail
      go_ret
      exact ⟨show Ending.returned (Value.bool false) = _ by rw [HMM.out], rfl⟩
end Go.Proofs.YtabikmkoajdhmaaDoor

set_option linter.unusedVariables false
set_option linter.unusedSimpArgs false
set_option linter.unnecessarySimpa false
namespace Go.Proofs.YtabikmkoajdhmaaDoor
open Go.RowKit

def IQ (S T : Str) (w : World) (fw fp : Int) : Prop := Calls Tryd.prog 15 #[.string (bs S), .string (bs T)] w fun e w' => ∃ nv tv, e = .returned (.tuple #[nv, tv, .bool true, faultV fw fp ⟨#[]⟩ 0 0]) ∧ Keep none' w w'
set_option maxRecDepth 100000 in
set_option maxHeartbeats 4000000 in
theorem instances_badG (S T : Str) (fw fp : Int) (h0 : 0 < fw) (w : World) (hps : IQ S T w fw fp) (hrd : ∀ W, Keep none' w W → Calls Tryd.prog 13 #[.string (bs S)] W fun e w' => Keep none' W w' ∧ e = .returned (.tuple #[.pointer none, .slice none 0 0, faultV fw fp ⟨#[]⟩ 0 0])) :
    Calls Tryd.prog 6 #[.string (bs S), .string (bs T)] w fun e w' => e = .returned (.bool true) ∧ Keep none' w w' := by
    have hps : Calls Tryd.prog 15 #[.string (bs S), .string (bs T)] w fun e w' => ∃ nv tv, e = .returned (.tuple #[nv, tv, .bool true, faultV fw fp ⟨#[]⟩ 0 0]) ∧ Keep none' w w' := hps
    have HP2 := Lib.hid hps
    have HRD := Lib.hid hrd
    clear hps hrd
    have q1 : decide ((0 : Int) < fw) = true := by simp; omega
    have hsd := fun W => said_k fw fp ⟨#[]⟩ 0 0 W
    have HSD := Lib.hid hsd
    clear hsd h0
    go_enter Tryd.func6, Tryd.ntmps6
    go_wp2_with fail
    refine HP2.out.mono ?_
    rintro e w1 ⟨nv, tv, rfl, k1⟩
    have k2 : Keep none' w (w1.alloc (.cells #[.int .i64 fw, .int .i64 fp, .string ⟨#[]⟩, .int .i64 0, .int .i64 0] 28)) := k1.trans (Keep.alloc _ _ _)
    have b2 : (w1.alloc (.cells #[.int .i64 fw, .int .i64 fp, .string ⟨#[]⟩, .int .i64 0, .int .i64 0] 28)).heap[w1.heap.size]? = some (.cells #[.int .i64 fw, .int .i64 fp, .string ⟨#[]⟩, .int .i64 0, .int .i64 0] 28) := heap_new _ _
    have hr3 := HRD.out _ k2
    have HR3 := Lib.hid hr3; have HK2 := Lib.hid k2; have HB2 := Lib.hid b2
    clear k1 k2 b2 hr3
    unfold faultV
    go_wp2_with fail
    refine HR3.out.mono ?_
    rintro e w3 ⟨k3, rfl⟩
    have b3 := k3.get HB2.out (fun x => x)
    have HB3 := Lib.hid b3
    have HK3 := Lib.hid (HK2.out.trans k3)
    clear b3 k3
    unfold faultV
    go_wp2_with fail
    obtain ⟨W4, hW4⟩ : ∃ W4, W4 = (w3.alloc (.cells #[.int .i64 fw, .int .i64 fp, .string ⟨#[]⟩, .int .i64 0, .int .i64 0] 32)) := ⟨_, rfl⟩
    have e3 : W4.heap[w1.heap.size]? = some (.cells #[.int .i64 fw, .int .i64 fp, .string ⟨#[]⟩, .int .i64 0, .int .i64 0] 28) := by rw [hW4]; exact heap_old HB3.out
    have e4 : W4.heap[w3.heap.size]? = some (.cells #[.int .i64 fw, .int .i64 fp, .string ⟨#[]⟩, .int .i64 0, .int .i64 0] 32) := by rw [hW4]; exact heap_new _ _
    have K4 : Keep none' w W4 := by rw [hW4]; exact HK3.out.trans (Keep.alloc _ _ _)
    have HE3 := Lib.hid e3; have HE4 := Lib.hid e4; have HK4 := Lib.hid K4
    rw [← hW4]
    clear hW4 e3 e4 K4
    refine wp_region_float (fun w' => w'.cell? ⟨w1.heap.size, 0, none⟩ = some (.int .i64 fw) ∧ w'.cell? ⟨w1.heap.size, 1, none⟩ = some (.int .i64 fp) ∧ w'.cell? ⟨w1.heap.size, 2, none⟩ = some (.string ⟨#[]⟩) ∧ w'.cell? ⟨w1.heap.size, 3, none⟩ = some (.int .i64 0) ∧ w'.cell? ⟨w1.heap.size, 4, none⟩ = some (.int .i64 0) ∧ w'.cell? ⟨w3.heap.size, 0, none⟩ = some (.int .i64 fw) ∧ w'.cell? ⟨w3.heap.size, 1, none⟩ = some (.int .i64 fp) ∧ w'.cell? ⟨w3.heap.size, 2, none⟩ = some (.string ⟨#[]⟩) ∧ w'.cell? ⟨w3.heap.size, 3, none⟩ = some (.int .i64 0) ∧ w'.cell? ⟨w3.heap.size, 4, none⟩ = some (.int .i64 0)) [0, 1, 5, 6, 7] [2, 4] (by kernel_rfl) ?_
    have hS : ∀ w', Keep none' W4 w' → w'.cell? ⟨w1.heap.size, 0, none⟩ = some (.int .i64 fw) ∧ w'.cell? ⟨w1.heap.size, 1, none⟩ = some (.int .i64 fp) ∧ w'.cell? ⟨w1.heap.size, 2, none⟩ = some (.string ⟨#[]⟩) ∧ w'.cell? ⟨w1.heap.size, 3, none⟩ = some (.int .i64 0) ∧ w'.cell? ⟨w1.heap.size, 4, none⟩ = some (.int .i64 0) ∧ w'.cell? ⟨w3.heap.size, 0, none⟩ = some (.int .i64 fw) ∧ w'.cell? ⟨w3.heap.size, 1, none⟩ = some (.int .i64 fp) ∧ w'.cell? ⟨w3.heap.size, 2, none⟩ = some (.string ⟨#[]⟩) ∧ w'.cell? ⟨w3.heap.size, 3, none⟩ = some (.int .i64 0) ∧ w'.cell? ⟨w3.heap.size, 4, none⟩ = some (.int .i64 0) := fun w' k => by
      have b3 := k.get HE3.out (fun x => x)
      have b4 := k.get HE4.out (fun x => x)
      exact ⟨cell_of_heap (i := 0) b3 rfl, cell_of_heap (i := 1) b3 rfl, cell_of_heap (i := 2) b3 rfl, cell_of_heap (i := 3) b3 rfl, cell_of_heap (i := 4) b3 rfl, cell_of_heap (i := 0) b4 rfl, cell_of_heap (i := 1) b4 rfl, cell_of_heap (i := 2) b4 rfl, cell_of_heap (i := 3) b4 rfl, cell_of_heap (i := 4) b4 rfl⟩
    have HS := Lib.hid hS
    have S0 := hS W4.drew (Keep.drew _ _)
    clear hS
    (refine float0 (i := 0) (v := ?_) rfl (by kernel_rfl) (by kernel_rfl) (by kernel_rfl) (by kernel_rfl) (fun _ _ _ h => h) (by rfl) ?_ ?_); rotate_left
    (intro wF; go_simp; try with_reducible rfl)
    (try simp only [Act.put, List.setIfInBounds_toArray, List.set_cons_zero, List.set_cons_succ])
    (refine float0 (i := 1) (v := ?_) rfl (by kernel_rfl) (by kernel_rfl) (by kernel_rfl) (by kernel_rfl) (fun _ _ _ h => h) (by rfl) ?_ ?_); rotate_left
    (intro wF; go_simp; try with_reducible rfl)
    (try simp only [Act.put, List.setIfInBounds_toArray, List.set_cons_zero, List.set_cons_succ])
    (refine floatS (i := 2) (v := ?_) rfl (by kernel_rfl) (by kernel_rfl) (by kernel_rfl) (by kernel_rfl) (fun _ _ _ h => h) (by assumption) (by rfl) ?_ ?_); rotate_left
    (intro wF hF; (try dsimp only at hF); go_simp; try with_reducible rfl)
    (try simp only [Act.put, List.setIfInBounds_toArray, List.set_cons_zero, List.set_cons_succ])
    (refine floatS (i := 4) (v := ?_) rfl (by kernel_rfl) (by kernel_rfl) (by kernel_rfl) (by kernel_rfl) (fun _ _ _ h => h) (by assumption) (by rfl) ?_ ?_); rotate_left
    (intro wF hF; (try dsimp only at hF); go_simp; try with_reducible rfl)
    (try simp only [Act.put, List.setIfInBounds_toArray, List.set_cons_zero, List.set_cons_succ])
    (refine floatM (i := 3) rfl (by kernel_rfl) (by kernel_rfl) (fun K hK => ?_)); go_simp
    refine (HSD.out _).mono ?_
    rintro e w5 ⟨rfl, k5⟩
    have k6 : Keep none' W4 w5 := (Keep.drew _ _).trans k5
    refine hK.out _ _ (fun _ => HS.out _ k6) ?_
    clear hK K
    (try simp only [Act.put, List.setIfInBounds_toArray, List.set_cons_zero, List.set_cons_succ])
    unfold faultV
    (refine float0 (i := 5) (v := ?_) rfl (by kernel_rfl) (by kernel_rfl) (by kernel_rfl) (by kernel_rfl) (fun _ _ _ h => h) (by rfl) ?_ ?_); rotate_left
    (intro wF; go_simp; try with_reducible rfl)
    (try simp only [Act.put, List.setIfInBounds_toArray, List.set_cons_zero, List.set_cons_succ])
    (refine float0 (i := 6) (v := ?_) rfl (by kernel_rfl) (by kernel_rfl) (by kernel_rfl) (by kernel_rfl) (fun _ _ _ h => h) (by rfl) ?_ ?_); rotate_left
    (intro wF; go_simp; try with_reducible rfl)
    (try simp only [Act.put, List.setIfInBounds_toArray, List.set_cons_zero, List.set_cons_succ])
    (refine float0 (i := 7) (v := ?_) rfl (by kernel_rfl) (by kernel_rfl) (by kernel_rfl) (by kernel_rfl) (fun _ _ _ h => h) (by rfl) ?_ ?_); rotate_left
    (intro wF; go_simp; try with_reducible rfl)
    (try simp only [Act.put, List.setIfInBounds_toArray, List.set_cons_zero, List.set_cons_succ])
    (refine floatE (by kernel_rfl) ?_)
    go_wp2_with fail
    go_ret
    exact ⟨rfl, HK4.out.trans k6⟩
set_option maxRecDepth 100000 in
set_option maxHeartbeats 4000000 in
theorem instances_badS (S T : Str) (fw fp : Int) (h0 : 0 < fw) (w : World) (hps : IQ S T w fw fp) (hrd : ∀ W, Keep none' w W → Calls Tryd.prog 13 #[.string (bs S)] W fun e w' => Keep none' W w' ∧ ∃ b nv, e = .returned (.tuple #[.pointer (some ⟨b, 0, none⟩), nv, faultV 0 0 ⟨#[]⟩ 0 0]))
    (hrd2 : ∀ W, Keep none' w W → Calls Tryd.prog 13 #[.string (bs T)] W fun e w' => Keep none' W w' ∧ e = .returned (.tuple #[.pointer none, .slice none 0 0, faultV fw fp ⟨#[]⟩ 0 0])) :
    Calls Tryd.prog 6 #[.string (bs S), .string (bs T)] w fun e w' => e = .returned (.bool true) ∧ Keep none' w w' := by
    have hps : Calls Tryd.prog 15 #[.string (bs S), .string (bs T)] w fun e w' => ∃ nv tv, e = .returned (.tuple #[nv, tv, .bool true, faultV fw fp ⟨#[]⟩ 0 0]) ∧ Keep none' w w' := hps
    have HP2 := Lib.hid hps
    have HRD := Lib.hid hrd; have HRD2 := Lib.hid hrd2
    clear hps hrd hrd2
    have q1 : decide ((0 : Int) < fw) = true := by simp; omega
    have hsd := fun W => said_k fw fp ⟨#[]⟩ 0 0 W
    have HSD := Lib.hid hsd
    clear hsd h0
    go_enter Tryd.func6, Tryd.ntmps6
    go_wp2_with fail
    refine HP2.out.mono ?_
    rintro e w1 ⟨nv, tv, rfl, k1⟩
    have k2 : Keep none' w (w1.alloc (.cells #[.int .i64 fw, .int .i64 fp, .string ⟨#[]⟩, .int .i64 0, .int .i64 0] 28)) := k1.trans (Keep.alloc _ _ _)
    have b2 : (w1.alloc (.cells #[.int .i64 fw, .int .i64 fp, .string ⟨#[]⟩, .int .i64 0, .int .i64 0] 28)).heap[w1.heap.size]? = some (.cells #[.int .i64 fw, .int .i64 fp, .string ⟨#[]⟩, .int .i64 0, .int .i64 0] 28) := heap_new _ _
    have hr3 := HRD.out _ k2
    have HR3 := Lib.hid hr3; have HK2 := Lib.hid k2; have HB2 := Lib.hid b2
    clear k1 k2 b2 hr3
    unfold faultV
    go_wp2_with fail
    refine HR3.out.mono ?_
    rintro e w3 ⟨k3, pb, pv, rfl⟩
    have k4 : Keep none' w3 (w3.alloc (.cells #[.int .i64 0, .int .i64 0, .string ⟨#[]⟩, .int .i64 0, .int .i64 0] 32)) := Keep.alloc _ _ _
    have hr5 := HRD2.out _ ((HK2.out.trans k3).trans k4)
    have b3 := (k3.trans k4).get HB2.out (fun x => x)
    have HR5 := Lib.hid hr5; have HK4 := Lib.hid ((HK2.out.trans k3).trans k4); have HB3 := Lib.hid b3
    have HB4 : Hid ((w3.alloc (.cells #[.int .i64 0, .int .i64 0, .string ⟨#[]⟩, .int .i64 0, .int .i64 0] 32)).heap[w3.heap.size]? = some (.cells #[.int .i64 0, .int .i64 0, .string ⟨#[]⟩, .int .i64 0, .int .i64 0] 32)) := Lib.hid (heap_new _ _)
    have HLT : Hid (w.heap.size ≤ w3.heap.size) := Lib.hid ((HK2.out.trans k3).size)
    have HNE : Hid (w1.heap.size ≠ w3.heap.size) := Lib.hid (by have := lt_of_heap (k3.get HB2.out (fun x => x)); omega)
    clear k3 k4 hr5 b3
    unfold faultV
    go_wp2_with fail
    refine HR5.out.mono ?_
    rintro e w5 ⟨k5, rfl⟩
    have b5 := k5.get HB3.out (fun x => x)
    have b6 := k5.get HB4.out (fun x => x)
    obtain ⟨hz, hfz⟩ := fz_cellsT b6
    have z0 := hz 0 _ rfl; have z1 := hz 1 _ rfl; have z2 := hz 2 _ rfl; have z3 := hz 3 _ rfl; have z4 := hz 4 _ rfl
    have HK5 := Lib.hid (HK4.out.trans k5)
    have HB5 := Lib.hid b5; have HB6 := Lib.hid b6
    clear k5 b5 b6
    unfold faultV
    go_wp2_with fail
    obtain ⟨W4, hW4⟩ : ∃ W4, W4 = (((((w5.setCell ⟨w3.heap.size, 0, none⟩ (.int .i64 fw)).setCell ⟨w3.heap.size, 1, none⟩ (.int .i64 fp)).setCell ⟨w3.heap.size, 2, none⟩ (.string ⟨#[]⟩)).setCell ⟨w3.heap.size, 3, none⟩ (.int .i64 0)).setCell ⟨w3.heap.size, 4, none⟩ (.int .i64 0)) := ⟨_, rfl⟩
    have e3 : W4.heap[w1.heap.size]? = some (.cells #[.int .i64 fw, .int .i64 fp, .string ⟨#[]⟩, .int .i64 0, .int .i64 0] 28) := by rw [hW4]; exact (keep5oT w5 w3.heap.size _ _ _ _ _).get HB5.out (fun e => HNE.out (by rw [show w1.heap.size = w3.heap.size from e]))
    have e4 : W4.heap[w3.heap.size]? = some (.cells #[.int .i64 fw, .int .i64 fp, .string ⟨#[]⟩, .int .i64 0, .int .i64 0] 32) := by
      rw [hW4]
      exact heap_set_same (heap_set_same (heap_set_same (heap_set_same (heap_set_same HB6.out))))
    have K4 : Keep none' w W4 := by
      rw [hW4]
      exact HK5.out.trans' (keep5oT w5 w3.heap.size _ _ _ _ _) (fun _ _ x => x) (fun b hb (e : b = w3.heap.size) => by have := HLT.out; omega)
    have HE3 := Lib.hid e3; have HE4 := Lib.hid e4; have HK6 := Lib.hid K4
    rw [← hW4]
    clear hW4 e3 e4 K4
    refine wp_region_float (fun w' => w'.cell? ⟨w1.heap.size, 0, none⟩ = some (.int .i64 fw) ∧ w'.cell? ⟨w1.heap.size, 1, none⟩ = some (.int .i64 fp) ∧ w'.cell? ⟨w1.heap.size, 2, none⟩ = some (.string ⟨#[]⟩) ∧ w'.cell? ⟨w1.heap.size, 3, none⟩ = some (.int .i64 0) ∧ w'.cell? ⟨w1.heap.size, 4, none⟩ = some (.int .i64 0) ∧ w'.cell? ⟨w3.heap.size, 0, none⟩ = some (.int .i64 fw) ∧ w'.cell? ⟨w3.heap.size, 1, none⟩ = some (.int .i64 fp) ∧ w'.cell? ⟨w3.heap.size, 2, none⟩ = some (.string ⟨#[]⟩) ∧ w'.cell? ⟨w3.heap.size, 3, none⟩ = some (.int .i64 0) ∧ w'.cell? ⟨w3.heap.size, 4, none⟩ = some (.int .i64 0)) [0, 1, 5, 6, 7] [2, 4] (by kernel_rfl) ?_
    have hS : ∀ w', Keep none' W4 w' → w'.cell? ⟨w1.heap.size, 0, none⟩ = some (.int .i64 fw) ∧ w'.cell? ⟨w1.heap.size, 1, none⟩ = some (.int .i64 fp) ∧ w'.cell? ⟨w1.heap.size, 2, none⟩ = some (.string ⟨#[]⟩) ∧ w'.cell? ⟨w1.heap.size, 3, none⟩ = some (.int .i64 0) ∧ w'.cell? ⟨w1.heap.size, 4, none⟩ = some (.int .i64 0) ∧ w'.cell? ⟨w3.heap.size, 0, none⟩ = some (.int .i64 fw) ∧ w'.cell? ⟨w3.heap.size, 1, none⟩ = some (.int .i64 fp) ∧ w'.cell? ⟨w3.heap.size, 2, none⟩ = some (.string ⟨#[]⟩) ∧ w'.cell? ⟨w3.heap.size, 3, none⟩ = some (.int .i64 0) ∧ w'.cell? ⟨w3.heap.size, 4, none⟩ = some (.int .i64 0) := fun w' k => by
      have b3 := k.get HE3.out (fun x => x)
      have b4 := k.get HE4.out (fun x => x)
      exact ⟨cell_of_heap (i := 0) b3 rfl, cell_of_heap (i := 1) b3 rfl, cell_of_heap (i := 2) b3 rfl, cell_of_heap (i := 3) b3 rfl, cell_of_heap (i := 4) b3 rfl, cell_of_heap (i := 0) b4 rfl, cell_of_heap (i := 1) b4 rfl, cell_of_heap (i := 2) b4 rfl, cell_of_heap (i := 3) b4 rfl, cell_of_heap (i := 4) b4 rfl⟩
    have HS := Lib.hid hS
    have S0 := hS W4.drew (Keep.drew _ _)
    clear hS
    (refine float0 (i := 0) (v := ?_) rfl (by kernel_rfl) (by kernel_rfl) (by kernel_rfl) (by kernel_rfl) (fun _ _ _ h => h) (by rfl) ?_ ?_); rotate_left
    (intro wF; go_simp; try with_reducible rfl)
    (try simp only [Act.put, List.setIfInBounds_toArray, List.set_cons_zero, List.set_cons_succ])
    (refine float0 (i := 1) (v := ?_) rfl (by kernel_rfl) (by kernel_rfl) (by kernel_rfl) (by kernel_rfl) (fun _ _ _ h => h) (by rfl) ?_ ?_); rotate_left
    (intro wF; go_simp; try with_reducible rfl)
    (try simp only [Act.put, List.setIfInBounds_toArray, List.set_cons_zero, List.set_cons_succ])
    (refine floatS (i := 2) (v := ?_) rfl (by kernel_rfl) (by kernel_rfl) (by kernel_rfl) (by kernel_rfl) (fun _ _ _ h => h) (by assumption) (by rfl) ?_ ?_); rotate_left
    (intro wF hF; (try dsimp only at hF); go_simp; try with_reducible rfl)
    (try simp only [Act.put, List.setIfInBounds_toArray, List.set_cons_zero, List.set_cons_succ])
    (refine floatS (i := 4) (v := ?_) rfl (by kernel_rfl) (by kernel_rfl) (by kernel_rfl) (by kernel_rfl) (fun _ _ _ h => h) (by assumption) (by rfl) ?_ ?_); rotate_left
    (intro wF hF; (try dsimp only at hF); go_simp; try with_reducible rfl)
    (try simp only [Act.put, List.setIfInBounds_toArray, List.set_cons_zero, List.set_cons_succ])
    (refine floatM (i := 3) rfl (by kernel_rfl) (by kernel_rfl) (fun K hK => ?_)); go_simp
    refine (HSD.out _).mono ?_
    rintro e w5 ⟨rfl, k5⟩
    have k6 : Keep none' W4 w5 := (Keep.drew _ _).trans k5
    refine hK.out _ _ (fun _ => HS.out _ k6) ?_
    clear hK K
    (try simp only [Act.put, List.setIfInBounds_toArray, List.set_cons_zero, List.set_cons_succ])
    unfold faultV
    (refine float0 (i := 5) (v := ?_) rfl (by kernel_rfl) (by kernel_rfl) (by kernel_rfl) (by kernel_rfl) (fun _ _ _ h => h) (by rfl) ?_ ?_); rotate_left
    (intro wF; go_simp; try with_reducible rfl)
    (try simp only [Act.put, List.setIfInBounds_toArray, List.set_cons_zero, List.set_cons_succ])
    (refine float0 (i := 6) (v := ?_) rfl (by kernel_rfl) (by kernel_rfl) (by kernel_rfl) (by kernel_rfl) (fun _ _ _ h => h) (by rfl) ?_ ?_); rotate_left
    (intro wF; go_simp; try with_reducible rfl)
    (try simp only [Act.put, List.setIfInBounds_toArray, List.set_cons_zero, List.set_cons_succ])
    (refine float0 (i := 7) (v := ?_) rfl (by kernel_rfl) (by kernel_rfl) (by kernel_rfl) (by kernel_rfl) (fun _ _ _ h => h) (by rfl) ?_ ?_); rotate_left
    (intro wF; go_simp; try with_reducible rfl)
    (try simp only [Act.put, List.setIfInBounds_toArray, List.set_cons_zero, List.set_cons_succ])
    (refine floatE (by kernel_rfl) ?_)
    go_wp2_with fail
    go_ret
    exact ⟨rfl, HK6.out.trans k6⟩
end Go.Proofs.YtabikmkoajdhmaaDoor
