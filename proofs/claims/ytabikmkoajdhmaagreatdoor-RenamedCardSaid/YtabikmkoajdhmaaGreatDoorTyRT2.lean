/- A type's one text is its own, and an instance of it as it is of that: plain. -/
import Derived.Test.YtabikmkoajdhmaaGreatDoorTyRT
set_option linter.unusedVariables false
set_option linter.unusedSimpArgs false
set_option linter.unnecessarySimpa false
namespace Go.Proofs.YtabikmkoajdhmaaGreatDoor
open Go.RowKit

def Ty.mapv (g : Nat → Nat) : Ty → Ty
  | .var v => .var (g v)
  | .int => .int
  | .bool => .bool
  | .list a => .list (a.mapv g)
  | .pair a b => .pair (a.mapv g) (b.mapv g)
  | .fn a b => .fn (a.mapv g) (b.mapv g)
def Ty.named (nm : Nat → Str) : Ty → NT
  | .var v => .var (nm v)
  | .int => .int
  | .bool => .bool
  | .list a => .list (a.named nm)
  | .pair a b => .pair (a.named nm) (b.named nm)
  | .fn a b => .fn (a.named nm) (b.named nm)
theorem Ty.mapv_size (g : Nat → Nat) : ∀ t : Ty, (t.mapv g).size = t.size
  | .var _ => rfl
  | .int => rfl
  | .bool => rfl
  | .list a => by simp [Ty.mapv, Ty.size, a.mapv_size g]
  | .pair a b => by simp [Ty.mapv, Ty.size, a.mapv_size g, b.mapv_size g]
  | .fn a b => by simp [Ty.mapv, Ty.size, a.mapv_size g, b.mapv_size g]
theorem Ty.mapv_id : ∀ t : Ty, t.mapv id = t
  | .var _ => rfl
  | .int => rfl
  | .bool => rfl
  | .list a => by simp [Ty.mapv, a.mapv_id]
  | .pair a b => by simp [Ty.mapv, a.mapv_id, b.mapv_id]
  | .fn a b => by simp [Ty.mapv, a.mapv_id, b.mapv_id]
theorem Ty.named_mapv (f : Nat → Str) (g : Nat → Nat) : ∀ t : Ty, (t.mapv g).named f = t.named (fun v => f (g v))
  | .var _ => rfl
  | .int => rfl
  | .bool => rfl
  | .list a => by simp [Ty.mapv, Ty.named, a.named_mapv f g]
  | .pair a b => by simp [Ty.mapv, Ty.named, a.named_mapv f g, b.named_mapv f g]
  | .fn a b => by simp [Ty.mapv, Ty.named, a.named_mapv f g, b.named_mapv f g]
theorem Ty.named_isFn (nm : Nat → Str) (t : Ty) : (t.named nm).isFn = (match t with | .fn _ _ => true | _ => false) := by cases t <;> rfl
theorem shown_named (nm : Nat → Str) : ∀ t : Ty, showS (fun (s : Unit) v => (nm v, s)) t () = ((t.named nm).show, ())
  | .var _ => rfl
  | .int => rfl
  | .bool => rfl
  | .list a => by simp [showS, Ty.named, NT.show, shown_named nm a]
  | .pair a b => by simp [showS, Ty.named, NT.show, shown_named nm a, shown_named nm b]
  | .fn a b => by
    simp only [showS, Ty.named, NT.show, shown_named nm a, shown_named nm b, Ty.named_isFn]
    cases a <;> simp
/-- The variables in the order in which they are met. -/
def firsts : Ty → List Nat → List Nat
  | .var v, s => if v ∈ s then s else s ++ [v]
  | .int, s => s
  | .bool, s => s
  | .list a, s => firsts a s
  | .pair a b, s => firsts b (firsts a s)
  | .fn a b, s => firsts b (firsts a s)
theorem firsts_pre : ∀ (t : Ty) (s : List Nat), s <+: firsts t s
  | .var v, s => by
    simp only [firsts]
    split
    · exact List.prefix_refl _
    · exact List.prefix_append _ _
  | .int, s => List.prefix_refl _
  | .bool, s => List.prefix_refl _
  | .list a, s => firsts_pre a s
  | .pair a b, s => (firsts_pre a s).trans (firsts_pre b _)
  | .fn a b, s => (firsts_pre a s).trans (firsts_pre b _)
theorem firsts_nodup : ∀ (t : Ty) (s : List Nat), s.Nodup → (firsts t s).Nodup
  | .var v, s, h => by
    simp only [firsts]
    split
    · exact h
    · rename_i hv
      refine List.nodup_append.2 ⟨h, by simp, ?_⟩
      intro a ha b hb e
      simp only [List.mem_singleton] at hb
      subst hb; subst e; exact hv ha
  | .int, s, h => h
  | .bool, s, h => h
  | .list a, s, h => firsts_nodup a s h
  | .pair a b, s, h => firsts_nodup b _ (firsts_nodup a s h)
  | .fn a b, s, h => firsts_nodup b _ (firsts_nodup a s h)
theorem firsts_len : ∀ (t : Ty) (s : List Nat), (firsts t s).length ≤ s.length + t.size
  | .var v, s => by simp only [firsts]; split <;> simp [Ty.size]
  | .int, s => by simp [firsts]
  | .bool, s => by simp [firsts]
  | .list a, s => by have := firsts_len a s; simp [firsts, Ty.size]; omega
  | .pair a b, s => by have := firsts_len a s; have := firsts_len b (firsts a s); simp [firsts, Ty.size]; omega
  | .fn a b, s => by have := firsts_len a s; have := firsts_len b (firsts a s); simp [firsts, Ty.size]; omega
theorem firsts_has : ∀ (t : Ty) (s : List Nat) (v : Nat), v ∈ firsts t s ↔ (v ∈ s ∨ t.has v = true)
  | .var n, s, v => by
    simp only [firsts, Ty.has]
    split
    · rename_i h
      constructor
      · exact .inl
      · rintro (h' | h')
        · exact h'
        · simp at h'; subst h'; exact h
    · simp [eq_comm]
  | .int, s, v => by simp [firsts, Ty.has]
  | .bool, s, v => by simp [firsts, Ty.has]
  | .list a, s, v => firsts_has a s v
  | .pair a b, s, v => by simp only [firsts, firsts_has b, firsts_has a, Ty.has, Bool.or_eq_true, or_assoc]
  | .fn a b, s, v => by simp only [firsts, firsts_has b, firsts_has a, Ty.has, Bool.or_eq_true, or_assoc]
theorem idx_pre {s F : List Nat} {v : Nat} (h : s <+: F) (hv : v ∈ s) : F.idxOf v = s.idxOf v := by
  obtain ⟨r, rfl⟩ := h
  rw [List.idxOf_append, if_pos hv]
theorem idx_new {s F : List Nat} {v : Nat} (h : s ++ [v] <+: F) (hv : v ∉ s) : F.idxOf v = s.length := by
  rw [idx_pre h (by simp), List.idxOf_append, if_neg hv]
  simp
theorem idx_inj {F : List Nat} {v w : Nat} (hv : v ∈ F) (hw : w ∈ F) (h : F.idxOf v = F.idxOf w) : v = w := by
  have h1 := List.getElem_idxOf (List.idxOf_lt_length_of_mem hv)
  have h2 := List.getElem_idxOf (List.idxOf_lt_length_of_mem hw)
  rw [← h1, ← h2]
  simp only [h]
def nmF (F : List Nat) (v : Nat) : Str := letters (F.idxOf v)
theorem idxOf?_eq {s : List Nat} {v : Nat} : s.idxOf? v = if v ∈ s then some (s.idxOf v) else none := by
  induction s with
  | nil => simp
  | cons a r ih =>
    rw [List.idxOf?_cons, List.idxOf_cons, ih]
    by_cases h : a = v
    · subst h; simp
    · have h1 : (a == v) = false := by simpa using h
      have h2 : ¬ v = a := fun e => h e.symm
      simp only [h1, Bool.false_eq_true, if_false, cond_false, List.mem_cons, h2, false_or]
      split <;> simp
theorem canon_named (F : List Nat) : ∀ (t : Ty) (s : List Nat), firsts t s <+: F → showS namer t s = ((t.named (nmF F)).show, firsts t s)
  | .var v, s, h => by
    simp only [showS, namer, Ty.named, NT.show, firsts, nmF, idxOf?_eq] at *
    by_cases hv : v ∈ s
    · rw [if_pos hv] at h
      rw [if_pos hv, if_pos hv, idx_pre h hv]
    · rw [if_neg hv] at h
      rw [if_neg hv, if_neg hv, idx_new h hv]
  | .int, s, h => rfl
  | .bool, s, h => rfl
  | .list a, s, h => by simp [showS, Ty.named, NT.show, firsts, canon_named F a s h]
  | .pair a b, s, h => by
    have ha := canon_named F a s ((firsts_pre b _).trans h)
    have hb := canon_named F b _ h
    simp [showS, Ty.named, NT.show, firsts, ha, hb]
  | .fn a b, s, h => by
    have ha := canon_named F a s ((firsts_pre b _).trans h)
    have hb := canon_named F b _ h
    simp only [showS, Ty.named, NT.show, firsts, ha, hb, Ty.named_isFn]
    cases a <;> simp
/-- Numbers in the order of the meeting. -/
def gF (F : List Nat) (n : Nat) (v : Nat) : Nat := n + 1 + F.idxOf v
theorem gF_inj {F : List Nat} {n v w : Nat} (hv : v ∈ F) (hw : w ∈ F) (h : gF F n v = gF F n w) : v = w := idx_inj hv hw (by unfold gF at h; omega)
theorem look_map {nm : Nat → Str} {g : Nat → Nat} {v : Nat} : ∀ {V : List Nat}, (∀ w ∈ V, nm v = nm w → v = w) → (V.map fun v => (nm v, g v)).lookup (nm v) = if v ∈ V then some (g v) else none
  | [], _ => rfl
  | w :: V, h => by
    simp only [List.map_cons, List.lookup_cons]
    by_cases e : nm v = nm w
    · have := h w (by simp) e; subst this; simp
    · have h1 : (nm v == nm w) = false := by simpa using e
      have h2 : ¬ v = w := fun x => e (by rw [x])
      rw [h1, look_map (V := V) (fun u hu => h u (by simp [hu]))]
      simp [h2]
theorem num_named {nm : Nat → Str} {F : List Nat} {n : Nat} (hinj : ∀ v ∈ F, ∀ w ∈ F, nm v = nm w → v = w) : ∀ (t : Ty) (V : List Nat), firsts t V <+: F →
    (t.named nm).num ⟨V.map fun v => (nm v, gF F n v), n + V.length⟩ = (t.mapv (gF F n), ⟨(firsts t V).map fun v => (nm v, gF F n v), n + (firsts t V).length⟩)
  | .var v, V, h => by
    have hvF : v ∈ F := h.subset ((firsts_has _ _ _).2 (.inr (by simp [Ty.has])))
    have hl := look_map (nm := nm) (g := gF F n) (v := v) (V := V) (fun w hw => hinj v hvF w (((firsts_pre _ _).trans h).subset hw))
    simp only [Ty.named, NT.num, Ty.mapv, hl, firsts] at *
    by_cases hv : v ∈ V
    · simp only [hv, if_true]
    · rw [if_neg hv] at h
      have hg : gF F n v = n + V.length + 1 := by unfold gF; rw [idx_new h hv]; omega
      simp only [if_neg hv, hg]
      simp [hg]; omega
  | .int, V, h => rfl
  | .bool, V, h => rfl
  | .list a, V, h => by simp [Ty.named, NT.num, Ty.mapv, firsts, num_named hinj a V h]
  | .pair a b, V, h => by
    have ha := num_named hinj (n := n) a V ((firsts_pre b _).trans h)
    have hb := num_named hinj (n := n) b _ h
    simp [Ty.named, NT.num, Ty.mapv, firsts, ha, hb]
  | .fn a b, V, h => by
    have ha := num_named hinj (n := n) a V ((firsts_pre b _).trans h)
    have hb := num_named hinj (n := n) b _ h
    simp [Ty.named, NT.num, Ty.mapv, firsts, ha, hb]
theorem look_map2 {f h : Nat → Str} {v : Nat} : ∀ {V : List Nat}, (∀ w ∈ V, f v = f w → v = w) → (V.map fun v => (f v, h v)).lookup (f v) = if v ∈ V then some (h v) else none
  | [], _ => rfl
  | w :: V, hh => by
    simp only [List.map_cons, List.lookup_cons]
    by_cases e : f v = f w
    · have := hh w (by simp) e; subst this; simp
    · have h1 : (f v == f w) = false := by simpa using e
      have h2 : ¬ v = w := fun x => e (by rw [x])
      rw [h1, look_map2 (V := V) (fun u hu => hh u (by simp [hu]))]
      simp [h2]
theorem match_map {nm : Nat → Str} {f g : Nat → Nat} {F : List Nat} (hinj : ∀ v ∈ F, ∀ w ∈ F, nm (f v) = nm (f w) → v = w) : ∀ (t : Ty) (V : List Nat), firsts t V <+: F →
    matchS nm (t.mapv f) (t.mapv g) (V.map fun v => (nm (f v), nm (g v))) = some ((firsts t V).map fun v => (nm (f v), nm (g v)))
  | .var v, V, h => by
    have hvF : v ∈ F := h.subset ((firsts_has _ _ _).2 (.inr (by simp [Ty.has])))
    have hl : (V.map fun v => (nm (f v), nm (g v))).lookup (nm (f v)) = if v ∈ V then some (nm (g v)) else none := by
      exact look_map2 (f := fun v => nm (f v)) (h := fun v => nm (g v)) (fun w hw => hinj v hvF w (((firsts_pre _ _).trans h).subset hw))
    simp only [Ty.mapv, matchS, hl, firsts] at *
    by_cases hv : v ∈ V
    · simp [hv, shownT, showS]
    · simp [hv, shownT, showS]
  | .int, V, h => rfl
  | .bool, V, h => rfl
  | .list a, V, h => by simp only [Ty.mapv, matchS, firsts]; exact match_map hinj a V h
  | .pair a b, V, h => by
    have ha := match_map hinj (g := g) a V ((firsts_pre b _).trans h)
    have hb := match_map hinj (g := g) b _ h
    simp only [Ty.mapv, matchS, firsts, ha, Option.bind_some, hb]
  | .fn a b, V, h => by
    have ha := match_map hinj (g := g) a V ((firsts_pre b _).trans h)
    have hb := match_map hinj (g := g) b _ h
    simp only [Ty.mapv, matchS, firsts, ha, Option.bind_some, hb]

/-! ### the text is read -/
theorem NT.toks_le : ∀ {t : NT}, t.ok → t.toks.length ≤ t.show.length
  | .var n, h => by
    obtain ⟨c, r, rfl, _⟩ := h.head
    simp [NT.toks, NT.show]
  | .int, _ => by simp [NT.toks, NT.show, INT]
  | .bool, _ => by simp [NT.toks, NT.show, BOOL]
  | .list a, h => by
    have := NT.toks_le (t := a) h
    simp [NT.toks, NT.show, LB, RB]; omega
  | .pair a b, h => by
    have := NT.toks_le h.1; have := NT.toks_le h.2
    simp [NT.toks, NT.show, LP, RP]; omega
  | .fn a b, h => by
    have := NT.toks_le h.1; have := NT.toks_le h.2
    simp only [NT.toks, NT.show]
    split <;> simp [LP, RP] <;> omega
theorem toks_show {t : NT} (h : t.ok) : ∃ L u, toks kindsB t.show 0 = L ++ [u] ∧ L.map kt = t.toks ∧ u.kind = .fin := by
  have hl := NT.toks_le h
  obtain ⟨k, hk⟩ : ∃ k, t.show.length + 1 - 0 = t.toks.length + (k + 1) := ⟨t.show.length - t.toks.length, by omega⟩
  have h1 := toksN_R kindsB t.show (t.show.length + 1 - 0) 0
  have h2 := NT.lex t h [] (k + 1) rfl
  rw [List.append_nil] at h2
  rw [List.drop_zero, hk, h2] at h1
  have h3 : lexR kindsB (k + 1) [] = [(.fin, [])] := by simp [lexR, spanN, lexFrom, Tok.stop]
  rw [h3] at h1
  unfold toks
  rw [hk]
  obtain ⟨a, b, e, ha, hb⟩ := map_app_split h1
  obtain ⟨u, z, rfl, hu, hz⟩ := map_cons_split hb
  obtain rfl : z = [] := by simpa using hz
  exact ⟨a, u, e, ha, by simpa using (Prod.mk.injEq _ _ _ _ ▸ hu : _ ∧ _).1⟩
theorem readTy_show {t : NT} (h : t.ok) (hl : t.show.length ≤ 300) (n : Nat) (hn : n ≤ 100000) : readTy t.show n = if (t.num ⟨[], n⟩).1.size > 120 then some (.error { what := 8 }) else some (.ok (t.num ⟨[], n⟩)) := by
  obtain ⟨L, u, e, hL, hu⟩ := toks_show h
  have hle := NT.toks_le h
  have hp := (NT.parse t).whole readFuel ⟨[], n⟩ L [u] (by unfold readFuel; omega) hL (by simp) (by simp [hd, hu]) (by simp only; omega)
  unfold readTy
  rw [if_neg (by omega), e, hp]
  simp only [Res.bind, want, hd, List.headD_cons, hu, if_true]
/-- A type that was read: its names are its own. -/
theorem letters_okn {n : Nat} (h : n < 130) : OkN (letters n) := by
  have hall : (List.range 130).all (fun n => (match letters n with | c :: _ => low c | [] => false) && (letters n).all lowfig && decide ((letters n).length ≤ 8) && !kindsB (letters n)) = true := by decide +kernel
  have := List.all_eq_true.1 hall n (by simpa using h)
  simp only [Bool.and_eq_true, decide_eq_true_eq, Bool.not_eq_true'] at this
  obtain ⟨⟨⟨h1, h2⟩, h3⟩, h4⟩ := this
  refine ⟨?_, fun c hc => List.all_eq_true.1 h2 c hc, h3, h4⟩
  split at h1
  · rename_i c r e; exact ⟨c, r, e, h1⟩
  · cases h1
theorem letters_inj {a b : Nat} (ha : a < 130) (hb : b < 130) (h : letters a = letters b) : a = b := by
  have hnd : ((List.range 130).map letters).Nodup := by decide +kernel
  have h1 : ((List.range 130).map letters)[a]'(by simpa using ha) = ((List.range 130).map letters)[b]'(by simpa using hb) := by simpa using h
  exact (List.getElem_inj hnd).1 h1
theorem named_ok {nm : Nat → Str} : ∀ {t : Ty}, (∀ v, t.has v = true → OkN (nm v)) → (t.named nm).ok
  | .var v, h => h v (by simp [Ty.has])
  | .int, _ => trivial
  | .bool, _ => trivial
  | .list a, h => named_ok (t := a) h
  | .pair a b, h => ⟨named_ok (t := a) fun v hv => h v (by simp [Ty.has, hv]), named_ok (t := b) fun v hv => h v (by simp [Ty.has, hv])⟩
  | .fn a b, h => ⟨named_ok (t := a) fun v hv => h v (by simp [Ty.has, hv]), named_ok (t := b) fun v hv => h v (by simp [Ty.has, hv])⟩
end Go.Proofs.YtabikmkoajdhmaaGreatDoor
