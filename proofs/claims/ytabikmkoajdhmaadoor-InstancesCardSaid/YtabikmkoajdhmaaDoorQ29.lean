/- slices.Sorted(maps.Keys(m)) at maps of the program's own form, by a contract. -/
import Derived.Test.YtabikmkoajdhmaaDoorShelf
import Derived.Test.YtabikmkoajdhmaaDoorQ22
import Derived.Maps.Own
import Derived.CallsIn
import Derived.StringKeys
set_option linter.unusedVariables false
set_option linter.unusedSimpArgs false
namespace Go.Proofs.YtabikmkoajdhmaaDoor
open Go.RowKit Go.Maps Go.Sort Go.MapKept
open Go.WideElems (Fit rd rg)

def sortS (l : List Str) : List Str := l.mergeSort fun x y => decide (x ≤ y)
theorem keys_call (mb : Option Nat) (W : World) : Calls Tryd.prog 34 #[.map mb] W fun e w' => e = .returned (.func (.func 61) #[] #[.pointer (some ⟨W.heap.size, 0, none⟩)]) ∧ w' = W.alloc (.cells #[.map mb] 82) :=
  (callsIn_wide (n := 5)).1 (Tryd.maps_Keys_34 mb W)
theorem below_keep0 {w w' : World} (h : Below w.heap.size w w') : Keep none' w w' := ⟨h.os, h.output, h.size, fun k hk _ => h.block k hk⟩
theorem insert_perm {H : Type} (x : Lit × DataW H) : ∀ l : List (Lit × DataW H), (DataW.insert x l).Perm (x :: l)
  | [] => .refl _
  | y :: r => by
    unfold DataW.insert
    split
    · exact .refl _
    · exact ((insert_perm x r).cons y).trans (.swap x y r)
theorem foldr_perm {H : Type} : ∀ l : List (Lit × DataW H), (l.foldr DataW.insert []).Perm l
  | [] => .refl _
  | x :: r => by
    simp only [List.foldr_cons]
    exact (insert_perm x _).trans ((foldr_perm r).cons x)
def R0 : Value → Option (DataW Unit × List MemPlace) := fun _ => some (.nil, [])
theorem rg_key {s : Str} {v : Value} {i : Nat} (hs : s.length ≤ maxLen) : rg Tryd.prog 9 R0 ⟨kStr s, v, i⟩ = (.string s, .nil) := by
  have hk := Go.WideMaps.keyOf_string_mk (P := Tryd.prog) (k := 9) Tryd.underlying9 (s := bs s) (by rw [bs_size]; exact hs)
  unfold Go.WideElems.rg Go.WideElems.rd
  simp only [kStr, hk, R0]
  simp [bs]
theorem ment_keys : ∀ (i : Nat) (l : List (Str × Value)), (∀ p ∈ l, p.1.length ≤ maxLen) → ((ment kStr i l).map (rg Tryd.prog 9 R0)).map (fun p => strOf p.1) = l.map (·.1)
  | _, [], _ => rfl
  | i, (s, v) :: r, h => by
    simp only [ment, List.map_cons]
    rw [ment_keys (i + 1) r (fun p hp => h p (by simp [hp])), rg_key (h (s, v) (by simp))]
    rfl
theorem own_map {w : World} {b : Nat} {l : List (Str × Value)} (hb : w.heap[b]? = some (kmap kStr l)) (hn : (l.map (·.1)).Nodup) (hs : ∀ p ∈ l, p.1.length ≤ maxLen) (hl : l.length ≤ maxLen) :
    ∃ D0 : DataW Unit, w.ownsMap Tryd.prog 9 R0 b l.length D0 ∧ (strKeys D0).Perm (l.map (·.1)) ∧ Maps.size D0 = l.length := by
  have hm : ∀ x ∈ ment kStr 0 l, ∃ s v i, x = ⟨kStr s, v, i⟩ ∧ s.length ≤ maxLen := by
    have : ∀ (i : Nat) (l : List (Str × Value)), (∀ p ∈ l, p.1.length ≤ maxLen) → ∀ x ∈ ment kStr i l, ∃ s v j, x = ⟨kStr s, v, j⟩ ∧ s.length ≤ maxLen := by
      intro i l
      induction l generalizing i with
      | nil => intro _ x hx; simp [ment] at hx
      | cons p r ih =>
        intro h x hx
        simp only [ment, List.mem_cons] at hx
        rcases hx with rfl | hx
        · exact ⟨_, _, _, rfl, h p (by simp)⟩
        · exact ih (i + 1) (fun q hq => h q (by simp [hq])) x hx
    exact this 0 l hs
  have hborn : ∀ (i : Nat) (l : List (Str × Value)), (∀ x ∈ ment kStr i l, i ≤ x.born ∧ x.born < i + l.length) ∧ ((ment kStr i l).map (·.born)).Nodup := by
    intro i l
    induction l generalizing i with
    | nil => simp [ment]
    | cons p r ih =>
      obtain ⟨h1, h2⟩ := ih (i + 1)
      refine ⟨fun x hx => ?_, ?_⟩
      · simp only [ment, List.mem_cons] at hx
        rcases hx with rfl | hx
        · simp
        · have := h1 x hx; simp only [List.length_cons]; omega
      · simp only [ment, List.map_cons, List.nodup_cons]
        refine ⟨fun hm => ?_, h2⟩
        obtain ⟨x, hx, e⟩ := List.mem_map.1 hm
        have := h1 x hx; omega
  have hkeys : ∀ (i : Nat) (l : List (Str × Value)), (ment kStr i l).map (·.key) = (l.map (·.1)).map kStr := by
    intro i l
    induction l generalizing i with
    | nil => rfl
    | cons p r ih => simp only [ment, List.map_cons, ih (i + 1)]
  refine ⟨.map (((ment kStr 0 l).map (rg Tryd.prog 9 R0)).foldr DataW.insert []), ⟨(ment kStr 0 l).toArray, l.length, hb, ⟨by simpa [ment_len] using hl, ⟨fun x hx => ?_, ?_, ?_⟩, fun x hx => ?_⟩, by simp [ment_len], by simp⟩, ?_, ?_⟩
  · have := ((hborn 0 l).1 x (by simpa using hx)).2; omega
  · simpa using (hborn 0 l).2
  · have := hkeys 0 l
    simp only [this]
    refine List.Pairwise.map kStr (fun x y hxy e => hxy ?_) hn
    have e' : (Value.string (bs x)) = .string (bs y) := e
    injection e' with e'
    exact bs_inj e'
  · obtain ⟨s, v, j, rfl, hs'⟩ := hm x (by simpa using hx)
    have hk := Go.WideMaps.keyOf_string_mk (P := Tryd.prog) (k := 9) Tryd.underlying9 (s := bs s) (by rw [bs_size]; exact hs')
    exact ⟨_, by unfold Go.WideElems.rd; simp only [kStr, hk, R0]; rfl⟩
  · have h1 := (foldr_perm ((ment kStr 0 l).map (rg Tryd.prog 9 R0))).map (fun p : Lit × DataW Unit => strOf p.1)
    rw [ment_keys 0 l hs] at h1
    exact h1
  · have h1 := (foldr_perm ((ment kStr 0 l).map (rg Tryd.prog 9 R0))).length_eq
    simp only [Maps.size]
    rw [h1]
    simp [ment_len]
theorem sorted_call {b : Nat} {l : List (Str × Value)} (w : World) (hb : w.heap[b]? = some (kmap kStr l)) (hn : (l.map (·.1)).Nodup) (hs : ∀ p ∈ l, p.1.length ≤ 1000000) (hl : l.length ≤ 1000000) :
    Calls Tryd.prog 33 #[.func (.func 61) #[] #[.pointer (some ⟨w.heap.size, 0, none⟩)]] (w.alloc (.cells #[.map (some b)] 82)) fun e w' => ∃ v, e = .returned v ∧
      w'.ownsRow (w.heap.size + 1) 9 1 v l.length ((sortS (l.map (·.1))).map fun s => .string (bs s)) ∧ Keep none' (w.alloc (.cells #[.map (some b)] 82)) w' := by
  obtain ⟨D0, hown, hperm, hsz⟩ := own_map hb hn (fun p hp => Nat.le_trans (hs p hp) (by decide)) (Nat.le_trans hl (by decide))
  have hc := (callsIn_wide (n := 5)).1 (Tryd.slices_Sorted_keys_33_34 b l.length D0 R0 w hown (by rw [hsz]; exact Nat.le_trans hl (by decide)) (by rw [hsz]; omega))
  refine hc.mono ?_
  rintro e w' ⟨v, ss, rfl, hp, hrow, _, hbel⟩
  refine ⟨v, rfl, ?_, below_keep0 hbel⟩
  have hp2 := hp.trans hperm
  have hlen : ss.length = l.length := by rw [hp2.length_eq]; simp
  have hsort : ss.mergeSort (fun x y => decide (x ≤ y)) = sortS (l.map (·.1)) := mergeSort_of_perm hp2
  rw [hsort, hlen] at hrow
  have hz : (w.alloc (.cells #[.map (some b)] 82)).heap.size = w.heap.size + 1 := by simp
  rw [hz] at hrow
  exact hrow
theorem sorted_nil (w : World) :
    Calls Tryd.prog 33 #[.func (.func 61) #[] #[.pointer (some ⟨w.heap.size, 0, none⟩)]] (w.alloc (.cells #[.map none] 82)) fun e w' => e = .returned (.slice none 0 0) ∧ Keep none' (w.alloc (.cells #[.map none] 82)) w' := by
  have hc := (callsIn_wide (n := 5)).1 (Tryd.slices_Sorted_keys_nil_33_34 w)
  refine hc.mono ?_
  rintro e w' ⟨v, ss, rfl, rfl, _, hv, hbel⟩
  exact ⟨by rw [hv.2 rfl], below_keep0 hbel⟩
end Go.Proofs.YtabikmkoajdhmaaDoor
