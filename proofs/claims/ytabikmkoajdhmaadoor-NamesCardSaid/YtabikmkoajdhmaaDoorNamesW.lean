/- plain.Names by a contract: the five bounds, the 128 answers of errors.Is, the place that errors.As brings. -/
import Derived.Test.YtabikmkoajdhmaaDoorSents
import Derived.WalkLawsBesides
import Derived.WalkSpells
import Derived.BigQuiet
import Derived.Outline
import Derived.Deep.LoopGhost
import Derived.Maps.AppendAt
import Derived.Lib.Hide
namespace Go.Proofs.YtabikmkoajdhmaaDoor
open Go.RowKit

theorem own_keep0 {S : Nat → Prop} {w w' : World} {base : Nat} {e : TypeId} {size : Nat} {v : Value} {n : Nat} {xs : List Value} (h : w.ownsRow base e size v n xs) (k : Keep S w w') (hn : ∀ g, v.ownBlock = some g → ¬ S g) : w'.ownsRow base e size v n xs := by
  refine ⟨h.1, ?_⟩
  rcases h.2 with hz | ⟨g, cap, cur, rfl, hb, hgg, rest⟩
  · exact .inl hz
  · exact .inr ⟨g, cap, cur, rfl, hb, k.get hgg (hn g rfl), rest⟩

/-- The first n of the 128 answers. -/
def sameV (n : Nat) : List Value := (List.range n).map fun k => .bool (decide (k / 16 = k % 16 / 2))
theorem sameV_len (n : Nat) : (sameV n).length = n := by simp [sameV]
theorem sameV_two (i j : Nat) (hj : j < 8) : sameV (16 * i + 2 * j) ++ [.bool (decide (i = j)), .bool (decide (i = j))] = sameV (16 * i + 2 * j + 2) := by
  unfold sameV
  rw [show 16 * i + 2 * j + 2 = (16 * i + 2 * j + 1) + 1 from rfl, List.range_succ, List.range_succ, List.map_append, List.map_append, List.append_assoc]
  have e1 : (16 * i + 2 * j) / 16 = i := by omega
  have e2 : (16 * i + 2 * j) % 16 / 2 = j := by omega
  have e3 : (16 * i + 2 * j + 1) / 16 = i := by omega
  have e4 : (16 * i + 2 * j + 1) % 16 / 2 = j := by omega
  simp only [List.map_cons, List.map_nil, e1, e2, e3, e4, List.cons_append, List.nil_append]

theorem und_bools : Tryd.prog.underlying 23 = some (.slice 4) := by kernel_rfl
theorem info_bool : (Tryd.prog.info? 4).map (fun i => (i.zero, i.size, i.bytes)) = some (some (.bool false), 1, 1) := by kernel_rfl

def senArr (p : Nat → Addr) : Array Value := #[sen p 0, sen p 1, sen p 2, sen p 3, sen p 4, sen p 5, sen p 6, sen p 7]
theorem senArr_get (p : Nat → Addr) (i : Nat) (h : i < 8) : (senArr p)[i]? = some (sen p i) := by
  obtain rfl | rfl | rfl | rfl | rfl | rfl | rfl | rfl : i = 0 ∨ i = 1 ∨ i = 2 ∨ i = 3 ∨ i = 4 ∨ i = 5 ∨ i = 6 ∨ i = 7 := by omega
  all_goals rfl

theorem cell_two_new (w : World) (u v : Value) (T : TypeId) : ∀ j x, [u, v][j]? = some x → (w.alloc (.cells #[u, v] T)).cell? ((⟨w.heap.size, 0, none⟩ : Addr).add j) = some x := fun j x hj => by
  have hadd : (⟨w.heap.size, 0, none⟩ : Addr).add j = ⟨w.heap.size, j, none⟩ := by unfold Addr.add; split <;> simp_all
  rw [hadd]
  refine cell_of_heap (heap_new w _) ?_
  match j with
  | 0 => simpa using hj
  | 1 => simpa using hj
  | n + 2 => simp at hj
/-- errors.Is at two sentinels. -/
theorem is_sen {p : Nat → Addr} {w : World} (h : Sents p w) (i j : Nat) (hi : i < 8) (hj : j < 8) :
    Calls Tryd.prog 19 #[.iface 264 (.pointer (some (p i))), .iface 264 (.pointer (some (p j)))] w fun e w' => e = .returned (.bool (decide (i = j))) ∧ w = w' := by
  by_cases hij : i = j
  · subst hij; simpa using is_same (p i) w
  · obtain ⟨c, T, hc⟩ := h.blk i hi
    obtain ⟨c', T', hc'⟩ := h.blk j hj
    have := is_other (p i) (p j) c c' T T' w (h.inj i j hi hj hij) hc hc'
    simpa [hij] using this
theorem is_env_sen {p : Nat → Addr} {w : World} (h : Sents p w) (b i j : Nat) (hi : i < 8) (hj : j < 8) (hb : w.cell? ⟨b, 1, none⟩ = some (sen p i)) :
    Calls Tryd.prog 19 #[.iface 54 (.pointer (some ⟨b, 0, none⟩)), .iface 264 (.pointer (some (p j)))] w fun e w' => e = .returned (.bool (decide (i = j))) ∧ w = w' := by
  by_cases hij : i = j
  · subst hij; simpa using is_env_same b (p i) w hb
  · obtain ⟨c, T, hc⟩ := h.blk i hi
    obtain ⟨c', T', hc'⟩ := h.blk j hj
    have := is_env_other b (p j) (p i) c c' T T' w hb (h.inj i j hi hj hij) hc hc'
    simpa [hij] using this

def NamesPost (w : World) (e : Ending) (w' : World) : Prop := ∃ s1, e = .returned (.tuple #[.slice (some ⟨w.heap.size, 0, none⟩) 5 5, s1, .int .i64 3]) ∧ Keep none' w w' ∧
  w'.heap[w.heap.size]? = some (.cells #[.int .i64 300, .int .i64 8, .int .i64 40, .int .i64 120, .int .i64 12] 3) ∧ w'.ownsRow (w.heap.size + 2) 4 1 s1 128 (sameV 128)

set_option maxRecDepth 100000 in
set_option maxHeartbeats 4000000 in
theorem names_any (p : Nat → Addr) (w : World) (hs : Sents p w) : Calls Tryd.prog 7 #[] w (NamesPost w) := by
  obtain ⟨ib, hib, zb0, zb1, zb2⟩ := info_parts info_bool
  have g0 := hs.glob 0 (by omega)
  have g1 := hs.glob 1 (by omega)
  have g2 := hs.glob 2 (by omega)
  have g3 := hs.glob 3 (by omega)
  have g4 := hs.glob 4 (by omega)
  have g5 := hs.glob 5 (by omega)
  have g6 := hs.glob 6 (by omega)
  have g7 := hs.glob 7 (by omega)
  simp only [gno, sen] at g0 g1 g2 g3 g4 g5 g6 g7
  have l0 := lt_of_cell g0
  have l1 := lt_of_cell g1
  have l2 := lt_of_cell g2
  have l3 := lt_of_cell g3
  have l4 := lt_of_cell g4
  have l5 := lt_of_cell g5
  have l6 := lt_of_cell g6
  have l7 := lt_of_cell g7
  simp only at l0 l1 l2 l3 l4 l5 l6 l7
  have HS := Lib.hid hs; clear hs
  let W0 : World := (w.alloc (.cells #[.int .i64 300, .int .i64 8, .int .i64 40, .int .i64 120, .int .i64 12] 3)).alloc (.cells (senArr p) 52)
  have hW0 : W0.heap.size = w.heap.size + 2 := by simp [W0]
  have HK0 : Hid (Keep none' w W0) := Lib.hid ((Keep.alloc _ _ _).trans (Keep.alloc _ _ _))
  have HA0 : Hid (W0.heap[w.heap.size + 1]? = some (.cells (senArr p) 52)) := Lib.hid (by
    have := heap_new (w.alloc (.cells #[.int .i64 300, .int .i64 8, .int .i64 40, .int .i64 120, .int .i64 12] 3)) (.cells (senArr p) 52)
    rw [show (w.alloc (.cells #[.int .i64 300, .int .i64 8, .int .i64 40, .int .i64 120, .int .i64 12] 3)).heap.size = w.heap.size + 1 by simp] at this
    exact this)
  have HB0 : Hid (W0.heap[w.heap.size]? = some (.cells #[.int .i64 300, .int .i64 8, .int .i64 40, .int .i64 120, .int .i64 12] 3)) := Lib.hid (heap_old (heap_new _ _))
  have HW0 := Lib.hid hW0; clear hW0
  go_enter Tryd.func7, Tryd.ntmps7
  go_wp2_with fail
  clear g0 g1 g2 g3 g4 g5 g6 g7 l0 l1 l2 l3 l4 l5 l6 l7
  go_loopg [1, 23] 8 (fun n s1 s23 wr => ∃ i : Nat, i ≤ 8 ∧ Hid (n = 8 - i) ∧ s23 = .int .i64 i ∧ Hid (wr.ownsRow (w.heap.size + 2) 4 1 s1 (16 * i) (sameV (16 * i))) ∧ Hid (Keep none' W0 wr))
  case atStart => exact ⟨0, by omega, Lib.hid rfl, rfl, Lib.hid (World.ownsRow_nil _ _ _ _), Lib.hid (Keep.refl _ _)⟩
  case round =>
    obtain ⟨wo, rfl⟩ : ∃ wo : World, wo = wr := ⟨_, rfl⟩
    obtain ⟨i, hi, HN, rfl, HO, HK⟩ := hrel
    have hii : (0 : Int) ≤ (i : Int) := by omega
    by_cases hlt : i < 8
    · have ci : wo.cell? ⟨w.heap.size + 1, i, none⟩ = some (sen p i) := cell_of_heap (HK.out.get HA0.out (fun x => x)) (senArr_get p i hlt)
      simp only [sen] at ci
      have hil : ((i : Int) < 8) := by omega
      go_wp2_with fail
      have HE : Hid ((wo.alloc (.cells #[.string ⟨#[120]⟩, sen p i] 56)).heap[wo.heap.size]? = some (.cells #[.string ⟨#[120]⟩, sen p i] 56)) := Lib.hid (heap_new _ _)
      have HKE : Hid (Keep none' W0 (wo.alloc (.cells #[.string ⟨#[120]⟩, sen p i] 56))) := Lib.hid (HK.out.trans (Keep.alloc _ _ _))
      have hsr : w.heap.size + 2 ≤ wo.heap.size := by have := HK.out.size; rw [HW0.out] at this; exact this
      go_loopg [1, 33] 8 (fun n s1 s33 wr2 => ∃ j : Nat, j ≤ 8 ∧ Hid (n = 8 - j) ∧ s33 = .int .i64 j ∧ Hid (wr2.ownsRow (w.heap.size + 2) 4 1 s1 (16 * i + 2 * j) (sameV (16 * i + 2 * j))) ∧ Hid (∀ b, s1.ownBlock = some b → b ≠ wo.heap.size) ∧ Hid (Keep none' W0 wr2) ∧ Hid (wr2.heap[wo.heap.size]? = some (.cells #[.string ⟨#[120]⟩, sen p i] 56)))
      case atStart => exact ⟨0, by omega, Lib.hid rfl, rfl, Lib.hid (HO.out.alloc _), Lib.hid (fun b hb => by have := (HO.out.lt b hb).2; omega), HKE, HE⟩
      case round =>
        clear ci HO HKE HE
        obtain ⟨j, hj, HM, rfl, HO, HOB, HK2, HEN⟩ := hrel
        have hjj : (0 : Int) ≤ (j : Int) := by omega
        by_cases hlj : j < 8
        · have cj : wr.cell? ⟨w.heap.size + 1, j, none⟩ = some (sen p j) := cell_of_heap (HK2.out.get HA0.out (fun x => x)) (senArr_get p j hlj)
          simp only [sen] at cj
          have hs2 : Hid (Sents p wr) := Lib.hid (HS.out.keep0 (HK0.out.trans HK2.out))
          have hjl : ((j : Int) < 8) := by omega
          have hlo := lt_of_heap HEN.out
          go_wp2_with fail
          refine (is_sen hs2.out i j hlt hlj).mono ?_
          rintro e w' ⟨rfl, rfl⟩
          go_wp2_with fail
          refine (is_env_sen hs2.out wo.heap.size i j hlt hlj (cell_of_heap HEN.out rfl)).mono ?_
          rintro e w' ⟨rfl, rfl⟩
          have own := HO.out.alloc (.cells #[.bool (decide (i = j)), .bool (decide (i = j))] 4)
          have h2 := cell_two_new wr (.bool (decide (i = j))) (.bool (decide (i = j))) 4
          have H2 := Lib.hid h2; clear h2
          have hsz : w.heap.size + 2 ≤ wr.heap.size := by have := HK2.out.size; rw [HW0.out] at this; exact this
          go_wp2_with (first | (at_builtin; refine wpList_append_own_at _ rfl _ _ 23 rfl (w.heap.size + 2) 4 ib (.bool false) 1 1 und_bools hib zb0 zb1 zb2 rfl (by decide) _ (16 * i + 2 * j) _ rfl own ⟨wr.heap.size, 0, none⟩ 2 2 [.bool (decide (i = j)), .bool (decide (i = j))] rfl rfl H2.out (fun x hx => by simp at hx; subst hx; rfl) (by unfold maxLen; omega) (by omega) (by simp; omega) ?_; intro v4 w4 own4 g4 _ at4))
          rw [sameV_two i j hlj] at own4
          have k4 : Keep none' W0 w4 := Keep.grown0 (HK2.out.trans (Keep.alloc _ _ _)) g4 (fun b e => by rw [HW0.out]; exact (HO.out.lt b e).1)
          have e4 := (Keep.grown (S := fun b => b ≠ wo.heap.size) g4 (fun b e _ => HOB.out b e)).get (heap_old HEN.out) (fun h => h rfl)
          have o4 : ∀ b, v4.ownBlock = some b → b ≠ wo.heap.size := fun b hb => by
            rcases at4 with e | e
            · exact HOB.out b (e ▸ hb)
            · rw [e] at hb; cases hb; simp; omega
          have HO4 := Lib.hid own4; have HK4 := Lib.hid k4; have HE4 := Lib.hid e4; have HOB4 := Lib.hid o4
          clear own own4 k4 e4 o4 g4 at4 HO HOB HK2 HEN H2 cj
          go_wp2_with fail
          go_roundg (8 - (j + 1))
          case measure => have := HM.out; omega
          case rel => exact ⟨j + 1, by omega, Lib.hid rfl, by go_num, HO4, HOB4, HK4, HE4⟩
        · have hj8 : j = 8 := by omega
          subst hj8
          have HO8 : Hid (wr.ownsRow (w.heap.size + 2) 4 1 u1 (16 * (i + 1)) (sameV (16 * (i + 1)))) := Lib.hid (by have := HO.out; rw [show 16 * i + 2 * 8 = 16 * (i + 1) by omega] at this; exact this)
          go_wp2_with fail
          go_roundg (8 - (i + 1))
          case measure => have := HN.out; omega
          case rel => exact ⟨i + 1, by omega, Lib.hid rfl, by go_num, HO8, HK2⟩
    · have hi8 : i = 8 := by omega
      subst hi8
      have hg : ErrTypeLaid wo := (HS.out.keep0 (HK0.out.trans HK.out)).et
      have HG := Lib.hid hg; clear hg
      go_wp2_with fail
      have hX0 : (((wo.alloc (.cells #[.pointer none] 58)).alloc (.cells #[.int .i64 3] 60)).alloc (.cells #[.string ⟨#[120]⟩, .iface 58 (.pointer (some ⟨wo.heap.size + 1, 0, none⟩))] 56)).heap[wo.heap.size]? = some (.cells #[.pointer none] 58) := heap_old (heap_old (heap_new _ _))
      have hX1 : (((wo.alloc (.cells #[.pointer none] 58)).alloc (.cells #[.int .i64 3] 60)).alloc (.cells #[.string ⟨#[120]⟩, .iface 58 (.pointer (some ⟨wo.heap.size + 1, 0, none⟩))] 56)).heap[wo.heap.size + 1]? = some (.cells #[.int .i64 3] 60) := by
        have := heap_new (wo.alloc (.cells #[.pointer none] 58)) (.cells #[.int .i64 3] 60)
        rw [show (wo.alloc (.cells #[.pointer none] 58)).heap.size = wo.heap.size + 1 by simp] at this
        exact heap_old this
      have hX2 : (((wo.alloc (.cells #[.pointer none] 58)).alloc (.cells #[.int .i64 3] 60)).alloc (.cells #[.string ⟨#[120]⟩, .iface 58 (.pointer (some ⟨wo.heap.size + 1, 0, none⟩))] 56)).heap[wo.heap.size + 2]? = some (.cells #[.string ⟨#[120]⟩, .iface 58 (.pointer (some ⟨wo.heap.size + 1, 0, none⟩))] 56) := by
        have := heap_new ((wo.alloc (.cells #[.pointer none] 58)).alloc (.cells #[.int .i64 3] 60)) (.cells #[.string ⟨#[120]⟩, .iface 58 (.pointer (some ⟨wo.heap.size + 1, 0, none⟩))] 56)
        rw [show ((wo.alloc (.cells #[.pointer none] 58)).alloc (.cells #[.int .i64 3] 60)).heap.size = wo.heap.size + 2 by simp] at this
        exact this
      have kX : Keep none' wo (((wo.alloc (.cells #[.pointer none] 58)).alloc (.cells #[.int .i64 3] 60)).alloc (.cells #[.string ⟨#[120]⟩, .iface 58 (.pointer (some ⟨wo.heap.size + 1, 0, none⟩))] 56)) := ((Keep.alloc _ _ _).trans (Keep.alloc _ _ _)).trans (Keep.alloc _ _ _)
      refine (as_hitNS (wo.heap.size + 2) ⟨wo.heap.size + 1, 0, none⟩ ⟨wo.heap.size, 0, none⟩ (.pointer none) _ (HG.out.keep kX (fun x => x)) (cell_of_heap hX0 rfl) (free_of_heap hX0) (cell_of_heap hX2 rfl)).mono ?_
      rintro e w' ⟨rfl, hw⟩
      have kY := (asBase_keep none' 62 ⟨wo.heap.size, 0, none⟩ (((wo.alloc (.cells #[.pointer none] 58)).alloc (.cells #[.int .i64 3] 60)).alloc (.cells #[.string ⟨#[120]⟩, .iface 58 (.pointer (some ⟨wo.heap.size + 1, 0, none⟩))] 56))).trans (Keep.alloc _ _ (.cells #[.pointer (some ⟨wo.heap.size + 1, 0, none⟩)] 58))
      have kS : Keep none' wo w' := by
        rw [hw]
        exact (kX.trans kY).trans' (Keep.setCell (S := one' wo.heap.size) _ _ (fun _ => rfl)) (fun _ _ x => x) (fun b hb (e : b = wo.heap.size) => by omega)
      have d0 : w'.cell? ⟨wo.heap.size, 0, none⟩ = some (.pointer (some ⟨wo.heap.size + 1, 0, none⟩)) := by
        rw [hw]; exact cell_of_heap (heap_set_same (kY.get hX0 (fun x => x))) rfl
      have d1 : w'.cell? ⟨wo.heap.size + 1, 0, none⟩ = some (.int .i64 3) := by
        rw [hw]; exact cell_of_heap (heap_set_other (kY.get hX1 (fun x => x)) (by simp)) rfl
      clear hw kY kX hX0 hX1 hX2
      have HO' : Hid (w'.ownsRow (w.heap.size + 2) 4 1 u1 128 (sameV 128)) := Lib.hid (own_keep0 HO.out kS (fun _ _ x => x))
      have HB' : Hid (w'.heap[w.heap.size]? = some (.cells #[.int .i64 300, .int .i64 8, .int .i64 40, .int .i64 120, .int .i64 12] 3)) := Lib.hid (kS.get (HK.out.get HB0.out (fun x => x)) (fun x => x))
      have HK' : Hid (Keep none' w w') := Lib.hid ((HK0.out.trans HK.out).trans kS)
      clear kS HO HK HG
      go_wp2_with fail
      go_ret3
      exact ⟨_, rfl, HK'.out, HB'.out, HO'.out⟩
end Go.Proofs.YtabikmkoajdhmaaDoor
