/- The walk over may. -/
import Derived.Test.YtkfajeicbkeigaaDoorS4
namespace Go.Proofs.YtkfajeicbkeigaaDoor
open Go.RowKit
theorem ofV_yes {a b : Int} (h : 0 ≤ a ∧ 1 ≤ b) : ∃ x y : Int, ofV a b = .tuple #[.agg (shA x y), .int .i64 0] ∧ decide (x = a ∧ y = b) = mayI a b := by
  obtain ⟨h1, h2⟩ := h
  obtain ⟨x, rfl⟩ : ∃ x : Nat, a = x := ⟨a.toNat, by omega⟩
  obtain ⟨y, rfl⟩ : ∃ y : Nat, b = y := ⟨b.toNat, by omega⟩
  refine ⟨_, _, by unfold ofV; rw [if_pos ⟨h1, h2⟩], ?_⟩
  unfold mayI
  simp only [Int.toNat_natCast]
  rw [Bool.eq_iff_iff]
  simp only [decide_eq_true_eq, Bool.and_eq_true]
  rw [may_same (by omega)]
  exact ⟨fun h => ⟨⟨h1, h2⟩, h⟩, fun h => h.2⟩
theorem ofV_no {a b : Int} (h : ¬ (0 ≤ a ∧ 1 ≤ b)) : ofV a b = .tuple #[.agg (shA 0 0), .int .i64 5] ∧ mayI a b = false := by
  refine ⟨by unfold ofV; rw [if_neg h], ?_⟩
  unfold mayI
  rw [Bool.eq_false_iff]
  intro hm
  simp only [Bool.and_eq_true, decide_eq_true_eq] at hm
  exact h hm.1
set_option maxRecDepth 100000 in
set_option maxHeartbeats 2000000 in
theorem may39 (a b : Int) (ha : a ≤ 9223372036854775807) (hb : b ≤ 9223372036854775807) (w : World) :
    Calls Tryd.prog 39 #[.agg (shA a b)] w fun e w' => e = .returned (.bool (mayI a b)) ∧ Below w.heap.size w w' := by
  have HC : Hid (∀ W, Calls Tryd.prog 8 #[.int .i64 a, .int .i64 b] W fun e w' => e = .returned (ofV a b) ∧ Below W.heap.size W w') := Lib.hid (fun W => of8 a b ha hb W)
  have g23 := guard23
  have HG0 : Hid (∀ W, Below (w.heap.size + 1) (w.alloc (.cells (shA a b) 23)) W → W.heap[w.heap.size]? = some (.cells (shA a b) 23 (0, 0))) := Lib.hid (fun W hb => (hb.block _ (by omega)).trans (heap_alloc_new w _))
  have HB0 : Hid (Below w.heap.size w (w.alloc (.cells (shA a b) 23))) := Lib.hid ((Below.refl _ _).alloc (Nat.le_refl _) _)
  by_cases h : 0 ≤ a ∧ 1 ≤ b
  · obtain ⟨x, y, h1, h2⟩ := ofV_yes h
    rw [h1] at HC
    have e23 := fun W => eq23 x a y b W
    rw [h2] at e23
    generalize mayI a b = r at *
    clear h h1 h2 ha hb
    unfold shA at *
    go_enter Tryd.func39, Tryd.ntmps39
    go_wp2_with fail
    refine Calls.mono (HC.out _) ?_
    rintro e w3 ⟨rfl, hb3⟩
    have HB3 := Lib.hid hb3
    have hz : w3.heap[w.heap.size]? = some (.cells #[.int .i64 a, .int .i64 b] 23 (0, 0)) := HG0.out w3 (hb3.mono (by simp))
    have hc0 : w3.cell? ⟨w.heap.size, 0, none⟩ = some (.int .i64 a) := cell_of_row w3 _ 0 _ 23 _ hz
    have hc1 : w3.cell? ⟨w.heap.size, 1, none⟩ = some (.int .i64 b) := cell_of_row w3 _ 1 _ 23 _ hz
    have hlt : w.heap.size < w3.heap.size := by have := hb3.size; simp at this; omega
    have hd0 : ∀ o, (w3.alloc o).cell? ⟨w.heap.size, 0, none⟩ = some (.int .i64 a) := fun o => (((Below.refl w3.heap.size w3).alloc (Nat.le_refl _) o).cell (p := ⟨w.heap.size, 0, none⟩) hlt).trans hc0
    have hd1 : ∀ o, (w3.alloc o).cell? ⟨w.heap.size, 1, none⟩ = some (.int .i64 b) := fun o => (((Below.refl w3.heap.size w3).alloc (Nat.le_refl _) o).cell (p := ⟨w.heap.size, 1, none⟩) hlt).trans hc1
    clear hb3 hz hlt hc0 hc1
    go_wp2_with fail
    go_ret
    exact ⟨rfl, (HB0.out.trans (HB3.out.mono HB0.out.size)).alloc (by have := HB3.out.size; simp at this; omega) _⟩
  · obtain ⟨h1, h2⟩ := ofV_no h
    rw [h1] at HC
    rw [h2]
    clear h h1 h2 ha hb
    unfold shA at *
    go_enter Tryd.func39, Tryd.ntmps39
    go_wp2_with fail
    refine Calls.mono (HC.out _) ?_
    rintro e w3 ⟨rfl, hb3⟩
    have HB3 := Lib.hid hb3
    clear hb3
    go_wp2_with fail
    go_ret
    exact ⟨rfl, (HB0.out.trans (HB3.out.mono HB0.out.size)).alloc (by have := HB3.out.size; simp at this; omega) _⟩
end Go.Proofs.YtkfajeicbkeigaaDoor
