/- The walks over numbers, small's test, small. -/
import Derived.Test.YtjakkmioofbcaaaDoorB3
import Derived.Shelf.GgSortFunc.Insertion
import Derived.Test.YtjakkmioofbcaaaDoorShelf
import Derived.Deep.RegionHeld3
namespace Go.Proofs.YtjakkmioofbcaaaDoor
open Go.RowKit Go.Lib
theorem bdrew {B : Nat} {a w : World} (h : Below B a w) : Below B a w.drew := ⟨h.os, h.tape, h.output, h.size, h.block⟩
abbrev ptA (b o : Nat) : Array Value := #[.pointer (some ⟨b, o, none⟩), .pointer (some ⟨b, o + 1, none⟩), .pointer (some ⟨b, o + 2, none⟩), .pointer (some ⟨b, o + 3, none⟩), .pointer (some ⟨b, o + 4, none⟩), .pointer (some ⟨b, o + 5, none⟩), .pointer (some ⟨b, o + 6, none⟩), .pointer (some ⟨b, o + 7, none⟩), .pointer (some ⟨b, o + 8, none⟩), .pointer (some ⟨b, o + 9, none⟩), .pointer (some ⟨b, o + 10, none⟩), .pointer (some ⟨b, o + 11, none⟩), .pointer (some ⟨b, o + 12, none⟩)]
set_option maxRecDepth 100000 in
set_option maxHeartbeats 4000000 in
theorem numbers48 (b : Nat) (w : World) : Calls Tryd.prog 48 #[.pointer (some ⟨b, 0, none⟩)] w fun e w' => e = .returned (.slice (some ⟨w.heap.size, 0, none⟩) 13 13) ∧ w' = w.drew.alloc (.cells (ptA b 0) 96) := by
  go_enter Tryd.func48, Tryd.ntmps48
  go_wp2_with fail
  go_region
  go_wp2_with fail
  go_ret
  exact ⟨rfl, rfl⟩
theorem test49 (a : Addr) (x : Int) (w : World) (h : w.cell? a = some (.int .i64 x)) : Calls Tryd.prog 49 #[.pointer (some a)] w fun e w' => e = .returned (.bool (decide (x < 0 ∨ 2147483647 < x))) ∧ w' = w := by
  by_cases h1 : x < 0
  · go_enter Tryd.func49, Tryd.ntmps49
    go_wp2
    go_ret
    exact ⟨by simp [h1], rfl⟩
  · by_cases h2 : (2147483647 : Int) < x
    · go_enter Tryd.func49, Tryd.ntmps49
      go_wp2
      go_ret
      exact ⟨by simp, rfl⟩
    · go_enter Tryd.func49, Tryd.ntmps49
      go_wp2
      go_ret
      exact ⟨by simp [h1, h2], rfl⟩
def fins : List (Fin 13) := [0, 1, 2, 3, 4, 5, 6, 7, 8, 9, 10, 11, 12]
def smallB (c : Fin 13 → Int) : Bool := !(fins.any fun i => decide (c i < 0 ∨ 2147483647 < c i))
def ptE (b : Nat) (i : Fin 13) : Value := .pointer (some ⟨b, i.1, none⟩)
theorem cf_cell {w : World} {b : Nat} {c : Fin 13 → Int} {fz : Nat × Nat} (h : w.heap[b]? = some (.cells (cfA c) 23 fz)) : ∀ i : Fin 13, w.cell? ⟨b, i.1, none⟩ = some (.int .i64 (c i)) := by
  intro i
  match i with
  | 0 => exact cell_of_row w _ 0 _ 23 _ h
  | 1 => exact cell_of_row w _ 1 _ 23 _ h
  | 2 => exact cell_of_row w _ 2 _ 23 _ h
  | 3 => exact cell_of_row w _ 3 _ 23 _ h
  | 4 => exact cell_of_row w _ 4 _ 23 _ h
  | 5 => exact cell_of_row w _ 5 _ 23 _ h
  | 6 => exact cell_of_row w _ 6 _ 23 _ h
  | 7 => exact cell_of_row w _ 7 _ 23 _ h
  | 8 => exact cell_of_row w _ 8 _ 23 _ h
  | 9 => exact cell_of_row w _ 9 _ 23 _ h
  | 10 => exact cell_of_row w _ 10 _ 23 _ h
  | 11 => exact cell_of_row w _ 11 _ 23 _ h
  | 12 => exact cell_of_row w _ 12 _ 23 _ h
theorem pt_cell {w : World} {g b : Nat} {fz : Nat × Nat} (h : w.heap[g]? = some (.cells (ptA b 0) 96 fz)) : ∀ j, j < fins.length → w.cell? ⟨g, 0 + j, none⟩ = some (ptE b fins[j]!) := by
  intro j hj
  match j, hj with
  | 0, _ => exact cell_of_row w _ 0 _ 96 _ h
  | 1, _ => exact cell_of_row w _ 1 _ 96 _ h
  | 2, _ => exact cell_of_row w _ 2 _ 96 _ h
  | 3, _ => exact cell_of_row w _ 3 _ 96 _ h
  | 4, _ => exact cell_of_row w _ 4 _ 96 _ h
  | 5, _ => exact cell_of_row w _ 5 _ 96 _ h
  | 6, _ => exact cell_of_row w _ 6 _ 96 _ h
  | 7, _ => exact cell_of_row w _ 7 _ 96 _ h
  | 8, _ => exact cell_of_row w _ 8 _ 96 _ h
  | 9, _ => exact cell_of_row w _ 9 _ 96 _ h
  | 10, _ => exact cell_of_row w _ 10 _ 96 _ h
  | 11, _ => exact cell_of_row w _ 11 _ 96 _ h
  | 12, _ => exact cell_of_row w _ 12 _ 96 _ h
  | j + 13, h => exact absurd h (by simp [fins])
theorem enters49 (args : Array Value) (w : World) : (callFunc 49 args).run Tryd.prog w = .ok (.enter 49 args) w := enters_of Tryd.func49 (c := Tryd.f49.body.get (by kernel_rfl)) (by kernel_rfl) (by kernel_rfl) args w
set_option maxRecDepth 100000 in
set_option maxHeartbeats 4000000 in
theorem small24 (c : Fin 13 → Int) (w : World) : Calls Tryd.prog 27 #[.agg (cfA c)] w fun e w' => e = .returned (.bool (smallB c)) ∧ Below w.heap.size w w' := by
  have hw0 := heap_alloc_new w (.cells (cfA c) 23)
  have hb1 : Below (w.alloc (.cells (cfA c) 23)).heap.size (w.alloc (.cells (cfA c) 23)) (((w.alloc (.cells (cfA c) 23)).alloc (.cells (ptA w.heap.size 0) 96)).drew) := bdrew ((Below.refl _ _).alloc (Nat.le_refl _) _)
  have hp : PredAt Tryd.prog 49 #[] (ptE w.heap.size) (fun i => decide (c i < 0 ∨ 2147483647 < c i)) (((w.alloc (.cells (cfA c) 23)).alloc (.cells (ptA w.heap.size 0) 96)).drew) := by
    intro W i hb
    refine Calls.mono (test49 _ (c i) W ?_) (fun e w' ⟨h1, h2⟩ => ⟨h1, 0, h2⟩)
    have hb2 := hb1.trans (hb.mono hb1.size)
    exact cf_cell ((hb2.block w.heap.size (by simp)).trans hw0) i
  have hw1 := heap_alloc_new (w.alloc (.cells (cfA c) 23)) (.cells (ptA w.heap.size 0) 96)
  rw [World.size_alloc] at hw1
  have hs := Tryd.slices_ContainsFunc (ptE w.heap.size) (fun i => decide (c i < 0 ∨ 2147483647 < c i)) 49 #[] enters49 (w.heap.size + 1) 0 13 13 fins _ hp (Nat.le_refl 13) (by omega) (pt_cell hw1)
  have hsm : smallB c = !((fins.take 13).any fun i => decide (c i < 0 ∨ 2147483647 < c i)) := rfl
  rw [hsm]
  clear hsm
  generalize ((fins.take 13).any fun i => decide (c i < 0 ∨ 2147483647 < c i)) = bv at *
  have HS := Lib.hid hs
  have HB := Lib.hid (((Below.refl w.heap.size w).alloc (Nat.le_refl _) (.cells (cfA c) 23)).alloc (by simp) (.cells (ptA w.heap.size 0) 96))
  clear hs hp hw0 hw1 hb1
  go_enter Tryd.func27, Tryd.ntmps27
  go_wp2_with fail
  refine Calls.mono (numbers48 _ _) ?_
  rintro e w1 ⟨rfl, rfl⟩
  go_wp2_with fail
  refine Calls.mono HS.out ?_
  rintro e w2 ⟨rfl, q, rfl⟩
  go_wp2
  go_ret
  exact ⟨rfl, below_drewN' HB.out _⟩
end Go.Proofs.YtjakkmioofbcaaaDoor
