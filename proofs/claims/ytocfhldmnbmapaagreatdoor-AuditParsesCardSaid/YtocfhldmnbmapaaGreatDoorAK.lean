/- What open recovers. -/
import Derived.Test.YtocfhldmnbmapaaGreatDoorAJ
namespace Go.Proofs.YtocfhldmnbmapaaGreatDoor
open Go.RowKit
theorem assert188 (v : Value) (w : World) : (Instr.typeAssert (.iface 188 v) 20 188 true).run Tryz.prog w = .ok (.tuple #[v, .bool true]) w := by kernel_rfl
set_option maxRecDepth 100000 in
set_option maxHeartbeats 1000000 in
theorem caught107 (p q : Nat) (x y : Value) (k : Int) (w : World) (hp : w.heap[p]? = some (.cells #[x] 116 (0, 0))) (hq : w.heap[q]? = some (.cells #[y] 22 (0, 0))) (hpq : p ≠ q) :
    CallsD Tryz.prog 107 #[.pointer (some ⟨p, 0, none⟩), .pointer (some ⟨q, 0, none⟩)] (.panicking [{ v := stopV k, recovered := false }]) w fun e u' w' =>
      e = .returned (.tuple #[]) ∧ u' = .panicking [{ v := stopV k, recovered := true }] ∧ w'.cell? ⟨p, 0, none⟩ = some (.pointer none) ∧ w'.cell? ⟨q, 0, none⟩ = some (.int .i64 k) ∧ ∀ n, n ≤ p → n ≤ q → Below n w w' := by
  unfold stopV
  have HA := assert188
  refine callsD_of_wpS Tryz.func107 rfl fun c₀ cs hu => ?_
  apply wpS_seq
  apply wpS_region
  simp [wpOpsS, go_sem, recoverD, hu, Tryz.ntmps107, Exit.thenS]
  refine wpS_of_wp ?_
  have E : ∀ a b v : Value, #[a, b] ++ ((Array.replicate 16 undef).setIfInBounds 3 v).setIfInBounds 0 v = #[a, b, v, undef, undef, v, undef, undef, undef, undef, undef, undef, undef, undef, undef, undef, undef, undef] := fun _ _ _ => rfl
  rw [E]
  clear E
  go_wp2_with fail
  have hmp : p < w.heap.size := lt_of_block hp
  have hmq : q < w.heap.size := lt_of_block hq
  have hV : (w.alloc (.cells #[.int .i64 k] 188)).heap[w.heap.size]? = some (.cells #[.int .i64 k] 188 (0, 0)) := heap_alloc_new _ _
  have hB : Below w.heap.size w (w.alloc (.cells #[.int .i64 k] 188)) := (Below.refl _ _).alloc (Nat.le_refl _) _
  generalize hm : w.heap.size = m at *
  generalize w.alloc (.cells #[.int .i64 k] 188) = V at *
  have hp2 := (hB.block _ hmp).trans hp
  have hq2 := (hB.block _ hmq).trans hq
  have hcp := cell_of_row V p 0 _ _ _ hp2
  have hcq := cell_of_row V q 0 _ _ _ hq2
  have hcm := cell_of_row V m 0 _ _ _ hV
  have hzp : V.frozen? ⟨p, 0, none⟩ = false := frozen_of_row V p 0 _ 116 hp2
  have hzq : V.frozen? ⟨q, 0, none⟩ = false := frozen_of_row V q 0 _ 22 hq2
  simp only [List.getElem?_toArray, List.getElem?_cons_zero] at hcp hcq hcm
  have W1 : ((V.setCell ⟨p, 0, none⟩ (.pointer none)).setCell ⟨q, 0, none⟩ (.int .i64 k)).cell? ⟨p, 0, none⟩ = some (.pointer none) := by simp [go_sem, hcp]
  have W2 : ((V.setCell ⟨p, 0, none⟩ (.pointer none)).setCell ⟨q, 0, none⟩ (.int .i64 k)).cell? ⟨q, 0, none⟩ = some (.int .i64 k) := by simp [go_sem, hcq]
  have W3 : ∀ n, n ≤ p → n ≤ q → Below n w ((V.setCell ⟨p, 0, none⟩ (.pointer none)).setCell ⟨q, 0, none⟩ (.int .i64 k)) := fun n h1 h2 => (Below.setCell (Below.setCell (hB.mono (by omega)) h1 _) h2 _)
  go_region_with fail
  all_goals generalize (V.setCell ⟨p, 0, none⟩ (.pointer none)).setCell ⟨q, 0, none⟩ (.int .i64 k) = V3 at *
  all_goals go_wp2_with fail
  all_goals exact ⟨rfl, _, rfl, .tuple #[], results_none rfl _ _ _, rfl, rfl, W1, W2, fun n h1 h2 => (W3 n h1 h2).drew⟩
end Go.Proofs.YtocfhldmnbmapaaGreatDoor
