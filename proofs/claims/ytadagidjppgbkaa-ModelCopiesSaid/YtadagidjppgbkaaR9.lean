/- The walks over the reference's Do. -/
import Derived.Test.YtadagidjppgbkaaR8
import Derived.Test.YtadagidjppgbkaaR6
namespace Go.Proofs.Ytadagidjppgbkaa
open Go.RowKit Go.Maps Go.Sort
theorem do5 (w : World) (a b d : Obj) (x y : Array Value) :
    (((((w.alloc a).alloc b).alloc (.cells x 27)).alloc (.cells y 39)).alloc d).heap[w.heap.size + 1 + 1]? = some (.cells x 27) ∧ (((((w.alloc a).alloc b).alloc (.cells x 27)).alloc (.cells y 39)).alloc d).heap[w.heap.size + 1 + 1 + 1]? = some (.cells y 39) ∧
    Below w.heap.size w (((((w.alloc a).alloc b).alloc (.cells x 27)).alloc (.cells y 39)).alloc d) := by
  have e1 : ((w.alloc a).alloc b).heap.size = w.heap.size + 1 + 1 := by simp
  have e2 : (((w.alloc a).alloc b).alloc (.cells x 27)).heap.size = w.heap.size + 1 + 1 + 1 := by simp
  refine ⟨?_, ?_, ?_⟩
  · rw [Below.heap_alloc _ _ _ (by simp), Below.heap_alloc _ _ _ (by simp), ← e1]
    exact heap_alloc_new _ _
  · rw [Below.heap_alloc _ _ _ (by simp), ← e2]
    exact heap_alloc_new _ _
  · exact (((((Below.refl _ _).alloc (Nat.le_refl _) _).alloc (by simp) _).alloc (by simp; omega) _).alloc (by simp; omega) _).alloc (by simp; omega) _
set_option maxRecDepth 100000 in
set_option maxHeartbeats 1000000 in
theorem refDo_other {w : World} {g b : Nat} {A : Option Addr} {c : Nat} (r : Rm) (hL : Nms w g b A r.L.length r.L) (hn : r.L.length ≤ 1000000) (op : Int) (nm da : ByteArray) (hop : op ≠ 1 ∧ op ≠ 2 ∧ op ≠ 3 ∧ op ≠ 4 ∧ op ≠ 5 ∧ op ≠ 6 ∧ op ≠ 7 ∧ op ≠ 8) :
    Calls Try.prog 12 #[.agg (rmA A c r), .agg #[.int .i64 op, .string nm, .string da]] w fun e w' => e = .returned (.tuple #[.agg (rmA A c r), replyV 1 ByteArray.empty (.slice none 0 0)]) ∧ Below w.heap.size w w' := by
  have hAt : Hid (∀ W, Below w.heap.size w W → Calls Try.prog 17 #[.agg (rmA A c r), .string nm] W fun e w' => e = .returned (.int .i64 (atN r.L nm 0)) ∧ w' = W.alloc (.cells (rmA A c r) 27)) := fun W hb => refAt (c := c) r (hL.below hb) hn nm
  clear hL
  generalize atN r.L nm 0 = K at *
  obtain ⟨L, rop, rn, rb⟩ := r
  simp only [rmA] at *
  generalize L.length = N at *
  obtain ⟨h1, h2, h3, h4, h5, h6, h7, h8⟩ := hop
  have t1 : (op == 1) = false := by simpa using h1
  have t2 : (op == 2) = false := by simpa using h2
  have t3 : (op == 3) = false := by simpa using h3
  have t4 : (op == 4) = false := by simpa using h4
  have t5 : (op == 5) = false := by simpa using h5
  have t6 : (op == 6) = false := by simpa using h6
  have t7 : (op == 7) = false := by simpa using h7
  have t8 : (op == 8) = false := by simpa using h8
  clear h1 h2 h3 h4 h5 h6 h7 h8
  go_enter Try.func12, Try.ntmps12
  go_wp2_with (first
    | (go_at_call 17; refine (hAt.out _ ((((Below.refl _ _).alloc (Nat.le_refl _) _).alloc (by simp) _).alloc (by simp; omega) _ |>.alloc (by simp; omega) _)).mono ?_; rintro e w1 ⟨rfl, rfl⟩))
  obtain ⟨e1, e2, e3⟩ := do5 w (.cells #[.slice A N c, .bool rop, .string rn, .string rb] 27) (.cells #[.int .i64 op, .string nm, .string da] 30) (.cells #[.slice A N c, .bool rop, .string rn, .string rb] 27) #[.slice A N c, .bool rop, .string rn, .string rb] #[.int .i64 1, .string ByteArray.empty, .slice none 0 0]
  exact bodyPost_ret (results_cells2 rfl _ _ _ _ 27 39 _ _ (0, 0) (0, 0) _ _ rfl rfl e1 e2 Try.underlying27 Try.underlying39 rfl rfl info27 info39) rfl ⟨rfl, e3⟩
end Go.Proofs.Ytadagidjppgbkaa
