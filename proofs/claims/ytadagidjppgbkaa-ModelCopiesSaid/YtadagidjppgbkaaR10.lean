/- The walks over the reference's Do at Begin, Write, Commit, Abort, Pass. -/
import Derived.Test.YtadagidjppgbkaaR9
namespace Go.Proofs.Ytadagidjppgbkaa
open Go.RowKit Go.Maps Go.Sort
/-- behind the four variables of Do -/
def d4 (w : World) (x : Array Value) (y : Array Value) : World := (((w.alloc (.cells x 27)).alloc (.cells y 30)).alloc (.cells zeroRm 27)).alloc (.cells zeroReply 39)
theorem d4_size (w : World) (x y : Array Value) : (d4 w x y).heap.size = w.heap.size + 1 + 1 + 1 + 1 := by simp [d4]
theorem d4_below (w : World) (x y : Array Value) : Below w.heap.size w (d4 w x y) :=
  ((((Below.refl _ _).alloc (Nat.le_refl _) _).alloc (by simp) _).alloc (by simp; omega) _).alloc (by simp; omega) _
theorem d4_heap {w W : World} {x y : Array Value} (h : Below (w.heap.size + 1 + 1 + 1 + 1) (d4 w x y) W) :
    (W.heap[w.heap.size]? = some (.cells x 27) ∧ W.heap[w.heap.size + 1]? = some (.cells y 30)) ∧ W.heap[w.heap.size + 1 + 1]? = some (.cells zeroRm 27) ∧ W.heap[w.heap.size + 1 + 1 + 1]? = some (.cells zeroReply 39) ∧ Below w.heap.size w W := by
  have e1 : (w.alloc (.cells x 27)).heap.size = w.heap.size + 1 := by simp
  have e2 : ((w.alloc (.cells x 27)).alloc (.cells y 30)).heap.size = w.heap.size + 1 + 1 := by simp
  have e3 : (((w.alloc (.cells x 27)).alloc (.cells y 30)).alloc (.cells zeroRm 27)).heap.size = w.heap.size + 1 + 1 + 1 := by simp
  refine ⟨⟨?_, ?_⟩, ?_, ?_, (d4_below w x y).trans (h.mono (by omega))⟩
  · rw [h.block _ (by omega), d4, Below.heap_alloc _ _ _ (by rw [e3]; omega), Below.heap_alloc _ _ _ (by rw [e2]; omega), Below.heap_alloc _ _ _ (by rw [e1]; omega)]
    exact heap_alloc_new _ _
  · rw [h.block _ (by omega), d4, Below.heap_alloc _ _ _ (by rw [e3]; omega), Below.heap_alloc _ _ _ (by rw [e2]; omega), ← e1]
    exact heap_alloc_new _ _
  · rw [h.block _ (by omega), d4, Below.heap_alloc _ _ _ (by rw [e3]; omega), ← e2]
    exact heap_alloc_new _ _
  · rw [h.block _ (by omega), d4, ← e3]
    exact heap_alloc_new _ _
theorem d4_cells {w W : World} {x0 x1 x2 x3 y0 y1 y2 : Value} (h : Below (w.heap.size + 1 + 1 + 1 + 1) (d4 w #[x0, x1, x2, x3] #[y0, y1, y2]) W) :
    (W.cell? ⟨w.heap.size, 0, none⟩ = some x0 ∧ W.cell? ⟨w.heap.size, 1, none⟩ = some x1 ∧ W.cell? ⟨w.heap.size, 2, none⟩ = some x2 ∧ W.cell? ⟨w.heap.size, 3, none⟩ = some x3) ∧
    (W.cell? ⟨w.heap.size + 1, 0, none⟩ = some y0 ∧ W.cell? ⟨w.heap.size + 1, 1, none⟩ = some y1 ∧ W.cell? ⟨w.heap.size + 1, 2, none⟩ = some y2) ∧
    (W.cell? ⟨w.heap.size + 1 + 1, 0, none⟩ = some (.slice none 0 0) ∧ W.cell? ⟨w.heap.size + 1 + 1, 1, none⟩ = some (.bool false) ∧ W.cell? ⟨w.heap.size + 1 + 1, 2, none⟩ = some (.string ByteArray.empty) ∧ W.cell? ⟨w.heap.size + 1 + 1, 3, none⟩ = some (.string ByteArray.empty)) ∧
    (W.cell? ⟨w.heap.size + 1 + 1 + 1, 0, none⟩ = some (.int .i64 0) ∧ W.cell? ⟨w.heap.size + 1 + 1 + 1, 1, none⟩ = some (.string ByteArray.empty) ∧ W.cell? ⟨w.heap.size + 1 + 1 + 1, 2, none⟩ = some (.slice none 0 0)) ∧
    (W.frozen? ⟨w.heap.size + 1 + 1, 0, none⟩ = false ∧ W.frozen? ⟨w.heap.size + 1 + 1, 1, none⟩ = false ∧ W.frozen? ⟨w.heap.size + 1 + 1, 2, none⟩ = false ∧ W.frozen? ⟨w.heap.size + 1 + 1, 3, none⟩ = false) ∧
    (W.frozen? ⟨w.heap.size + 1 + 1 + 1, 0, none⟩ = false ∧ W.frozen? ⟨w.heap.size + 1 + 1 + 1, 1, none⟩ = false ∧ W.frozen? ⟨w.heap.size + 1 + 1 + 1, 2, none⟩ = false) := by
  obtain ⟨⟨h0, h1⟩, h2, h3, _⟩ := d4_heap h
  exact ⟨⟨cell_of_row W _ 0 _ 27 (0, 0) h0, cell_of_row W _ 1 _ 27 (0, 0) h0, cell_of_row W _ 2 _ 27 (0, 0) h0, cell_of_row W _ 3 _ 27 (0, 0) h0⟩,
    ⟨cell_of_row W _ 0 _ 30 (0, 0) h1, cell_of_row W _ 1 _ 30 (0, 0) h1, cell_of_row W _ 2 _ 30 (0, 0) h1⟩,
    ⟨cell_of_row W _ 0 _ 27 (0, 0) h2, cell_of_row W _ 1 _ 27 (0, 0) h2, cell_of_row W _ 2 _ 27 (0, 0) h2, cell_of_row W _ 3 _ 27 (0, 0) h2⟩,
    ⟨cell_of_row W _ 0 _ 39 (0, 0) h3, cell_of_row W _ 1 _ 39 (0, 0) h3, cell_of_row W _ 2 _ 39 (0, 0) h3⟩,
    ⟨frozen_of_row W _ 0 _ 27 h2, frozen_of_row W _ 1 _ 27 h2, frozen_of_row W _ 2 _ 27 h2, frozen_of_row W _ 3 _ 27 h2⟩,
    ⟨frozen_of_row W _ 0 _ 39 h3, frozen_of_row W _ 1 _ 39 h3, frozen_of_row W _ 2 _ 39 h3⟩⟩
/-- the seven stores into the two results -/
def d4_st (w W : World) (u0 u1 u2 u3 v0 v1 v2 : Value) : World :=
  ((((((W.setCell ⟨w.heap.size + 1 + 1, 0, none⟩ u0).setCell ⟨w.heap.size + 1 + 1, 1, none⟩ u1).setCell ⟨w.heap.size + 1 + 1, 2, none⟩ u2).setCell ⟨w.heap.size + 1 + 1, 3, none⟩ u3).setCell ⟨w.heap.size + 1 + 1 + 1, 0, none⟩ v0).setCell ⟨w.heap.size + 1 + 1 + 1, 1, none⟩ v1).setCell ⟨w.heap.size + 1 + 1 + 1, 2, none⟩ v2
theorem d4_oth (w W : World) (u0 u1 u2 u3 v0 v1 v2 : Value) (k : Nat) (h1 : k ≠ w.heap.size + 1 + 1) (h2 : k ≠ w.heap.size + 1 + 1 + 1) : (d4_st w W u0 u1 u2 u3 v0 v1 v2).heap[k]? = W.heap[k]? := by
  unfold d4_st
  rw [heap_setCell_other _ ⟨w.heap.size + 1 + 1 + 1, 2, none⟩ k _ h2, heap_setCell_other _ ⟨w.heap.size + 1 + 1 + 1, 1, none⟩ k _ h2, heap_setCell_other _ ⟨w.heap.size + 1 + 1 + 1, 0, none⟩ k _ h2,
    heap_setCell_other _ ⟨w.heap.size + 1 + 1, 3, none⟩ k _ h1, heap_setCell_other _ ⟨w.heap.size + 1 + 1, 2, none⟩ k _ h1, heap_setCell_other _ ⟨w.heap.size + 1 + 1, 1, none⟩ k _ h1, heap_setCell_other _ ⟨w.heap.size + 1 + 1, 0, none⟩ k _ h1]
theorem d4_end {w W : World} {x y : Array Value} (h : Below (w.heap.size + 1 + 1 + 1 + 1) (d4 w x y) W) (u0 u1 u2 u3 v0 v1 v2 : Value) :
    (d4_st w W u0 u1 u2 u3 v0 v1 v2).heap[w.heap.size + 1 + 1]? = some (.cells #[u0, u1, u2, u3] 27) ∧ (d4_st w W u0 u1 u2 u3 v0 v1 v2).heap[w.heap.size + 1 + 1 + 1]? = some (.cells #[v0, v1, v2] 39) ∧ Below w.heap.size w (d4_st w W u0 u1 u2 u3 v0 v1 v2) := by
  obtain ⟨_, h2, h3, h4⟩ := d4_heap h
  have hs := h.size
  rw [d4_size] at hs
  refine ⟨?_, ?_, ?_⟩
  · have s1 := heap_setCell_same W (w.heap.size + 1 + 1) 0 _ 27 u0 h2
    have s2 := heap_setCell_same _ (w.heap.size + 1 + 1) 1 _ 27 u1 s1
    have s3 := heap_setCell_same _ (w.heap.size + 1 + 1) 2 _ 27 u2 s2
    have s4 := heap_setCell_same _ (w.heap.size + 1 + 1) 3 _ 27 u3 s3
    unfold d4_st
    rw [heap_setCell_other _ ⟨w.heap.size + 1 + 1 + 1, 2, none⟩ (w.heap.size + 1 + 1) _ (by simp), heap_setCell_other _ ⟨w.heap.size + 1 + 1 + 1, 1, none⟩ (w.heap.size + 1 + 1) _ (by simp), heap_setCell_other _ ⟨w.heap.size + 1 + 1 + 1, 0, none⟩ (w.heap.size + 1 + 1) _ (by simp)]
    exact s4
  · have s0 : ((((W.setCell ⟨w.heap.size + 1 + 1, 0, none⟩ u0).setCell ⟨w.heap.size + 1 + 1, 1, none⟩ u1).setCell ⟨w.heap.size + 1 + 1, 2, none⟩ u2).setCell ⟨w.heap.size + 1 + 1, 3, none⟩ u3).heap[w.heap.size + 1 + 1 + 1]? = some (.cells zeroReply 39) := by
      rw [heap_setCell_other _ ⟨w.heap.size + 1 + 1, 3, none⟩ (w.heap.size + 1 + 1 + 1) _ (by simp), heap_setCell_other _ ⟨w.heap.size + 1 + 1, 2, none⟩ (w.heap.size + 1 + 1 + 1) _ (by simp), heap_setCell_other _ ⟨w.heap.size + 1 + 1, 1, none⟩ (w.heap.size + 1 + 1 + 1) _ (by simp), heap_setCell_other _ ⟨w.heap.size + 1 + 1, 0, none⟩ (w.heap.size + 1 + 1 + 1) _ (by simp)]
      exact h3
    have s1 := heap_setCell_same _ (w.heap.size + 1 + 1 + 1) 0 _ 39 v0 s0
    have s2 := heap_setCell_same _ (w.heap.size + 1 + 1 + 1) 1 _ 39 v1 s1
    exact heap_setCell_same _ (w.heap.size + 1 + 1 + 1) 2 _ 39 v2 s2
  · have e1 : ∀ (X : World) (a : Addr) (v : Value), (X.setCell a v).os = X.os := fun _ _ _ => rfl
    have e2 : ∀ (X : World) (a : Addr) (v : Value), (X.setCell a v).tape = X.tape := fun _ _ _ => rfl
    have e3 : ∀ (X : World) (a : Addr) (v : Value), (X.setCell a v).output = X.output := fun _ _ _ => rfl
    have hz : (d4_st w W u0 u1 u2 u3 v0 v1 v2).heap.size = W.heap.size := by simp [d4_st]
    exact ⟨by simp only [d4_st, e1]; exact h4.os, by simp only [d4_st, e2]; exact h4.tape, by simp only [d4_st, e3]; exact h4.output, by rw [hz]; exact h4.size, fun k hk => (d4_oth w W _ _ _ _ _ _ _ k (by omega) (by omega)).trans (h4.block k hk)⟩
def RefPost (r : Rm) (A : Option Addr) (c : Nat) (E : Int) (w : World) (e : Ending) (w' : World) : Prop := e = .returned (.tuple #[.agg (rmA A c r), replyV E ByteArray.empty (.slice none 0 0)]) ∧ Below w.heap.size w w'
set_option maxRecDepth 100000 in
set_option maxHeartbeats 1000000 in
theorem refDo_begin {w : World} {g b : Nat} {A : Option Addr} {c : Nat} (r : Rm) (hL : Nms w g b A r.L.length r.L) (hn : r.L.length ≤ 1000000) (nm da : ByteArray) :
    Calls Try.prog 12 #[.agg (rmA A c r), callV 1 nm da] w (RefPost (if rbE r nm = 0 then ⟨r.L, true, nm, ByteArray.empty⟩ else r) A c (rbE r nm) w) := by
  have hAt : Hid (∀ W, Below w.heap.size w W → Calls Try.prog 17 #[.agg (rmA A c r), .string nm] W fun e w' => e = .returned (.int .i64 (atN r.L nm 0)) ∧ w' = W.alloc (.cells (rmA A c r) 27)) := fun W hb => refAt (c := c) r (hL.below hb) hn nm
  have hBg : Hid (∀ W, Below w.heap.size w W → Calls Try.prog 27 #[.agg (rmA A c r), .string nm] W fun e w' => e = .returned (.int .i64 (rbE r nm)) ∧ Below W.heap.size W w') := fun W hb => refBegin (c := c) r (hL.below hb) hn nm
  clear hL
  have hcase : ((rbE r nm != 0) = false ∧ rbE r nm = 0) ∨ ((rbE r nm != 0) = true ∧ rbE r nm ≠ 0) := by
    by_cases h : rbE r nm = 0
    · exact .inl ⟨by simp [h], h⟩
    · exact .inr ⟨by simp [h], h⟩
  generalize rbE r nm = E at *
  generalize atN r.L nm 0 = K at *
  obtain ⟨L, rop, rn, rb⟩ := r
  simp only [rmA, callV] at *
  generalize hN : L.length = N at *
  have HN := Lib.hid hN
  have HB0 := Lib.hid (Below.refl (w.heap.size + 1 + 1 + 1 + 1) (d4 w #[.slice A N c, .bool rop, .string rn, .string rb] #[.int .i64 1, .string nm, .string da]))
  have HB1 : Hid (Below (w.heap.size + 1 + 1 + 1 + 1) (d4 w #[.slice A N c, .bool rop, .string rn, .string rb] #[.int .i64 1, .string nm, .string da]) ((d4 w #[.slice A N c, .bool rop, .string rn, .string rb] #[.int .i64 1, .string nm, .string da]).alloc (.cells #[.slice A N c, .bool rop, .string rn, .string rb] 27))) := HB0.out.alloc (by rw [d4_size]; exact Nat.le_refl _) _
  clear hN hn
  rcases hcase with ⟨t1, hE⟩ | ⟨t1, hE⟩
  · rw [if_pos hE]
    subst hE
    go_enter Try.func12, Try.ntmps12
    go_wp2_with fail
    refine Calls.mono (hAt.out _ ?hb0) ?_
    case hb0 => exact d4_below w _ _
    rintro e w1 ⟨rfl, rfl⟩
    go_wp2_with fail
    refine Calls.mono (hBg.out _ ?hb1) ?_
    case hb1 => exact (d4_heap HB1.out).2.2.2
    rintro e w2 ⟨rfl, hb2⟩
    have HB2 := Lib.hid (HB1.out.trans (hb2.mono (by simp)))
    clear hb2
    obtain ⟨⟨c0, c1, c2, c3⟩, ⟨e0, e1, e2⟩, ⟨z0, z1, z2, z3⟩, ⟨y0, y1, y2⟩, ⟨f0, f1, f2, f3⟩, ⟨q0, q1, q2⟩⟩ := d4_cells HB2.out
    go_wp2
    obtain ⟨m1, m2, m3⟩ := d4_end HB2.out (.slice A N c) (.bool true) (.string nm) (.string ByteArray.empty) (.int .i64 0) (.string ByteArray.empty) (.slice none 0 0)
    refine bodyPost_ret (results_cells2 rfl _ _ _ _ 27 39 _ _ (0, 0) (0, 0) _ _ rfl rfl m1 m2 Try.underlying27 Try.underlying39 rfl rfl info27 info39) rfl ⟨?_, m3⟩
    rw [← HN.out]; rfl
  · rw [if_neg hE]
    have HE := Lib.hid hE
    clear hE
    go_enter Try.func12, Try.ntmps12
    go_wp2_with fail
    refine Calls.mono (hAt.out _ ?hb0b) ?_
    case hb0b => exact d4_below w _ _
    rintro e w1 ⟨rfl, rfl⟩
    go_wp2_with fail
    refine Calls.mono (hBg.out _ ?hb1b) ?_
    case hb1b => exact (d4_heap HB1.out).2.2.2
    rintro e w2 ⟨rfl, hb2⟩
    have HB2 := Lib.hid (HB1.out.trans (hb2.mono (by simp)))
    clear hb2
    obtain ⟨⟨c0, c1, c2, c3⟩, ⟨e0, e1, e2⟩, ⟨z0, z1, z2, z3⟩, ⟨y0, y1, y2⟩, ⟨f0, f1, f2, f3⟩, ⟨q0, q1, q2⟩⟩ := d4_cells HB2.out
    go_wp2
    obtain ⟨m1, m2, m3⟩ := d4_end HB2.out (.slice A N c) (.bool rop) (.string rn) (.string rb) (.int .i64 E) (.string ByteArray.empty) (.slice none 0 0)
    refine bodyPost_ret (results_cells2 rfl _ _ _ _ 27 39 _ _ (0, 0) (0, 0) _ _ rfl rfl m1 m2 Try.underlying27 Try.underlying39 rfl rfl info27 info39) rfl ⟨?_, m3⟩
    rw [← HN.out]; rfl
end Go.Proofs.Ytadagidjppgbkaa
