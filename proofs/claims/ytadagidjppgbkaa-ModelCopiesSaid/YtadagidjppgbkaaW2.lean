/- The walk over the law's own call: an act's call. -/
import Derived.Test.YtadagidjppgbkaaW1
import Derived.Deep.OwnRows
import Derived.Laws.BytesArg
namespace Go.Proofs.Ytadagidjppgbkaa
open Go.RowKit Go.Maps Go.Sort
def actV (op : Int) (nm da : ByteArray) (t : Int) (cr : Bool) : Value := .agg #[.int .i64 op, .string nm, .string da, .int .u16 t, .bool cr]
def CallPost (op : Int) (nm : ByteArray) (w : World) (e : Ending) (w' : World) : Prop := ∃ da : ByteArray, e = .returned (.agg #[.int .i64 op, .string nm, .string da]) ∧ da.size ≤ maxLen ∧ Below w.heap.size w w'
theorem info30 : (Try.prog.info? 30).map (·.size) = some 3 := by kernel_rfl
theorem info5 : (Try.prog.info? 5).map (fun i => (i.zero, i.size, i.bytes)) = some (some (.int .u8 0), 1, 1) := by kernel_rfl
theorem call_b (w : World) (o1 o2 : Obj) (u : Array Value) : (((w.alloc o1).alloc (.cells u 30)).alloc o2).heap[w.heap.size + 1]? = some (.cells u 30) ∧ Below w.heap.size w (((w.alloc o1).alloc (.cells u 30)).alloc o2) := by
  refine ⟨?_, (((Below.refl _ _).alloc (Nat.le_refl _) _).alloc (by simp) _).alloc (by simp; omega) _⟩
  rw [Below.heap_alloc _ _ _ (by simp), ← World.size_alloc w o1]
  exact heap_alloc_new _ _
/-- behind call's variables -/
def c3 (w : World) (nm da : ByteArray) (t : Int) (cr : Bool) : World := ((w.alloc (.cells #[.int .i64 2, .string nm, .string da, .int .u16 t, .bool cr] 33)).alloc (.cells #[.int .i64 0, .string ByteArray.empty, .string ByteArray.empty] 30)).alloc (.cells #[.int .i64 2, .string nm, .string da] 30)
theorem c3_size (w : World) (nm da : ByteArray) (t : Int) (cr : Bool) : (c3 w nm da t cr).heap.size = w.heap.size + 1 + 1 + 1 := by simp [c3]
theorem c3_heap {w W : World} {nm da : ByteArray} {t : Int} {cr : Bool} (h : Below (w.heap.size + 1 + 1 + 1) (c3 w nm da t cr) W) :
    W.heap[w.heap.size + 1]? = some (.cells #[.int .i64 0, .string ByteArray.empty, .string ByteArray.empty] 30) ∧ W.heap[w.heap.size + 1 + 1]? = some (.cells #[.int .i64 2, .string nm, .string da] 30) ∧ Below w.heap.size w W := by
  have e1 : (w.alloc (.cells #[.int .i64 2, .string nm, .string da, .int .u16 t, .bool cr] 33)).heap.size = w.heap.size + 1 := by simp
  have e2 : ((w.alloc (.cells #[.int .i64 2, .string nm, .string da, .int .u16 t, .bool cr] 33)).alloc (.cells #[.int .i64 0, .string ByteArray.empty, .string ByteArray.empty] 30)).heap.size = w.heap.size + 1 + 1 := by simp
  refine ⟨?_, ?_, ((((Below.refl _ _).alloc (Nat.le_refl _) _).alloc (by simp) _).alloc (by simp; omega) _).trans (h.mono (by omega))⟩
  · rw [h.block _ (by omega), c3, Below.heap_alloc _ _ _ (by rw [e2]; omega), ← e1]
    exact heap_alloc_new _ _
  · rw [h.block _ (by omega), c3, ← e2]
    exact heap_alloc_new _ _
theorem c3_cells {w W : World} {nm da : ByteArray} {t : Int} {cr : Bool} (h : Below (w.heap.size + 1 + 1 + 1) (c3 w nm da t cr) W) :
    (W.cell? ⟨w.heap.size + 1, 0, none⟩ = some (.int .i64 0) ∧ W.cell? ⟨w.heap.size + 1, 1, none⟩ = some (.string ByteArray.empty) ∧ W.cell? ⟨w.heap.size + 1, 2, none⟩ = some (.string ByteArray.empty)) ∧
    (W.cell? ⟨w.heap.size + 1 + 1, 0, none⟩ = some (.int .i64 2) ∧ W.cell? ⟨w.heap.size + 1 + 1, 1, none⟩ = some (.string nm) ∧ W.cell? ⟨w.heap.size + 1 + 1, 2, none⟩ = some (.string da)) ∧
    (W.frozen? ⟨w.heap.size + 1, 0, none⟩ = false ∧ W.frozen? ⟨w.heap.size + 1, 1, none⟩ = false ∧ W.frozen? ⟨w.heap.size + 1, 2, none⟩ = false) ∧
    (W.frozen? ⟨w.heap.size + 1 + 1, 0, none⟩ = false ∧ W.frozen? ⟨w.heap.size + 1 + 1, 1, none⟩ = false ∧ W.frozen? ⟨w.heap.size + 1 + 1, 2, none⟩ = false) := by
  obtain ⟨h1, h2, _⟩ := c3_heap h
  exact ⟨⟨cell_of_row W _ 0 _ 30 (0, 0) h1, cell_of_row W _ 1 _ 30 (0, 0) h1, cell_of_row W _ 2 _ 30 (0, 0) h1⟩,
    ⟨cell_of_row W _ 0 _ 30 (0, 0) h2, cell_of_row W _ 1 _ 30 (0, 0) h2, cell_of_row W _ 2 _ 30 (0, 0) h2⟩,
    ⟨frozen_of_row W _ 0 _ 30 h1, frozen_of_row W _ 1 _ 30 h1, frozen_of_row W _ 2 _ 30 h1⟩,
    ⟨frozen_of_row W _ 0 _ 30 h2, frozen_of_row W _ 1 _ 30 h2, frozen_of_row W _ 2 _ 30 h2⟩⟩
theorem c3_end {w W : World} {nm da : ByteArray} {t : Int} {cr : Bool} (h : Below (w.heap.size + 1 + 1 + 1) (c3 w nm da t cr) W) (x u0 u1 u2 : Value) :
    ((((W.setCell ⟨w.heap.size + 1 + 1, 2, none⟩ x).setCell ⟨w.heap.size + 1, 0, none⟩ u0).setCell ⟨w.heap.size + 1, 1, none⟩ u1).setCell ⟨w.heap.size + 1, 2, none⟩ u2).heap[w.heap.size + 1]? = some (.cells #[u0, u1, u2] 30) ∧
    Below w.heap.size w ((((W.setCell ⟨w.heap.size + 1 + 1, 2, none⟩ x).setCell ⟨w.heap.size + 1, 0, none⟩ u0).setCell ⟨w.heap.size + 1, 1, none⟩ u1).setCell ⟨w.heap.size + 1, 2, none⟩ u2) := by
  obtain ⟨h1, _, h3⟩ := c3_heap h
  refine ⟨?_, (((h3.setCell (by simp; omega) _).setCell (by simp) _).setCell (by simp) _).setCell (by simp) _⟩
  have s0 : (W.setCell ⟨w.heap.size + 1 + 1, 2, none⟩ x).heap[w.heap.size + 1]? = some (.cells #[.int .i64 0, .string ByteArray.empty, .string ByteArray.empty] 30) := by
    rw [heap_setCell_other W ⟨w.heap.size + 1 + 1, 2, none⟩ (w.heap.size + 1) _ (by simp)]; exact h1
  have s1 := heap_setCell_same _ (w.heap.size + 1) 0 _ 30 u0 s0
  have s2 := heap_setCell_same _ (w.heap.size + 1) 1 _ 30 u1 s1
  exact heap_setCell_same _ (w.heap.size + 1) 2 _ 30 u2 s2
set_option maxRecDepth 100000 in
set_option maxHeartbeats 2000000 in
theorem call11 (op : Int) (nm da : ByteArray) (t : Int) (cr : Bool) (w : World) (hda : da.size ≤ maxLen) (ht0 : 0 ≤ t) (ht1 : t ≤ 65535) :
    Calls Try.prog 11 #[actV op nm da t cr] w (CallPost op nm w) := by
  unfold actV
  have hml : (da.size : Int) ≤ 9223372036854775807 := by unfold maxLen at hda; omega
  by_cases h1 : op = 2 ∧ 1 ≤ da.size ∧ da.size ≤ 4096
  · obtain ⟨rfl, hd1, hd2⟩ := h1
    have t1 : ((da.size : Int) == 0) = false := by simp only [beq_eq_false_iff_ne, ne_eq]; omega
    have t2 : decide ((4096 : Int) < (da.size : Int)) = false := by simp; omega
    have hmul : 0 ≤ t * (da.size : Int) ∧ t * (da.size : Int) ≤ 268431360 := by
      refine ⟨Int.mul_nonneg ht0 (by omega), ?_⟩
      calc t * (da.size : Int) ≤ 65535 * 4096 := Int.mul_le_mul ht1 (by omega) (by omega) (by omega)
        _ ≤ 268431360 := by decide
    obtain ⟨q, hq⟩ : ∃ q : Nat, t * (da.size : Int) = (q : Int) := ⟨(t * (da.size : Int)).toNat, by omega⟩
    have hq2 : q ≤ 268431360 := by omega
    have hmk := fun n (hn : n ≤ 2097152) => run_make_row' (P := Try.prog) 68 5 (.int .u8 0) 1 Try.underlying68 info5 rfl .i64 .i64 n (by omega) (by omega)
    have hcase : ∃ n : Nat, n ≤ 2097152 ∧ ((decide ((2097152 : Int) < (q : Int)) = true ∧ n = 2097152) ∨ (decide ((2097152 : Int) < (q : Int)) = false ∧ n = q)) := by
      by_cases h : 2097152 < q
      · exact ⟨2097152, Nat.le_refl _, .inl ⟨by simp; omega, rfl⟩⟩
      · exact ⟨q, by omega, .inr ⟨by simp; omega, rfl⟩⟩
    clear hmul
    obtain ⟨n, hn, hcase⟩ := hcase
    have hmk := hmk n hn
    have hmk2 : ∀ (w : World), q ≠ n → n = 2097152 → (Instr.makeSlice 68 (.int .i64 2097152) (.int .i64 2097152)).run Try.prog w = .ok (.slice (some ⟨w.heap.size, 0, none⟩) n n) (w.alloc (.cells (madeCells #[.int .u8 0] n) 5)) := fun w _ e => by
      have h := hmk w
      rw [show ((n : Nat) : Int) = 2097152 by omega] at h
      exact h
    have HW3 := Lib.hid (Below.refl (w.heap.size + 1 + 1 + 1) (c3 w nm da t cr))
    have hst : Hid ((((w.alloc (.cells #[.int .i64 2, .string nm, .string da, .int .u16 t, .bool cr] 33)).alloc (.cells #[.int .i64 0, .string ByteArray.empty, .string ByteArray.empty] 30)).alloc (.cells #[.int .i64 2, .string nm, .string da] 30)).alloc (.cells (madeCells #[.int .u8 0] n) 5) |>.rowIs (w.heap.size + 1 + 1 + 1) 5 n (fun _ => .int .u8 0)) := by
      have := World.rowIs_made (c3 w nm da t cr) (.int .u8 0) n 5
      rw [c3_size] at this
      exact this
    rcases hcase with ⟨t3, hnn⟩ | ⟨t3, rfl⟩
    · have hmk3 := fun w => hmk2 w (by simp at t3; omega) hnn
      have HNN := Lib.hid hnn
      clear hnn hmk hmk2
      go_enter Try.func11, Try.ntmps11
      go_wp2
      go_loopg [6, 38] n (fun gk _ i wr => ∃ (k : Nat) (Z : Nat → Int), k ≤ n ∧ gk = n - k ∧ i = .int .i64 k ∧ wr.rowIs (w.heap.size + 1 + 1 + 1) 5 n (fun j => .int .u8 (Z j)) ∧ Below (w.heap.size + 1 + 1 + 1) (c3 w nm da t cr) wr)
      case atStart => exact ⟨0, fun _ => 0, Nat.zero_le _, rfl, rfl, hst.out, HW3.out.alloc (by rw [c3_size]; exact Nat.le_refl _) _⟩
      case round =>
        obtain ⟨k, Z, hk, hgk, rfl, hrow, hbr⟩ := hrel
        have HK := Lib.hid hgk
        have HROW := Lib.hid hrow
        have HBR := Lib.hid hbr
        obtain ⟨⟨c0, c1, c2⟩, ⟨d0, d1, d2⟩, ⟨f0, f1, f2⟩, ⟨g0, g1, g2⟩⟩ := c3_cells hbr
        clear hgk hrow hbr
        by_cases hlt : k < n
        · have e1 := HROW.out.cell hlt
          have e2 := HROW.out.frozen k
          have s0 : (0 : Int) ≤ (k : Int) % (da.size : Int) := Int.emod_nonneg _ (by omega)
          have s1 : (k : Int) % (da.size : Int) < (da.size : Int) := Int.emod_lt_of_pos _ (by omega)
          have s2 : (k : Int) < (n : Int) := by omega
          have s3 : ¬ da = ByteArray.empty := fun e => by rw [e] at hd1; simp at hd1
          go_wp2
          go_region
          go_wp2
          go_roundg (n - (k + 1))
          case measure => rw [HK.out]; omega
          case rel =>
            refine ⟨k + 1, _, by omega, rfl, by go_num, (HROW.out.drew.set k _).congr (g := fun j => .int .u8 (if j = k then _ else Z j)) (fun i hi => by by_cases e : i = k <;> simp [e]; rfl), (below_drew HBR.out).setCell (by simp) _⟩
        · obtain rfl : k = n := by omega
          have hcv := run_convert_bytes_arg (P := Try.prog) wr 68 5 Try.underlying68 Try.underlying5 (w.heap.size + 1 + 1 + 1) 0 k k ((List.range k).map Z) (by simp) (fun i hi => by
            rw [Nat.zero_add, HROW.out.cell hi]
            simp [List.getD, hi]) 9 Try.underlying9
          have hS : (strOfNums ((List.range k).map Z)).size = k := by rw [strOfNums_size]; simp
          have HS := Lib.hid hS
          clear hS
          generalize strOfNums ((List.range k).map Z) = S at *
          have hS2 : S.size ≤ 2097152 := by rw [HS.out]; exact hn
          go_wp2
          obtain ⟨m1, m2⟩ := c3_end HBR.out (.string (da ++ S)) (.int .i64 2) (.string nm) (.string (da ++ S))
          exact bodyPost_ret (results_cell_row rfl _ _ (w.heap.size + 1) 30 _ (0, 0) _ rfl m1 Try.underlying30 rfl info30) rfl ⟨da ++ S, rfl, by rw [ByteArray.size_append, HS.out]; unfold maxLen; omega, m2⟩
    · clear hmk2
      go_enter Try.func11, Try.ntmps11
      go_wp2
      go_loopg [6, 38] n (fun gk _ i wr => ∃ (k : Nat) (Z : Nat → Int), k ≤ n ∧ gk = n - k ∧ i = .int .i64 k ∧ wr.rowIs (w.heap.size + 1 + 1 + 1) 5 n (fun j => .int .u8 (Z j)) ∧ Below (w.heap.size + 1 + 1 + 1) (c3 w nm da t cr) wr)
      case atStart => exact ⟨0, fun _ => 0, Nat.zero_le _, rfl, rfl, hst.out, HW3.out.alloc (by rw [c3_size]; exact Nat.le_refl _) _⟩
      case round =>
        obtain ⟨k, Z, hk, hgk, rfl, hrow, hbr⟩ := hrel
        have HK := Lib.hid hgk
        have HROW := Lib.hid hrow
        have HBR := Lib.hid hbr
        obtain ⟨⟨c0, c1, c2⟩, ⟨d0, d1, d2⟩, ⟨f0, f1, f2⟩, ⟨g0, g1, g2⟩⟩ := c3_cells hbr
        clear hgk hrow hbr
        by_cases hlt : k < n
        · have e1 := HROW.out.cell hlt
          have e2 := HROW.out.frozen k
          have s0 : (0 : Int) ≤ (k : Int) % (da.size : Int) := Int.emod_nonneg _ (by omega)
          have s1 : (k : Int) % (da.size : Int) < (da.size : Int) := Int.emod_lt_of_pos _ (by omega)
          have s2 : (k : Int) < (n : Int) := by omega
          have s3 : ¬ da = ByteArray.empty := fun e => by rw [e] at hd1; simp at hd1
          go_wp2
          go_region
          go_wp2
          go_roundg (n - (k + 1))
          case measure => rw [HK.out]; omega
          case rel =>
            refine ⟨k + 1, _, by omega, rfl, by go_num, (HROW.out.drew.set k _).congr (g := fun j => .int .u8 (if j = k then _ else Z j)) (fun i hi => by by_cases e : i = k <;> simp [e]; rfl), (below_drew HBR.out).setCell (by simp) _⟩
        · obtain rfl : k = n := by omega
          have hcv := run_convert_bytes_arg (P := Try.prog) wr 68 5 Try.underlying68 Try.underlying5 (w.heap.size + 1 + 1 + 1) 0 k k ((List.range k).map Z) (by simp) (fun i hi => by
            rw [Nat.zero_add, HROW.out.cell hi]
            simp [List.getD, hi]) 9 Try.underlying9
          have hS : (strOfNums ((List.range k).map Z)).size = k := by rw [strOfNums_size]; simp
          have HS := Lib.hid hS
          clear hS
          generalize strOfNums ((List.range k).map Z) = S at *
          have hS2 : S.size ≤ 2097152 := by rw [HS.out]; exact hn
          go_wp2
          obtain ⟨m1, m2⟩ := c3_end HBR.out (.string (da ++ S)) (.int .i64 2) (.string nm) (.string (da ++ S))
          exact bodyPost_ret (results_cell_row rfl _ _ (w.heap.size + 1) 30 _ (0, 0) _ rfl m1 Try.underlying30 rfl info30) rfl ⟨da ++ S, rfl, by rw [ByteArray.size_append, HS.out]; unfold maxLen; omega, m2⟩
  · have hcase : ((op != 2) = true) ∨ ((op != 2) = false ∧ da = ByteArray.empty) ∨ ((op != 2) = false ∧ ((da.size : Int) == 0) = false ∧ decide ((4096 : Int) < da.size) = true) := by
      by_cases e : op = 2
      · right
        by_cases h2 : da.size = 0
        · exact .inl ⟨by simp [e], ByteArray.size_eq_zero_iff.1 h2⟩
        · exact .inr ⟨by simp [e], by simp only [beq_eq_false_iff_ne, ne_eq]; omega, by simp; omega⟩
      · exact .inl (by simpa using e)
    rcases hcase with h1 | ⟨h1, rfl⟩ | ⟨h1, h2, h3⟩
    all_goals
      go_enter Try.func11, Try.ntmps11
      go_wp2
    · obtain ⟨e1, e2⟩ := call_b w (.cells #[.int .i64 op, .string nm, .string da, .int .u16 t, .bool cr] 33) (.cells #[.int .i64 op, .string nm, .string da] 30) #[.int .i64 op, .string nm, .string da]
      exact bodyPost_ret (results_cell_row rfl _ _ (w.heap.size + 1) 30 _ (0, 0) _ rfl e1 Try.underlying30 rfl info30) rfl ⟨da, rfl, hda, e2⟩
    · obtain ⟨e1, e2⟩ := call_b w (.cells #[.int .i64 op, .string nm, .string ByteArray.empty, .int .u16 t, .bool cr] 33) (.cells #[.int .i64 op, .string nm, .string ByteArray.empty] 30) #[.int .i64 op, .string nm, .string ByteArray.empty]
      exact bodyPost_ret (results_cell_row rfl _ _ (w.heap.size + 1) 30 _ (0, 0) _ rfl e1 Try.underlying30 rfl info30) rfl ⟨_, rfl, hda, e2⟩
    · obtain ⟨e1, e2⟩ := call_b w (.cells #[.int .i64 op, .string nm, .string da, .int .u16 t, .bool cr] 33) (.cells #[.int .i64 op, .string nm, .string da] 30) #[.int .i64 op, .string nm, .string da]
      exact bodyPost_ret (results_cell_row rfl _ _ (w.heap.size + 1) 30 _ (0, 0) _ rfl e1 Try.underlying30 rfl info30) rfl ⟨da, rfl, hda, e2⟩
end Go.Proofs.Ytadagidjppgbkaa
