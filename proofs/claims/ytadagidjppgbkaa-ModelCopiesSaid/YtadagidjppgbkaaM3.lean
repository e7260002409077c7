/- The walks over Do at Begin, Write, Commit, Abort, Restore. -/
import Derived.Test.YtadagidjppgbkaaM2
namespace Go.Proofs.Ytadagidjppgbkaa
open Go.RowKit Go.Maps
def callV (op : Int) (nm da : ByteArray) : Value := .agg #[.int .i64 op, .string nm, .string da]
def zeroReply : Array Value := #[.int .i64 0, .string ByteArray.empty, .slice none 0 0]
/-- behind a method: the reply's variable stands, and the call's -/
theorem Turn.keeps {g b : Nat} {w w' : World} (h : Turn g b w w') {k : Nat} {o : Obj} (hk : w.heap[k]? = some o) (h1 : k ≠ g) (h2 : k ≠ b) : w'.heap[k]? = some o :=
  (h.block k (Array.getElem?_eq_some_iff.1 hk).1 h1 h2).trans hk
def DoPost (g b : Nat) (s : Md) (w : World) (v : Value) (e : Ending) (w' : World) : Prop := e = .returned v ∧ MdAt g b s w' ∧ Turn g b w w'
theorem do_facts {g b : Nat} {s : Md} {w w2 : World} (h : MdAt g b s w) (op : Int) (nm da : ByteArray) (ht : Turn g b ((w.alloc (.cells #[.int .i64 op, .string nm, .string da] 30)).alloc (.cells zeroReply 39)) w2) :
    w2.heap[w.heap.size + 1]? = some (.cells zeroReply 39) ∧ w2.heap[w.heap.size]? = some (.cells #[.int .i64 op, .string nm, .string da] 30) := by
  have hl := h.lt
  refine ⟨ht.keeps (by rw [← World.size_alloc w (.cells #[.int .i64 op, .string nm, .string da] 30)]; exact heap_alloc_new _ _) (by omega) (by omega), ht.keeps ((Below.heap_alloc _ _ _ (by simp)).trans (heap_alloc_new _ _)) (by omega) (by omega)⟩
/-- the reply is written -/
theorem do_end {g b : Nat} {s s' : Md} {w w2 : World} (h : MdAt g b s w) (op : Int) (nm da : ByteArray) (ht : Turn g b ((w.alloc (.cells #[.int .i64 op, .string nm, .string da] 30)).alloc (.cells zeroReply 39)) w2) (hm : MdAt g b s' w2) (u0 u1 u2 : Value) :
    let w3 := ((w2.setCell ⟨w.heap.size + 1, 0, none⟩ u0).setCell ⟨w.heap.size + 1, 1, none⟩ u1).setCell ⟨w.heap.size + 1, 2, none⟩ u2
    w3.heap[w.heap.size + 1]? = some (.cells #[u0, u1, u2] 39) ∧ MdAt g b s' w3 ∧ Turn g b w w3 := by
  intro w3
  have hl := h.lt
  obtain ⟨f1, _⟩ := do_facts h op nm da ht
  have b1 := heap_setCell_same w2 (w.heap.size + 1) 0 _ 39 u0 f1
  have b2 := heap_setCell_same _ (w.heap.size + 1) 1 _ 39 u1 b1
  have b3 := heap_setCell_same _ (w.heap.size + 1) 2 _ 39 u2 b2
  have hoth : ∀ k, k ≠ w.heap.size + 1 → w3.heap[k]? = w2.heap[k]? := fun k hk =>
    (heap_setCell_other _ ⟨w.heap.size + 1, 2, none⟩ k _ hk).trans ((heap_setCell_other _ ⟨w.heap.size + 1, 1, none⟩ k _ hk).trans (heap_setCell_other _ ⟨w.heap.size + 1, 0, none⟩ k _ hk))
  refine ⟨b3, ⟨(hoth g (by omega)).trans hm.1, ?_⟩, ?_⟩
  · have : (w2.grownBy w3 (some (w.heap.size + 1))) := ⟨rfl, rfl, rfl, by simp [w3], fun k _ hk => hoth k (fun e => hk (by rw [e]))⟩
    exact hm.2.kept this (by intro e; injection e with e; omega)
  · refine ⟨ht.os, ht.tape, ht.output, ?_, fun k hk h1 h2 => ?_⟩
    · have := ht.size; simp at this; simp [w3]; omega
    · rw [hoth k (by omega), ht.block k (by simp; omega) h1 h2]
      exact (Below.heap_alloc _ _ _ (by simp; omega)).trans (Below.heap_alloc _ _ _ hk)
theorem do_cells {g b : Nat} {s : Md} {w w2 : World} (h : MdAt g b s w) (op : Int) (nm da : ByteArray) (ht : Turn g b ((w.alloc (.cells #[.int .i64 op, .string nm, .string da] 30)).alloc (.cells zeroReply 39)) w2) :
    (w2.cell? ⟨w.heap.size + 1, 0, none⟩ = some (.int .i64 0) ∧ w2.cell? ⟨w.heap.size + 1, 1, none⟩ = some (.string ByteArray.empty) ∧ w2.cell? ⟨w.heap.size + 1, 2, none⟩ = some (.slice none 0 0)) ∧
    (w2.frozen? ⟨w.heap.size + 1, 0, none⟩ = false ∧ w2.frozen? ⟨w.heap.size + 1, 1, none⟩ = false ∧ w2.frozen? ⟨w.heap.size + 1, 2, none⟩ = false) ∧
    (w2.cell? ⟨w.heap.size, 0, none⟩ = some (.int .i64 op) ∧ w2.cell? ⟨w.heap.size, 1, none⟩ = some (.string nm) ∧ w2.cell? ⟨w.heap.size, 2, none⟩ = some (.string da)) := by
  obtain ⟨f1, f2⟩ := do_facts h op nm da ht
  exact ⟨⟨cell_of_row w2 _ 0 _ 39 (0, 0) f1, cell_of_row w2 _ 1 _ 39 (0, 0) f1, cell_of_row w2 _ 2 _ 39 (0, 0) f1⟩, ⟨frozen_of_row w2 _ 0 _ 39 f1, frozen_of_row w2 _ 1 _ 39 f1, frozen_of_row w2 _ 2 _ 39 f1⟩, cell_of_row w2 _ 0 _ 30 (0, 0) f2, cell_of_row w2 _ 1 _ 30 (0, 0) f2, cell_of_row w2 _ 2 _ 30 (0, 0) f2⟩
theorem info39 : (Try.prog.info? 39).map (·.size) = some 3 := by kernel_rfl
theorem new2 (w : World) (a c : Obj) : Below w.heap.size w ((w.alloc a).alloc c) := ((Below.refl _ _).alloc (Nat.le_refl _) _).alloc (by simp) _
set_option maxHeartbeats 2000000 in
theorem do_begin {g b : Nat} {s : Md} {w : World} (h : MdAt g b s w) (nm da : ByteArray) (hnm : nm.size ≤ maxLen) : Calls Try.prog 14 #[.pointer (some ⟨g, 0, none⟩), callV 1 nm da] w (DoPost g b (s.begun nm) w (replyV (beginE s nm) ByteArray.empty (.slice none 0 0))) := by
  have H := Lib.hid h
  have hm0 : MdAt g b s ((w.alloc (.cells #[.int .i64 1, .string nm, .string da] 30)).alloc (.cells zeroReply 39)) := h.below (new2 _ _ _)
  have HM := Lib.hid (made_at hm0)
  have HB := Lib.hid (begin_at hm0 nm hnm)
  clear h hm0
  go_enter Try.func14, Try.ntmps14
  go_wp2_with (first
    | (go_at_call 26; refine HM.out.mono ?_; rintro e w1 ⟨rfl, rfl⟩)
    | (go_at_call 31; refine HB.out.mono ?_; rintro e w2 ⟨rfl, hm2, ht2⟩; have HT2 := Lib.hid ht2; have HM2 := Lib.hid hm2; have F := do_cells H.out 1 nm da ht2; clear hm2 ht2))
  obtain ⟨e1, e2, e3⟩ := do_end H.out 1 nm da HT2.out HM2.out (.int .i64 (beginE s nm)) (.string ByteArray.empty) (.slice none 0 0)
  exact bodyPost_ret (v := replyV (beginE s nm) ByteArray.empty (.slice none 0 0)) (results_cell_row rfl _ _ (w.heap.size + 1) 39 _ (0, 0) _ rfl e1 Try.underlying39 rfl info39) rfl ⟨rfl, e2, e3⟩
set_option maxHeartbeats 2000000 in
theorem do_write {g b : Nat} {s : Md} {w : World} (h : MdAt g b s w) (nm da : ByteArray) (hda : da.size ≤ maxLen) (hby : s.by_.size ≤ 1048576) : Calls Try.prog 14 #[.pointer (some ⟨g, 0, none⟩), callV 2 nm da] w (DoPost g b (s.wrote da) w (replyV (writeE s da) ByteArray.empty (.slice none 0 0))) := by
  have H := Lib.hid h
  have hm0 : MdAt g b s ((w.alloc (.cells #[.int .i64 2, .string nm, .string da] 30)).alloc (.cells zeroReply 39)) := h.below (new2 _ _ _)
  have HM := Lib.hid (made_at hm0)
  have HB := Lib.hid (write_at hm0 da hda hby)
  clear h hm0 hda hby
  go_enter Try.func14, Try.ntmps14
  go_wp2_with (first
    | (go_at_call 26; refine HM.out.mono ?_; rintro e w1 ⟨rfl, rfl⟩)
    | (go_at_call 32; refine HB.out.mono ?_; rintro e w2 ⟨rfl, hm2, ht2⟩; have HT2 := Lib.hid ht2; have HM2 := Lib.hid hm2; have F := do_cells H.out 2 nm da ht2; clear hm2 ht2))
  obtain ⟨e1, e2, e3⟩ := do_end H.out 2 nm da HT2.out HM2.out (.int .i64 (writeE s da)) (.string ByteArray.empty) (.slice none 0 0)
  exact bodyPost_ret (v := replyV (writeE s da) ByteArray.empty (.slice none 0 0)) (results_cell_row rfl _ _ (w.heap.size + 1) 39 _ (0, 0) _ rfl e1 Try.underlying39 rfl info39) rfl ⟨rfl, e2, e3⟩
set_option maxHeartbeats 2000000 in
theorem do_commit {g b : Nat} {s : Md} {w : World} (h : MdAt g b s w) (nm da : ByteArray) (hsn : s.nm.size ≤ maxLen) (hby : s.by_.size ≤ maxLen) (hn : s.n < maxLen) : Calls Try.prog 14 #[.pointer (some ⟨g, 0, none⟩), callV 3 nm da] w (DoPost g b (s.ended true) w (replyV (endE s) ByteArray.empty (.slice none 0 0))) := by
  have H := Lib.hid h
  have hm0 : MdAt g b s ((w.alloc (.cells #[.int .i64 3, .string nm, .string da] 30)).alloc (.cells zeroReply 39)) := h.below (new2 _ _ _)
  have HM := Lib.hid (made_at hm0)
  have HB := Lib.hid (end_at hm0 true hsn hby hn)
  clear h hm0 hsn hby hn
  go_enter Try.func14, Try.ntmps14
  go_wp2_with (first
    | (go_at_call 26; refine HM.out.mono ?_; rintro e w1 ⟨rfl, rfl⟩)
    | (go_at_call 33; refine HB.out.mono ?_; rintro e w2 ⟨rfl, hm2, ht2⟩; have HT2 := Lib.hid ht2; have HM2 := Lib.hid hm2; have F := do_cells H.out 3 nm da ht2; clear hm2 ht2))
  obtain ⟨e1, e2, e3⟩ := do_end H.out 3 nm da HT2.out HM2.out (.int .i64 (endE s)) (.string ByteArray.empty) (.slice none 0 0)
  exact bodyPost_ret (v := replyV (endE s) ByteArray.empty (.slice none 0 0)) (results_cell_row rfl _ _ (w.heap.size + 1) 39 _ (0, 0) _ rfl e1 Try.underlying39 rfl info39) rfl ⟨rfl, e2, e3⟩
set_option maxHeartbeats 2000000 in
theorem do_abort {g b : Nat} {s : Md} {w : World} (h : MdAt g b s w) (nm da : ByteArray) (hsn : s.nm.size ≤ maxLen) (hby : s.by_.size ≤ maxLen) (hn : s.n < maxLen) : Calls Try.prog 14 #[.pointer (some ⟨g, 0, none⟩), callV 4 nm da] w (DoPost g b (s.ended false) w (replyV (endE s) ByteArray.empty (.slice none 0 0))) := by
  have H := Lib.hid h
  have hm0 : MdAt g b s ((w.alloc (.cells #[.int .i64 4, .string nm, .string da] 30)).alloc (.cells zeroReply 39)) := h.below (new2 _ _ _)
  have HM := Lib.hid (made_at hm0)
  have HB := Lib.hid (end_at hm0 false hsn hby hn)
  clear h hm0 hsn hby hn
  go_enter Try.func14, Try.ntmps14
  go_wp2_with (first
    | (go_at_call 26; refine HM.out.mono ?_; rintro e w1 ⟨rfl, rfl⟩)
    | (go_at_call 33; refine HB.out.mono ?_; rintro e w2 ⟨rfl, hm2, ht2⟩; have HT2 := Lib.hid ht2; have HM2 := Lib.hid hm2; have F := do_cells H.out 4 nm da ht2; clear hm2 ht2))
  obtain ⟨e1, e2, e3⟩ := do_end H.out 4 nm da HT2.out HM2.out (.int .i64 (endE s)) (.string ByteArray.empty) (.slice none 0 0)
  exact bodyPost_ret (v := replyV (endE s) ByteArray.empty (.slice none 0 0)) (results_cell_row rfl _ _ (w.heap.size + 1) 39 _ (0, 0) _ rfl e1 Try.underlying39 rfl info39) rfl ⟨rfl, e2, e3⟩
/-- what stands under a name -/
def valOf (s : Md) (nm : ByteArray) : ByteArray := match s.D.atKey (.string nm.data.toList) (.lit (.string [])) with | .lit (.string l) => ⟨l.toArray⟩ | _ => ByteArray.empty
theorem look_at {g b : Nat} {s : Md} {w : World} (h : MdAt g b s w) (nm : ByteArray) (hnm : nm.size ≤ maxLen) :
    (Instr.lookup 65 (.map (some b)) (.string nm) true).run Try.prog w = .ok (.tuple #[.string (valOf s nm), .bool (has s nm)]) w := by
  obtain ⟨v, ps, hrun, hv⟩ := h.2.look_ok law9 Try.underlying65 (Try.zeroValue9 w) zero_ok (key_ok hnm)
  obtain ⟨sv, rfl, hz, _⟩ := plainElem_string_inv Try.underlying9 hv
  simp only [Prod.mk.injEq] at hz
  have : valOf s nm = sv := by
    rw [valOf, hz.1]
  rw [this]
  exact hrun
set_option maxHeartbeats 2000000 in
theorem do_restore {g b : Nat} {s : Md} {w : World} (h : MdAt g b s w) (nm da : ByteArray) (hnm : nm.size ≤ maxLen) : Calls Try.prog 14 #[.pointer (some ⟨g, 0, none⟩), callV 5 nm da] w (DoPost g b s w (if has s nm = true then replyV 0 (valOf s nm) (.slice none 0 0) else replyV 6 ByteArray.empty (.slice none 0 0))) := by
  have H := Lib.hid h
  have hm0 : MdAt g b s ((w.alloc (.cells #[.int .i64 5, .string nm, .string da] 30)).alloc (.cells zeroReply 39)) := h.below (new2 _ _ _)
  have HM := Lib.hid (made_at hm0)
  have HM0 := Lib.hid hm0
  have hlt := h.lt
  have c0 := h.c0
  have hl : ∀ nq, (Instr.lookup 65 (.map (some b)) (.string nm) true).run Try.prog (((w.alloc (.cells #[.int .i64 5, .string nm, .string da] 30)).alloc (.cells zeroReply 39)).drewN nq) = .ok (.tuple #[.string (valOf s nm), .bool (has s nm)]) (((w.alloc (.cells #[.int .i64 5, .string nm, .string da] 30)).alloc (.cells zeroReply 39)).drewN nq) :=
    fun nq => look_at (g := g) (w := ((w.alloc (.cells #[.int .i64 5, .string nm, .string da] 30)).alloc (.cells zeroReply 39)).drewN nq) hm0 nm hnm
  have q0 := hm0.c0
  have F := do_cells h 5 nm da (Turn.refl g b _)
  clear h hnm hm0 c0
  generalize has s nm = B at *
  generalize valOf s nm = V at *
  cases B
  all_goals
    go_enter Try.func14, Try.ntmps14
    go_wp2_with (first
      | (go_at_call 26; refine HM.out.mono ?_; rintro e w1 ⟨rfl, rfl⟩))
    go_quiet (fail)
    go_wp2
  · obtain ⟨e1, e2, e3⟩ := do_end (w2 := ((w.alloc (.cells #[.int .i64 5, .string nm, .string da] 30)).alloc (.cells zeroReply 39)).drewN nq) H.out 5 nm da (⟨rfl, rfl, rfl, Nat.le_refl _, fun _ _ _ _ => rfl⟩) HM0.out (.int .i64 6) (.string ByteArray.empty) (.slice none 0 0)
    exact bodyPost_ret (v := replyV 6 ByteArray.empty (.slice none 0 0)) (results_cell_row rfl _ _ (w.heap.size + 1) 39 _ (0, 0) _ rfl e1 Try.underlying39 rfl info39) rfl ⟨rfl, e2, e3⟩
  · obtain ⟨e1, e2, e3⟩ := do_end (w2 := ((w.alloc (.cells #[.int .i64 5, .string nm, .string da] 30)).alloc (.cells zeroReply 39)).drewN nq) H.out 5 nm da (⟨rfl, rfl, rfl, Nat.le_refl _, fun _ _ _ _ => rfl⟩) HM0.out (.int .i64 0) (.string V) (.slice none 0 0)
    exact bodyPost_ret (v := replyV 0 V (.slice none 0 0)) (results_cell_row rfl _ _ (w.heap.size + 1) 39 _ (0, 0) _ rfl e1 Try.underlying39 rfl info39) rfl ⟨rfl, e2, e3⟩
end Go.Proofs.Ytadagidjppgbkaa
