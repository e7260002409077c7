/- The walks over remove, and over Do at Delete, List, Pass, and at anything else. -/
import Derived.Test.YtadagidjppgbkaaM8
namespace Go.Proofs.Ytadagidjppgbkaa
open Go.RowKit Go.Maps Go.Sort
def removeE (s : Md) (nm : ByteArray) : Int := if s.op = true then 250 else if has s nm = true then 0 else 6
def Md.removed (s : Md) (nm : ByteArray) : Md := if removeE s nm = 0 then ⟨s.D.del (.string nm.data.toList), s.n, s.op, s.nm, s.by_⟩ else s
set_option maxHeartbeats 1000000 in
theorem remove_at {g b : Nat} {s : Md} {w : World} (h : MdAt g b s w) (nm : ByteArray) (hnm : nm.size ≤ maxLen) : Calls Try.prog 34 #[.pointer (some ⟨g, 0, none⟩), .string nm] w (Post g b (s.removed nm) w (.int .i64 (removeE s nm))) := by
  have H := Lib.hid h
  have HKY := Lib.hid (key_ok hnm)
  have c0 := h.c0
  have c1 := h.c1
  have hl := look_at h nm hnm
  have hcase : (s.op = true ∧ removeE s nm = 250) ∨ (s.op = false ∧ has s nm = true ∧ removeE s nm = 0) ∨ (s.op = false ∧ has s nm = false ∧ removeE s nm = 6) := by
    unfold removeE
    cases h1 : s.op
    · cases h2 : has s nm
      · exact .inr (.inr ⟨rfl, rfl, by rw [if_neg (by simp), if_neg (by simp)]⟩)
      · exact .inr (.inl ⟨rfl, rfl, by rw [if_neg (by simp), if_pos rfl]⟩)
    · exact .inl ⟨rfl, by rw [if_pos rfl]⟩
  clear h hnm
  rcases hcase with ⟨h1, he⟩ | ⟨h1, h2, he⟩ | ⟨h1, h2, he⟩
  · rw [Md.removed, he, if_neg (by decide)]
    rw [h1] at c1
    clear h1 he hl
    go_enter Try.func34, Try.ntmps34
    go_wp2
    go_ret
    exact ⟨rfl, H.out, Turn.refl _ _ _⟩
  · rw [Md.removed, he, if_pos rfl]
    rw [h1] at c1
    rw [h2] at hl
    clear h1 h2 he
    generalize valOf s nm = V at *
    go_enter Try.func34, Try.ntmps34
    go_wp2_with (first
      | (at_delete; refine wpList_delete_own _ rfl _ _ 65 9 rfl 9 law9 Try.underlying65 _ b s.n s.D rfl H.out.2 _ _ rfl HKY.out ?_; intro w1 hown1 hturn1))
    have hgr := hturn1.grown
    have hm1 : MdAt g b ⟨s.D.del (.string nm.data.toList), s.n, s.op, s.nm, s.by_⟩ w1 := ⟨(hgr.block g H.out.lt.1 (fun e => H.out.ne (by injection e))).trans H.out.1, hown1⟩
    have HM1 := Lib.hid hm1
    clear hm1 hown1 hturn1
    go_wp2
    go_ret
    exact ⟨rfl, HM1.out, Turn.of_grown hgr (.inr rfl)⟩
  · rw [Md.removed, he, if_neg (by decide)]
    rw [h1] at c1
    rw [h2] at hl
    clear h1 h2 he
    generalize valOf s nm = V at *
    go_enter Try.func34, Try.ntmps34
    go_wp2
    go_ret
    exact ⟨rfl, H.out, Turn.refl _ _ _⟩
set_option maxHeartbeats 2000000 in
theorem do_delete {g b : Nat} {s : Md} {w : World} (h : MdAt g b s w) (nm da : ByteArray) (hnm : nm.size ≤ maxLen) : Calls Try.prog 14 #[.pointer (some ⟨g, 0, none⟩), callV 6 nm da] w (DoPost g b (s.removed nm) w (replyV (removeE s nm) ByteArray.empty (.slice none 0 0))) := by
  have H := Lib.hid h
  have hm0 : MdAt g b s ((w.alloc (.cells #[.int .i64 6, .string nm, .string da] 30)).alloc (.cells zeroReply 39)) := h.below (new2 _ _ _)
  have HM := Lib.hid (made_at hm0)
  have HB := Lib.hid (remove_at hm0 nm hnm)
  clear h hm0 hnm
  go_enter Try.func14, Try.ntmps14
  go_wp2_with (first
    | (go_at_call 26; refine HM.out.mono ?_; rintro e w1 ⟨rfl, rfl⟩)
    | (go_at_call 34; refine HB.out.mono ?_; rintro e w2 ⟨rfl, hm2, ht2⟩; have HT2 := Lib.hid ht2; have HM2 := Lib.hid hm2; have F := do_cells H.out 6 nm da ht2; clear hm2 ht2))
  obtain ⟨e1, e2, e3⟩ := do_end H.out 6 nm da HT2.out HM2.out (.int .i64 (removeE s nm)) (.string ByteArray.empty) (.slice none 0 0)
  exact bodyPost_ret (v := replyV (removeE s nm) ByteArray.empty (.slice none 0 0)) (results_cell_row rfl _ _ (w.heap.size + 1) 39 _ (0, 0) _ rfl e1 Try.underlying39 rfl info39) rfl ⟨rfl, e2, e3⟩
/-- a reply that is made at once -/
theorem do_made {g b : Nat} {s : Md} {w : World} (h : MdAt g b s w) (o : Obj) (u : Array Value) :
    ((w.alloc o).alloc (.cells u 39)).heap[w.heap.size + 1]? = some (.cells u 39) ∧ MdAt g b s ((w.alloc o).alloc (.cells u 39)) ∧ Turn g b w ((w.alloc o).alloc (.cells u 39)) := by
  refine ⟨?_, h.below (new2 _ _ _), Turn.of_below (new2 _ _ _)⟩
  rw [← World.size_alloc w o]
  exact heap_alloc_new _ _
set_option maxHeartbeats 2000000 in
theorem do_pass {g b : Nat} {s : Md} {w : World} (h : MdAt g b s w) (nm da : ByteArray) : Calls Try.prog 14 #[.pointer (some ⟨g, 0, none⟩), callV 8 nm da] w (DoPost g b s w (replyV (if s.op = true then 250 else 0) ByteArray.empty (.slice none 0 0))) := by
  have H := Lib.hid h
  have hm0 : MdAt g b s ((w.alloc (.cells #[.int .i64 8, .string nm, .string da] 30)).alloc (.cells #[.int .i64 0, .string ByteArray.empty, .slice none 0 0] 39)) := h.below (new2 _ _ _)
  have HM := Lib.hid (made_at hm0)
  have c1 := hm0.c1
  clear h hm0
  generalize hop : s.op = B at c1 ⊢
  have HOP := Lib.hid hop
  clear hop
  cases B
  all_goals
    go_enter Try.func14, Try.ntmps14
    go_wp2_with (first
      | (go_at_call 26; refine HM.out.mono ?_; rintro e w1 ⟨rfl, rfl⟩))
  · obtain ⟨e1, e2, e3⟩ := do_made H.out (.cells #[.int .i64 8, .string nm, .string da] 30) #[.int .i64 0, .string ByteArray.empty, .slice none 0 0]
    exact bodyPost_ret (v := replyV 0 ByteArray.empty (.slice none 0 0)) (results_cell_row rfl _ _ (w.heap.size + 1) 39 _ (0, 0) _ rfl e1 Try.underlying39 rfl info39) rfl ⟨rfl, e2, e3⟩
  · obtain ⟨e1, e2, e3⟩ := do_made H.out (.cells #[.int .i64 8, .string nm, .string da] 30) #[.int .i64 250, .string ByteArray.empty, .slice none 0 0]
    exact bodyPost_ret (v := replyV 250 ByteArray.empty (.slice none 0 0)) (results_cell_row rfl _ _ (w.heap.size + 1) 39 _ (0, 0) _ rfl e1 Try.underlying39 rfl info39) rfl ⟨rfl, e2, e3⟩
set_option maxHeartbeats 2000000 in
theorem do_other {g b : Nat} {s : Md} {w : World} (h : MdAt g b s w) (op : Int) (nm da : ByteArray) (hop : op ≠ 1 ∧ op ≠ 2 ∧ op ≠ 3 ∧ op ≠ 4 ∧ op ≠ 5 ∧ op ≠ 6 ∧ op ≠ 7 ∧ op ≠ 8) : Calls Try.prog 14 #[.pointer (some ⟨g, 0, none⟩), callV op nm da] w (DoPost g b s w (replyV 1 ByteArray.empty (.slice none 0 0))) := by
  have H := Lib.hid h
  have hm0 : MdAt g b s ((w.alloc (.cells #[.int .i64 op, .string nm, .string da] 30)).alloc (.cells #[.int .i64 0, .string ByteArray.empty, .slice none 0 0] 39)) := h.below (new2 _ _ _)
  have HM := Lib.hid (made_at hm0)
  clear h hm0
  obtain ⟨h1, h2, h3, h4, h5, h6, h7, h8⟩ := hop
  have t1 : (op == 1) = false := by simpa using h1
  have t2 : (op == 2) = false := by simpa using h2
  have t3 : (op == 3) = false := by simpa using h3
  have t4 : (op == 4) = false := by simpa using h4
  have t5 : (op == 5) = false := by simpa using h5
  have t6 : (op == 6) = false := by simpa using h6
  have t7 : (op == 7) = false := by simpa using h7
  have t8 : (op == 8) = false := by simpa using h8
  clear h1 h2 h3 h4 h5 h6 h7 h8
  go_enter Try.func14, Try.ntmps14
  go_wp2_with (first
    | (go_at_call 26; refine HM.out.mono ?_; rintro e w1 ⟨rfl, rfl⟩))
  obtain ⟨e1, e2, e3⟩ := do_made H.out (.cells #[.int .i64 op, .string nm, .string da] 30) #[.int .i64 1, .string ByteArray.empty, .slice none 0 0]
  exact bodyPost_ret (v := replyV 1 ByteArray.empty (.slice none 0 0)) (results_cell_row rfl _ _ (w.heap.size + 1) 39 _ (0, 0) _ rfl e1 Try.underlying39 rfl info39) rfl ⟨rfl, e2, e3⟩
def ListPost (g b : Nat) (s : Md) (w : World) (e : Ending) (w' : World) : Prop :=
  ∃ v, e = .returned (replyV 0 ByteArray.empty v) ∧ w'.ownsRow w.heap.size 9 1 v (keysOf s.D).length ((keysOf s.D).map encStr) ∧ MdAt g b s w' ∧ Turn g b w w'
set_option maxHeartbeats 2000000 in
theorem do_list {g b : Nat} {s : Md} {w : World} (h : MdAt g b s w) (nm da : ByteArray) (hmax : Maps.size s.D ≤ 1000000) : Calls Try.prog 14 #[.pointer (some ⟨g, 0, none⟩), callV 7 nm da] w (ListPost g b s w) := by
  have H := Lib.hid h
  have hm0 : MdAt g b s ((w.alloc (.cells #[.int .i64 7, .string nm, .string da] 30)).alloc (.cells #[.int .i64 0, .string ByteArray.empty, .slice none 0 0] 39)) := h.below (new2 _ _ _)
  have HM := Lib.hid (made_at hm0)
  have HN := Lib.hid (names_at hm0 hmax)
  have HM0 := Lib.hid hm0
  clear h hm0 hmax
  go_enter Try.func14, Try.ntmps14
  go_wp2_with (first
    | (go_at_call 26; refine HM.out.mono ?_; rintro e w1 ⟨rfl, rfl⟩)
    | (go_at_call 20; refine HN.out.mono ?_; rintro e w2 ⟨v2, rfl, hrow2, hb2⟩; obtain ⟨A2, cc2, rfl⟩ := own_slice hrow2; have HT2 := Lib.hid (Turn.of_below (g := g) (b := b) hb2); have HM2 := Lib.hid (HM0.out.below hb2); have HR2 := Lib.hid hrow2; have F := do_cells H.out 7 nm da HT2.out; clear hrow2 hb2))
  obtain ⟨e1, e2, e3⟩ := do_end H.out 7 nm da HT2.out HM2.out (.int .i64 0) (.string ByteArray.empty) (.slice A2 (keysOf s.D).length cc2)
  refine bodyPost_ret (v := replyV 0 ByteArray.empty (.slice A2 (keysOf s.D).length cc2)) (results_cell_row rfl _ _ (w.heap.size + 1) 39 _ (0, 0) _ rfl e1 Try.underlying39 rfl info39) rfl ⟨_, rfl, ?_, e2, e3⟩
  have hr := HR2.out
  have hlow : (Value.slice A2 (keysOf s.D).length cc2).ownBlock ≠ some (w.heap.size + 1) := fun e => by
    have := (hr.lt _ e).1
    rw [World.size_alloc, World.size_alloc] at this
    omega
  have hg : w2.grownBy (((w2.setCell ⟨w.heap.size + 1, 0, none⟩ (.int .i64 0)).setCell ⟨w.heap.size + 1, 1, none⟩ (.string ByteArray.empty)).setCell ⟨w.heap.size + 1, 2, none⟩ (.slice A2 (keysOf s.D).length cc2)) (some (w.heap.size + 1)) := by
    refine ⟨rfl, rfl, rfl, by simp, fun k _ hk => ?_⟩
    have hk2 : k ≠ w.heap.size + 1 := fun e => hk (by rw [e])
    exact (heap_setCell_other _ ⟨w.heap.size + 1, 2, none⟩ k _ hk2).trans ((heap_setCell_other _ ⟨w.heap.size + 1, 1, none⟩ k _ hk2).trans (heap_setCell_other _ ⟨w.heap.size + 1, 0, none⟩ k _ hk2))
  have h1 := hr.kept hg (.inr hlow)
  rcases h1.2 with h2 | ⟨g', cap, cur, hv, hb, hrest⟩
  · exact ⟨h1.1, .inl h2⟩
  · exact ⟨h1.1, .inr ⟨g', cap, cur, hv, by simp at hb; omega, hrest⟩⟩
end Go.Proofs.Ytadagidjppgbkaa
