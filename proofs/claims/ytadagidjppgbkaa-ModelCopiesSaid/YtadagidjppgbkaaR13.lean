/- The walks over the reference's Do at Restore, List. -/
import Derived.Test.YtadagidjppgbkaaR12
namespace Go.Proofs.Ytadagidjppgbkaa
open Go.RowKit Go.Maps Go.Sort
theorem Nms.len {w : World} {g b : Nat} {A : Option Addr} {n : Nat} {L : List Named} (h : Nms w g b A n L) : Nms w g b A L.length L := by
  have := h.1; subst this; exact h
theorem row_oth {w w' : World} {base base' n : Nat} {v : Value} {xs : List Value} (h : w.ownsRow base 9 1 v n xs) (ho : ∀ k, base ≤ k → w'.heap[k]? = w.heap[k]?) (hb : base' ≤ base) : w'.ownsRow base' 9 1 v n xs := by
  rcases h.2 with h2 | ⟨r, c, cur, hv, hbr, hh, hrest⟩
  · exact ⟨h.1, .inl h2⟩
  · exact ⟨h.1, .inr ⟨r, c, cur, hv, Nat.le_trans hb hbr, (ho r hbr).trans hh, hrest⟩⟩
theorem cell_set_oth (W : World) (p i : Nat) (u : Value) (k j : Nat) (h : k ≠ p) : (W.setCell ⟨p, i, none⟩ u).cell? ⟨k, j, none⟩ = W.cell? ⟨k, j, none⟩ := World.cell?_of_block (a := ⟨k, j, none⟩) (heap_setCell_other W ⟨p, i, none⟩ k u h)
set_option maxRecDepth 100000 in
set_option maxHeartbeats 1000000 in
theorem refDo_restore {w : World} {g b : Nat} {A : Option Addr} {c : Nat} (r : Rm) (hL : Nms w g b A r.L.length r.L) (hn : r.L.length ≤ 1000000) (nm da : ByteArray) (k : Nat) (x : Named) (hx : r.L[k]? = some x) (hk : atN r.L nm 0 = (k : Int)) :
    Calls Try.prog 12 #[.agg (rmA A c r), callV 5 nm da] w fun e w' => e = .returned (.tuple #[.agg (rmA A c r), replyV 0 x.2 (.slice none 0 0)]) ∧ Below w.heap.size w w' := by
  have hAt : Hid (∀ W, Below w.heap.size w W → Calls Try.prog 17 #[.agg (rmA A c r), .string nm] W fun e w' => e = .returned (.int .i64 (atN r.L nm 0)) ∧ w' = W.alloc (.cells (rmA A c r) 27)) := fun W hb => refAt (c := c) r (hL.below hb) hn nm
  have hkn := (List.getElem?_eq_some_iff.1 hx).1
  obtain ⟨rr, o, hAe, hrl, _, _, hc⟩ := hL.2.2 (by omega)
  have hx2 := (hc k x hx).2
  rw [hk] at hAt
  clear hL hc hx hk
  subst hAe
  obtain ⟨L, rop, rn, rb⟩ := r
  simp only [rmA, callV] at *
  generalize hN : L.length = N at *
  have HN := Lib.hid hN
  clear hN
  have t0 : ((k : Nat) : Int) < 0 ↔ False := by simp; 
  have t1 : (k : Int) < (N : Int) := by omega
  have q1 : ∀ (o1 o2 o3 o4 o5 : Obj), (((((w.alloc o1).alloc o2).alloc o3).alloc o4).alloc o5).cell? ⟨rr, o + k * 2 + 1, none⟩ = some (.string x.2) := fun o1 o2 o3 o4 o5 =>
    (((((((Below.refl _ w).alloc (Nat.le_refl _) o1).alloc (by simp) o2).alloc (by simp; omega) o3).alloc (by simp; omega) o4).alloc (by simp; omega) o5).cell (p := ⟨rr, o + k * 2 + 1, none⟩) hrl).trans hx2
  clear hx2
  go_enter Try.func12, Try.ntmps12
  go_wp2_with fail
  refine Calls.mono (hAt.out _ ?hbA1) ?_
  case hbA1 => exact d4_below w _ _
  rintro e w1 ⟨rfl, rfl⟩
  go_wp2
  go_region
  go_wp2
  obtain ⟨e1, e2, e3⟩ := do5 w (.cells #[.slice (some ⟨rr, o, none⟩) N c, .bool rop, .string rn, .string rb] 27) (.cells #[.int .i64 5, .string nm, .string da] 30) (.cells #[.slice (some ⟨rr, o, none⟩) N c, .bool rop, .string rn, .string rb] 27) #[.slice (some ⟨rr, o, none⟩) N c, .bool rop, .string rn, .string rb] #[.int .i64 0, .string x.2, .slice none 0 0]
  refine bodyPost_ret (results_cells2 rfl _ _ _ _ 27 39 _ _ (0, 0) (0, 0) _ _ rfl rfl e1 e2 Try.underlying27 Try.underlying39 rfl rfl info27 info39) rfl ⟨?_, ⟨e3.os, e3.tape, e3.output, e3.size, e3.block⟩⟩
  rw [← HN.out]; rfl
set_option maxRecDepth 100000 in
set_option maxHeartbeats 1000000 in
theorem refDo_none {w : World} {g b : Nat} {A : Option Addr} {c : Nat} (r : Rm) (hL : Nms w g b A r.L.length r.L) (hn : r.L.length ≤ 1000000) (nm da : ByteArray) (hk : atN r.L nm 0 = -1) :
    Calls Try.prog 12 #[.agg (rmA A c r), callV 5 nm da] w (RefPost r A c 6 w) := by
  have hAt : Hid (∀ W, Below w.heap.size w W → Calls Try.prog 17 #[.agg (rmA A c r), .string nm] W fun e w' => e = .returned (.int .i64 (atN r.L nm 0)) ∧ w' = W.alloc (.cells (rmA A c r) 27)) := fun W hb => refAt (c := c) r (hL.below hb) hn nm
  rw [hk] at hAt
  clear hL hk
  obtain ⟨L, rop, rn, rb⟩ := r
  simp only [rmA, callV] at *
  generalize hN : L.length = N at *
  have HN := Lib.hid hN
  clear hN hn
  go_enter Try.func12, Try.ntmps12
  go_wp2_with fail
  refine Calls.mono (hAt.out _ ?hbA1) ?_
  case hbA1 => exact d4_below w _ _
  rintro e w1 ⟨rfl, rfl⟩
  go_wp2
  obtain ⟨e1, e2, e3⟩ := do5 w (.cells #[.slice A N c, .bool rop, .string rn, .string rb] 27) (.cells #[.int .i64 5, .string nm, .string da] 30) (.cells #[.slice A N c, .bool rop, .string rn, .string rb] 27) #[.slice A N c, .bool rop, .string rn, .string rb] #[.int .i64 6, .string ByteArray.empty, .slice none 0 0]
  refine bodyPost_ret (results_cells2 rfl _ _ _ _ 27 39 _ _ (0, 0) (0, 0) _ _ rfl rfl e1 e2 Try.underlying27 Try.underlying39 rfl rfl info27 info39) rfl ⟨?_, e3⟩
  rw [← HN.out]; rfl
set_option maxRecDepth 100000 in
set_option maxHeartbeats 1000000 in
theorem refDo_list {w : World} {g b : Nat} {A : Option Addr} {c : Nat} (r : Rm) (hL : Nms w g b A r.L.length r.L) (hn : r.L.length ≤ 1000000) (hnc : r.L.length ≤ c) (hA : A = none → c = 0) (hcc : c ≤ 9223372036854775807) (nm da : ByteArray) :
    Calls Try.prog 12 #[.agg (rmA A c r), callV 7 nm da] w (RdPost g b A r.L r 0 ByteArray.empty (namesL r.L) w) := by
  have hAt : Hid (∀ W, Below w.heap.size w W → Calls Try.prog 17 #[.agg (rmA A c r), .string nm] W fun e w' => e = .returned (.int .i64 (atN r.L nm 0)) ∧ Below W.heap.size W w') := fun W hb => (refAt (c := c) r (hL.below hb) hn nm).mono fun e w' ⟨he, hw⟩ => ⟨he, by rw [hw]; exact (Below.refl _ _).alloc (Nat.le_refl _) _⟩
  have hNm : Hid (∀ W, Below w.heap.size w W → Calls Try.prog 29 #[.agg (rmA A c r)] W (RNamesPost r.L W)) := fun W hb => refNames (c := c) r (hL.below hb) hn
  have HL := Lib.hid hL
  have HX := Lib.hid (And.intro hnc (And.intro hA hcc))
  clear hL hnc hA hcc
  generalize atN r.L nm 0 = K at *
  obtain ⟨L, rop, rn, rb⟩ := r
  simp only [rmA, callV] at *
  generalize hN : L.length = N at *
  have HN := Lib.hid hN
  clear hN hn
  have HB0 := Lib.hid (Below.refl (w.heap.size + 1 + 1 + 1 + 1) (d4 w #[.slice A N c, .bool rop, .string rn, .string rb] #[.int .i64 7, .string nm, .string da]))
  go_enter Try.func12, Try.ntmps12
  go_wp2_with fail
  refine Calls.mono (hAt.out _ ?hbA1) ?_
  case hbA1 => exact d4_below w _ _
  rintro e w1 ⟨rfl, hb1⟩
  have HB1 := Lib.hid (HB0.out.trans (hb1.mono (by rw [World.size_alloc, World.size_alloc, World.size_alloc, World.size_alloc]; exact Nat.le_refl _)))
  have HSZ1 : Hid (w.heap.size + 1 + 1 + 1 + 1 ≤ w1.heap.size) := by show _ ≤ _; rw [← d4_size]; exact HB1.out.size
  have HBB := Lib.hid (d4_heap HB1.out).2.2.2
  clear hb1
  obtain ⟨⟨c0, c1, c2, c3⟩, ⟨e0, e1, e2⟩, ⟨z0, z1, z2, z3⟩, ⟨y0, y1, y2⟩, ⟨f0, f1, f2, f3⟩, ⟨q0, q1, q2⟩⟩ := d4_cells HB1.out
  go_wp2_with fail
  go_region_held3 (fun w' => w'.cell? ⟨w.heap.size, 0, none⟩ = some (.slice A N c) ∧ w'.cell? ⟨w.heap.size, 1, none⟩ = some (.bool rop) ∧ w'.cell? ⟨w.heap.size, 2, none⟩ = some (.string rn) ∧ w'.cell? ⟨w.heap.size, 3, none⟩ = some (.string rb)) (first | go_keep | (refine ⟨?_, ?_, ?_, ?_⟩ <;> (repeat rw [cell_set_oth _ _ _ _ _ _ (by omega)]) <;> assumption)) (first | (go_at_call 29; refine Calls.mono (hNm.out _ ⟨HBB.out.os, HBB.out.tape, HBB.out.output, HBB.out.size, HBB.out.block⟩) ?_; rintro e w2 ⟨v2, rfl, hrow2, hb2⟩; obtain ⟨A2, cc2, rfl⟩ := own_slice hrow2; have HR2 := Lib.hid hrow2; have HB2 : Hid (Below (w.heap.size + 1 + 1 + 1 + 1) (d4 w #[.slice A N c, .bool rop, .string rn, .string rb] #[.int .i64 7, .string nm, .string da]) w2) := HB1.out.trans ⟨hb2.os, hb2.tape, hb2.output, hb2.size, fun k hk => hb2.block k (Nat.lt_of_lt_of_le hk HSZ1.out)⟩; clear hrow2 hb2; obtain ⟨⟨c0, c1, c2, c3⟩, ⟨e0, e1, e2⟩, ⟨z0, z1, z2, z3⟩, ⟨y0, y1, y2⟩, ⟨f0, f1, f2, f3⟩, ⟨q0, q1, q2⟩⟩ := d4_cells HB2.out))
  go_wp2
  obtain ⟨m1, m2, m3⟩ := d4_end HB2.out (.slice A N c) (.bool rop) (.string rn) (.string rb) (.int .i64 0) (.string ⟨#[]⟩) (.slice A2 L.length cc2)
  have HM3 := Lib.hid m3
  unfold d4_st at m1 m2 m3
  have hl : (namesL L).length = L.length := by simp [namesL]
  refine bodyPost_ret (results_cells2 rfl _ _ _ _ 27 39 _ _ (0, 0) (0, 0) _ _ rfl rfl m1 m2 Try.underlying27 Try.underlying39 rfl rfl info27 info39) rfl ⟨A, c, .slice A2 L.length cc2, ?_, ?_, ?_, HX.out.2.1, HX.out.2.2, ?_, .inl ⟨rfl, rfl⟩, HM3.out⟩
  · rw [← HN.out]; rfl
  · exact (HL.out.below HM3.out).len
  · show L.length ≤ c
    rw [HN.out]; exact HX.out.1
  · rw [hl]
    have hs1 := HSZ1.out
    exact row_oth HR2.out (fun k hk => d4_oth w w2 _ _ _ _ _ _ _ k (by simp at hk; omega) (by simp at hk; omega)) (by simp; omega)
end Go.Proofs.Ytadagidjppgbkaa
