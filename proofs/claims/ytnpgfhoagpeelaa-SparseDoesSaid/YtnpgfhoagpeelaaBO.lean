/- What the reference's Put and Drop want. -/
import Derived.Test.YtnpgfhoagpeelaaBN
namespace Go.Proofs.Ytnpgfhoagpeelaa
open Go.RowKit
open Go.Maps
theorem fp_parts {f : Fp} (h : f.length = 32) : ∃ x0 x1 x2 x3 x4 x5 x6 x7 x8 x9 x10 x11 x12 x13 x14 x15 x16 x17 x18 x19 x20 x21 x22 x23 x24 x25 x26 x27 x28 x29 x30 x31 : Int, f = [x0, x1, x2, x3, x4, x5, x6, x7, x8, x9, x10, x11, x12, x13, x14, x15, x16, x17, x18, x19, x20, x21, x22, x23, x24, x25, x26, x27, x28, x29, x30, x31] := by
  have h0 : f.length = 31 + 1 := by simpa using h
  obtain ⟨x0, f, rfl⟩ := List.exists_cons_of_length_eq_add_one h0
  replace h : f.length = 31 := by simpa using h
  clear h0
  have h1 : f.length = 30 + 1 := by simpa using h
  obtain ⟨x1, f, rfl⟩ := List.exists_cons_of_length_eq_add_one h1
  replace h : f.length = 30 := by simpa using h
  clear h1
  have h2 : f.length = 29 + 1 := by simpa using h
  obtain ⟨x2, f, rfl⟩ := List.exists_cons_of_length_eq_add_one h2
  replace h : f.length = 29 := by simpa using h
  clear h2
  have h3 : f.length = 28 + 1 := by simpa using h
  obtain ⟨x3, f, rfl⟩ := List.exists_cons_of_length_eq_add_one h3
  replace h : f.length = 28 := by simpa using h
  clear h3
  have h4 : f.length = 27 + 1 := by simpa using h
  obtain ⟨x4, f, rfl⟩ := List.exists_cons_of_length_eq_add_one h4
  replace h : f.length = 27 := by simpa using h
  clear h4
  have h5 : f.length = 26 + 1 := by simpa using h
  obtain ⟨x5, f, rfl⟩ := List.exists_cons_of_length_eq_add_one h5
  replace h : f.length = 26 := by simpa using h
  clear h5
  have h6 : f.length = 25 + 1 := by simpa using h
  obtain ⟨x6, f, rfl⟩ := List.exists_cons_of_length_eq_add_one h6
  replace h : f.length = 25 := by simpa using h
  clear h6
  have h7 : f.length = 24 + 1 := by simpa using h
  obtain ⟨x7, f, rfl⟩ := List.exists_cons_of_length_eq_add_one h7
  replace h : f.length = 24 := by simpa using h
  clear h7
  have h8 : f.length = 23 + 1 := by simpa using h
  obtain ⟨x8, f, rfl⟩ := List.exists_cons_of_length_eq_add_one h8
  replace h : f.length = 23 := by simpa using h
  clear h8
  have h9 : f.length = 22 + 1 := by simpa using h
  obtain ⟨x9, f, rfl⟩ := List.exists_cons_of_length_eq_add_one h9
  replace h : f.length = 22 := by simpa using h
  clear h9
  have h10 : f.length = 21 + 1 := by simpa using h
  obtain ⟨x10, f, rfl⟩ := List.exists_cons_of_length_eq_add_one h10
  replace h : f.length = 21 := by simpa using h
  clear h10
  have h11 : f.length = 20 + 1 := by simpa using h
  obtain ⟨x11, f, rfl⟩ := List.exists_cons_of_length_eq_add_one h11
  replace h : f.length = 20 := by simpa using h
  clear h11
  have h12 : f.length = 19 + 1 := by simpa using h
  obtain ⟨x12, f, rfl⟩ := List.exists_cons_of_length_eq_add_one h12
  replace h : f.length = 19 := by simpa using h
  clear h12
  have h13 : f.length = 18 + 1 := by simpa using h
  obtain ⟨x13, f, rfl⟩ := List.exists_cons_of_length_eq_add_one h13
  replace h : f.length = 18 := by simpa using h
  clear h13
  have h14 : f.length = 17 + 1 := by simpa using h
  obtain ⟨x14, f, rfl⟩ := List.exists_cons_of_length_eq_add_one h14
  replace h : f.length = 17 := by simpa using h
  clear h14
  have h15 : f.length = 16 + 1 := by simpa using h
  obtain ⟨x15, f, rfl⟩ := List.exists_cons_of_length_eq_add_one h15
  replace h : f.length = 16 := by simpa using h
  clear h15
  have h16 : f.length = 15 + 1 := by simpa using h
  obtain ⟨x16, f, rfl⟩ := List.exists_cons_of_length_eq_add_one h16
  replace h : f.length = 15 := by simpa using h
  clear h16
  have h17 : f.length = 14 + 1 := by simpa using h
  obtain ⟨x17, f, rfl⟩ := List.exists_cons_of_length_eq_add_one h17
  replace h : f.length = 14 := by simpa using h
  clear h17
  have h18 : f.length = 13 + 1 := by simpa using h
  obtain ⟨x18, f, rfl⟩ := List.exists_cons_of_length_eq_add_one h18
  replace h : f.length = 13 := by simpa using h
  clear h18
  have h19 : f.length = 12 + 1 := by simpa using h
  obtain ⟨x19, f, rfl⟩ := List.exists_cons_of_length_eq_add_one h19
  replace h : f.length = 12 := by simpa using h
  clear h19
  have h20 : f.length = 11 + 1 := by simpa using h
  obtain ⟨x20, f, rfl⟩ := List.exists_cons_of_length_eq_add_one h20
  replace h : f.length = 11 := by simpa using h
  clear h20
  have h21 : f.length = 10 + 1 := by simpa using h
  obtain ⟨x21, f, rfl⟩ := List.exists_cons_of_length_eq_add_one h21
  replace h : f.length = 10 := by simpa using h
  clear h21
  have h22 : f.length = 9 + 1 := by simpa using h
  obtain ⟨x22, f, rfl⟩ := List.exists_cons_of_length_eq_add_one h22
  replace h : f.length = 9 := by simpa using h
  clear h22
  have h23 : f.length = 8 + 1 := by simpa using h
  obtain ⟨x23, f, rfl⟩ := List.exists_cons_of_length_eq_add_one h23
  replace h : f.length = 8 := by simpa using h
  clear h23
  have h24 : f.length = 7 + 1 := by simpa using h
  obtain ⟨x24, f, rfl⟩ := List.exists_cons_of_length_eq_add_one h24
  replace h : f.length = 7 := by simpa using h
  clear h24
  have h25 : f.length = 6 + 1 := by simpa using h
  obtain ⟨x25, f, rfl⟩ := List.exists_cons_of_length_eq_add_one h25
  replace h : f.length = 6 := by simpa using h
  clear h25
  have h26 : f.length = 5 + 1 := by simpa using h
  obtain ⟨x26, f, rfl⟩ := List.exists_cons_of_length_eq_add_one h26
  replace h : f.length = 5 := by simpa using h
  clear h26
  have h27 : f.length = 4 + 1 := by simpa using h
  obtain ⟨x27, f, rfl⟩ := List.exists_cons_of_length_eq_add_one h27
  replace h : f.length = 4 := by simpa using h
  clear h27
  have h28 : f.length = 3 + 1 := by simpa using h
  obtain ⟨x28, f, rfl⟩ := List.exists_cons_of_length_eq_add_one h28
  replace h : f.length = 3 := by simpa using h
  clear h28
  have h29 : f.length = 2 + 1 := by simpa using h
  obtain ⟨x29, f, rfl⟩ := List.exists_cons_of_length_eq_add_one h29
  replace h : f.length = 2 := by simpa using h
  clear h29
  have h30 : f.length = 1 + 1 := by simpa using h
  obtain ⟨x30, f, rfl⟩ := List.exists_cons_of_length_eq_add_one h30
  replace h : f.length = 1 := by simpa using h
  clear h30
  have h31 : f.length = 0 + 1 := by simpa using h
  obtain ⟨x31, f, rfl⟩ := List.exists_cons_of_length_eq_add_one h31
  replace h : f.length = 0 := by simpa using h
  clear h31
  obtain rfl : f = [] := List.length_eq_zero_iff.1 (by simpa using h)
  exact ⟨_, _, _, _, _, _, _, _, _, _, _, _, _, _, _, _, _, _, _, _, _, _, _, _, _, _, _, _, _, _, _, _, rfl⟩
theorem built74 {r : Rr} (h : IsFp r.f) : Try.prog.built 74 [(0, .agg (fpL r.f).toArray), (1, .slice r.A r.l.length r.c)] = some (rrL r).toArray := by
  obtain ⟨f, A, c, l⟩ := r
  obtain ⟨x0, x1, x2, x3, x4, x5, x6, x7, x8, x9, x10, x11, x12, x13, x14, x15, x16, x17, x18, x19, x20, x21, x22, x23, x24, x25, x26, x27, x28, x29, x30, x31, rfl⟩ := fp_parts h.1
  kernel_rfl
section
variable {P : Program}
theorem run_build_of {op : Oper} {a : Go.Act} {w : World} (t : TypeId) (parts : Array (Nat × Operand)) (ho : op.op = .build t parts) (vs : List (Nat × Value)) (cells : Array Value) (hv : parts.toList.map (fun (i, x) => (i, a.eval x)) = vs) (hb : P.built t vs = some cells) : (execOp a.eval op).run P w = .ok (.value (.agg cells)) w := by
  unfold execOp
  simp only [ho, Sem.run_bind, run_build w t _ cells (by rw [Array.toList_map]; exact hv ▸ hb), Sem.run_pure, Result.andThen_ok]
theorem yieldsIf_build {ops : Array Oper} {S : World → Prop} {op : Oper} {a : Go.Act} (hw : Region.wanted op (yielded ops a.tmps) = true) (t : TypeId) (parts : Array (Nat × Operand)) (ho : op.op = .build t parts) (vs : List (Nat × Value)) (cells : Array Value) (hv : parts.toList.map (fun (i, x) => (i, a.eval x)) = vs) (hb : P.built t vs = some cells) : YieldsIf P ops S op (.agg cells) a :=
  .inl ⟨hw, fun _ _ => run_build_of t parts ho vs cells hv hb⟩
theorem wpList_build_of {ops : Array Oper} {rest : List Oper} {op : Oper} {a : Go.Act} {w : World} {Q : Exit → Go.Act → World → Prop} (hgd : op.guard = none) (t : TypeId) (parts : Array (Nat × Operand)) (ho : op.op = .build t parts) (vs : List (Nat × Value)) (cells : Array Value) (hv : parts.toList.map (fun (i, x) => (i, a.eval x)) = vs) (hb : P.built t vs = some cells)
    (h : wpList P ops Q rest (a.put op.dst (.agg cells)) w) : wpList P ops Q (op :: rest) a w :=
  wpList_plain hgd fun _ hK => by
    have hr : (execOp a.eval op).run P w = .ok (.value (.agg cells)) w := run_build_of t parts ho vs cells hv hb
    unfold Oper.wp
    rw [hr]
    exact hK _ _ h
end
/-- what is so of the rows, at every act -/
structure Rg (ph mo : Nat) (R : List Rw) : Prop where
  nd : NdA R
  ne : ∀ r ∈ R, r.2 ≠ []
  len : ∀ r ∈ R, r.2.length ≤ ph
  fp : ∀ r ∈ R, IsFp r.1
  tot : lnA R ≤ mo
  phm : ph ≤ 64
  mom : mo ≤ 65536
theorem rows_ln : ∀ {R : List Rw}, (∀ r ∈ R, r.2 ≠ []) → R.length ≤ lnA R
  | [], _ => Nat.le_refl _
  | r :: R, h => by
    have ih := rows_ln (R := R) (fun x hx => h x (List.mem_cons_of_mem _ hx))
    have := List.length_pos_iff.2 (h r (List.mem_cons_self ..))
    simp only [lnA, List.map_cons, List.sum_cons, List.length_cons] at *
    omega
theorem evA_le (mo : Nat) : ∀ R : List Rw, lnA (evA mo R) ≤ mo
  | [] => Nat.zero_le _
  | r :: R => by
    unfold evA
    split
    · exact evA_le mo R
    · omega
theorem evA_mem {mo : Nat} {R : List Rw} {x : Rw} (h : x ∈ evA mo R) : x ∈ R := by
  obtain ⟨D, e⟩ := evA_suffix mo R
  rw [e]
  exact List.mem_append_right _ h
theorem newL_le (ph : Nat) (old : List Id) (man : Id) : (newL ph old man).length ≤ ph := by unfold newL; rw [List.length_take]; omega
theorem newL_ne {ph : Nat} (hph : 1 ≤ ph) (old : List Id) (man : Id) : newL ph old man ≠ [] := by
  obtain ⟨l, h⟩ := new_head hph (man := man) old
  rw [h]
  simp
theorem Rg.put1 {ph mo : Nat} {R : List Rw} {man : Id} {f : Fp} (h : Rg ph mo R) (hph : 1 ≤ ph) (hf : IsFp f) : Rg ph mo (put1A ph mo man R f) := by
  have key : ∀ x ∈ put1A ph mo man R f, x ∈ R ∨ x = (f, newL ph (cutL (peekA R f) man) man) := fun x hx => by
    rcases List.mem_append.1 (evA_mem hx) with hx | hx
    · exact .inl (List.mem_filter.1 hx).1
    · rw [List.mem_singleton] at hx; exact .inr hx
  refine ⟨put_nd h.nd f, fun x hx => ?_, fun x hx => ?_, fun x hx => ?_, evA_le _ _, h.phm, h.mom⟩
  · rcases key x hx with q | rfl
    · exact h.ne x q
    · exact newL_ne hph _ _
  · rcases key x hx with q | rfl
    · exact h.len x q
    · exact newL_le _ _ _
  · rcases key x hx with q | rfl
    · exact h.fp x q
    · exact hf
theorem Xs.rg {T : Nat → Prop} {W0 W : World} {base xb ph mo N : Nat} {E : List En} (h : Xs T W0 W base xb ph mo N E) : Rg ph mo (abE E) := by
  obtain ⟨mb, now, n, fm, h1, h2, h3, h4, h5⟩ := h
  refine ⟨nd_ab h3.hk, fun x hx => ?_, fun x hx => ?_, fun x hx => ?_, by rw [ln_ab]; exact h3.tot, h3.phm, h3.mom⟩ <;> obtain ⟨y, hy, rfl⟩ := List.mem_map.1 hx
  · exact (h3.full y hy).1
  · exact h3.len y hy
  · exact h3.hk.2 y hy
theorem Rg.rows {ph mo : Nat} {rs : List Rr} (h : Rg ph mo (abR rs)) : rs.length ≤ 65536 := by
  have h1 := rows_ln h.ne
  have h2 := h.tot
  have h3 := h.mom
  unfold abR at h1
  rw [List.length_map] at h1
  unfold abR at h2
  omega
theorem Rg.ner {ph mo : Nat} {rs : List Rr} (h : Rg ph mo (abR rs)) : ∀ r ∈ rs, r.l ≠ [] := fun r hr => h.ne (r.f, r.l) (List.mem_map.2 ⟨r, hr, rfl⟩)
theorem fs_not_wb {T : Nat → Prop} {W : World} {wb ph mo c b o : Nat} {A : Option Addr} {rs : List Rr} {fs : List Fp} (h : Ref T W wb ph mo A c rs) (hf : AllFp fs) (hl : fs ≠ []) (hr : W.rangeAt b o (fsL fs)) : b ≠ wb := by
  rintro rfl
  obtain ⟨f, L, rfl⟩ := List.exists_cons_of_ne_nil hl
  obtain ⟨x, g, rfl⟩ := List.exists_cons_of_ne_nil (l := f) (fun q => by have := (hf f (List.mem_cons_self ..)).1; rw [q] at this; cases this)
  have h1 := hr 0 (.int .u8 x) rfl
  rw [cell_of_row W b _ _ 32 (0, 0) h.hd] at h1
  match o, h1 with
  | 0, h1 => cases h1
  | 1, h1 => cases h1
  | 2, h1 => cases h1
  | n + 3, h1 => simp at h1
theorem Fps.grown_wb {T : Nat → Prop} {W W' : World} {wb ph mo c : Nat} {A B : Option Addr} {rs : List Rr} {fs : List Fp} (h : Ref T W wb ph mo A c rs) (hf : AllFp fs) (hl : Fps W B fs) (hg : W.grownBy W' (some wb)) : Fps W' B fs := fun hne => by
  obtain ⟨b, o, e, h1, h3⟩ := hl hne
  exact ⟨b, o, e, Nat.lt_of_lt_of_le h1 hg.size, range_grown h3 hg (fun q => fs_not_wb h hf (fun q2 => hne (by rw [q2]; rfl)) h3 (by injection q with q; exact q.symm))⟩
theorem own_lit (W : World) (x : Id) : OwnI (W.alloc (.cells #[.int .u32 x] 33)) W.heap.size (.slice (some ⟨W.heap.size, 0, none⟩) 1 1) [x] :=
  own_of_block (cur := #[.int .u32 x]) (Nat.le_refl _) (heap_alloc_new _ _) rfl (Nat.le_refl _) (by unfold maxLen; omega) rfl (fun j hj => by
    obtain rfl : j = 0 := by simpa using hj
    rfl)
theorem new_zero {ph : Nat} (hph : 1 ≤ ph) (man : Id) : newL ph [] man = [man] := by
  obtain ⟨k, rfl⟩ : ∃ k, ph = k + 1 := ⟨ph - 1, by omega⟩
  simp [newL]
theorem cut_same {old : List Id} {j : Nat} {x man : Id} (h : old[j]? = some x) (hx : x = man) : cutL (old.take (j + 1)) man = cutL (old.take j) man := by
  unfold cutL
  rw [List.take_add_one, h, List.filter_append]
  simp [hx]
theorem cut_more {old : List Id} {j : Nat} {x man : Id} (h : old[j]? = some x) (hx : x ≠ man) : cutL (old.take (j + 1)) man = cutL (old.take j) man ++ [x] := by
  unfold cutL
  rw [List.take_add_one, h, List.filter_append]
  simp [hx]
theorem new_room {ph : Nat} {l : List Id} {man x : Id} (h : (newL ph l man).length < ph) : newL ph (l ++ [x]) man = newL ph l man ++ [x] := by
  unfold newL at *
  rw [List.length_take] at h
  rw [← List.cons_append, List.take_append, List.take_of_length_le (l := man :: l) (by omega), List.take_of_length_le (l := [x]) (by simp; simp at h; omega)]
theorem new_full {ph : Nat} {l : List Id} {man x : Id} (h : ¬ (newL ph l man).length < ph) : newL ph (l ++ [x]) man = newL ph l man := by
  unfold newL at *
  rw [List.length_take] at h
  rw [← List.cons_append, List.take_append_of_le_length (by omega)]
theorem own_ids {T : Nat → Prop} {W W3 : World} {A : Option Addr} {n c : Nat} {l : List Id} (h : OwnI W3 W.heap.size (.slice A n c) l) (hT : ∀ b, T b → b < W.heap.size) : IdsT T W3 A l := fun hl => by
  have hne : idL l ≠ [] := fun q => hl (by cases l with | nil => rfl | cons a l => cases q)
  obtain ⟨e, he⟩ : ∃ e, e = l.length := ⟨_, rfl⟩
  have h2 := h
  unfold OwnI at h2
  obtain ⟨b, o, rfl, hb, hr⟩ := row_own (n := n) (by
    have : n = l.length := by
      rcases h2.2 with ⟨q, r⟩ | ⟨g, cap, cur, q, _⟩
      · injection q with _ q _; rw [q, r]
      · injection q with _ q _
    subst this
    exact h2) hne
  have := h2.lt b rfl
  exact ⟨b, o, rfl, hb, fun q => by have := hT b q; omega, hr⟩
end Go.Proofs.Ytnpgfhoagpeelaa
