/- What lies in memory while CompactDone makes the successors. -/
import Derived.Test.YtgdljjoaiogpfaaD1
import Derived.Test.YtgdljjoaiogpfaaD3
import Derived.Test.YtgdljjoaiogpfaaL8
namespace Go.Proofs.Ytgdljjoaiogpfaa
open Go.RowKit Go.Maps
def row2 (vs : List (Value × Value)) : List Value := vs.flatMap fun p => [p.1, p.2]
theorem row2_snoc (vs : List (Value × Value)) (p : Value × Value) : row2 (vs ++ [p]) = row2 vs ++ [p.1, p.2] := by simp [row2]
theorem row2_get : ∀ (l : List (Value × Value)) (i : Nat) (p : Value × Value), l[i]? = some p → (row2 l)[i * 2]? = some p.1 ∧ (row2 l)[i * 2 + 1]? = some p.2
  | [], i, p, h => by simp at h
  | x :: r, 0, p, h => by simp at h; subst h; simp [row2]
  | x :: r, i + 1, p, h => by
    have ih := row2_get r i p (by simpa using h)
    have e : row2 (x :: r) = x.1 :: x.2 :: row2 r := by simp [row2]
    rw [e, show (i + 1) * 2 = i * 2 + 1 + 1 from by omega]
    simpa using ih
theorem Rows2.ofOwn {w : World} {B k c e : Nat} {A : Option Addr} {vs : List (Value × Value)} (h : w.ownsRow B e 2 (.slice A k c) k (row2 vs)) (hk : vs.length = k) : Rows2 w A k vs := by
  refine ⟨hk, fun hpos => ?_⟩
  rcases h.2 with ⟨_, h0⟩ | ⟨g, cap, cur, hv, hb, hg, _⟩
  · omega
  · cases hv
    refine ⟨g, 0, rfl, (Array.getElem?_eq_some_iff.1 hg).1, fun i x hi => ?_⟩
    obtain ⟨r1, r2⟩ := row2_get vs i x hi
    have c1 := h.cells (g := g) rfl _ _ r1
    have c2 := h.cells (g := g) rfl _ _ r2
    rw [add_row] at c1 c2
    exact ⟨by rw [Nat.zero_add]; exact c1, by rw [Nat.zero_add]; exact c2⟩
/-- two rows of elements of other types lie apart -/
theorem rows_ne {w : World} {B B' k k' size size' e e' : Nat} {v v' : Value} {xs xs' : List Value} (h : w.ownsRow B e size v k xs) (h' : w.ownsRow B' e' size' v' k' xs') (hne : e ≠ e') : v.ownBlock = none ∨ v.ownBlock ≠ v'.ownBlock := by
  rcases h'.2 with ⟨rfl, _⟩ | ⟨g, cap, cur, rfl, _, hg, _⟩
  · cases v.ownBlock <;> simp [Value.ownBlock]
  · right
    exact row_ne h (fun cs e2 => by rw [hg] at e2; cases e2; exact hne rfl)
theorem aside_row {w : World} {B k size e r : Nat} {v : Value} {xs : List Value} (h : w.ownsRow B e size v k xs) (h1 : e ≠ 30) (h2 : e ≠ 33) (hr : v.ownBlock = some r) : Aside w r := by
  rcases h.2 with ⟨rfl, _⟩ | ⟨g, cap, cur, rfl, _, hg, _⟩
  · cases hr
  · obtain rfl : g = r := by simpa [Value.ownBlock] using hr
    intro cs e2 h3
    rw [hg] at h3
    cases h3
    exact ⟨h1, h2⟩
structure St (w : World) (G : List (List Int)) (L1 : List Hd) (W : World) (gv : Value) (us : List Value) (v1 v2 : Value) (S : List Hd) (P : List Plc) : Prop where
  bel : Below w.heap.size w W
  grp : GR W w.heap.size gv G us
  left : W.ownsRow w.heap.size 45 2 v1 (L1 ++ S).length (row2 ((L1 ++ S).map hdV))
  plc : W.ownsRow w.heap.size 39 2 v2 P.length (rowP P)
  slt : ∀ x ∈ S, W.ownsRow w.heap.size 48 2 (.slice x.A x.n x.c) x.n (row2 (x.sl.map sltV))
section
variable {w : World} {G : List (List Int)} {L1 : List Hd} {W W' : World} {gv : Value} {us : List Value} {v1 v2 : Value} {S : List Hd} {P : List Plc}
theorem none_or (v : Value) : v.ownBlock = none ∨ v.ownBlock ≠ none := by cases v.ownBlock <;> simp
theorem St.kept {row : Option Nat} (h : St w G L1 W gv us v1 v2 S P) (hg : W.grownBy W' row) (hr : ∀ r, row = some r → w.heap.size ≤ r ∧ Aside W r) (h1 : v1.ownBlock = none ∨ v1.ownBlock ≠ row) (h2 : v2.ownBlock = none ∨ v2.ownBlock ≠ row)
    (h3 : ∀ x ∈ S, (Value.slice x.A x.n x.c).ownBlock = none ∨ (Value.slice x.A x.n x.c).ownBlock ≠ row) : St w G L1 W' gv us v1 v2 S P :=
  ⟨h.bel.grown hg h.bel.size (fun r e => (hr r e).1), h.grp.kept hg (fun r e => (hr r e).2), h.left.kept hg h1, h.plc.kept hg h2, fun x hx => (h.slt x hx).kept hg (h3 x hx)⟩
theorem St.still (h : St w G L1 W gv us v1 v2 S P) (hg : W.grownBy W' none) : St w G L1 W' gv us v1 v2 S P :=
  h.kept hg (fun r e => by cases e) (none_or _) (none_or _) (fun x _ => none_or _)
/-- places grow -/
theorem St.plc' {v2' : Value} {p : Plc} (h : St w G L1 W gv us v1 v2 S P) (hg : W.grownBy W' v2.ownBlock) (ho : W'.ownsRow w.heap.size 39 2 v2' (P.length + 1) (rowP P ++ [.int .u32 p.1, .int .i64 p.2])) : St w G L1 W' gv us v1 v2' S (P ++ [p]) :=
  ⟨h.bel.grown hg h.bel.size (fun r e => (h.plc.lt r e).1), h.grp.kept hg (fun r e => aside_row h.plc (by decide) (by decide) e), h.left.kept hg (rows_ne h.left h.plc (by decide)), by rw [rowP_snoc, List.length_append]; exact ho, fun x hx => (h.slt x hx).kept hg (rows_ne (h.slt x hx) h.plc (by decide))⟩
/-- one more head -/
theorem St.left' {v1' : Value} {x : Hd} (h : St w G L1 W gv us v1 v2 S P) (hx : W.ownsRow w.heap.size 48 2 (.slice x.A x.n x.c) x.n (row2 (x.sl.map sltV))) (hg : W.grownBy W' v1.ownBlock)
    (ho : W'.ownsRow w.heap.size 45 2 v1' ((L1 ++ S).length + 1) (row2 ((L1 ++ S).map hdV) ++ [.int .u32 x.id, .slice x.A x.n x.c])) : St w G L1 W' gv us v1' v2 (S ++ [x]) P := by
  refine ⟨h.bel.grown hg h.bel.size (fun r e => (h.left.lt r e).1), h.grp.kept hg (fun r e => aside_row h.left (by decide) (by decide) e), ?_, h.plc.kept hg (rows_ne h.plc h.left (by decide)), fun y hy => ?_⟩
  · rw [← List.append_assoc, List.length_append, List.map_append, List.map_cons, List.map_nil, row2_snoc]
    exact ho
  · rcases List.mem_append.1 hy with h1 | h1
    · exact (h.slt y h1).kept hg (rows_ne (h.slt y h1) h.left (by decide))
    · simp at h1
      subst h1
      exact hx.kept hg (rows_ne hx h.left (by decide))
end
structure Inn (w : World) (G : List (List Int)) (L1 : List Hd) (N bx : Nat) (id : Int) (F : List Plc) (hs : List Hd) (W : World) (gv : Value) (us : List Value) (v1 v2 : Value) (S : List Hd) (P : List Plc) (cur lv mv : Value) (q : Nat) : Prop where
  st : St w G L1 W gv us v1 v2 S P
  big : N ≤ bx
  n0 : w.heap.size ≤ N
  old1 : ∀ r, v1.ownBlock = some r → r < N
  old3 : ∀ x ∈ S, ∀ r, (Value.slice x.A x.n x.c).ownBlock = some r → r < N
  box : W.heap[bx]? = some (.cells #[.int .u32 id, cur] 45 (0, 0))
  cur : W.ownsRow N 48 2 cur q (row2 ((F.take q).map fun p => sltV (slotOf hs p)))
  l : W.ownsRow w.heap.size 39 2 lv F.length (rowP F)
  sep : ∀ r, lv.ownBlock = some r → v2.ownBlock ≠ some r
  m : W.ownsRow w.heap.size 41 4 mv F.length (rowM id F)
section
variable {w : World} {G : List (List Int)} {L1 : List Hd} {N bx : Nat} {id : Int} {F : List Plc} {hs : List Hd} {W W' : World} {gv : Value} {us : List Value} {v1 v2 : Value} {S : List Hd} {P : List Plc} {cur lv mv : Value} {q : Nat}
theorem Inn.still (h : Inn w G L1 N bx id F hs W gv us v1 v2 S P cur lv mv q) (hg : W.grownBy W' none) : Inn w G L1 N bx id F hs W' gv us v1 v2 S P cur lv mv q :=
  ⟨h.st.still hg, h.big, h.n0, h.old1, h.old3, (hg.block bx (Array.getElem?_eq_some_iff.1 h.box).1 (by simp)).trans h.box, h.cur.kept hg (none_or _), h.l.kept hg (none_or _), h.sep, h.m.kept hg (none_or _)⟩
theorem new_or {v : Value} {r : Nat} (h : v.ownBlock ≠ some r) : v.ownBlock = none ∨ v.ownBlock ≠ some r := .inr h
/-- one slot more -/
theorem Inn.slot {cur' : Value} {p : Plc} (h : Inn w G L1 N bx id F hs W gv us v1 v2 S P cur lv mv q) (hp : F[q]? = some p) (hg : W.grownBy W' cur.ownBlock)
    (ho : W'.ownsRow N 48 2 cur' (q + 1) (row2 ((F.take q).map fun p => sltV (slotOf hs p)) ++ [.int .i64 (slotOf hs p).1, .int .u32 (slotOf hs p).2])) :
    Inn w G L1 N bx id F hs (W'.setCell ⟨bx, 1, none⟩ cur') gv us v1 v2 S P cur' lv mv (q + 1) := by
  have hcb : ∀ r, cur.ownBlock = some r → N ≤ r := fun r e => (h.cur.lt r e).1
  have k1 : v1.ownBlock = none ∨ v1.ownBlock ≠ cur.ownBlock := by
    rcases hv : v1.ownBlock with _ | r
    · exact .inl rfl
    · exact .inr fun e => by have := h.old1 r hv; have := hcb r e.symm; omega
  have k3 : ∀ x ∈ S, (Value.slice x.A x.n x.c).ownBlock = none ∨ (Value.slice x.A x.n x.c).ownBlock ≠ cur.ownBlock := fun x hx => by
    rcases hv : (Value.slice x.A x.n x.c).ownBlock with _ | r
    · exact .inl rfl
    · exact .inr fun e => by have := h.old3 x hx r hv; have := hcb r e.symm; omega
  have s1 := h.st.kept hg (fun r e => ⟨Nat.le_trans h.n0 (hcb r e), aside_row h.cur (by decide) (by decide) e⟩) k1 (rows_ne h.st.plc h.cur (by decide)) k3
  have hbx1 : W'.heap[bx]? = some (.cells #[.int .u32 id, cur] 45 (0, 0)) := (hg.block bx (Array.getElem?_eq_some_iff.1 h.box).1 (fun e => (row_ne h.cur (fun cs e2 => by rw [h.box] at e2; cases e2)) e.symm)).trans h.box
  have l1 := h.l.kept hg (rows_ne h.l h.cur (by decide))
  have m1 := h.m.kept hg (rows_ne h.m h.cur (by decide))
  have hs2 := grown_set W' bx 1 cur'
  have nb : ∀ {e k size B : Nat} {v : Value} {xs : List Value}, W'.ownsRow B e size v k xs → e ≠ 45 → v.ownBlock = none ∨ v.ownBlock ≠ some bx := fun {e k size B v xs} hx he => .inr (row_ne hx (fun cs e2 => by rw [hbx1] at e2; cases e2; exact he rfl))
  refine ⟨s1.kept hs2 (fun r e => ?_) ?_ (nb s1.plc (by decide)) (fun x hx => nb (s1.slt x hx) (by decide)), h.big, h.n0, h.old1, h.old3, set_cells hbx1 1 cur', ?_, l1.kept hs2 (nb l1 (by decide)), h.sep, m1.kept hs2 (nb m1 (by decide))⟩
  · cases e
    refine ⟨Nat.le_trans h.n0 h.big, fun cs e2 h3 => ?_⟩
    rw [hbx1] at h3
    cases h3
    exact ⟨by decide, by decide⟩
  · rcases hv : v1.ownBlock with _ | r
    · exact .inl rfl
    · right
      intro e
      cases e
      have := h.old1 bx hv
      have := h.big
      omega
  · rw [List.take_add_one, hp]
    simp only [Option.toList_some, List.map_append, List.map_cons, List.map_nil]
    rw [row2_snoc]
    exact ho.kept hs2 (nb ho (by decide))
/-- one place more -/
theorem Inn.place {v2' : Value} {p : Plc} (h : Inn w G L1 N bx id F hs W gv us v1 v2 S P cur lv mv q) (hg : W.grownBy W' v2.ownBlock) (ho : W'.ownsRow w.heap.size 39 2 v2' (P.length + 1) (rowP P ++ [.int .u32 p.1, .int .i64 p.2]))
    (hat : v2'.ownBlock = v2.ownBlock ∨ v2'.ownBlock = some W.heap.size) : Inn w G L1 N bx id F hs W' gv us v1 v2' S (P ++ [p]) cur lv mv q := by
  refine ⟨h.st.plc' hg ho, h.big, h.n0, h.old1, h.old3, (hg.block bx (Array.getElem?_eq_some_iff.1 h.box).1 (fun e => (row_ne h.st.plc (fun cs e2 => by rw [h.box] at e2; cases e2)) e.symm)).trans h.box, h.cur.kept hg (rows_ne h.cur h.st.plc (by decide)), h.l.kept hg ?_, fun r e e2 => ?_, h.m.kept hg (rows_ne h.m h.st.plc (by decide))⟩
  · rcases hv : lv.ownBlock with _ | r
    · exact .inl rfl
    · exact .inr fun e => h.sep r hv e.symm
  · rcases hat with e3 | e3
    · exact h.sep r e (e3 ▸ e2)
    · rw [e3] at e2
      have := (h.l.lt r e).2
      cases e2
      omega
end
theorem info45 : (Try.prog.info? 45).map (fun i => (i.zero, i.size, i.bytes)) = some (some (.agg #[.int .u32 0, .slice none 0 0]), 2, 32) := by kernel_rfl
theorem info48 : (Try.prog.info? 48).map (fun i => (i.zero, i.size, i.bytes)) = some (some (.agg #[.int .i64 0, .int .u32 0]), 2, 16) := by kernel_rfl
end Go.Proofs.Ytgdljjoaiogpfaa
