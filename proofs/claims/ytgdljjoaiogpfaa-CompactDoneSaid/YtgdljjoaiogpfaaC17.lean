/- The map from boxes to slices of places; what a group's successor holds. -/
import Derived.Test.YtgdljjoaiogpfaaC16
import Derived.Test.YtgdljjoaiogpfaaR1
import Derived.Maps.OwnIn
import Derived.Maps.OwnSet
namespace Go.Proofs.Ytgdljjoaiogpfaa
open Go.RowKit Go.Maps
abbrev Tok := DataW Value
/-- how a slice reads: as a token -/
def RV (v : Value) : Option (Tok × List MemPlace) := some (.held v, [])
abbrev Slc := Option Addr × Nat × Nat
def slV (t : Slc) : Value := .slice t.1 t.2.1 t.2.2
def nilS : Slc := (none, 0, 0)
theorem keyed33 : Keyed Try.prog 33 := int_keyed Try.underlying33
theorem keyOf33 {a : Int} (h : (Lit.int .u32 a).wf = true) : keyOf Try.prog 33 (.int .u32 a) = some (.int .u32 a) := keyOf_int_mk Try.underlying33 h
theorem Pls.nil (W : World) : Pls W none 0 [] := ⟨rfl, fun h => absurd h (Nat.lt_irrefl 0)⟩
theorem Pls.own2 {W W' : World} {row : Option Nat} {n : Nat} {A : Option Addr} {l : List Plc} (h : Pls W A n l) (hg : W.grownBy W' row) (hr : ∀ r, row = some r → ∃ o : Obj, W.heap[r]? = some o ∧ o.isCells = false) : Pls W' A n l := Rows2.own h hg hr
/-- the map at bm gives for each box the slice fv of it -/
def ByD (W : World) (bm n : Nat) (fv : Int → Slc) : Prop :=
  ∃ D : Tok, W.ownsMap Try.prog 33 RV bm n D ∧ IsMap D ∧ ∀ box, (Lit.int .u32 box).wf = true → D.atKey (.int .u32 box) (.held (slV nilS)) = .held (slV (fv box))
theorem ByD.map {W : World} {bm n : Nat} {fv : Int → Slc} (h : ByD W bm n fv) : ∃ o : Obj, W.heap[bm]? = some o ∧ o.isCells = false := by
  obtain ⟨D, ⟨es, clock, hb, _⟩, _⟩ := h
  exact ⟨_, hb, rfl⟩
theorem ByD.lt {W : World} {bm n : Nat} {fv : Int → Slc} (h : ByD W bm n fv) : bm < W.heap.size := by
  obtain ⟨o, ho, _⟩ := h.map
  exact (Array.getElem?_eq_some_iff.1 ho).1
theorem ByD.kept {W W' : World} {bm n : Nat} {fv : Int → Slc} {row : Option Nat} (h : ByD W bm n fv) (hg : W.grownBy W' row) (hne : some bm ≠ row) : ByD W' bm n fv := by
  obtain ⟨D, h1, h2⟩ := h
  exact ⟨D, h1.kept hg hne, h2⟩
theorem ByD.made (w : World) : ByD (w.alloc (.map #[] 0)) w.heap.size 0 (fun _ => nilS) := ⟨.map [], World.ownsMap_made w _ _ _, isMap_empty, fun _ _ => rfl⟩
def putF (fv : Int → Slc) (x : Int) (t : Slc) : Int → Slc := fun b => if b = x then t else fv b
theorem lit_ne {a b : Int} (h : a ≠ b) : (Lit.int .u32 a) ≠ (Lit.int .u32 b) := fun e => h (by injection e)
theorem byD_put {W' : World} {bm n : Nat} {fv : Int → Slc} {D : Tok} {x : Int} {t : Slc} (hx : (Lit.int .u32 x).wf = true) (h2 : IsMap D) (h3 : ∀ box, (Lit.int .u32 box).wf = true → D.atKey (.int .u32 box) (.held (slV nilS)) = .held (slV (fv box)))
    (h1 : W'.ownsMap Try.prog 33 RV bm n (D.put (.int .u32 x) (.held (slV t)))) : ByD W' bm n (putF fv x t) := by
  refine ⟨_, h1, h2.put _ _, fun box hb => ?_⟩
  unfold putF
  by_cases e : box = x
  · subst e
    rw [atKey_put_same h2 (keyed33.key (keyOf33 hb)), if_pos rfl]
  · rw [atKey_put_other (lit_ne e), h3 box hb, if_neg e]
theorem byD_del {W' : World} {bm n : Nat} {fv : Int → Slc} {D : Tok} {x : Int} (h2 : IsMap D) (h3 : ∀ box, (Lit.int .u32 box).wf = true → D.atKey (.int .u32 box) (.held (slV nilS)) = .held (slV (fv box)))
    (h1 : W'.ownsMap Try.prog 33 RV bm n (D.del (.int .u32 x))) : ByD W' bm n (putF fv x nilS) := by
  refine ⟨_, h1, h2.del _, fun box hb => ?_⟩
  unfold putF
  by_cases e : box = x
  · subst e
    rw [atKey_del_same, if_pos rfl]
  · rw [atKey_del_other (lit_ne e), h3 box hb, if_neg e]
/-- a look-up whose run is known -/
theorem lookup_run {W : World} {bm n : Nat} {D : Tok} {fv : Int → Slc} {x : Int} (hx : (Lit.int .u32 x).wf = true) (h1 : W.ownsMap Try.prog 33 RV bm n D) (h3 : ∀ box, (Lit.int .u32 box).wf = true → D.atKey (.int .u32 box) (.held (slV nilS)) = .held (slV (fv box))) :
    (Instr.lookup 65 (.map (some bm)) (.int .u32 x) false).run Try.prog W = .ok (slV (fv x)) W := by
  obtain ⟨v, ps, hrun, hv⟩ := h1.lookup keyed33 Try.underlying65 (Try.zeroValue23 W) (zd := .held (slV nilS)) rfl (keyOf33 hx)
  rw [h3 x hx] at hv
  injection hv with hv
  injection hv with hv _
  injection hv with hv
  subst hv
  exact hrun
/-- the slots that live of the boxes, box by box (the last box of an ID counts) -/
def byAll (named : List Plc) (hs : List Hd) : Int → List Plc := hs.foldl (fun f x => fun b => if b = x.id then part named x true else f b) (fun _ => [])
theorem byAll_snoc (named : List Plc) (hs : List Hd) (x : Hd) : byAll named (hs ++ [x]) = fun b => if b = x.id then part named x true else byAll named hs b := by simp [byAll, List.foldl_append]
theorem byAll_len (named : List Plc) (hs : List Hd) : (∀ x ∈ hs, x.n ≤ 1000) → ∀ b, (byAll named hs b).length ≤ 1000 := by
  induction hs using snoc_ind with
  | nil => intro _ b; simp [byAll]
  | snoc hs x ih =>
    intro h b
    rw [byAll_snoc]
    dsimp only
    split
    · exact Nat.le_trans (partTo_len named x true x.n) (h x (by simp))
    · exact ih (fun y hy => h y (by simp [hy])) b
/-- what the first k of a group give -/
def succTo (f : Int → List Plc) (gs : List Int) : Nat → List Plc
  | 0 => []
  | k + 1 => succTo f gs k ++ (match gs[k]? with | some g => if g ∈ gs.take k then [] else f g | none => [])
theorem succTo_step {f : Int → List Plc} {gs : List Int} {k : Nat} {g : Int} (h : gs[k]? = some g) : succTo f gs (k + 1) = succTo f gs k ++ (if g ∈ gs.take k then [] else f g) := by simp only [succTo, h]
theorem succTo_len {f : Int → List Plc} {gs : List Int} (hf : ∀ b, (f b).length ≤ 1000) : ∀ k, (succTo f gs k).length ≤ 1000 * k
  | 0 => by simp [succTo]
  | k + 1 => by
    have ih := succTo_len (gs := gs) hf k
    simp only [succTo, List.length_append]
    have : (match gs[k]? with | some g => if g ∈ gs.take k then [] else f g | none => []).length ≤ 1000 := by
      split
      · split
        · simp
        · exact hf _
      · simp
    omega
/-- the slices left in the map when the first k of a group were struck -/
def leftF (fv : Int → Slc) (gs : List Int) (k : Nat) : Int → Slc := fun b => if b ∈ gs.take k then nilS else fv b
theorem leftF_step {fv : Int → Slc} {gs : List Int} {k : Nat} {g : Int} (h : gs[k]? = some g) : putF (leftF fv gs k) g nilS = leftF fv gs (k + 1) := by
  funext b
  unfold putF leftF
  rw [List.take_add_one, h]
  by_cases e : b = g
  · subst e; simp
  · simp [e]
def movesTo (id : Int) : Nat → List Plc → List Value
  | _, [] => []
  | k, p :: r => [.int .u32 p.1, .int .i64 p.2, .int .u32 id, .int .i64 (k : Int)] ++ movesTo id (k + 1) r
def rowM (id : Int) (l : List Plc) : List Value := movesTo id 0 l
theorem movesTo_snoc (id : Int) (p : Plc) : ∀ (l : List Plc) (k : Nat), movesTo id k (l ++ [p]) = movesTo id k l ++ [.int .u32 p.1, .int .i64 p.2, .int .u32 id, .int .i64 ((k + l.length : Nat) : Int)]
  | [], k => by simp [movesTo]
  | x :: r, k => by
    rw [List.cons_append, movesTo, movesTo, movesTo_snoc id p r (k + 1), List.append_assoc, show k + 1 + r.length = k + (x :: r).length from by simp; omega]
theorem rowM_snoc (id : Int) (l : List Plc) (p : Plc) : rowM id (l ++ [p]) = rowM id l ++ [.int .u32 p.1, .int .i64 p.2, .int .u32 id, .int .i64 (l.length : Int)] := by
  unfold rowM
  rw [movesTo_snoc, Nat.zero_add]
theorem movesTo_len (id : Int) : ∀ (l : List Plc) (k : Nat), (movesTo id k l).length = l.length * 4
  | [], _ => rfl
  | x :: r, k => by rw [movesTo, List.length_append, movesTo_len id r (k + 1)]; simp; omega
theorem info41 : (Try.prog.info? 41).map (fun i => (i.zero, i.size, i.bytes)) = some (some (.agg #[.int .u32 0, .int .i64 0, .int .u32 0, .int .i64 0]), 4, 32) := by kernel_rfl
theorem new4 (W : World) (a b c d : Value) (t : TypeId) (g : Nat) (hg : g = W.heap.size) : ∀ j u, [a, b, c, d][j]? = some u → (W.alloc (.cells #[a, b, c, d] t)).cell? ((⟨g, 0, none⟩ : Addr).add j) = some u := by
  subst hg
  intro j u hu
  have hh := heap_alloc_new W (.cells #[a, b, c, d] t)
  rw [add_row]
  rcases j with _ | _ | _ | _ | j
  · simp at hu; subst hu; exact cell_of_row _ _ 0 _ t (0, 0) hh
  · simp at hu; subst hu; exact cell_of_row _ _ 1 _ t (0, 0) hh
  · simp at hu; subst hu; exact cell_of_row _ _ 2 _ t (0, 0) hh
  · simp at hu; subst hu; exact cell_of_row _ _ 3 _ t (0, 0) hh
  · simp at hu
theorem gb_step {W2 V V' : World} {bm : Nat} {row : Option Nat} (h : W2.grownBy V (some bm)) (hg : V.grownBy V' row) (hr : ∀ r, row = some r → W2.heap.size ≤ r) : W2.grownBy V' (some bm) :=
  ⟨hg.os.trans h.os, hg.tape.trans h.tape, hg.output.trans h.output, Nat.le_trans h.size hg.size, fun k hk hne => (hg.block k (Nat.lt_of_lt_of_le hk h.size) (fun e => by have := hr k e.symm; omega)).trans (h.block k hk hne)⟩
/-- what lies in memory between two rounds of Successor's first loop -/
def SInv (w : World) (named : List Plc) (pre : List Hd) (W : World) : Prop :=
  (Boxed W (w.heap.size + 1) 65 (.map (some w.heap.size)) ∧ ∃ fv, ByD W w.heap.size pre.length fv ∧ ∀ b, Pls W (fv b).1 (fv b).2.1 (byAll named pre b)) ∧ Below w.heap.size w W
theorem SInv.own (w : World) (n1 : Nat) (hn : w.heap.size < n1) (named : List Plc) : OwnFrom n1 (SInv w named) := by
  intro pre X Y row hs hg hr
  obtain ⟨⟨h1, fv, h2, h3⟩, h4⟩ := hs
  refine ⟨⟨boxed_own _ 65 (fun _ => .map (some w.heap.size)) () X Y row h1 hg (fun r e => (hr r e).2), fv, h2.kept hg (fun e => ?_), fun b => (h3 b).own2 hg (fun r e => (hr r e).2)⟩, h4.grown hg h4.size (fun r e => by have := (hr r e).1; omega)⟩
  have := (hr w.heap.size e.symm).1
  omega
end Go.Proofs.Ytgdljjoaiogpfaa
