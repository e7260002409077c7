/- An index in memory: its block, its map, its rows. -/
import Derived.Test.YtnpgfhoagpeelaaB1
import Derived.Laws.Rows
import Derived.OneCell
import Derived.Maps.Range
namespace Go.Proofs.Ytnpgfhoagpeelaa
open Go.RowKit
open Go.Maps
/-- a hook's row: its block, its list, its last use -/
structure En where
  h : Fp
  p : Nat
  A : Option Addr
  c : Nat
  l : List Id
  u : Nat
def En.v (e : En) : Value := .slice e.A e.l.length e.c
structure EnAt (W : World) (base : Nat) (e : En) : Prop where
  cells : W.heap[e.p]? = some (.cells #[e.v, .int .u64 (e.u : Nat)] 67 (0, 0))
  own : W.ownsRow base 33 1 e.v e.l.length (idL e.l)
  lt : base ≤ e.p
theorem own_typed {W : World} {base t s n : Nat} {v : Value} {xs : List Value} (h : W.ownsRow base t s v n xs) {b : Nat} (hb : v.ownBlock = some b) : ∃ cur, W.heap[b]? = some (.cells cur t (0, 0)) := by
  rcases h.2 with ⟨rfl, _⟩ | ⟨g, cap, cur, rfl, _, hg, _⟩
  · cases hb
  · simp only [Value.ownBlock, Option.some.injEq] at hb
    subst hb
    exact ⟨cur, hg⟩
theorem own_other {W : World} {base t s n : Nat} {v : Value} {xs : List Value} (h : W.ownsRow base t s v n xs) {b : Nat} {o : Obj} (hb : W.heap[b]? = some o) (ho : ∀ cur, o ≠ .cells cur t (0, 0)) : v.ownBlock ≠ some b := fun e => by
  obtain ⟨cur, hc⟩ := own_typed h e
  rw [hb] at hc
  exact ho cur (Option.some.inj hc)
theorem EnAt.kept {W W' : World} {base : Nat} {e : En} {row : Option Nat} (h : EnAt W base e) (hg : W.grownBy W' row) (h1 : row ≠ some e.p) (h2 : e.v.ownBlock = none ∨ e.v.ownBlock ≠ row) : EnAt W' base e :=
  ⟨(hg.block _ (lt_of_block h.cells) (fun q => h1 q.symm)).trans h.cells, h.own.kept hg h2, h.lt⟩
def ptrV : Option Nat → Value
  | none => .pointer none
  | some p => .pointer (some ⟨p, 0, none⟩)
def MapF (W : World) (mb n : Nat) (fm : Fp → Option Nat) : Prop :=
  ∃ D : Tok, W.ownsMap Try.prog 47 RV mb n D ∧ IsMap D ∧ ∀ f, IsFp f → D.atKey (fpKey f) (.held (.pointer none)) = .held (ptrV (fm f)) ∧ Maps.has D (fpKey f) = (fm f).isSome
theorem MapF.block {W : World} {mb n : Nat} {fm : Fp → Option Nat} (h : MapF W mb n fm) : ∃ es clock, W.heap[mb]? = some (.map es clock) := by
  obtain ⟨D, ⟨es, clock, hb, _⟩, _⟩ := h
  exact ⟨es, clock, hb⟩
theorem MapF.kept {W W' : World} {mb n : Nat} {fm : Fp → Option Nat} {row : Option Nat} (h : MapF W mb n fm) (hg : W.grownBy W' row) (hne : some mb ≠ row) : MapF W' mb n fm := by
  obtain ⟨D, h1, h2⟩ := h
  exact ⟨D, h1.kept hg hne, h2⟩
theorem MapF.made (w : World) : MapF (w.alloc (.map #[] 0)) w.heap.size 0 (fun _ => none) := ⟨.map [], World.ownsMap_made w _ _ _, isMap_empty, fun _ _ => ⟨rfl, rfl⟩⟩
def setFm (fm : Fp → Option Nat) (f : Fp) (p : Option Nat) : Fp → Option Nat := fun g => if g = f then p else fm g
theorem mapF_put {W' : World} {mb n : Nat} {fm : Fp → Option Nat} {D : Tok} {f : Fp} {p : Nat} (hf : IsFp f) (h2 : IsMap D) (h3 : ∀ g, IsFp g → D.atKey (fpKey g) (.held (.pointer none)) = .held (ptrV (fm g)) ∧ Maps.has D (fpKey g) = (fm g).isSome)
    (h1 : W'.ownsMap Try.prog 47 RV mb n (D.put (fpKey f) (.held (ptrV (some p))))) : MapF W' mb n (setFm fm f (some p)) := by
  refine ⟨_, h1, h2.put _ _, fun g hg => ?_⟩
  unfold setFm
  by_cases e : g = f
  · subst e
    rw [if_pos rfl, atKey_put_same h2 (keyLit g), has_put_same h2 (keyLit g)]
    exact ⟨rfl, rfl⟩
  · have hne : fpKey g ≠ fpKey f := fun q => e (fpKey_inj hg hf q)
    rw [if_neg e, atKey_put_other hne, has_put_other hne]
    exact h3 g hg
theorem mapF_del {W' : World} {mb n : Nat} {fm : Fp → Option Nat} {D : Tok} {f : Fp} (hf : IsFp f) (h2 : IsMap D) (h3 : ∀ g, IsFp g → D.atKey (fpKey g) (.held (.pointer none)) = .held (ptrV (fm g)) ∧ Maps.has D (fpKey g) = (fm g).isSome)
    (h1 : W'.ownsMap Try.prog 47 RV mb n (D.del (fpKey f))) : MapF W' mb n (setFm fm f none) := by
  refine ⟨_, h1, h2.del _, fun g hg => ?_⟩
  unfold setFm
  by_cases e : g = f
  · subst e
    rw [if_pos rfl, atKey_del_same, has_del_same]
    exact ⟨rfl, rfl⟩
  · have hne : fpKey g ≠ fpKey f := fun q => e (fpKey_inj hg hf q)
    rw [if_neg e, atKey_del_other hne, has_del_other hne]
    exact h3 g hg
set_option maxRecDepth 100000 in
theorem lookup_run {W : World} {mb n : Nat} {fm : Fp → Option Nat} {f : Fp} (hf : IsFp f) (h : MapF W mb n fm) :
    (Instr.lookup 52 (.map (some mb)) (.agg (fpL f).toArray) false).run Try.prog W = .ok (ptrV (fm f)) W := by
  obtain ⟨D, h1, _, h3⟩ := h
  obtain ⟨v, ps, hrun, hv⟩ := h1.lookup keyed47 Try.underlying52 (Try.zeroValue64 W) (zd := .held (.pointer none)) rfl (keyOf47 hf)
  rw [(h3 f hf).1] at hv
  injection hv with hv
  injection hv with hv _
  injection hv with hv
  subst hv
  exact hrun
/-- the index's block, its map's, its rows' -/
def XB (xb mb : Nat) (E : List En) (b : Nat) : Prop := b = xb ∨ b = mb ∨ ∃ e ∈ E, b = e.p ∨ e.v.ownBlock = some b
def Apart (a b : En) : Prop := a.p ≠ b.p ∧ (a.v.ownBlock = none ∨ a.v.ownBlock ≠ b.v.ownBlock)
theorem Apart.symm {a b : En} (h : Apart a b) : Apart b a := ⟨h.1.symm, by
  rcases h.2 with h | h
  · cases hb : b.v.ownBlock with
    | none => exact .inl rfl
    | some x => exact .inr (by rw [h]; simp)
  · exact .inr h.symm⟩
structure Mem (W : World) (base xb mb ph mo : Nat) (pairs : Int) (now n : Nat) (fm : Fp → Option Nat) (E : List En) : Prop where
  hd : W.heap[xb]? = some (.cells #[.int .i64 (ph : Nat), .int .i64 (mo : Nat), .map (some mb), .int .i64 pairs, .int .u64 (now : Nat)] 55 (0, 0))
  bx : base ≤ xb
  bm : base ≤ mb
  mp : MapF W mb n fm
  ens : ∀ e ∈ E, EnAt W base e
  np : E.Pairwise Apart
section
variable {W W' : World} {base xb mb ph mo now n : Nat} {pairs : Int} {fm : Fp → Option Nat} {E : List En}
theorem Mem.lt (h : Mem W base xb mb ph mo pairs now n fm E) {b : Nat} (hb : XB xb mb E b) : b < W.heap.size ∧ base ≤ b := by
  rcases hb with rfl | rfl | ⟨e, he, rfl | hb⟩
  · exact ⟨lt_of_block h.hd, h.bx⟩
  · obtain ⟨es, cl, hm⟩ := h.mp.block
    exact ⟨lt_of_block hm, h.bm⟩
  · exact ⟨lt_of_block (h.ens e he).cells, (h.ens e he).lt⟩
  · have := (h.ens e he).own.lt b hb
    exact ⟨this.2, this.1⟩
theorem Mem.kept {row : Option Nat} (h : Mem W base xb mb ph mo pairs now n fm E) (hg : W.grownBy W' row) (hr : ∀ b, row = some b → ¬ XB xb mb E b) : Mem W' base xb mb ph mo pairs now n fm E where
  hd := (hg.block _ (lt_of_block h.hd) (fun q => hr _ q.symm (.inl rfl))).trans h.hd
  bx := h.bx
  bm := h.bm
  mp := h.mp.kept hg (fun q => hr _ q.symm (.inr (.inl rfl)))
  ens := fun e he => (h.ens e he).kept hg (fun q => hr _ q (.inr (.inr ⟨e, he, .inl rfl⟩))) (by
    cases hq : e.v.ownBlock with
    | none => exact .inl rfl
    | some b => exact .inr (fun q => hr b q.symm (.inr (.inr ⟨e, he, .inr hq⟩))))
  np := h.np
theorem set_grown (W : World) (b i : Nat) (v : Value) : W.grownBy (W.setCell ⟨b, i, none⟩ v) (some b) :=
  ⟨rfl, rfl, rfl, by simp, fun k _ hne => heap_setCell_other W ⟨b, i, none⟩ k v (fun e => hne (by rw [e]))⟩
theorem Mem.ens_x (h : Mem W base xb mb ph mo pairs now n fm E) (hg : W.grownBy W' (some xb)) : (∀ e ∈ E, EnAt W' base e) ∧ MapF W' mb n fm := by
  obtain ⟨es, cl, hm⟩ := h.mp.block
  refine ⟨fun e he => (h.ens e he).kept hg (fun q => ?_) (.inr (fun q => own_other (h.ens e he).own h.hd (fun cur => by intro q2; injection q2 with _ q2 _; cases q2) q)), h.mp.kept hg (fun q => ?_)⟩
  · injection q with q
    have h1 := (h.ens e he).cells
    rw [← q, h.hd] at h1
    injection h1 with h1
    injection h1 with _ h1 _
    cases h1
  · injection q with q
    rw [q, h.hd] at hm
    cases hm
theorem Mem.setX (h : Mem W base xb mb ph mo pairs now n fm E) (i : Nat) (v : Value) {pairs' : Int} {now' : Nat} (ha : (#[.int .i64 (ph : Nat), .int .i64 (mo : Nat), .map (some mb), .int .i64 pairs, .int .u64 (now : Nat)] : Array Value).setIfInBounds i v = #[.int .i64 (ph : Nat), .int .i64 (mo : Nat), .map (some mb), .int .i64 pairs', .int .u64 (now' : Nat)]) :
    Mem (W.setCell ⟨xb, i, none⟩ v) base xb mb ph mo pairs' now' n fm E := by
  obtain ⟨h1, h2⟩ := h.ens_x (set_grown W xb i v)
  exact ⟨by rw [heap_setCell_same W xb i _ 55 v h.hd, ha], h.bx, h.bm, h2, h1, h.np⟩
theorem Mem.pairsSet (h : Mem W base xb mb ph mo pairs now n fm E) (q : Int) : Mem (W.setCell ⟨xb, 3, none⟩ (.int .i64 q)) base xb mb ph mo q now n fm E := h.setX 3 _ rfl
theorem Mem.nowSet (h : Mem W base xb mb ph mo pairs now n fm E) (q : Nat) : Mem (W.setCell ⟨xb, 4, none⟩ (.int .u64 (q : Nat))) base xb mb ph mo pairs q n fm E := h.setX 4 _ rfl
theorem Mem.c (h : Mem W base xb mb ph mo pairs now n fm E) : W.cell? ⟨xb, 0, none⟩ = some (.int .i64 (ph : Nat)) ∧ W.cell? ⟨xb, 1, none⟩ = some (.int .i64 (mo : Nat)) ∧ W.cell? ⟨xb, 2, none⟩ = some (.map (some mb)) ∧ W.cell? ⟨xb, 3, none⟩ = some (.int .i64 pairs) ∧ W.cell? ⟨xb, 4, none⟩ = some (.int .u64 (now : Nat)) :=
  ⟨cell_of_row W xb 0 _ 55 (0, 0) h.hd, cell_of_row W xb 1 _ 55 (0, 0) h.hd, cell_of_row W xb 2 _ 55 (0, 0) h.hd, cell_of_row W xb 3 _ 55 (0, 0) h.hd, cell_of_row W xb 4 _ 55 (0, 0) h.hd⟩
theorem Mem.f (h : Mem W base xb mb ph mo pairs now n fm E) (i : Nat) : W.frozen? ⟨xb, i, none⟩ = false := frozen_of_row W xb i _ 55 h.hd
theorem EnAt.c {e : En} (h : EnAt W base e) : W.cell? ⟨e.p, 0, none⟩ = some (.slice e.A e.l.length e.c) ∧ W.cell? ⟨e.p, 1, none⟩ = some (.int .u64 (e.u : Nat)) := ⟨cell_of_row W e.p 0 _ 67 (0, 0) h.cells, cell_of_row W e.p 1 _ 67 (0, 0) h.cells⟩
theorem EnAt.f {e : En} (h : EnAt W base e) (i : Nat) : W.frozen? ⟨e.p, i, none⟩ = false := frozen_of_row W e.p i _ 67 h.cells
theorem Mem.np_mid {P S : List En} {e : En} (h : Mem W base xb mb ph mo pairs now n fm (P ++ e :: S)) : (∀ x ∈ P ++ S, Apart x e) ∧ (P ++ S).Pairwise Apart := by
  have h1 := h.np
  rw [List.pairwise_append] at h1
  obtain ⟨a, b, c⟩ := h1
  rw [List.pairwise_cons] at b
  refine ⟨fun x hx => ?_, List.pairwise_append.2 ⟨a, b.2, fun x hx y hy => c x hx y (List.mem_cons_of_mem _ hy)⟩⟩
  rcases List.mem_append.1 hx with hx | hx
  · exact c x hx e (List.mem_cons_self ..)
  · exact (b.1 x hx).symm
theorem np_put {P S : List En} {e : En} (h : ∀ x ∈ P ++ S, Apart x e) (h2 : (P ++ S).Pairwise Apart) : (P ++ e :: S).Pairwise Apart := by
  rw [List.pairwise_append] at h2 ⊢
  obtain ⟨a, b, c⟩ := h2
  refine ⟨a, List.pairwise_cons.2 ⟨fun x hx => (h x (by simp [hx])).symm, b⟩, fun x hx y hy => ?_⟩
  rcases List.mem_cons.1 hy with rfl | hy
  · exact h x (by simp [hx])
  · exact c x hx y hy
/-- the row's own block is written, another list laid in it, or in a new block -/
theorem Mem.relist {P S : List En} {e : En} {W1 : World} (h : Mem W base xb mb ph mo pairs now n fm (P ++ e :: S)) {A : Option Addr} {c : Nat} {l : List Id} (hg : W.grownBy W1 e.v.ownBlock)
    (hown : W1.ownsRow base 33 1 (.slice A l.length c) l.length (idL l)) (hat : ∀ b, (Value.slice A l.length c).ownBlock = some b → e.v.ownBlock = some b ∨ W.heap.size ≤ b) :
    Mem (W1.setCell ⟨e.p, 0, none⟩ (.slice A l.length c)) base xb mb ph mo pairs now n fm (P ++ ⟨e.h, e.p, A, c, l, e.u⟩ :: S) := by
  obtain ⟨hap, hpp⟩ := h.np_mid
  have he := h.ens e (by simp)
  have hm : ∀ x ∈ P ++ S, x ∈ P ++ e :: S := fun x hx => by rcases List.mem_append.1 hx with h | h <;> simp [h]
  have hep : e.v.ownBlock ≠ some e.p := own_other he.own he.cells (fun cur => by intro q; injection q with _ q _; cases q)
  have hp1 : W1.heap[e.p]? = some (.cells #[e.v, .int .u64 (e.u : Nat)] 67 (0, 0)) := (hg.block _ (lt_of_block he.cells) (fun q => hep q.symm)).trans he.cells
  have hnew : (Value.slice A l.length c).ownBlock ≠ some e.p := own_other hown hp1 (fun cur => by intro q; injection q with _ q _; cases q)
  have hx : e.v.ownBlock ≠ some xb := own_other he.own h.hd (fun cur => by intro q; injection q with _ q _; cases q)
  obtain ⟨es, cl, hmb⟩ := h.mp.block
  have hmx : e.v.ownBlock ≠ some mb := own_other he.own hmb (fun cur => by intro q; cases q)
  have hxp : e.p ≠ xb := fun q => by
    have h1 := he.cells
    rw [q, h.hd] at h1
    injection h1 with h1
    injection h1 with _ h1 _
    cases h1
  have hmp : e.p ≠ mb := fun q => by
    have h1 := he.cells
    rw [q, hmb] at h1
    cases h1
  have hgs := set_grown W1 e.p 0 (.slice A l.length c)
  have hq1 : W1.heap[xb]? = _ := (hg.block _ (lt_of_block h.hd) (fun q => hx q.symm)).trans h.hd
  refine ⟨?_, h.bx, h.bm, ?_, fun x hx => ?_, np_put (fun x hx => ?_) hpp⟩
  · rw [hgs.block xb (lt_of_block hq1) (fun q => hxp (by injection q with q; exact q.symm))]
    exact hq1
  · exact (h.mp.kept hg (fun q => hmx q.symm)).kept hgs (fun q => hmp (by injection q with q; exact q.symm))
  · rcases (List.mem_append.1 hx) with hx | hx
    · have hx' : x ∈ P ++ S := by simp [hx]
      have := ((h.ens x (hm x hx')).kept hg (fun q => own_other he.own (h.ens x (hm x hx')).cells (fun cur => by intro q; injection q with _ q _; cases q) q) (by
        rcases (hap x hx').2 with q | q
        · exact .inl q
        · exact .inr q))
      exact this.kept hgs (fun q => (hap x hx').1 (by injection q with q; exact q.symm)) (.inr (fun q => own_other this.own hp1 (fun cur => by intro q2; injection q2 with _ q2 _; cases q2) q))
    · rcases List.mem_cons.1 hx with rfl | hx
      · refine ⟨?_, ?_, he.lt⟩
        · show (W1.setCell ⟨e.p, 0, none⟩ _).heap[e.p]? = _
          rw [heap_setCell_same W1 e.p 0 _ 67 _ hp1]
          rfl
        · exact ownsRow_setCell_other hown (by exact hnew) _
      · have hx' : x ∈ P ++ S := by simp [hx]
        have := ((h.ens x (hm x hx')).kept hg (fun q => own_other he.own (h.ens x (hm x hx')).cells (fun cur => by intro q; injection q with _ q _; cases q) q) (by
          rcases (hap x hx').2 with q | q
          · exact .inl q
          · exact .inr q))
        exact this.kept hgs (fun q => (hap x hx').1 (by injection q with q; exact q.symm)) (.inr (fun q => own_other this.own hp1 (fun cur => by intro q2; injection q2 with _ q2 _; cases q2) q))
  · have hx' : x ∈ P ++ e :: S := hm x hx
    refine ⟨(hap x hx).1, ?_⟩
    cases hq : x.v.ownBlock with
    | none => exact .inl rfl
    | some b =>
      refine .inr (fun q => ?_)
      rcases hat b q.symm with h1 | h1
      · rcases (hap x hx).2 with h2 | h2
        · rw [hq] at h2; cases h2
        · exact h2 (by rw [hq, h1])
      · have := ((h.ens x hx').own.lt b hq).2
        omega
theorem Mem.usedSet {P S : List En} {e : En} (h : Mem W base xb mb ph mo pairs now n fm (P ++ e :: S)) (u : Nat) :
    Mem (W.setCell ⟨e.p, 1, none⟩ (.int .u64 (u : Nat))) base xb mb ph mo pairs now n fm (P ++ ⟨e.h, e.p, e.A, e.c, e.l, u⟩ :: S) := by
  obtain ⟨hap, hpp⟩ := h.np_mid
  have he := h.ens e (by simp)
  have hm : ∀ x ∈ P ++ S, x ∈ P ++ e :: S := fun x hx => by rcases List.mem_append.1 hx with h | h <;> simp [h]
  have hep : e.v.ownBlock ≠ some e.p := own_other he.own he.cells (fun cur => by intro q; injection q with _ q _; cases q)
  obtain ⟨es, cl, hmb⟩ := h.mp.block
  have hxp : e.p ≠ xb := fun q => by
    have h1 := he.cells
    rw [q, h.hd] at h1
    injection h1 with h1
    injection h1 with _ h1 _
    cases h1
  have hmp : e.p ≠ mb := fun q => by
    have h1 := he.cells
    rw [q, hmb] at h1
    cases h1
  have hgs := set_grown W e.p 1 (.int .u64 (u : Nat))
  have hrest : ∀ x ∈ P ++ S, EnAt (W.setCell ⟨e.p, 1, none⟩ (.int .u64 (u : Nat))) base x := fun x hx =>
    (h.ens x (hm x hx)).kept hgs (fun q => (hap x hx).1 (by injection q with q; exact q.symm)) (.inr (fun q => own_other (h.ens x (hm x hx)).own he.cells (fun cur => by intro q2; injection q2 with _ q2 _; cases q2) q))
  refine ⟨?_, h.bx, h.bm, h.mp.kept hgs (fun q => hmp (by injection q with q; exact q.symm)), fun x hx => ?_, np_put (fun x hx => hap x hx) hpp⟩
  · rw [hgs.block xb (lt_of_block h.hd) (fun q => hxp (by injection q with q; exact q.symm))]
    exact h.hd
  · rcases (List.mem_append.1 hx) with hx | hx
    · exact hrest x (by simp [hx])
    · rcases List.mem_cons.1 hx with rfl | hx
      · refine ⟨?_, ownsRow_setCell_other he.own hep _, he.lt⟩
        show (W.setCell ⟨e.p, 1, none⟩ _).heap[e.p]? = _
        rw [heap_setCell_same W e.p 1 _ 67 _ he.cells]
        rfl
      · exact hrest x (by simp [hx])
/-- another map in its block -/
theorem Mem.remap (h : Mem W base xb mb ph mo pairs now n fm E) {n' : Nat} {fm' : Fp → Option Nat} (hg : W.grownBy W' (some mb)) (hm : MapF W' mb n' fm') : Mem W' base xb mb ph mo pairs now n' fm' E := by
  obtain ⟨es, cl, hmb⟩ := h.mp.block
  refine ⟨(hg.block _ (lt_of_block h.hd) (fun q => ?_)).trans h.hd, h.bx, h.bm, hm, fun e he => (h.ens e he).kept hg (fun q => ?_) (.inr (fun q => own_other (h.ens e he).own hmb (fun cur => by intro q2; cases q2) q)), h.np⟩
  · injection q with q
    have h1 := h.hd
    rw [q, hmb] at h1
    cases h1
  · injection q with q
    have h1 := (h.ens e he).cells
    rw [← q, hmb] at h1
    cases h1
/-- a new row, of nothing -/
theorem Mem.push (h : Mem W base xb mb ph mo pairs now n fm E) (f : Fp) : Mem (W.alloc (.cells #[.slice none 0 0, .int .u64 0] 67)) base xb mb ph mo pairs now n fm (E ++ [⟨f, W.heap.size, none, 0, [], 0⟩]) := by
  have h1 := h.kept (World.grownBy_alloc W (.cells #[.slice none 0 0, .int .u64 0] 67) none) (fun b q => by cases q)
  refine { h1 with ens := fun e he => ?_, np := ?_ }
  · rcases List.mem_append.1 he with he | he
    · exact h1.ens e he
    · rw [List.mem_singleton] at he
      subst he
      exact ⟨heap_alloc_new _ _, ⟨rfl, .inl ⟨rfl, rfl⟩⟩, Nat.le_of_lt (Nat.lt_of_le_of_lt h.bx (lt_of_block h.hd))⟩
  · rw [List.pairwise_append]
    refine ⟨h.np, by simp, fun x hx y hy => ?_⟩
    rw [List.mem_singleton] at hy
    subst hy
    have hlt := (h.lt (.inr (.inr ⟨x, hx, .inl rfl⟩))).1
    refine ⟨by intro q; simp only at q; omega, ?_⟩
    cases hq : x.v.ownBlock with
    | none => exact .inl rfl
    | some b => exact .inr (by simp [En.v, Value.ownBlock])
theorem Mem.perm {E' : List En} (h : Mem W base xb mb ph mo pairs now n fm E) (hp : E.Perm E') : Mem W base xb mb ph mo pairs now n fm E' :=
  { h with ens := fun e he => h.ens e (hp.mem_iff.2 he), np := (hp.pairwise_iff (fun {_ _} h => h.symm)).1 h.np }
theorem Mem.sub {E' : List En} (h : Mem W base xb mb ph mo pairs now n fm E) (hp : E'.Sublist E) : Mem W base xb mb ph mo pairs now n fm E' :=
  { h with ens := fun e he => h.ens e (hp.subset he), np := h.np.sublist hp }
end
/-- only the blocks T have turned -/
structure Tn (T : Nat → Prop) (W W' : World) : Prop where
  os : W'.os = W.os
  tape : W'.tape = W.tape
  output : W'.output = W.output
  size : W.heap.size ≤ W'.heap.size
  block : ∀ b, b < W.heap.size → ¬ T b → W'.heap[b]? = W.heap[b]?
def Zn (T : Nat → Prop) (W : World) (b : Nat) : Prop := T b ∨ W.heap.size ≤ b
theorem Tn.refl (T : Nat → Prop) (W : World) : Tn T W W := ⟨rfl, rfl, rfl, Nat.le_refl _, fun _ _ _ => rfl⟩
theorem Tn.trans {T : Nat → Prop} {a b c : World} (h : Tn T a b) (k : Tn (Zn T a) b c) : Tn T a c :=
  ⟨k.os.trans h.os, k.tape.trans h.tape, k.output.trans h.output, Nat.le_trans h.size k.size, fun j hj hn => (k.block j (Nat.lt_of_lt_of_le hj h.size) (fun q => q.elim hn (fun q => by omega))).trans (h.block j hj hn)⟩
theorem Tn.grown {T : Nat → Prop} {a b c : World} {row : Option Nat} (h : Tn T a b) (hg : b.grownBy c row) (hr : ∀ x, row = some x → Zn T a x) : Tn T a c :=
  h.trans ⟨hg.os, hg.tape, hg.output, hg.size, fun j hj hn => hg.block j hj (fun q => hn (hr j q.symm))⟩
theorem Tn.below {T : Nat → Prop} {a b : World} (h : Tn T a b) {B : Nat} (hT : ∀ x, T x → B ≤ x) (hB : B ≤ a.heap.size) : Below B a b := ⟨h.os, h.tape, h.output, h.size, fun j hj => h.block j (by omega) (fun q => by have := hT j q; omega)⟩
/-- the index, in a call that began at W0 and may turn T -/
structure At (T : Nat → Prop) (W0 W : World) (base xb mb ph mo : Nat) (pairs : Int) (now n : Nat) (fm : Fp → Option Nat) (E : List En) : Prop where
  mem : Mem W base xb mb ph mo pairs now n fm E
  inz : ∀ b, XB xb mb E b → Zn T W0 b
  tn : Tn T W0 W
section
variable {T : Nat → Prop} {W0 W W' : World} {base xb mb ph mo now n : Nat} {pairs : Int} {fm : Fp → Option Nat} {E : List En}
theorem At.enter (h : At T W0 W base xb mb ph mo pairs now n fm E) : At (Zn T W0) W W base xb mb ph mo pairs now n fm E := ⟨h.mem, fun b hb => .inl (h.inz b hb), Tn.refl _ _⟩
theorem At.leave {mb' ph' mo' now' n' : Nat} {pairs' : Int} {fm' : Fp → Option Nat} {E' : List En} (h : At T W0 W base xb mb ph mo pairs now n fm E) (k : At (Zn T W0) W W' base xb mb' ph' mo' pairs' now' n' fm' E') : At T W0 W' base xb mb' ph' mo' pairs' now' n' fm' E' :=
  ⟨k.mem, fun b hb => (k.inz b hb).elim id (fun q => .inr (Nat.le_trans h.tn.size q)), h.tn.trans k.tn⟩
theorem At.kept (h : At T W0 W base xb mb ph mo pairs now n fm E) (hg : W.grownBy W' none) : At T W0 W' base xb mb ph mo pairs now n fm E :=
  ⟨h.mem.kept hg (fun b q => by cases q), h.inz, h.tn.grown hg (fun b q => by cases q)⟩
theorem At.below (h : At T W0 W base xb mb ph mo pairs now n fm E) (hb : Below W.heap.size W W') : At T W0 W' base xb mb ph mo pairs now n fm E := h.kept (grown_of_below hb)
theorem At.alloc (h : At T W0 W base xb mb ph mo pairs now n fm E) (o : Obj) : At T W0 (W.alloc o) base xb mb ph mo pairs now n fm E := h.kept (World.grownBy_alloc W o none)
theorem At.drew (h : At T W0 W base xb mb ph mo pairs now n fm E) : At T W0 W.drew base xb mb ph mo pairs now n fm E := h.below (below_drew (Below.refl _ _))
theorem At.pairsSet (h : At T W0 W base xb mb ph mo pairs now n fm E) (q : Int) : At T W0 (W.setCell ⟨xb, 3, none⟩ (.int .i64 q)) base xb mb ph mo q now n fm E :=
  ⟨h.mem.pairsSet q, h.inz, h.tn.grown (set_grown W xb 3 _) (fun b e => by injection e with e; subst e; exact h.inz _ (.inl rfl))⟩
theorem At.nowSet (h : At T W0 W base xb mb ph mo pairs now n fm E) (q : Nat) : At T W0 (W.setCell ⟨xb, 4, none⟩ (.int .u64 (q : Nat))) base xb mb ph mo pairs q n fm E :=
  ⟨h.mem.nowSet q, h.inz, h.tn.grown (set_grown W xb 4 _) (fun b e => by injection e with e; subst e; exact h.inz _ (.inl rfl))⟩
theorem xb_mid {P S : List En} {e : En} {A : Option Addr} {c u : Nat} {l : List Id} {b : Nat} (h : XB xb mb (P ++ ⟨e.h, e.p, A, c, l, u⟩ :: S) b) : XB xb mb (P ++ e :: S) b ∨ (Value.slice A l.length c).ownBlock = some b := by
  rcases h with h | h | ⟨x, hx, h⟩
  · exact .inl (.inl h)
  · exact .inl (.inr (.inl h))
  · rcases List.mem_append.1 hx with hx | hx
    · exact .inl (.inr (.inr ⟨x, by simp [hx], h⟩))
    · rcases List.mem_cons.1 hx with rfl | hx
      · rcases h with h | h
        · exact .inl (.inr (.inr ⟨e, by simp, .inl h⟩))
        · exact .inr h
      · exact .inl (.inr (.inr ⟨x, by simp [hx], h⟩))
theorem At.usedSet {P S : List En} {e : En} (h : At T W0 W base xb mb ph mo pairs now n fm (P ++ e :: S)) (u : Nat) : At T W0 (W.setCell ⟨e.p, 1, none⟩ (.int .u64 (u : Nat))) base xb mb ph mo pairs now n fm (P ++ ⟨e.h, e.p, e.A, e.c, e.l, u⟩ :: S) :=
  ⟨h.mem.usedSet u, fun b hb => (xb_mid hb).elim (h.inz b) (fun q => h.inz b (.inr (.inr ⟨e, by simp, .inr q⟩))), h.tn.grown (set_grown W e.p 1 _) (fun b q => by injection q with q; subst q; exact h.inz _ (.inr (.inr ⟨e, by simp, .inl rfl⟩)))⟩
theorem At.relist {P S : List En} {e : En} {W1 : World} (h : At T W0 W base xb mb ph mo pairs now n fm (P ++ e :: S)) {A : Option Addr} {c : Nat} {l : List Id} (hg : W.grownBy W1 e.v.ownBlock)
    (hown : W1.ownsRow base 33 1 (.slice A l.length c) l.length (idL l)) (hat : ∀ b, (Value.slice A l.length c).ownBlock = some b → e.v.ownBlock = some b ∨ W.heap.size ≤ b) :
    At T W0 (W1.setCell ⟨e.p, 0, none⟩ (.slice A l.length c)) base xb mb ph mo pairs now n fm (P ++ ⟨e.h, e.p, A, c, l, e.u⟩ :: S) := by
  have ho : ∀ b, e.v.ownBlock = some b → Zn T W0 b := fun b q => h.inz b (.inr (.inr ⟨e, by simp, .inr q⟩))
  refine ⟨h.mem.relist hg hown hat, fun b hb => (xb_mid hb).elim (h.inz b) (fun q => (hat b q).elim (ho b) (fun q => .inr (Nat.le_trans h.tn.size q))), (h.tn.grown hg ho).grown (set_grown W1 e.p 0 _) (fun b q => by injection q with q; subst q; exact h.inz _ (.inr (.inr ⟨e, by simp, .inl rfl⟩)))⟩
theorem At.remap {n' : Nat} {fm' : Fp → Option Nat} (h : At T W0 W base xb mb ph mo pairs now n fm E) (hg : W.grownBy W' (some mb)) (hm : MapF W' mb n' fm') : At T W0 W' base xb mb ph mo pairs now n' fm' E :=
  ⟨h.mem.remap hg hm, h.inz, h.tn.grown hg (fun b q => by injection q with q; subst q; exact h.inz _ (.inr (.inl rfl)))⟩
theorem At.push (h : At T W0 W base xb mb ph mo pairs now n fm E) (f : Fp) : At T W0 (W.alloc (.cells #[.slice none 0 0, .int .u64 0] 67)) base xb mb ph mo pairs now n fm (E ++ [⟨f, W.heap.size, none, 0, [], 0⟩]) := by
  refine ⟨h.mem.push f, fun b hb => ?_, h.tn.grown (World.grownBy_alloc W _ none) (fun b q => by cases q)⟩
  rcases hb with hb | hb | ⟨x, hx, hb⟩
  · exact h.inz b (.inl hb)
  · exact h.inz b (.inr (.inl hb))
  · rcases List.mem_append.1 hx with hx | hx
    · exact h.inz b (.inr (.inr ⟨x, hx, hb⟩))
    · rw [List.mem_singleton] at hx
      subst hx
      rcases hb with hb | hb
      · rw [hb]; exact .inr h.tn.size
      · cases hb
theorem At.perm {E' : List En} (h : At T W0 W base xb mb ph mo pairs now n fm E) (hp : E.Perm E') : At T W0 W base xb mb ph mo pairs now n fm E' :=
  ⟨h.mem.perm hp, fun b hb => h.inz b (hb.imp id (Or.imp id (fun ⟨x, hx, q⟩ => ⟨x, hp.mem_iff.2 hx, q⟩))), h.tn⟩
theorem At.sub {E' : List En} (h : At T W0 W base xb mb ph mo pairs now n fm E) (hp : E'.Sublist E) : At T W0 W base xb mb ph mo pairs now n fm E' :=
  ⟨h.mem.sub hp, fun b hb => h.inz b (hb.imp id (Or.imp id (fun ⟨x, hx, q⟩ => ⟨x, hp.subset hx, q⟩))), h.tn⟩
end
end Go.Proofs.Ytnpgfhoagpeelaa
