/- What is asked of each hook of a set. -/
import Derived.Test.YtijdkgklajdbnaaAN
import Derived.Shelf.Abstract
namespace Go.Proofs.Ytijdkgklajdbnaa
open Go.RowKit
section
variable {P : Program}
/-- a whole array goes into the block that was made last -/
theorem wpList_store_new {ops : Array Oper} {rest : List Oper} {op : Oper} {a : Act} {w : World} {Q : Exit → Act → World → Prop} (hgd : op.guard = none) (ty : TypeId) (x y : Operand) (ho : op.op = .store ty x y)
    (c c' : Array Value) (hx : a.eval x = .pointer (some ⟨w.heap.size, 0, none⟩)) (hy : a.eval y = .agg c') (hi : (P.info? ty).map (·.size) = some c'.size) (hs : c.size = c'.size) (h1 : c'.all (·.oneCell') = true)
    (h : wpList P ops Q rest (a.put op.dst undef) (w.alloc (.cells c' ty))) : wpList P ops Q (op :: rest) a (w.alloc (.cells c ty)) :=
  wpList_plain hgd fun _ hK => by
    have hr := run_storeAt_new (P := P) w ty c c' hi hs h1
    unfold Oper.wp execOp
    simp only [ho, hx, hy, hr, Sem.run_bind, Sem.run_pure, Result.andThen_ok]
    exact hK _ _ h
/-- the array is read out of the block that was made last -/
theorem wpList_load_new {ops : Array Oper} {rest : List Oper} {op : Oper} {a : Act} {w : World} {Q : Exit → Act → World → Prop} (hgd : op.guard = none) (ty : TypeId) (x : Operand) (ho : op.op = .load ty x)
    (c : Array Value) (n : Nat) (e : TypeId) (hx : a.eval x = .pointer (some ⟨w.heap.size, 0, none⟩)) (hu : P.underlying ty = some (.array n e)) (hi : (P.info? ty).map (·.size) = some c.size)
    (h : wpList P ops Q rest (a.put op.dst (.agg c)) (w.alloc (.cells c ty))) : wpList P ops Q (op :: rest) a (w.alloc (.cells c ty)) :=
  wpList_plain hgd fun _ hK => by
    have hr := run_loadAt_new (P := P) w ty c n e hu hi
    unfold Oper.wp execOp
    simp only [ho, hx, hr, Sem.run_bind, Sem.run_pure, Result.andThen_ok]
    exact hK _ _ h
end
theorem func_neq_nil (f : Fn) (a b : Array Value) (W : World) : (binOp .neq 32 (.func f a b) .nilFunc).run Try.prog W = .ok (.bool true) W := by
  have h : ∀ d : Nat, (Op.equalIn (d + 1) 32 (.func f a b) .nilFunc).run Try.prog W = .ok false W := fun d => by
    simp [Op.equalIn, run_underlying Try.underlying32]
  simp only [binOp]
  simp [Op.equal, Op.maxDepth, h 9999]
/-- how a world may be changed by one who may touch the blocks T -/
structure Chg (T : World → Nat → Prop) (W W' : World) : Prop where
  os : W'.os = W.os
  tape : W'.tape = W.tape
  output : W'.output = W.output
  size : W.heap.size ≤ W'.heap.size
  block : ∀ b, b < W.heap.size → ¬ T W b → W'.heap[b]? = W.heap[b]?
  touch : ∀ b, T W' b → T W b ∨ W.heap.size ≤ b
theorem Chg.refl (T : World → Nat → Prop) (W : World) : Chg T W W := ⟨rfl, rfl, rfl, Nat.le_refl _, fun _ _ _ => rfl, fun _ h => .inl h⟩
theorem Chg.trans {T : World → Nat → Prop} {a b c : World} (h : Chg T a b) (k : Chg T b c) : Chg T a c :=
  ⟨k.os.trans h.os, k.tape.trans h.tape, k.output.trans h.output, Nat.le_trans h.size k.size, fun j hj hn => (k.block j (Nat.lt_of_lt_of_le hj h.size) (fun ht => (h.touch j ht).elim hn (fun hl => by omega))).trans (h.block j hj hn), fun j hj => (k.touch j hj).elim (h.touch j) (fun hl => .inr (Nat.le_trans h.size hl))⟩
theorem Chg.below {W W' : World} (h : Chg (fun _ _ => False) W W') : Below W.heap.size W W' := ⟨h.os, h.tape, h.output, h.size, fun b hb => h.block b hb id⟩
/-- one who is asked: of what is known of the world when some have been asked, and of what he may touch -/
structure Look (gf : Nat) (cb : Array Value) (tl : Fp → List Id) (Inv : List Fp → World → Prop) (T : World → Nat → Prop) : Prop where
  lt : ∀ done W b, Inv done W → T W b → b < W.heap.size
  keep : ∀ done W W' row, Inv done W → W.grownBy W' row → (∀ b, row = some b → ¬ T W b) → Inv done W' ∧ ∀ b, T W' b → T W b
  call : ∀ done x W, List.length done ≤ 1000 → Inv done W → IsFp x → Calls Try.prog gf (#[.agg (fpL x).toArray] ++ cb) W fun e W' => ∃ L : Lst, e = .returned (.slice L.A L.l.length L.c) ∧ L.l = tl x ∧ Ids W' L.A L.l ∧ AOk L.A L.l.length ∧ L.l.length ≤ 12 ∧ Inv (done ++ [x]) W' ∧ Chg T W W'
  eg : ∀ args w, (callFunc gf args).run Try.prog w = .ok (.enter gf args) w
theorem Chg.of_grown {gf : Nat} {cb : Array Value} {tl : Fp → List Id} {Inv : List Fp → World → Prop} {T : World → Nat → Prop} (hl : Look gf cb tl Inv T) {done : List Fp} {w W W' : World} {row : Option Nat} (h : Chg T w W) (hi : Inv done W) (hg : W.grownBy W' row) (hr : ∀ b, row = some b → ¬ T W b) (hn : ∀ b, row = some b → w.heap.size ≤ b) : Chg T w W' ∧ Inv done W' := by
  obtain ⟨h1, h2⟩ := hl.keep done W W' row hi hg hr
  refine ⟨⟨hg.os.trans h.os, hg.tape.trans h.tape, hg.output.trans h.output, Nat.le_trans h.size hg.size, fun b hb ht => ?_, fun b hb => h.touch b (h2 b hb)⟩, h1⟩
  rw [hg.block b (Nat.lt_of_lt_of_le hb h.size) (fun e => by have := hn b e.symm; omega)]
  exact h.block b hb ht
/-- a row that nobody else touches -/
def Safe (T : World → Nat → Prop) (W : World) (v : Value) : Prop := ∀ b, v.ownBlock = some b → ¬ T W b
theorem own_chg {T : World → Nat → Prop} {W W' : World} {base e size n : Nat} {v : Value} {xs : List Value} (h : W.ownsRow base e size v n xs) (hs : Safe T W v) (hc : Chg T W W') : W'.ownsRow base e size v n xs ∧ Safe T W' v := by
  refine ⟨⟨h.1, ?_⟩, fun b hb ht => (hc.touch b ht).elim (hs b hb) (fun hl => by have := (h.lt b hb).2; omega)⟩
  rcases h.2 with hn | ⟨g, cap, cur, rfl, hb, hg, rest⟩
  · exact .inl hn
  · exact .inr ⟨g, cap, cur, rfl, hb, by rw [hc.block g (Array.getElem?_eq_some_iff.1 hg).1 (hs g rfl)]; exact hg, rest⟩
/-- the lists that have been laid -/
def Laid (T : World → Nat → Prop) (W : World) (base : Nat) (vs : List Lst) : Prop := ∀ x ∈ vs, OwnI W base (.slice x.A x.l.length x.c) x.l ∧ Safe T W (.slice x.A x.l.length x.c)
theorem Laid.chg {T : World → Nat → Prop} {W W' : World} {base : Nat} {vs : List Lst} (h : Laid T W base vs) (hc : Chg T W W') : Laid T W' base vs := fun x hx => own_chg (h x hx).1 (h x hx).2 hc
theorem Laid.kept {gf : Nat} {cb : Array Value} {tl : Fp → List Id} {Inv : List Fp → World → Prop} {T : World → Nat → Prop} (hl : Look gf cb tl Inv T) {done : List Fp} {W W' : World} {base : Nat} {vs : List Lst} {row : Option Nat} (h : Laid T W base vs) (hi : Inv done W) (hg : W.grownBy W' row) (hr : ∀ b, row = some b → ¬ T W b)
    (hne : ∀ x ∈ vs, (Value.slice x.A x.l.length x.c).ownBlock = none ∨ (Value.slice x.A x.l.length x.c).ownBlock ≠ row) : Laid T W' base vs := fun x hx => ⟨(h x hx).1.kept hg (hne x hx), fun b hb ht => (h x hx).2 b hb ((hl.keep done W W' row hi hg hr).2 b ht)⟩
theorem Laid.inner {T : World → Nat → Prop} {W : World} {base : Nat} {vs : List Lst} (h : Laid T W base vs) : Inner W vs := fun x hx => ⟨row_own (h x hx).1, own_cap (h x hx).1⟩
theorem safe_new {gf : Nat} {cb : Array Value} {tl : Fp → List Id} {Inv : List Fp → World → Prop} {T : World → Nat → Prop} (hl : Look gf cb tl Inv T) {done : List Fp} {W W' : World} {base e size n : Nat} {v : Value} {xs : List Value} (hi : Inv done W) (ht : ∀ b, T W' b → T W b) (h : W'.ownsRow base e size v n xs) (hb : W.heap.size ≤ base) : Safe T W' v := fun b hvb hT => by
  have h1 := hl.lt done W b hi (ht b hT)
  have h2 := (h.lt b hvb).1
  omega
end Go.Proofs.Ytijdkgklajdbnaa
