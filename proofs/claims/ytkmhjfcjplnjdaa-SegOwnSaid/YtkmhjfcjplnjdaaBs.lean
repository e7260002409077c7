/- A slice literal of one array: the law. -/
import Derived.Test.YtkmhjfcjplnjdaaW8
namespace Go.Proofs.Ytkmhjfcjplnjdaa
open Go.RowKit
theorem foldl_set : ∀ (l : List Value) (k : Nat) (cs : Array Value), k + l.length ≤ cs.size → ∀ i : Nat,
    ((l.zipIdx k).foldl (fun (cs : Array Value) (x : Value × Nat) => cs.setIfInBounds (0 + x.2) x.1) cs)[i]? = if k ≤ i ∧ i < k + l.length then l[i - k]? else cs[i]?
  | [], k, cs, _, i => by simp; intro h1 h2; omega
  | v :: r, k, cs, h, i => by
    rw [List.zipIdx_cons, List.foldl_cons, foldl_set r (k + 1) _ (by simp at h ⊢; omega) i]
    simp only [List.length_cons, Nat.zero_add] at h ⊢
    by_cases h1 : k + 1 ≤ i ∧ i < k + 1 + r.length
    · rw [if_pos h1, if_pos (by omega), show i - k = (i - (k + 1)) + 1 by omega, List.getElem?_cons_succ]
    · rw [if_neg h1, Array.getElem?_setIfInBounds]
      by_cases h2 : k = i
      · subst h2
        rw [if_pos rfl, if_pos (by omega), if_pos (by omega)]
        simp
      · rw [if_neg h2, if_neg (by omega)]
theorem foldl_fill (l : List Value) (cs : Array Value) (h : l.length = cs.size) : (l.zipIdx.foldl (fun (cs : Array Value) (x : Value × Nat) => cs.setIfInBounds (0 + x.2) x.1) cs) = l.toArray := by
  apply Array.ext_getElem?
  intro i
  rw [foldl_set l 0 cs (by omega) i]
  by_cases hi : i < l.length
  · rw [if_pos (by omega)]; simp
  · rw [if_neg (by omega)]
    rw [Array.getElem?_eq_none (by omega)]
    simp; omega
section
variable {P : Program}
theorem run_buildSlice_one (w : World) (t e : TypeId) (n : Nat) (z : Value) (l : List Value) (ht : P.underlying t = some (.slice e)) (hs : ∀ w, (sizeOf e).run P w = .ok n w) (hz : ∀ w, (zeroValue e).run P w = .ok z w) (hn : 0 < n) (hn2 : n ≤ 4096) (hl : l.length = n) :
    (Instr.buildSlice t 1 #[(0, .agg l.toArray)]).run P w = .ok (.slice (some ⟨w.heap.size, 0, none⟩) 1 1) (w.alloc (.cells l.toArray e)) := by
  have h1 : ¬ (1 * n > 2 ^ 24) := by omega
  have h2 : ¬ (1 * n = 0) := by omega
  have hf : Instr.fill (fun i => some (i * n, n)) ((Array.range (1 * n)).map (z.cells[· % z.cells.size]!)) [(0, .agg l.toArray)] = some l.toArray := by
    generalize hcs : (Array.range (1 * n)).map (z.cells[· % z.cells.size]!) = cs
    have hsz : cs.size = n := by rw [← hcs]; simp
    have h3 := foldl_fill l cs (by omega)
    simp only [Instr.fill, Value.cells, List.size_toArray, hl, Nat.zero_mul]
    rw [if_neg (by simp [hsz])]
    simp only [Nat.zero_add] at h3
    simp [h3]
  simp only [Instr.buildSlice, Sem.run_bind, run_underlying ht, Result.andThen_ok, hs, if_neg h1, if_neg h2, Sem.run_pure, hz, hf]
  simp [newRow]
theorem wpList_build_one {ops : Array Oper} {rest : List Oper} {op : Oper} {a : Act} {w : World} {Q : Exit → Act → World → Prop} (hgd : op.guard = none) (t : TypeId) (x : Operand) (ho : op.op = .buildSlice t 1 #[(0, x)])
    (e : TypeId) (n : Nat) (z : Value) (l : List Value) (hx : a.eval x = .agg l.toArray) (ht : P.underlying t = some (.slice e)) (hs : ∀ w, (sizeOf e).run P w = .ok n w) (hz : ∀ w, (zeroValue e).run P w = .ok z w) (hn : 0 < n) (hn2 : n ≤ 4096) (hl : l.length = n)
    (h : wpList P ops Q rest (a.put op.dst (.slice (some ⟨w.heap.size, 0, none⟩) 1 1)) (w.alloc (.cells l.toArray e))) : wpList P ops Q (op :: rest) a w :=
  wpList_plain hgd fun _ hK => by
    have hr := run_buildSlice_one w t e n z l ht hs hz hn hn2 hl
    unfold Oper.wp execOp
    simp only [ho, List.map_toArray, List.map_cons, List.map_nil, hx, Sem.run_bind, hr, Sem.run_pure, Result.andThen_ok]
    exact hK _ _ h
end
end Go.Proofs.Ytkmhjfcjplnjdaa
