/- Steps in memory, their cells not looked into. -/
import Derived.Test.YtjakkmioofbcaaaDoorB7
import Derived.Deep.MidRow
namespace Go.Proofs.YtjakkmioofbcaaaDoor
open Go.RowKit
def cfL (c : Fin 13 → Int) : List Value := [.int .i64 (c 0), .int .i64 (c 1), .int .i64 (c 2), .int .i64 (c 3), .int .i64 (c 4), .int .i64 (c 5), .int .i64 (c 6), .int .i64 (c 7), .int .i64 (c 8), .int .i64 (c 9), .int .i64 (c 10), .int .i64 (c 11), .int .i64 (c 12)]
def stL (k op : Int) (nm dt : List UInt8) (n : Int) (K : Value) (c : Fin 13 → Int) : List Value := [.int .i64 k, .int .i64 op, .string (str nm), .string (str dt), .int .i64 n, K, .int .i64 (c 0), .int .i64 (c 1), .int .i64 (c 2), .int .i64 (c 3), .int .i64 (c 4), .int .i64 (c 5), .int .i64 (c 6), .int .i64 (c 7), .int .i64 (c 8), .int .i64 (c 9), .int .i64 (c 10), .int .i64 (c 11), .int .i64 (c 12)]
theorem stA_eq (k op : Int) (nm dt : List UInt8) (n : Int) (K : Value) (c : Fin 13 → Int) : stA k op nm dt n K c = (stL k op nm dt n K c).toArray := rfl
theorem cfA_eq (c : Fin 13 → Int) : cfA c = (cfL c).toArray := rfl
structure BoxAt (w : World) (g : Nat) (k op : Int) (nm dt : List UInt8) (n : Int) (K : Value) (L CL : List Value) : Prop where
  b0 : w.cell? ⟨g, 0, none⟩ = some (.int .i64 k)
  b1 : w.cell? ⟨g, 1, none⟩ = some (.int .i64 op)
  b2 : w.cell? ⟨g, 2, none⟩ = some (.string (str nm))
  b3 : w.cell? ⟨g, 3, none⟩ = some (.string (str dt))
  b4 : w.cell? ⟨g, 4, none⟩ = some (.int .i64 n)
  b5 : w.cell? ⟨g, 5, none⟩ = some K
  r0 : w.rangeAt g 0 L
  r6 : w.rangeAt g 6 CL
theorem range_of_row {w : World} {g : Nat} {cs : List Value} {t : TypeId} {fr : Nat × Nat} (h : w.heap[g]? = some (.cells cs.toArray t fr)) : w.rangeAt g 0 cs := by
  intro j v hj
  rw [Nat.zero_add]
  rw [cell_of_row w g j cs.toArray t fr h]
  simpa using hj
theorem boxAt_of {w : World} {g : Nat} {k op : Int} {nm dt : List UInt8} {n : Int} {K : Value} {c : Fin 13 → Int} {fr : Nat × Nat} (h : w.heap[g]? = some (.cells (stL k op nm dt n K c).toArray 44 fr)) : BoxAt w g k op nm dt n K (stL k op nm dt n K c) (cfL c) := by
  have hr := range_of_row h
  have hx : ∀ j v, (stL k op nm dt n K c)[j]? = some v → w.cell? ⟨g, j, none⟩ = some v := fun j v hj => by
    have := hr j v hj
    rwa [Nat.zero_add] at this
  refine ⟨hx 0 _ rfl, hx 1 _ rfl, hx 2 _ rfl, hx 3 _ rfl, hx 4 _ rfl, hx 5 _ rfl, hr, fun j v hj => hx (6 + j) v ?_⟩
  rw [show (stL k op nm dt n K c) = [.int .i64 k, .int .i64 op, .string (str nm), .string (str dt), .int .i64 n, K] ++ cfL c from rfl, List.getElem?_append_right (by simp)]
  simpa using hj
theorem info30 : (Tryd.prog.info? 44).map (·.size) = some 19 := by kernel_rfl
theorem info28 : (Tryd.prog.info? 23).map (·.size) = some 13 := by kernel_rfl
theorem wpList_load_midg {P : Program} {ops : Array Oper} {rest : List Oper} {op : Oper} {a : Act} {w : World} {Q : Exit → Act → World → Prop} (hw : Region.wanted op (yielded ops a.tmps) = true) (ty : TypeId) (x : Operand) (ho : op.op = .load ty x)
    (b o : Nat) (hx : a.eval x = .pointer (some ⟨b, o, none⟩)) (cs : List Value) (d : TypeDesc) (hc : w.rangeAt b o cs)
    (hu : P.underlying ty = some d) (hd : d.isRow = true) (hi : (P.info? ty).map (·.size) = some cs.length)
    (h : wpList P ops Q rest (a.put op.dst (.agg cs.toArray)) w) : wpList P ops Q (op :: rest) a w := by
  rw [wpList, if_pos hw]
  exact .inl (wp_load_mid ty x ho b o hx cs d hc hu hd hi h)
end Go.Proofs.YtjakkmioofbcaaaDoor
