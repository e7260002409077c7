/- The arguments opened: a slice of acts, a slice of calls. -/
import Derived.Test.YtadagidjppgbkaaOp2
import Derived.Test.YtadagidjppgbkaaGen
import Derived.Test.YtadagidjppgbkaaW3
namespace Go.Proofs.Ytadagidjppgbkaa
open Go.ChangeShapes Go.WideShapes Go.ChangeAt Go.RowKit Go.Deep
theorem cells33 : Try.prog.cellsOf 33 = 5 := by kernel_rfl
theorem cells31 : Try.prog.cellsOf 31 = 1 := by kernel_rfl
theorem cells4 : Try.prog.cellsOf 4 = 1 := by kernel_rfl
theorem list5 {α : Type} {l : List α} (h : l.length = 5) : ∃ a b c d e, l = [a, b, c, d, e] := by
  match l, h with
  | [a, b, c, d, e], _ => exact ⟨a, b, c, d, e, rfl⟩
def ActQ (cs : List Value) (x : ActT) : Prop := cs = [.int .i64 x.op, .string x.nm, .string x.da, .int .u16 x.t, .bool x.cr] ∧ x.nm.size ≤ maxLen ∧ x.da.size ≤ maxLen ∧ 0 ≤ x.t ∧ x.t ≤ 65535
structure CallT where
  op : Int
  nm : ByteArray
  da : ByteArray
def CallQ (cs : List Value) (x : CallT) : Prop := cs = [.int .i64 x.op, .string x.nm, .string x.da] ∧ x.nm.size ≤ maxLen ∧ x.da.size ≤ maxLen
section
variable {H : Type} {enc : TypeId × Value → H} {W : World} {base : Nat} {sp : Nat → Bool} {held : Bool}
set_option maxRecDepth 100000 in
theorem act_of_trod {fuel : Nat} {cs : List Value} {x : DataW H × List MemPlace} (h : DataW.trod enc Try.prog W base sp held fuel 33 cs = some x) : ∃ a, ActQ cs a := by
  obtain ⟨xs, n, _, _, hl, hlen, hg⟩ := DataW.trod_struct Try.underlying33 h
  rw [cells33] at hl
  have hlen' : xs.length = 3 := hlen
  obtain ⟨c0, c1, c2, c3, c4, rfl⟩ := list5 hl
  have g0 := hg 0 _ rfl
  have g1 := hg 1 _ rfl
  have g2 := hg 2 _ rfl
  rw [List.getElem?_eq_getElem (by omega)] at g0 g1 g2
  obtain ⟨op, nm, da, e0, w1, w2, w3⟩ := call_of_trod g0
  obtain ⟨n1, e1, _, w1'⟩ := DataW.trod_int Try.underlying31 g1
  obtain ⟨b2, e2, _⟩ := DataW.trod_bool Try.underlying4 g2
  simp [cells30, cells31, cells4] at e0 e1 e2
  obtain ⟨rfl, rfl, rfl⟩ := e0
  subst e1
  subst e2
  exact ⟨⟨op, nm, da, n1, b2⟩, rfl, w1, w2, bounds_u16 w1'⟩
set_option maxRecDepth 100000 in
theorem open_acts {v : Value} {d : DataW H} {p : List MemPlace} (hv : Value.okWide Try.prog W .any base 22 v) (h : DataW.Trod enc Try.prog W 0 (fun _ => true) held 22 v d p) :
    ∃ A n c ls, v = .slice A n c ∧ Acts W W.heap.size A n ls ∧ n ≤ c := by
  obtain ⟨A, n, c, ls, e, hr, h1, _, _⟩ := open_rows Try.underlying22 cells33 (by decide) ActQ (fun fuel cs x h _ => act_of_trod h) hv h
  refine ⟨A, n, c, ls, e, ⟨hr.1, fun x hx => ?_, fun h0 => ?_⟩, h1⟩
  · obtain ⟨cs, hq, _⟩ := hr.2.1 x hx
    exact hq.2
  · obtain ⟨b, o, e1, hb, hc⟩ := hr.2.2 h0
    refine ⟨b, o, e1, hb, fun i x hi => ?_⟩
    obtain ⟨cs, hq, _, hj⟩ := hc i x hi
    rw [hq.1] at hj
    exact ⟨hj 0 _ rfl, hj 1 _ rfl, hj 2 _ rfl, hj 3 _ rfl, hj 4 _ rfl⟩
end
end Go.Proofs.Ytadagidjppgbkaa
