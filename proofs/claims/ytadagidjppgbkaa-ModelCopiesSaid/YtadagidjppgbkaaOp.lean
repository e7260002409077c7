/- The arguments opened: a call. -/
import Derived.Test.YtadagidjppgbkaaM1
import Derived.ProofKit
import Derived.OpenShut
import Derived.ShutString
import Derived.ChangeOld
import Derived.Deep.Slices
namespace Go.Proofs.Ytadagidjppgbkaa
open Go.ChangeShapes Go.WideShapes Go.ChangeAt Go.RowKit Go.Deep
theorem cells28 : Try.prog.cellsOf 28 = 1 := by kernel_rfl
theorem cells9 : Try.prog.cellsOf 9 = 1 := by kernel_rfl
theorem cells30 : Try.prog.cellsOf 30 = 3 := by kernel_rfl
theorem list3 {α : Type} {l : List α} (h : l.length = 3) : ∃ a b c, l = [a, b, c] := by
  match l, h with
  | [a, b, c], _ => exact ⟨a, b, c, rfl⟩
section
variable {H : Type} {enc : TypeId × Value → H} {W : World} {base : Nat} {sp : Nat → Bool} {held : Bool}
set_option maxRecDepth 100000 in
theorem call_of_trod {fuel : Nat} {cs : List Value} {x : DataW H × List MemPlace} (h : DataW.trod enc Try.prog W base sp held fuel 30 cs = some x) :
    ∃ (op : Int) (nm da : ByteArray), cs = [.int .i64 op, .string nm, .string da] ∧ nm.size ≤ maxLen ∧ da.size ≤ maxLen ∧ (Lit.int .i64 op).wf = true := by
  obtain ⟨xs, n, _, _, hl, hlen, hg⟩ := DataW.trod_struct Try.underlying30 h
  rw [cells30] at hl
  have hlen' : xs.length = 3 := hlen
  obtain ⟨c0, c1, c2, rfl⟩ := list3 hl
  · have g0 := hg 0 _ rfl
    have g1 := hg 1 _ rfl
    have g2 := hg 2 _ rfl
    rw [List.getElem?_eq_getElem (by omega)] at g0 g1 g2
    obtain ⟨n0, e0, _, w0⟩ := DataW.trod_int Try.underlying28 g0
    obtain ⟨s1, e1, _, w1⟩ := DataW.trod_string Try.underlying9 g1
    obtain ⟨s2, e2, _, w2⟩ := DataW.trod_string Try.underlying9 g2
    simp [cells28, cells9] at e0 e1 e2
    subst e0
    subst e1
    subst e2
    exact ⟨n0, s1, s2, rfl, w1, w2, w0⟩
set_option maxRecDepth 100000 in
theorem open_call {v : Value} {d : DataW H} {p : List MemPlace} (hv : Value.okWide Try.prog W .any base 30 v) (h : DataW.Trod enc Try.prog W 0 sp held 30 v d p) :
    ∃ (op : Int) (nm da : ByteArray), v = .agg #[.int .i64 op, .string nm, .string da] ∧ nm.size ≤ maxLen ∧ da.size ≤ maxLen ∧ (Lit.int .i64 op).wf = true := by
  obtain ⟨cs, rfl, hsz⟩ := okWide_struct Try.underlying30 hv
  obtain ⟨fuel, hf⟩ := h
  obtain ⟨op, nm, da, hcs, h1, h2, h3⟩ := call_of_trod hf
  simp only [Value.cells] at hcs
  refine ⟨op, nm, da, ?_, h1, h2, h3⟩
  obtain ⟨l⟩ := cs
  simp at hcs
  rw [hcs]
end
end Go.Proofs.Ytadagidjppgbkaa
