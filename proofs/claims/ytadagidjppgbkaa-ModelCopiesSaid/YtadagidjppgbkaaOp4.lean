/- The arguments opened: a slice of calls. -/
import Derived.Test.YtadagidjppgbkaaOp3
import Derived.Test.YtadagidjppgbkaaW5
namespace Go.Proofs.Ytadagidjppgbkaa
open Go.ChangeShapes Go.WideShapes Go.ChangeAt Go.RowKit Go.Deep
section
variable {H : Type} {enc : TypeId × Value → H} {W : World} {base : Nat} {held : Bool}
set_option maxRecDepth 100000 in
theorem open_calls {v : Value} {d : DataW H} {p : List MemPlace} (hv : Value.okWide Try.prog W .any base 56 v) (h : DataW.Trod enc Try.prog W 0 (fun _ => true) held 56 v d p) :
    ∃ A n c ls, v = .slice A n c ∧ Cls W W.heap.size A n ls ∧ n ≤ c ∧ c ≤ 9223372036854775807 := by
  obtain ⟨A, n, c, ls, e, hr, h1, h2, _⟩ := open_rows Try.underlying56 cells30 (by decide) CallQ (fun fuel cs x h _ => by
    obtain ⟨op, nm, da, hcs, w1, w2, _⟩ := call_of_trod h
    exact ⟨⟨op, nm, da⟩, hcs, w1, w2⟩) hv h
  refine ⟨A, n, c, ls, e, ⟨hr.1, fun x hx => ?_, fun h0 => ?_⟩, h1, h2⟩
  · obtain ⟨cs, hq, _⟩ := hr.2.1 x hx
    exact hq.2
  · obtain ⟨b, o, e1, hb, hc⟩ := hr.2.2 h0
    refine ⟨b, o, e1, hb, fun i x hi => ?_⟩
    obtain ⟨cs, hq, _, hj⟩ := hc i x hi
    rw [hq.1] at hj
    exact ⟨hj 0 _ rfl, hj 1 _ rfl, hj 2 _ rfl⟩
end
end Go.Proofs.Ytadagidjppgbkaa
