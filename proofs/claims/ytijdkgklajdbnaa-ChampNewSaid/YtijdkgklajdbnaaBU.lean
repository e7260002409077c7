/- A byte handed in, opened. -/
import Derived.Test.YtijdkgklajdbnaaBT
import Derived.Test.YtijdkgklajdbnaaBO
namespace Go.Proofs.Ytijdkgklajdbnaa
open Go.RowKit
open Go.ChangeShapes Go.WideShapes Go.ChangeAt Go.Deep
section
variable {H : Type} {enc : TypeId × Value → H} {W : World} {base : Nat} {held : Bool}
set_option maxRecDepth 100000 in
theorem open_u8 {v : Value} {d : DataW H} {p : List MemPlace} (hv : Value.okWide Try.prog W .any base 5 v) (h : DataW.Trod enc Try.prog W 0 (fun _ => true) held 5 v d p) : ∃ a : Int, v = .int .u8 a ∧ 0 ≤ a ∧ a ≤ 255 := by
  obtain ⟨a, rfl⟩ := okWide_int Try.underlying5 hv
  obtain ⟨fuel, hf⟩ := h
  obtain ⟨b, e, _, hw⟩ := DataW.trod_int Try.underlying5 hf
  simp [Value.cells] at e
  subst e
  have := bounds_u8 hw
  exact ⟨a, rfl, by omega, by omega⟩
end
end Go.Proofs.Ytijdkgklajdbnaa
