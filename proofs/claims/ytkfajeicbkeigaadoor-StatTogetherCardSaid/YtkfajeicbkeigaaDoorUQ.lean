/- An argument []bool opened. -/
import Derived.Test.YtkfajeicbkeigaaDoorUP
import Derived.Test.YtkfajeicbkeigaaDoorUI
namespace Go.Proofs.YtkfajeicbkeigaaDoor
open Go.RowKit Go.Maps
section
variable {H : Type} {enc : TypeId × Value → H} {W : World} {base : Nat} {held : Bool}
theorem cells4 : Tryd.prog.cellsOf 4 = 1 := by kernel_rfl
def blQ (cs : List Value) (b : Bool) : Prop := cs = [.bool b]
theorem bl_of_trod {fuel : Nat} {cs : List Value} {x : DataW H × List MemPlace} (hf : DataW.trod enc Tryd.prog W base (fun _ => true) held fuel 4 cs = some x) : ∃ s, blQ cs s := by
  obtain ⟨s, e, _⟩ := DataW.trod_bool Tryd.underlying4 hf
  exact ⟨s, e⟩
theorem flat_bools (bs : List Bool) : (bs.flatMap fun s => [Value.bool s]) = bs.map Value.bool := by
  induction bs with
  | nil => rfl
  | cons a r ih => rw [List.flatMap_cons, ih]; rfl
set_option maxRecDepth 100000 in
theorem open_bools {v : Value} {d : DataW H} {p : List MemPlace} (hv : Value.okWide Tryd.prog W .any base 57 v) (h : DataW.Trod enc Tryd.prog W 0 (fun _ => true) held 57 v d p) :
    ∃ A c bs, v = .slice A (List.length bs) c ∧ Bls W A bs ∧ bs.length ≤ 9223372036854775807 := by
  obtain ⟨A, n, c, bs, rfl, hr, h1, h2, _⟩ := open_rows Tryd.underlying57 cells4 (by decide) blQ (fun _ _ _ h _ => bl_of_trod h) hv h
  have hll := hr.1
  refine ⟨A, c, bs, by rw [hll], ?_, by omega⟩
  have := row_of_rows (f := fun s => [.bool s]) (fun _ _ q => q) (fun _ => rfl) hr (by decide)
  unfold Bls
  rwa [flat_bools] at this
end
end Go.Proofs.YtkfajeicbkeigaaDoor
