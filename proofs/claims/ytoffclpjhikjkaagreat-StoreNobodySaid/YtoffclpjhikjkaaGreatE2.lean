/- What the tables say is so: run. -/
import Derived.Test.YtoffclpjhikjkaaGreatE1
set_option linter.unusedSimpArgs false
set_option linter.unusedVariables false
namespace Go.Proofs.YtoffclpjhikjkaaGreat
open Ev
set_option maxRecDepth 1000000
theorem rows_nil {P : Program} {X : FuncId → Option Ext} {f : FuncId} : ∀ p ∈ ([] : List (List AV × AV)), RowOk P X f p := fun p h => by cases h
theorem rows_cons {P : Program} {X : FuncId → Option Ext} {f : FuncId} {a : List AV × AV} {l : List (List AV × AV)} (h : RowOk P X f a) (k : ∀ p ∈ l, RowOk P X f p) : ∀ p ∈ a :: l, RowOk P X f p := fun p q => by
  rcases List.mem_cons.1 q with rfl | q
  · exact h
  · exact k p q
theorem r170x0 : RowOk Tryz.prog X0 170 p170x0 := rowOk_of (n := 100) (by kernel_rfl) (by kernel_rfl)
theorem r170x1 : RowOk Tryz.prog X0 170 p170x1 := rowOk_of (n := 100) (by kernel_rfl) (by kernel_rfl)
theorem r170x2 : RowOk Tryz.prog X0 170 p170x2 := rowOk_of (n := 100) (by kernel_rfl) (by kernel_rfl)
theorem r170x3 : RowOk Tryz.prog X0 170 p170x3 := rowOk_of (n := 100) (by kernel_rfl) (by kernel_rfl)
theorem r170x4 : RowOk Tryz.prog X0 170 p170x4 := rowOk_of (n := 100) (by kernel_rfl) (by kernel_rfl)
theorem r170x5 : RowOk Tryz.prog X0 170 p170x5 := rowOk_of (n := 100) (by kernel_rfl) (by kernel_rfl)
theorem r170x6 : RowOk Tryz.prog X0 170 p170x6 := rowOk_of (n := 100) (by kernel_rfl) (by kernel_rfl)
theorem r170 : ∀ p ∈ tb170, RowOk Tryz.prog X0 170 p := rows_cons r170x0 <| rows_cons r170x1 <| rows_cons r170x2 <| rows_cons r170x3 <| rows_cons r170x4 <| rows_cons r170x5 <| rows_cons r170x6 <| rows_nil
theorem r155x0 : RowOk Tryz.prog X0 155 p155x0 := rowOk_of (n := 100) (by kernel_rfl) (by kernel_rfl)
theorem r155x1 : RowOk Tryz.prog X0 155 p155x1 := rowOk_of (n := 100) (by kernel_rfl) (by kernel_rfl)
theorem r155x2 : RowOk Tryz.prog X0 155 p155x2 := rowOk_of (n := 100) (by kernel_rfl) (by kernel_rfl)
theorem r155x3 : RowOk Tryz.prog X0 155 p155x3 := rowOk_of (n := 100) (by kernel_rfl) (by kernel_rfl)
theorem r155x4 : RowOk Tryz.prog X0 155 p155x4 := rowOk_of (n := 100) (by kernel_rfl) (by kernel_rfl)
theorem r155x5 : RowOk Tryz.prog X0 155 p155x5 := rowOk_of (n := 100) (by kernel_rfl) (by kernel_rfl)
theorem r155x6 : RowOk Tryz.prog X0 155 p155x6 := rowOk_of (n := 100) (by kernel_rfl) (by kernel_rfl)
theorem r155 : ∀ p ∈ tb155, RowOk Tryz.prog X0 155 p := rows_cons r155x0 <| rows_cons r155x1 <| rows_cons r155x2 <| rows_cons r155x3 <| rows_cons r155x4 <| rows_cons r155x5 <| rows_cons r155x6 <| rows_nil
theorem r437x0 : RowOk Tryz.prog X0 437 p437x0 := rowOk_of (n := 100) (by kernel_rfl) (by kernel_rfl)
theorem r437 : ∀ p ∈ tb437, RowOk Tryz.prog X0 437 p := rows_cons r437x0 <| rows_nil
end Go.Proofs.YtoffclpjhikjkaaGreat
