/- The page's example comes out right. -/
import Derived.Test.YtoffclpjhikjkaaGreatE4
import Derived.Test.YtoffclpjhikjkaaGreatE3
set_option linter.unusedSimpArgs false
set_option linter.unusedVariables false
namespace Go.Proofs.YtoffclpjhikjkaaGreat
open Ev
set_option maxRecDepth 1000000
theorem awake24 (w : World) : Calls Tryz.prog 24 #[] w fun e w' => e = .returned (.bool true) ∧ Go.RowKit.Below w.heap.size w w' :=
  ev_calls mixed x1_ok awake_run (by kernel_rfl) .nil (by kernel_rfl) w
end Go.Proofs.YtoffclpjhikjkaaGreat
