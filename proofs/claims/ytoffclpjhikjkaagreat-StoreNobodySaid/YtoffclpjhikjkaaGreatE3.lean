/- The page's example comes out right: run. -/
import Derived.Test.YtoffclpjhikjkaaGreatTd
set_option linter.unusedSimpArgs false
set_option linter.unusedVariables false
namespace Go.Proofs.YtoffclpjhikjkaaGreat
open Ev
set_option maxRecDepth 1000000
theorem awake_run : resIs (.bool true) ((recN Tryz.prog X1 200).call 24 [] false ⟨16, .e, .e⟩) = true := by kernel_rfl
end Go.Proofs.YtoffclpjhikjkaaGreat
