/- Closed facts of StoreNobody, a lemma each. -/
import Derived.Test.YtoffclpjhikjkaaGreatRows
import Derived.KernelRfl
namespace Go.Proofs.YtoffclpjhikjkaaGreat.storeNobody
theorem c_rec : (Rows.storeNobodyRow.recurses == Tryz.pinned.checked.prog.recurses 3) = true := by kernel_rfl
theorem c_named : (Rows.storeNobodyRow.named == Tryz.pinned.checked.prog.varsNamed 3) = true := by kernel_rfl
end Go.Proofs.YtoffclpjhikjkaaGreat.storeNobody
