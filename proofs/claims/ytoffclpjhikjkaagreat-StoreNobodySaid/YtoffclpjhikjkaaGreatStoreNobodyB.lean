/- Closed facts of StoreNobody, a lemma each. -/
import Derived.Test.YtoffclpjhikjkaaGreatRows
import Derived.KernelRfl
namespace Go.Proofs.YtoffclpjhikjkaaGreat.storeNobody
theorem c_inPlace : (Rows.storeNobodyRow.inPlace == Tryz.pinned.checked.prog.inPlace 3) = true := by kernel_rfl
theorem c_unf : (Rows.storeNobodyRow.unfollowed == Tryz.pinned.checked.prog.unfollowed 3) = true := by kernel_rfl
end Go.Proofs.YtoffclpjhikjkaaGreat.storeNobody
