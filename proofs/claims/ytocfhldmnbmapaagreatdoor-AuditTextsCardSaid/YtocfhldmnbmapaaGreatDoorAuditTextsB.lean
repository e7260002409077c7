/- Closed facts of AuditTexts, a lemma each. -/
import Derived.Test.YtocfhldmnbmapaaGreatDoorRows
import Derived.KernelRfl
namespace Go.Proofs.YtocfhldmnbmapaaGreatDoor.auditTexts
theorem c_inPlace : (Rows.auditTextsRow.inPlace == Tryz.pinned.checked.prog.inPlace 3) = true := by kernel_rfl
theorem c_unf : (Rows.auditTextsRow.unfollowed == Tryz.pinned.checked.prog.unfollowed 3) = true := by kernel_rfl
end Go.Proofs.YtocfhldmnbmapaaGreatDoor.auditTexts
