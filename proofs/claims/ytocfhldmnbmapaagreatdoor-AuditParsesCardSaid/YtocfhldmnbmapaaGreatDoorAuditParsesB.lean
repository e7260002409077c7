/- Closed facts of AuditParses, a lemma each. -/
import Derived.Test.YtocfhldmnbmapaaGreatDoorRows
import Derived.KernelRfl
namespace Go.Proofs.YtocfhldmnbmapaaGreatDoor.auditParses
theorem c_inPlace : (Rows.auditParsesRow.inPlace == Tryz.pinned.checked.prog.inPlace 4) = true := by kernel_rfl
theorem c_unf : (Rows.auditParsesRow.unfollowed == Tryz.pinned.checked.prog.unfollowed 4) = true := by kernel_rfl
end Go.Proofs.YtocfhldmnbmapaaGreatDoor.auditParses
