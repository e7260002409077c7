/- Closed facts of AuditParses, a lemma each. -/
import Derived.Test.YtocfhldmnbmapaaGreatDoorRows
import Derived.KernelRfl
namespace Go.Proofs.YtocfhldmnbmapaaGreatDoor.auditParses
theorem c_rec : (Rows.auditParsesRow.recurses == Tryz.pinned.checked.prog.recurses 4) = true := by kernel_rfl
theorem c_named : (Rows.auditParsesRow.named == Tryz.pinned.checked.prog.varsNamed 4) = true := by kernel_rfl
end Go.Proofs.YtocfhldmnbmapaaGreatDoor.auditParses
