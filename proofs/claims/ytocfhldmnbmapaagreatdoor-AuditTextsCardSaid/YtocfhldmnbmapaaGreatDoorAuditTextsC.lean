/- Closed facts of AuditTexts, a lemma each. -/
import Derived.Test.YtocfhldmnbmapaaGreatDoorRows
import Derived.KernelRfl
namespace Go.Proofs.YtocfhldmnbmapaaGreatDoor.auditTexts
theorem c_rec : (Rows.auditTextsRow.recurses == Tryz.pinned.checked.prog.recurses 3) = true := by kernel_rfl
theorem c_named : (Rows.auditTextsRow.named == Tryz.pinned.checked.prog.varsNamed 3) = true := by kernel_rfl
end Go.Proofs.YtocfhldmnbmapaaGreatDoor.auditTexts
