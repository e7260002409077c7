/-
  DERIVED. GIVEN WITH THE SEED: THE CARDS: each row of YtocfhldmnbmapaaGreatDoorRows.lean that lists a variable, with what it lists TIED to the program's text (the seventh form; the later family's looks); each row that meets fmt, with fmt's text TOLD by the authors' own Lean function (tested against real Go, not proved from fmt's source: count such statements apart). THE CARD IS WHAT COUNTS. Prove the row's statement (the work); the ties are given (YtocfhldmnbmapaaGreatDoorTie.lean); close each card by the builder's one call (the guide's Derived/Test/ToyasCard.lean, 'card_holds'). Laid BY PROGRAM, IN A SANDBOX (cutbox-door.mjs). By AI agents, Wed Nov 11 2026. No macro, syntax, notation, axiom, sorry.
-/
import Derived.Test.YtocfhldmnbmapaaGreatDoorRows
import GoSem.ClaimSeven
namespace Go.Proofs.YtocfhldmnbmapaaGreatDoor
namespace Rows

/-- THE TIED CARD OF 'sheaflaw29.AuditTexts'. -/
def auditTextsCard : Claim7 := { stood := { row := auditTextsRow, standIns := [], harness := (true, "2a100a07f8aa22aa5c25d8d64062e902af2b46d990eb3147da7d1c63d5c01c1a"), looks := true }, kinds := [], alts := [], laidByText := true, laidKinds := [.data, .data, .data, .data, .sentinel, .sentinel, .pinned], laidTests := true, laidLooks := .later }
def AuditTextsCardSaid : Prop := Claim7.holds Tryz.pinned (.plain (OpenSpec.ofChange auditTextsSpec)) auditTextsCard

/-- THE TIED CARD OF 'sheaflaw29.AuditParses'. -/
def auditParsesCard : Claim7 := { stood := { row := auditParsesRow, standIns := [], harness := (true, "2a100a07f8aa22aa5c25d8d64062e902af2b46d990eb3147da7d1c63d5c01c1a"), looks := true }, kinds := [], alts := [], laidByText := true, laidKinds := [.data, .data, .data, .data, .sentinel, .sentinel, .pinned], laidTests := true, laidLooks := .later }
def AuditParsesCardSaid : Prop := Claim7.holds Tryz.pinned (.plain (OpenSpec.ofChange auditParsesSpec)) auditParsesCard

/-- THE TIED CARD OF 'sheaflaw29.AuditLooks'. -/
def auditLooksCard : Claim7 := { stood := { row := auditLooksRow, standIns := [], harness := (true, "2a100a07f8aa22aa5c25d8d64062e902af2b46d990eb3147da7d1c63d5c01c1a"), looks := true }, kinds := [], alts := [], laidByText := true, laidKinds := [.data, .data, .data, .data, .sentinel, .sentinel, .pinned], laidTests := true, laidLooks := .later }
def AuditLooksCardSaid : Prop := Claim7.holds Tryz.pinned (.plain (OpenSpec.ofChange auditLooksSpec)) auditLooksCard

/-- THE TIED CARD OF 'sheaflaw29.AuditWell'. -/
def auditWellCard : Claim7 := { stood := { row := auditWellRow, standIns := [], harness := (true, "2a100a07f8aa22aa5c25d8d64062e902af2b46d990eb3147da7d1c63d5c01c1a"), looks := true }, kinds := [], alts := [], laidByText := true, laidKinds := [.data, .data, .data, .data, .sentinel, .sentinel, .pinned], laidTests := true, laidLooks := .later }
def AuditWellCardSaid : Prop := Claim7.holds Tryz.pinned (.plain (OpenSpec.ofChange auditWellSpec)) auditWellCard

/-- THE TIED CARD OF 'sheaflaw29.AuditReads'. -/
def auditReadsCard : Claim7 := { stood := { row := auditReadsRow, standIns := [], harness := (true, "2a100a07f8aa22aa5c25d8d64062e902af2b46d990eb3147da7d1c63d5c01c1a"), looks := true }, kinds := [], alts := [], laidByText := true, laidKinds := [.data, .data, .data, .data, .sentinel, .sentinel, .pinned], laidTests := true, laidLooks := .later }
def AuditReadsCardSaid : Prop := Claim7.holds Tryz.pinned (.plain (OpenSpec.ofChange auditReadsSpec)) auditReadsCard

/-- THE SECOND FORM's CARD OF 'sheaflaw29.AuditTexts'. -/
def auditTextsUptoCard : Claim7 := { stood := { row := auditTextsUptoRow, standIns := [], harness := (true, "2a100a07f8aa22aa5c25d8d64062e902af2b46d990eb3147da7d1c63d5c01c1a"), looks := true }, kinds := [], alts := [], laidByText := true, laidKinds := [.data, .data, .data, .data, .sentinel, .sentinel, .pinned], laidTests := true, laidLooks := .later }
def AuditTextsUptoCardSaid : Prop := Claim7.holds Tryz.pinned (.plain (OpenSpec.upto auditTextsSpec)) auditTextsUptoCard

/-- THE SECOND FORM's CARD OF 'sheaflaw29.AuditParses'. -/
def auditParsesUptoCard : Claim7 := { stood := { row := auditParsesUptoRow, standIns := [], harness := (true, "2a100a07f8aa22aa5c25d8d64062e902af2b46d990eb3147da7d1c63d5c01c1a"), looks := true }, kinds := [], alts := [], laidByText := true, laidKinds := [.data, .data, .data, .data, .sentinel, .sentinel, .pinned], laidTests := true, laidLooks := .later }
def AuditParsesUptoCardSaid : Prop := Claim7.holds Tryz.pinned (.plain (OpenSpec.upto auditParsesSpec)) auditParsesUptoCard

/-- THE SECOND FORM's CARD OF 'sheaflaw29.AuditLooks'. -/
def auditLooksUptoCard : Claim7 := { stood := { row := auditLooksUptoRow, standIns := [], harness := (true, "2a100a07f8aa22aa5c25d8d64062e902af2b46d990eb3147da7d1c63d5c01c1a"), looks := true }, kinds := [], alts := [], laidByText := true, laidKinds := [.data, .data, .data, .data, .sentinel, .sentinel, .pinned], laidTests := true, laidLooks := .later }
def AuditLooksUptoCardSaid : Prop := Claim7.holds Tryz.pinned (.plain (OpenSpec.upto auditLooksSpec)) auditLooksUptoCard

/-- THE SECOND FORM's CARD OF 'sheaflaw29.AuditWell'. -/
def auditWellUptoCard : Claim7 := { stood := { row := auditWellUptoRow, standIns := [], harness := (true, "2a100a07f8aa22aa5c25d8d64062e902af2b46d990eb3147da7d1c63d5c01c1a"), looks := true }, kinds := [], alts := [], laidByText := true, laidKinds := [.data, .data, .data, .data, .sentinel, .sentinel, .pinned], laidTests := true, laidLooks := .later }
def AuditWellUptoCardSaid : Prop := Claim7.holds Tryz.pinned (.plain (OpenSpec.upto auditWellSpec)) auditWellUptoCard

/-- THE SECOND FORM's CARD OF 'sheaflaw29.AuditReads'. -/
def auditReadsUptoCard : Claim7 := { stood := { row := auditReadsUptoRow, standIns := [], harness := (true, "2a100a07f8aa22aa5c25d8d64062e902af2b46d990eb3147da7d1c63d5c01c1a"), looks := true }, kinds := [], alts := [], laidByText := true, laidKinds := [.data, .data, .data, .data, .sentinel, .sentinel, .pinned], laidTests := true, laidLooks := .later }
def AuditReadsUptoCardSaid : Prop := Claim7.holds Tryz.pinned (.plain (OpenSpec.upto auditReadsSpec)) auditReadsUptoCard
end Rows
end Go.Proofs.YtocfhldmnbmapaaGreatDoor
