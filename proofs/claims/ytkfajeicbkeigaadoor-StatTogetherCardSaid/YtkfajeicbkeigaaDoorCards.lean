/-
  DERIVED. GIVEN WITH THE SEED: THE CARDS: each row of YtkfajeicbkeigaaDoorRows.lean that lists a variable, with what it lists TIED to the program's text (the seventh form; the later family's looks); each row that meets fmt, with fmt's text TOLD by the authors' own Lean function (tested against real Go, not proved from fmt's source: count such statements apart). THE CARD IS WHAT COUNTS. Prove the row's statement (the work); the ties are given (YtkfajeicbkeigaaDoorTie.lean); close each card by the builder's one call (the guide's Derived/Test/ToyasCard.lean, 'card_holds'). Laid BY PROGRAM, IN A SANDBOX (cutbox-door.mjs). By AI agents, Wed Nov 11 2026. No macro, syntax, notation, axiom, sorry.
-/
import Derived.Test.YtkfajeicbkeigaaDoorRows
import GoSem.ClaimSeven
namespace Go.Proofs.YtkfajeicbkeigaaDoor
namespace Rows

/-- THE TIED CARD OF 'sheaflaw33.StatShares'. -/
def statSharesCard : Claim7 := { stood := { row := statSharesRow, standIns := [], harness := (true, "2409977406f433bdb253601cd38e30177d44d5a8451f204be670d61a4007a3fe"), looks := false }, kinds := [], alts := [], laidByText := true, laidKinds := [.data, .data, .data], laidTests := true, laidLooks := .later }
def StatSharesCardSaid : Prop := Claim7.holds Tryd.pinned (.plain (OpenSpec.ofChange statSharesSpec)) statSharesCard

/-- THE TIED CARD OF 'sheaflaw33.StatLess'. -/
def statLessCard : Claim7 := { stood := { row := statLessRow, standIns := [], harness := (true, "2409977406f433bdb253601cd38e30177d44d5a8451f204be670d61a4007a3fe"), looks := false }, kinds := [], alts := [], laidByText := true, laidKinds := [.data, .data, .data], laidTests := true, laidLooks := .later }
def StatLessCardSaid : Prop := Claim7.holds Tryd.pinned (.plain (OpenSpec.ofChange statLessSpec)) statLessCard

/-- THE TIED CARD OF 'sheaflaw33.StatTimes'. -/
def statTimesCard : Claim7 := { stood := { row := statTimesRow, standIns := [], harness := (true, "2409977406f433bdb253601cd38e30177d44d5a8451f204be670d61a4007a3fe"), looks := false }, kinds := [], alts := [], laidByText := true, laidKinds := [.data, .data, .data], laidTests := true, laidLooks := .later }
def StatTimesCardSaid : Prop := Claim7.holds Tryd.pinned (.plain (OpenSpec.ofChange statTimesSpec)) statTimesCard

/-- THE TIED CARD OF 'sheaflaw33.StatTells'. -/
def statTellsCard : Claim7 := { stood := { row := statTellsRow, standIns := [], harness := (true, "2409977406f433bdb253601cd38e30177d44d5a8451f204be670d61a4007a3fe"), looks := false }, kinds := [], alts := [], laidByText := true, laidKinds := [.data, .data, .data], laidTests := true, laidLooks := .later }
def StatTellsCardSaid : Prop := Claim7.holds Tryd.pinned (.plain (OpenSpec.ofChange statTellsSpec)) statTellsCard

/-- THE TIED CARD OF 'sheaflaw33.StatTogether'. -/
def statTogetherCard : Claim7 := { stood := { row := statTogetherRow, standIns := [], harness := (true, "2409977406f433bdb253601cd38e30177d44d5a8451f204be670d61a4007a3fe"), looks := false }, kinds := [], alts := [], laidByText := true, laidKinds := [.data, .data, .data], laidTests := true, laidLooks := .later }
def StatTogetherCardSaid : Prop := Claim7.holds Tryd.pinned (.plain (OpenSpec.ofChange statTogetherSpec)) statTogetherCard

/-- THE SECOND FORM's CARD OF 'sheaflaw33.StatShares'. -/
def statSharesUptoCard : Claim7 := { stood := { row := statSharesUptoRow, standIns := [], harness := (true, "2409977406f433bdb253601cd38e30177d44d5a8451f204be670d61a4007a3fe"), looks := false }, kinds := [], alts := [], laidByText := true, laidKinds := [.data, .data, .data], laidTests := true, laidLooks := .later }
def StatSharesUptoCardSaid : Prop := Claim7.holds Tryd.pinned (.plain (OpenSpec.upto statSharesSpec)) statSharesUptoCard

/-- THE SECOND FORM's CARD OF 'sheaflaw33.StatLess'. -/
def statLessUptoCard : Claim7 := { stood := { row := statLessUptoRow, standIns := [], harness := (true, "2409977406f433bdb253601cd38e30177d44d5a8451f204be670d61a4007a3fe"), looks := false }, kinds := [], alts := [], laidByText := true, laidKinds := [.data, .data, .data], laidTests := true, laidLooks := .later }
def StatLessUptoCardSaid : Prop := Claim7.holds Tryd.pinned (.plain (OpenSpec.upto statLessSpec)) statLessUptoCard

/-- THE SECOND FORM's CARD OF 'sheaflaw33.StatTimes'. -/
def statTimesUptoCard : Claim7 := { stood := { row := statTimesUptoRow, standIns := [], harness := (true, "2409977406f433bdb253601cd38e30177d44d5a8451f204be670d61a4007a3fe"), looks := false }, kinds := [], alts := [], laidByText := true, laidKinds := [.data, .data, .data], laidTests := true, laidLooks := .later }
def StatTimesUptoCardSaid : Prop := Claim7.holds Tryd.pinned (.plain (OpenSpec.upto statTimesSpec)) statTimesUptoCard

/-- THE SECOND FORM's CARD OF 'sheaflaw33.StatTells'. -/
def statTellsUptoCard : Claim7 := { stood := { row := statTellsUptoRow, standIns := [], harness := (true, "2409977406f433bdb253601cd38e30177d44d5a8451f204be670d61a4007a3fe"), looks := false }, kinds := [], alts := [], laidByText := true, laidKinds := [.data, .data, .data], laidTests := true, laidLooks := .later }
def StatTellsUptoCardSaid : Prop := Claim7.holds Tryd.pinned (.plain (OpenSpec.upto statTellsSpec)) statTellsUptoCard

/-- THE SECOND FORM's CARD OF 'sheaflaw33.StatTogether'. -/
def statTogetherUptoCard : Claim7 := { stood := { row := statTogetherUptoRow, standIns := [], harness := (true, "2409977406f433bdb253601cd38e30177d44d5a8451f204be670d61a4007a3fe"), looks := false }, kinds := [], alts := [], laidByText := true, laidKinds := [.data, .data, .data], laidTests := true, laidLooks := .later }
def StatTogetherUptoCardSaid : Prop := Claim7.holds Tryd.pinned (.plain (OpenSpec.upto statTogetherSpec)) statTogetherUptoCard
end Rows
end Go.Proofs.YtkfajeicbkeigaaDoor
