/-
  No cell of these rows narrows 'for every input' (looked for: loops, veiled, ifaces, maps, wideKeys, modest, calm, conditions, laid).
  DERIVED. THE GIVEN ROWS OF THIS SEAT. 6 by the template 'for every input the law returns true; each argument reads behind the call as it read before'; 0 by the template 'total and deterministic' (their statements: YtijdkgklajdbnaaTotals.lean).
  GIVEN WITH THE SEED: the statements are not yours to turn. If you find one false, say at which input.
  Laid BY PROGRAM, IN A SANDBOX (cutbox-rows.mjs): the forced cells as the released guide's own fill.sh prints them over the translation 3ee7868b7dadd2cd… (all of the seat's roots in one cut). By AI agents, Wed Nov 11 2026. No macro, syntax, notation, axiom, sorry.
-/
import Derived.Test.YtijdkgklajdbnaaChecked
import GoSem.Claim
import GoSem.ClaimJoined
import GoSem.ClaimMapViews
import Derived.JoinedTies
import Derived.KernelRfl
namespace Go.Proofs.Ytijdkgklajdbnaa
/- THE CELL 'sum', in the pinned program and in every row, IS THE sha256 OF THE DUMP (.gsa) THAT YtijdkgklajdbnaaProg.lean LOADS. Nothing in Lean hashes anything: it is a label: what it is worth is what the hold of that sum in a sandbox is worth. -/
noncomputable def Try.pinned : Pinned := { name := "ytijdkgklajdbnaa", sum := "3ee7868b7dadd2cd19068ba63e9f7f2d4f7594e0d1016c2756d287021768736e", checked := Try.checked }
namespace Rows
def none {H : Type} : Left H := { results := [], args := [] }

/-- 'sheaflaw18.ChampScores': WHATEVER THE INPUT: true; the input reads as it did. -/
def champScoresSpec : ChangeSpec := { name := "champScores", fn := fun _ => fun
  | [d1, d2, d3] => { results := [.lit (.bool true)], args := [d1, d2, d3] }
  | _ => none }
def champScoresRow : OpenClaim := { program := "ytijdkgklajdbnaa", sum := "3ee7868b7dadd2cd19068ba63e9f7f2d4f7594e0d1016c2756d287021768736e", func := "sheaf/sheaflaw18.ChampScores", spec := "champScores", inPlace := ["internal/bytealg.Compare"], unfollowed := true, recurses := true, apart := false }
def ChampScoresSaid : Prop := champScoresRow.holds Try.pinned (OpenSpec.ofChange champScoresSpec)

/-- ITS FALSE NEIGHBOUR: 'it returns false'. Refute it at one input. -/
def champScoresWrong : ChangeSpec := { name := "champScores", fn := fun _ => fun
  | [d1, d2, d3] => { results := [.lit (.bool false)], args := [d1, d2, d3] }
  | _ => none }
def ChampScoresWrongFalsely : Prop := champScoresRow.holds Try.pinned (OpenSpec.ofChange champScoresWrong)

/-- 'sheaflaw18.ChampCovers': WHATEVER THE INPUT: true; the input reads as it did. -/
def champCoversSpec : ChangeSpec := { name := "champCovers", fn := fun _ => fun
  | [d1, d2, d3] => { results := [.lit (.bool true)], args := [d1, d2, d3] }
  | _ => none }
def champCoversRow : OpenClaim := { program := "ytijdkgklajdbnaa", sum := "3ee7868b7dadd2cd19068ba63e9f7f2d4f7594e0d1016c2756d287021768736e", func := "sheaf/sheaflaw18.ChampCovers", spec := "champCovers", inPlace := ["internal/bytealg.Compare"], unfollowed := true, recurses := true, apart := false }
def ChampCoversSaid : Prop := champCoversRow.holds Try.pinned (OpenSpec.ofChange champCoversSpec)

/-- ITS FALSE NEIGHBOUR: 'it returns false'. Refute it at one input. -/
def champCoversWrong : ChangeSpec := { name := "champCovers", fn := fun _ => fun
  | [d1, d2, d3] => { results := [.lit (.bool false)], args := [d1, d2, d3] }
  | _ => none }
def ChampCoversWrongFalsely : Prop := champCoversRow.holds Try.pinned (OpenSpec.ofChange champCoversWrong)

/-- 'sheaflaw18.ChampChooses': WHATEVER THE INPUT: true; the input reads as it did. -/
def champChoosesSpec : ChangeSpec := { name := "champChooses", fn := fun _ => fun
  | [d1, d2, d3] => { results := [.lit (.bool true)], args := [d1, d2, d3] }
  | _ => none }
def champChoosesRow : OpenClaim := { program := "ytijdkgklajdbnaa", sum := "3ee7868b7dadd2cd19068ba63e9f7f2d4f7594e0d1016c2756d287021768736e", func := "sheaf/sheaflaw18.ChampChooses", spec := "champChooses", inPlace := ["internal/bytealg.Compare"], unfollowed := true, recurses := true, apart := false }
def ChampChoosesSaid : Prop := champChoosesRow.holds Try.pinned (OpenSpec.ofChange champChoosesSpec)

/-- ITS FALSE NEIGHBOUR: 'it returns false'. Refute it at one input. -/
def champChoosesWrong : ChangeSpec := { name := "champChooses", fn := fun _ => fun
  | [d1, d2, d3] => { results := [.lit (.bool false)], args := [d1, d2, d3] }
  | _ => none }
def ChampChoosesWrongFalsely : Prop := champChoosesRow.holds Try.pinned (OpenSpec.ofChange champChoosesWrong)

/-- 'sheaflaw18.ChampAsks': WHATEVER THE INPUT: true; the input reads as it did. -/
def champAsksSpec : ChangeSpec := { name := "champAsks", fn := fun _ => fun
  | [d1, d2, d3] => { results := [.lit (.bool true)], args := [d1, d2, d3] }
  | _ => none }
def champAsksRow : OpenClaim := { program := "ytijdkgklajdbnaa", sum := "3ee7868b7dadd2cd19068ba63e9f7f2d4f7594e0d1016c2756d287021768736e", func := "sheaf/sheaflaw18.ChampAsks", spec := "champAsks", inPlace := ["internal/bytealg.Compare"], unfollowed := true, recurses := true, apart := false }
def ChampAsksSaid : Prop := champAsksRow.holds Try.pinned (OpenSpec.ofChange champAsksSpec)

/-- ITS FALSE NEIGHBOUR: 'it returns false'. Refute it at one input. -/
def champAsksWrong : ChangeSpec := { name := "champAsks", fn := fun _ => fun
  | [d1, d2, d3] => { results := [.lit (.bool false)], args := [d1, d2, d3] }
  | _ => none }
def ChampAsksWrongFalsely : Prop := champAsksRow.holds Try.pinned (OpenSpec.ofChange champAsksWrong)

/-- 'sheaflaw18.ChampNew': WHATEVER THE INPUT: true; the input reads as it did. -/
def champNewSpec : ChangeSpec := { name := "champNew", fn := fun _ => fun
  | [d1, d2, d3] => { results := [.lit (.bool true)], args := [d1, d2, d3] }
  | _ => none }
def champNewRow : OpenClaim := { program := "ytijdkgklajdbnaa", sum := "3ee7868b7dadd2cd19068ba63e9f7f2d4f7594e0d1016c2756d287021768736e", func := "sheaf/sheaflaw18.ChampNew", spec := "champNew", inPlace := ["internal/bytealg.Compare"], unfollowed := true, recurses := true, apart := false }
def ChampNewSaid : Prop := champNewRow.holds Try.pinned (OpenSpec.ofChange champNewSpec)

/-- ITS FALSE NEIGHBOUR: 'it returns false'. Refute it at one input. -/
def champNewWrong : ChangeSpec := { name := "champNew", fn := fun _ => fun
  | [d1, d2, d3] => { results := [.lit (.bool false)], args := [d1, d2, d3] }
  | _ => none }
def ChampNewWrongFalsely : Prop := champNewRow.holds Try.pinned (OpenSpec.ofChange champNewWrong)

/-- 'sheaflaw18.ChampRanks': WHATEVER THE INPUT: true; the input reads as it did. -/
def champRanksSpec : ChangeSpec := { name := "champRanks", fn := fun _ => fun
  | [d] => { results := [.lit (.bool true)], args := [d] }
  | _ => none }
def champRanksRow : OpenClaim := { program := "ytijdkgklajdbnaa", sum := "3ee7868b7dadd2cd19068ba63e9f7f2d4f7594e0d1016c2756d287021768736e", func := "sheaf/sheaflaw18.ChampRanks", spec := "champRanks", inPlace := ["internal/bytealg.Compare"], unfollowed := true, recurses := true, apart := false }
def ChampRanksSaid : Prop := champRanksRow.holds Try.pinned (OpenSpec.ofChange champRanksSpec)

/-- ITS FALSE NEIGHBOUR: 'it returns false'. Refute it at one input. -/
def champRanksWrong : ChangeSpec := { name := "champRanks", fn := fun _ => fun
  | [d] => { results := [.lit (.bool false)], args := [d] }
  | _ => none }
def ChampRanksWrongFalsely : Prop := champRanksRow.holds Try.pinned (OpenSpec.ofChange champRanksWrong)

/- THE SECOND FORM. 'bulk': how many values and letters a reading holds, each counted each time it is reached (what is shared counts as often as it is met; a slice's spare places count too). A statement '..UptoSaid' is the law's where the arguments, and the package variables that the reading takes, are together of bulk at most 1048576: NARROWER than '..Said'. Prove '..Said' where nothing that the law and all that it calls make is longer than what came in: it says more and counts as full. Else prove '..UptoSaid'. A law counts once. -/
mutual
def uptoBulk {H : Type} : DataW H → Nat
  | .lit (.string bytes) => bytes.length + 1
  | .lit _ => 1
  | .nil => 1
  | .ptr d => uptoBulk d + 1
  | .slice elems spare => uptoBulkAll elems + uptoBulkAll spare + 1
  | .agg parts => uptoBulkAll parts + 1
  | .iface _ d => uptoBulk d + 1
  | .map entries => uptoBulkEntries entries + 1
  | .held _ => 1
def uptoBulkAll {H : Type} : List (DataW H) → Nat
  | [] => 0
  | d :: r => uptoBulk d + uptoBulkAll r
def uptoBulkEntries {H : Type} : List (Lit × DataW H) → Nat
  | [] => 0
  | x :: r => uptoBulkEntry x + uptoBulkEntries r
def uptoBulkEntry {H : Type} : Lit × DataW H → Nat
  | (.string bytes, d) => bytes.length + uptoBulk d + 1
  | (_, d) => uptoBulk d + 1
 end
def uptoSmall : (H : Type) → List (DataW H) → Bool := fun _ ds => decide (uptoBulkAll ds ≤ 1048576)
def OpenSpec.upto (s : _root_.Go.ChangeSpec) : _root_.Go.OpenSpec := { _root_.Go.OpenSpec.ofChange s with cond := some uptoSmall }

/-- 'sheaflaw18.ChampScores', WHERE WHAT IT READS IS OF BULK AT MOST 1048576: true; the input reads as it did. -/
def champScoresUptoRow : OpenClaim := { program := "ytijdkgklajdbnaa", sum := "3ee7868b7dadd2cd19068ba63e9f7f2d4f7594e0d1016c2756d287021768736e", func := "sheaf/sheaflaw18.ChampScores", spec := "champScores", inPlace := ["internal/bytealg.Compare"], unfollowed := true, recurses := true, apart := false, narrowed := true }
def ChampScoresUptoSaid : Prop := champScoresUptoRow.holds Try.pinned (OpenSpec.upto champScoresSpec)

/-- 'sheaflaw18.ChampCovers', WHERE WHAT IT READS IS OF BULK AT MOST 1048576: true; the input reads as it did. -/
def champCoversUptoRow : OpenClaim := { program := "ytijdkgklajdbnaa", sum := "3ee7868b7dadd2cd19068ba63e9f7f2d4f7594e0d1016c2756d287021768736e", func := "sheaf/sheaflaw18.ChampCovers", spec := "champCovers", inPlace := ["internal/bytealg.Compare"], unfollowed := true, recurses := true, apart := false, narrowed := true }
def ChampCoversUptoSaid : Prop := champCoversUptoRow.holds Try.pinned (OpenSpec.upto champCoversSpec)

/-- 'sheaflaw18.ChampChooses', WHERE WHAT IT READS IS OF BULK AT MOST 1048576: true; the input reads as it did. -/
def champChoosesUptoRow : OpenClaim := { program := "ytijdkgklajdbnaa", sum := "3ee7868b7dadd2cd19068ba63e9f7f2d4f7594e0d1016c2756d287021768736e", func := "sheaf/sheaflaw18.ChampChooses", spec := "champChooses", inPlace := ["internal/bytealg.Compare"], unfollowed := true, recurses := true, apart := false, narrowed := true }
def ChampChoosesUptoSaid : Prop := champChoosesUptoRow.holds Try.pinned (OpenSpec.upto champChoosesSpec)

/-- 'sheaflaw18.ChampAsks', WHERE WHAT IT READS IS OF BULK AT MOST 1048576: true; the input reads as it did. -/
def champAsksUptoRow : OpenClaim := { program := "ytijdkgklajdbnaa", sum := "3ee7868b7dadd2cd19068ba63e9f7f2d4f7594e0d1016c2756d287021768736e", func := "sheaf/sheaflaw18.ChampAsks", spec := "champAsks", inPlace := ["internal/bytealg.Compare"], unfollowed := true, recurses := true, apart := false, narrowed := true }
def ChampAsksUptoSaid : Prop := champAsksUptoRow.holds Try.pinned (OpenSpec.upto champAsksSpec)

/-- 'sheaflaw18.ChampNew', WHERE WHAT IT READS IS OF BULK AT MOST 1048576: true; the input reads as it did. -/
def champNewUptoRow : OpenClaim := { program := "ytijdkgklajdbnaa", sum := "3ee7868b7dadd2cd19068ba63e9f7f2d4f7594e0d1016c2756d287021768736e", func := "sheaf/sheaflaw18.ChampNew", spec := "champNew", inPlace := ["internal/bytealg.Compare"], unfollowed := true, recurses := true, apart := false, narrowed := true }
def ChampNewUptoSaid : Prop := champNewUptoRow.holds Try.pinned (OpenSpec.upto champNewSpec)

/-- 'sheaflaw18.ChampRanks', WHERE WHAT IT READS IS OF BULK AT MOST 1048576: true; the input reads as it did. -/
def champRanksUptoRow : OpenClaim := { program := "ytijdkgklajdbnaa", sum := "3ee7868b7dadd2cd19068ba63e9f7f2d4f7594e0d1016c2756d287021768736e", func := "sheaf/sheaflaw18.ChampRanks", spec := "champRanks", inPlace := ["internal/bytealg.Compare"], unfollowed := true, recurses := true, apart := false, narrowed := true }
def ChampRanksUptoSaid : Prop := champRanksUptoRow.holds Try.pinned (OpenSpec.upto champRanksSpec)

end Rows
end Go.Proofs.Ytijdkgklajdbnaa
