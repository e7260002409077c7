/-
  No cell of these rows narrows 'for every input' (looked for: loops, veiled, ifaces, maps, wideKeys, modest, calm, conditions, laid).
  DERIVED. THE GIVEN ROWS OF THIS SEAT. 4 by the template 'for every input the law returns true; each argument reads behind the call as it read before'; 0 by the template 'total and deterministic' (their statements: YtgdljjoaiogpfaaTotals.lean).
  GIVEN WITH THE SEED: the statements are not yours to turn. If you find one false, say at which input.
  Laid BY PROGRAM, IN A SANDBOX (cutbox-rows.mjs): the forced cells as the released guide's own fill.sh prints them over the translation 79e67f9bd77f00e6… (all of the seat's roots in one cut). By AI agents, Wed Nov 11 2026. No macro, syntax, notation, axiom, sorry.
-/
import Derived.Test.YtgdljjoaiogpfaaChecked
import GoSem.Claim
import GoSem.ClaimJoined
import GoSem.ClaimMapViews
import Derived.JoinedTies
import Derived.KernelRfl
namespace Go.Proofs.Ytgdljjoaiogpfaa
/- THE CELL 'sum', in the pinned program and in every row, IS THE sha256 OF THE DUMP (.gsa) THAT YtgdljjoaiogpfaaProg.lean LOADS. Nothing in Lean hashes anything: it is a label: what it is worth is what the hold of that sum in a sandbox is worth. -/
noncomputable def Try.pinned : Pinned := { name := "ytgdljjoaiogpfaa", sum := "79e67f9bd77f00e6e8e36453e265e5b6f0eb83edb6773cfa4c6fcdc533475d7d", checked := Try.checked }
namespace Rows
def none {H : Type} : Left H := { results := [], args := [] }

/-- 'sheaflaw27.CompactGroups': WHATEVER THE INPUT: true; the input reads as it did. -/
def compactGroupsSpec : ChangeSpec := { name := "compactGroups", fn := fun _ => fun
  | [d1, d2, d3, d4] => { results := [.lit (.bool true)], args := [d1, d2, d3, d4] }
  | _ => none }
def compactGroupsRow : OpenClaim := { program := "ytgdljjoaiogpfaa", sum := "79e67f9bd77f00e6e8e36453e265e5b6f0eb83edb6773cfa4c6fcdc533475d7d", func := "sheaf/sheaflaw27.CompactGroups", spec := "compactGroups", unfollowed := true, recurses := true, plainKeys := false, apart := false }
def CompactGroupsSaid : Prop := compactGroupsRow.holds Try.pinned (OpenSpec.ofChange compactGroupsSpec)

/-- ITS FALSE NEIGHBOUR: 'it returns false'. Refute it at one input. -/
def compactGroupsWrong : ChangeSpec := { name := "compactGroups", fn := fun _ => fun
  | [d1, d2, d3, d4] => { results := [.lit (.bool false)], args := [d1, d2, d3, d4] }
  | _ => none }
def CompactGroupsWrongFalsely : Prop := compactGroupsRow.holds Try.pinned (OpenSpec.ofChange compactGroupsWrong)

/-- 'sheaflaw27.CompactTurns': WHATEVER THE INPUT: true; the input reads as it did. -/
def compactTurnsSpec : ChangeSpec := { name := "compactTurns", fn := fun _ => fun
  | [d1, d2, d3, d4] => { results := [.lit (.bool true)], args := [d1, d2, d3, d4] }
  | _ => none }
def compactTurnsRow : OpenClaim := { program := "ytgdljjoaiogpfaa", sum := "79e67f9bd77f00e6e8e36453e265e5b6f0eb83edb6773cfa4c6fcdc533475d7d", func := "sheaf/sheaflaw27.CompactTurns", spec := "compactTurns", unfollowed := true, recurses := true, plainKeys := false, apart := false }
def CompactTurnsSaid : Prop := compactTurnsRow.holds Try.pinned (OpenSpec.ofChange compactTurnsSpec)

/-- ITS FALSE NEIGHBOUR: 'it returns false'. Refute it at one input. -/
def compactTurnsWrong : ChangeSpec := { name := "compactTurns", fn := fun _ => fun
  | [d1, d2, d3, d4] => { results := [.lit (.bool false)], args := [d1, d2, d3, d4] }
  | _ => none }
def CompactTurnsWrongFalsely : Prop := compactTurnsRow.holds Try.pinned (OpenSpec.ofChange compactTurnsWrong)

/-- 'sheaflaw27.CompactDone': WHATEVER THE INPUT: true; the input reads as it did. -/
def compactDoneSpec : ChangeSpec := { name := "compactDone", fn := fun _ => fun
  | [d1, d2, d3, d4] => { results := [.lit (.bool true)], args := [d1, d2, d3, d4] }
  | _ => none }
def compactDoneRow : OpenClaim := { program := "ytgdljjoaiogpfaa", sum := "79e67f9bd77f00e6e8e36453e265e5b6f0eb83edb6773cfa4c6fcdc533475d7d", func := "sheaf/sheaflaw27.CompactDone", spec := "compactDone", unfollowed := true, recurses := true, plainKeys := false, apart := false }
def CompactDoneSaid : Prop := compactDoneRow.holds Try.pinned (OpenSpec.ofChange compactDoneSpec)

/-- ITS FALSE NEIGHBOUR: 'it returns false'. Refute it at one input. -/
def compactDoneWrong : ChangeSpec := { name := "compactDone", fn := fun _ => fun
  | [d1, d2, d3, d4] => { results := [.lit (.bool false)], args := [d1, d2, d3, d4] }
  | _ => none }
def CompactDoneWrongFalsely : Prop := compactDoneRow.holds Try.pinned (OpenSpec.ofChange compactDoneWrong)

/-- 'sheaflaw27.CompactTells': WHATEVER THE INPUT: true; the input reads as it did. -/
def compactTellsSpec : ChangeSpec := { name := "compactTells", fn := fun _ => fun
  | [d1, d2] => { results := [.lit (.bool true)], args := [d1, d2] }
  | _ => none }
def compactTellsRow : OpenClaim := { program := "ytgdljjoaiogpfaa", sum := "79e67f9bd77f00e6e8e36453e265e5b6f0eb83edb6773cfa4c6fcdc533475d7d", func := "sheaf/sheaflaw27.CompactTells", spec := "compactTells", unfollowed := true, recurses := true, plainKeys := false, apart := false }
def CompactTellsSaid : Prop := compactTellsRow.holds Try.pinned (OpenSpec.ofChange compactTellsSpec)

/-- ITS FALSE NEIGHBOUR: 'it returns false'. Refute it at one input. -/
def compactTellsWrong : ChangeSpec := { name := "compactTells", fn := fun _ => fun
  | [d1, d2] => { results := [.lit (.bool false)], args := [d1, d2] }
  | _ => none }
def CompactTellsWrongFalsely : Prop := compactTellsRow.holds Try.pinned (OpenSpec.ofChange compactTellsWrong)

/- THE SECOND FORM. 'bulk': how many values and letters a reading holds, each counted each time it is reached (what is shared counts as often as it is met; a slice's spare places count too). A statement '..UptoSaid' is the law's where the arguments, and the package variables that the reading takes, are together of bulk at most 1048576: NARROWER than '..Said'. Prove '..Said' where nothing that the law and all that it calls make is longer than what came in: it says more and counts as full. Else prove '..UptoSaid'. A law counts once. -/
mutual
def uptoBulk {H : Type} : DataW H → Nat
  | .lit (.string bytes) => bytes.length + 1
  | .lit _ => 1
  | .nil => 1
  | .ptr d => uptoBulk d + 1
  | .slice elems spare => uptoBulkAll elems + uptoBulkAll spare + 1
  | .agg parts => uptoBulkAll parts + 1
  | .iface _ d => uptoBulk d + 1
  | .map entries => uptoBulkEntries entries + 1
  | .held _ => 1
def uptoBulkAll {H : Type} : List (DataW H) → Nat
  | [] => 0
  | d :: r => uptoBulk d + uptoBulkAll r
def uptoBulkEntries {H : Type} : List (Lit × DataW H) → Nat
  | [] => 0
  | x :: r => uptoBulkEntry x + uptoBulkEntries r
def uptoBulkEntry {H : Type} : Lit × DataW H → Nat
  | (.string bytes, d) => bytes.length + uptoBulk d + 1
  | (_, d) => uptoBulk d + 1
 end
def uptoSmall : (H : Type) → List (DataW H) → Bool := fun _ ds => decide (uptoBulkAll ds ≤ 1048576)
def OpenSpec.upto (s : _root_.Go.ChangeSpec) : _root_.Go.OpenSpec := { _root_.Go.OpenSpec.ofChange s with cond := some uptoSmall }

/-- 'sheaflaw27.CompactGroups', WHERE WHAT IT READS IS OF BULK AT MOST 1048576: true; the input reads as it did. -/
def compactGroupsUptoRow : OpenClaim := { program := "ytgdljjoaiogpfaa", sum := "79e67f9bd77f00e6e8e36453e265e5b6f0eb83edb6773cfa4c6fcdc533475d7d", func := "sheaf/sheaflaw27.CompactGroups", spec := "compactGroups", unfollowed := true, recurses := true, plainKeys := false, apart := false, narrowed := true }
def CompactGroupsUptoSaid : Prop := compactGroupsUptoRow.holds Try.pinned (OpenSpec.upto compactGroupsSpec)

/-- 'sheaflaw27.CompactTurns', WHERE WHAT IT READS IS OF BULK AT MOST 1048576: true; the input reads as it did. -/
def compactTurnsUptoRow : OpenClaim := { program := "ytgdljjoaiogpfaa", sum := "79e67f9bd77f00e6e8e36453e265e5b6f0eb83edb6773cfa4c6fcdc533475d7d", func := "sheaf/sheaflaw27.CompactTurns", spec := "compactTurns", unfollowed := true, recurses := true, plainKeys := false, apart := false, narrowed := true }
def CompactTurnsUptoSaid : Prop := compactTurnsUptoRow.holds Try.pinned (OpenSpec.upto compactTurnsSpec)

/-- 'sheaflaw27.CompactDone', WHERE WHAT IT READS IS OF BULK AT MOST 1048576: true; the input reads as it did. -/
def compactDoneUptoRow : OpenClaim := { program := "ytgdljjoaiogpfaa", sum := "79e67f9bd77f00e6e8e36453e265e5b6f0eb83edb6773cfa4c6fcdc533475d7d", func := "sheaf/sheaflaw27.CompactDone", spec := "compactDone", unfollowed := true, recurses := true, plainKeys := false, apart := false, narrowed := true }
def CompactDoneUptoSaid : Prop := compactDoneUptoRow.holds Try.pinned (OpenSpec.upto compactDoneSpec)

/-- 'sheaflaw27.CompactTells', WHERE WHAT IT READS IS OF BULK AT MOST 1048576: true; the input reads as it did. -/
def compactTellsUptoRow : OpenClaim := { program := "ytgdljjoaiogpfaa", sum := "79e67f9bd77f00e6e8e36453e265e5b6f0eb83edb6773cfa4c6fcdc533475d7d", func := "sheaf/sheaflaw27.CompactTells", spec := "compactTells", unfollowed := true, recurses := true, plainKeys := false, apart := false, narrowed := true }
def CompactTellsUptoSaid : Prop := compactTellsUptoRow.holds Try.pinned (OpenSpec.upto compactTellsSpec)

end Rows
end Go.Proofs.Ytgdljjoaiogpfaa
