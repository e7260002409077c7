/- Words of calls, digits of numbers; the walks over Word, named, number, value. -/
import Derived.Test.YtjakkmioofbcaaaDoorRows
import Derived.WalkKit
import Derived.WalkSpells
import Derived.WalkLawsBesides
import Derived.Deep.QuietTactic
import Derived.BigQuiet
import Derived.Lib.Hide
import Derived.Deep.LoopGhost
import Derived.BigRegion
namespace Go.Proofs.YtjakkmioofbcaaaDoor
open Go.RowKit
def str (l : List UInt8) : ByteArray := ⟨l.toArray⟩
/-- the word of a call -/
def wordL (op : Int) : List UInt8 :=
  if op = 1 then [98, 101, 103, 105, 110] else if op = 2 then [119, 114, 105, 116, 101] else if op = 3 then [99, 111, 109, 109, 105, 116] else if op = 4 then [97, 98, 111, 114, 116] else
  if op = 5 then [114, 101, 115, 116, 111, 114, 101] else if op = 6 then [100, 101, 108, 101, 116, 101] else if op = 7 then [108, 105, 115, 116] else if op = 8 then [112, 97, 115, 115] else []
set_option maxHeartbeats 1000000 in
theorem word13 (op : Int) (w : World) : Calls Tryd.prog 51 #[.int .i64 op] w fun e w' => e = .returned (.string (str (wordL op))) ∧ w' = w := by
  have h : op = 1 ∨ op = 2 ∨ op = 3 ∨ op = 4 ∨ op = 5 ∨ op = 6 ∨ op = 7 ∨ op = 8 ∨ (op ≠ 1 ∧ op ≠ 2 ∧ op ≠ 3 ∧ op ≠ 4 ∧ op ≠ 5 ∧ op ≠ 6 ∧ op ≠ 7 ∧ op ≠ 8) := by omega
  rcases h with rfl | rfl | rfl | rfl | rfl | rfl | rfl | rfl | ⟨h1, h2, h3, h4, h5, h6, h7, h8⟩
  all_goals
    go_enter Tryd.func51, Tryd.ntmps51
    go_wp2
    go_ret
  all_goals first
    | exact ⟨rfl, rfl⟩
    | exact ⟨by simp [wordL, *]; rfl, rfl⟩
theorem named25 (op : Int) (w : World) : Calls Tryd.prog 52 #[.int .i64 op] w fun e w' => e = .returned (.bool (decide (op = 1 ∨ op = 5 ∨ op = 6))) ∧ w' = w := by
  have h : op = 1 ∨ op = 5 ∨ op = 6 ∨ (op ≠ 1 ∧ op ≠ 5 ∧ op ≠ 6) := by omega
  rcases h with rfl | rfl | rfl | ⟨h1, h5, h6⟩
  all_goals
    go_enter Tryd.func52, Tryd.ntmps52
    go_wp2
    go_ret
  all_goals first
    | exact ⟨rfl, rfl⟩
    | exact ⟨by simp [*], rfl⟩
theorem rnamed39 (op : Int) (w : World) : Calls Tryd.prog 60 #[.int .i64 op] w fun e w' => e = .returned (.bool (decide (op = 1 ∨ op = 5 ∨ op = 6))) ∧ w' = w := by
  have h : op = 1 ∨ op = 5 ∨ op = 6 ∨ (op ≠ 1 ∧ op ≠ 5 ∧ op ≠ 6) := by omega
  rcases h with rfl | rfl | rfl | ⟨h1, h5, h6⟩
  all_goals
    go_enter Tryd.func60, Tryd.ntmps60
    go_wp2
    go_ret
  all_goals first
    | exact ⟨rfl, rfl⟩
    | exact ⟨by simp [*], rfl⟩
set_option maxHeartbeats 1000000 in
theorem rword14 (op : Int) (w : World) : Calls Tryd.prog 59 #[.int .i64 op] w fun e w' => e = .returned (.string (str (wordL op))) ∧ Below w.heap.size w w' := by
  have h : op = 1 ∨ op = 2 ∨ op = 3 ∨ op = 4 ∨ op = 5 ∨ op = 6 ∨ op = 7 ∨ op = 8 ∨ op < 1 ∨ 8 < op := by omega
  rcases h with rfl | rfl | rfl | rfl | rfl | rfl | rfl | rfl | h | h
  all_goals
    go_enter Tryd.func59, Tryd.ntmps59
    go_wp2
    go_ret
  all_goals first
    | exact ⟨rfl, (Below.refl _ w).alloc (Nat.le_refl _) _⟩
    | exact ⟨by unfold wordL; simp only [show op ≠ 1 by omega, show op ≠ 2 by omega, show op ≠ 3 by omega, show op ≠ 4 by omega, show op ≠ 5 by omega, show op ≠ 6 by omega, show op ≠ 7 by omega, show op ≠ 8 by omega, if_false]; rfl, Below.refl _ w⟩
end Go.Proofs.YtjakkmioofbcaaaDoor
