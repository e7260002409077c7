/- The walk over common, the program's and the reference's: the greatest common divisor. -/
import Derived.Test.YtkfajeicbkeigaaDoorRows
import Derived.WalkKit
import Derived.ProofKit
import Derived.Below
import Derived.WalkSpells
import Derived.WalkLawsBesides
import Derived.Deep.QuietTactic
import Derived.BigQuiet
import Derived.Lib.Hide
import Derived.Deep.LoopGhost
import Derived.BigRegion
namespace Go.Proofs.YtkfajeicbkeigaaDoor
open Go.RowKit
theorem gcd_step (x y : Nat) : Nat.gcd y (x % y) = Nat.gcd x y := by
  rw [Nat.gcd_comm x y, Nat.gcd_rec y x, Nat.gcd_comm]
set_option maxHeartbeats 1000000 in
theorem common36 (a b : Nat) (ha : a ≤ 9223372036854775807) (hb : b ≤ 9223372036854775807) (w : World) : Calls Tryd.prog 36 #[.int .i64 a, .int .i64 b] w fun e w' => e = .returned (.int .i64 (Nat.gcd a b : Int)) ∧ w' = w := by
  obtain ⟨g, hg⟩ : ∃ g, Nat.gcd a b = g := ⟨_, rfl⟩
  have HG := Lib.hid hg
  rw [hg]
  clear hg
  go_enter Tryd.func36, Tryd.ntmps36
  go_wp2_with fail
  go_loopg [0, 1] b (fun gk u v wr => ∃ x y : Nat, gk = y ∧ u = .int .i64 (x : Int) ∧ v = .int .i64 (y : Int) ∧ Nat.gcd x y = g ∧ x ≤ 9223372036854775807 ∧ y ≤ 9223372036854775807 ∧ wr = w)
  case atStart => exact ⟨a, b, rfl, rfl, rfl, HG.out, ha, hb, rfl⟩
  case round =>
    obtain ⟨x, y, rfl, rfl, rfl, hgg, hx, hy, rfl⟩ := hrel
    have HGG := Lib.hid hgg
    clear hgg
    by_cases h0 : 0 < gk
    · have h1 : (0 : Int) < (gk : Int) := by omega
      have hm : (x : Int) % (gk : Int) = ((x % gk : Nat) : Int) := by omega
      have hlt : x % gk < gk := Nat.mod_lt _ h0
      go_wp2_with fail
      go_roundg (x % gk)
      case measure => exact hlt
      case rel => exact ⟨gk, x % gk, rfl, rfl, by go_num, by rw [gcd_step]; exact HGG.out, hy, by omega, rfl⟩
    · have h1 : ¬ (0 : Int) < (gk : Int) := by omega
      go_wp2_with fail
      go_ret
      have : gk = 0 := by omega
      subst this
      have := HGG.out
      simp at this
      exact ⟨by rw [this]; rfl, rfl⟩
set_option maxHeartbeats 1000000 in
theorem common35 (a b : Nat) (ha : a ≤ 9223372036854775807) (hb : b ≤ 9223372036854775807) (w : World) : Calls Tryd.prog 35 #[.int .i64 a, .int .i64 b] w fun e w' => e = .returned (.int .i64 (Nat.gcd a b : Int)) ∧ ∃ nq, w' = w.drewN nq := by
  obtain ⟨g, hg⟩ : ∃ g, Nat.gcd a b = g := ⟨_, rfl⟩
  have HG := Lib.hid hg
  rw [hg]
  clear hg
  go_enter Tryd.func35, Tryd.ntmps35
  go_wp2_with fail
  go_loopg [0, 1] b (fun gk u v wr => ∃ x y : Nat, gk = y ∧ u = .int .i64 (x : Int) ∧ v = .int .i64 (y : Int) ∧ Nat.gcd x y = g ∧ x ≤ 9223372036854775807 ∧ y ≤ 9223372036854775807 ∧ ∃ nq, wr = w.drewN nq)
  case atStart => exact ⟨a, b, rfl, rfl, rfl, HG.out, ha, hb, 0, rfl⟩
  case round =>
    obtain ⟨x, y, rfl, rfl, rfl, hgg, hx, hy, n0, hn0⟩ := hrel
    have HN0 := Lib.hid hn0
    clear hn0
    have HGG := Lib.hid hgg
    clear hgg
    by_cases h0 : 0 < gk
    · have h1 : (0 : Int) < (gk : Int) := by omega
      have hm : (x : Int) % (gk : Int) = ((x % gk : Nat) : Int) := by omega
      have hlt : x % gk < gk := Nat.mod_lt _ h0
      go_wp2_with fail
      go_quiet (fail)
      go_wp2_with fail
      go_roundg (x % gk)
      case measure => exact hlt
      case rel => exact ⟨gk, x % gk, rfl, rfl, by go_num, by rw [gcd_step]; exact HGG.out, hy, by omega, n0 + nq, by rw [HN0.out, World.drewN_drewN]⟩
    · have h1 : ¬ (0 : Int) < (gk : Int) := by omega
      go_wp2_with fail
      go_ret
      have : gk = 0 := by omega
      subst this
      have := HGG.out
      simp at this
      exact ⟨by rw [this]; rfl, n0, HN0.out⟩
end Go.Proofs.YtkfajeicbkeigaaDoor
