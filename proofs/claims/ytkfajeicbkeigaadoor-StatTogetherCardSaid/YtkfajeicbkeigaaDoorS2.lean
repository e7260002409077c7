/- The walk over the reference's Of, May. -/
import Derived.Test.YtkfajeicbkeigaaDoorS1
namespace Go.Proofs.YtkfajeicbkeigaaDoor
open Go.RowKit
theorem gcd_pos (a b : Nat) (h : 0 < b) : 0 < Nat.gcd a b := Nat.gcd_pos_of_pos_right a h
/-- the share of two numbers -/
theorem of9 (a b : Nat) (ha : a ≤ 9223372036854775807) (hb : b ≤ 9223372036854775807) (h0 : 0 < b) (w : World) :
    Calls Tryd.prog 9 #[.int .i64 a, .int .i64 b] w fun e w' => e = .returned (.tuple #[.int .i64 ((a / Nat.gcd a b : Nat) : Int), .int .i64 ((b / Nat.gcd a b : Nat) : Int)]) ∧ ∃ nq, w' = w.drewN nq := by
  have HC := Lib.hid (common36 a b ha hb w)
  have hg := gcd_pos a b h0
  have hgl : Nat.gcd a b ≤ b := Nat.gcd_le_right a h0
  obtain ⟨g, hgg⟩ : ∃ g, Nat.gcd a b = g := ⟨_, rfl⟩
  rw [hgg] at HC hg hgl ⊢
  clear hgg
  have h1 : ¬ (g : Int) = 0 := by omega
  have d1 : (a : Int).tdiv g = ((a / g : Nat) : Int) := rfl
  have d2 : (b : Int).tdiv g = ((b / g : Nat) : Int) := rfl
  have HA : Hid (a / g ≤ 9223372036854775807) := Lib.hid (Nat.le_trans (Nat.div_le_self _ _) ha)
  have HB : Hid (b / g ≤ 9223372036854775807) := Lib.hid (Nat.le_trans (Nat.div_le_self _ _) hb)
  generalize a / g = x at *
  generalize b / g = y at *
  have w1 : IntKind.i64.wrap (x : Int) = (x : Int) := IntWalk.i64_in _ (by have := HA.out; omega)
  have w2 : IntKind.i64.wrap (y : Int) = (y : Int) := IntWalk.i64_in _ (by have := HB.out; omega)
  go_enter Tryd.func9, Tryd.ntmps9
  go_wp2_with fail
  refine Calls.mono HC.out ?_
  rintro e w3 ⟨rfl, rfl⟩
  go_wp2_with fail
  go_quiet (fail)
  go_wp2_with fail
  go_ret2
  exact ⟨rfl, nq, rfl⟩
/-- may a share be? -/
def mayI (a b : Int) : Bool := decide (0 ≤ a) && decide (1 ≤ b) && decide (Nat.gcd a.toNat b.toNat = 1)
theorem may10 (a b : Int) (ha : a ≤ 9223372036854775807) (hb : b ≤ 9223372036854775807) (w : World) :
    Calls Tryd.prog 10 #[.int .i64 a, .int .i64 b] w fun e w' => e = .returned (.bool (mayI a b)) ∧ w' = w := by
  by_cases h1 : 0 ≤ a
  · by_cases h2 : 1 ≤ b
    · obtain ⟨x, rfl⟩ : ∃ x : Nat, a = x := ⟨a.toNat, by omega⟩
      obtain ⟨y, rfl⟩ : ∃ y : Nat, b = y := ⟨b.toNat, by omega⟩
      have HC := Lib.hid (common36 x y (by omega) (by omega) w)
      have HM : Hid (mayI x y = (((Nat.gcd x y : Nat) : Int) == 1)) := Lib.hid (by
        unfold mayI
        simp only [Int.toNat_natCast]
        rw [show decide ((0 : Int) ≤ (x : Int)) = true by simp, show decide ((1 : Int) ≤ (y : Int)) = true by simpa using h2]
        rw [Bool.eq_iff_iff]
        simp
        omega)
      rw [HM.out]
      generalize Nat.gcd x y = g at *
      go_enter Tryd.func10, Tryd.ntmps10
      go_wp2_with fail
      refine Calls.mono HC.out ?_
      rintro e w3 ⟨rfl, rfl⟩
      go_wp2_with fail
      go_ret
      exact ⟨rfl, rfl⟩
    · have HM : Hid (mayI a b = false) := Lib.hid (by unfold mayI; simp [h2])
      rw [HM.out]
      go_enter Tryd.func10, Tryd.ntmps10
      go_wp2_with fail
      go_ret
      exact ⟨rfl, rfl⟩
  · have HM : Hid (mayI a b = false) := Lib.hid (by unfold mayI; simp [h1])
    rw [HM.out]
    go_enter Tryd.func10, Tryd.ntmps10
    go_wp2_with fail
    go_ret
    exact ⟨rfl, rfl⟩
end Go.Proofs.YtkfajeicbkeigaaDoor
