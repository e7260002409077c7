/- The walk over the reference's Less: by whole parts, then by the rests turned over. -/
import Derived.Test.YtkfajeicbkeigaaDoorS5
namespace Go.Proofs.YtkfajeicbkeigaaDoor
open Go.RowKit
theorem less_div {a b c d : Nat} (hb : 0 < b) (hd : 0 < d) (h : a / b ≠ c / d) : (a * d < c * b) ↔ a / b < c / d := by
  have e1 := Nat.div_add_mod a b
  have e2 := Nat.div_add_mod c d
  have l1 := Nat.mod_lt a hb
  have l2 := Nat.mod_lt c hd
  constructor
  · intro hl
    rcases Nat.lt_or_ge (a / b) (c / d) with h1 | h1
    · exact h1
    · exfalso
      have h2 : c / d + 1 ≤ a / b := by omega
      have h3 : (c / d + 1) * b ≤ a := Nat.le_trans (Nat.mul_le_mul_right b h2) (Nat.div_mul_le_self a b)
      have h4 : c < (c / d + 1) * d := by rw [Nat.add_mul, Nat.mul_comm (c / d)]; omega
      have h5 : c * b < (c / d + 1) * d * b := Nat.mul_lt_mul_of_pos_right h4 hb
      have h6 : (c / d + 1) * d * b ≤ a * d := by
        rw [Nat.mul_right_comm]
        exact Nat.mul_le_mul_right d h3
      omega
  · intro h1
    have h2 : a / b + 1 ≤ c / d := by omega
    have h3 : (a / b + 1) * d ≤ c := Nat.le_trans (Nat.mul_le_mul_right d h2) (Nat.div_mul_le_self c d)
    have h4 : a < (a / b + 1) * b := by rw [Nat.add_mul, Nat.mul_comm (a / b)]; omega
    have h5 : a * d < (a / b + 1) * b * d := Nat.mul_lt_mul_of_pos_right h4 hd
    have h6 : (a / b + 1) * b * d ≤ c * b := by
      rw [Nat.mul_right_comm]
      exact Nat.mul_le_mul_right b h3
    omega
theorem less_mod {a b c d : Nat} (h : a / b = c / d) : (a * d < c * b) ↔ (a % b) * d < (c % d) * b := by
  have e1 := Nat.div_add_mod a b
  have e2 := Nat.div_add_mod c d
  have h1 : a * d = b * (a / b) * d + (a % b) * d := by conv => lhs; rw [← e1, Nat.add_mul]
  have h2 : c * b = d * (c / d) * b + (c % d) * b := by conv => lhs; rw [← e2, Nat.add_mul]
  have h3 : b * (a / b) * d = d * (c / d) * b := by rw [h, Nat.mul_comm b (c / d), Nat.mul_comm d (c / d), Nat.mul_right_comm]
  omega
end Go.Proofs.YtkfajeicbkeigaaDoor
