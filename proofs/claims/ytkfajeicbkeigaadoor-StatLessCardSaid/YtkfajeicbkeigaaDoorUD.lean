/- Shares are put in order. -/
import Derived.Test.YtkfajeicbkeigaaDoorUB
namespace Go.Proofs.YtkfajeicbkeigaaDoor
open Go.RowKit Go.Maps
theorem mayI_all {a b : Int} (h : mayI a b = true) : ∃ x y : Nat, a = x ∧ b = y ∧ 1 ≤ y ∧ Nat.gcd x y = 1 := by
  unfold mayI at h
  simp only [Bool.and_eq_true, decide_eq_true_eq] at h
  exact ⟨a.toNat, b.toNat, by omega, by omega, by omega, h.2⟩
theorem less_trans {a b c d e f : Int} (h1 : lessI a b c d = true) (h2 : lessI c d e f = true) : lessI a b e f = true := by
  unfold lessI at *
  simp only [Bool.and_eq_true, decide_eq_true_eq] at *
  obtain ⟨⟨m1, m2⟩, l1⟩ := h1
  obtain ⟨⟨_, m3⟩, l2⟩ := h2
  obtain ⟨x, y, rfl, rfl, hy, _⟩ := mayI_all m1
  obtain ⟨z, u, rfl, rfl, hu, _⟩ := mayI_all m2
  obtain ⟨p, q, rfl, rfl, hq, _⟩ := mayI_all m3
  simp only [Int.toNat_natCast] at *
  refine ⟨⟨m1, m3⟩, ?_⟩
  have k1 : x * u * q < z * y * q := Nat.mul_lt_mul_of_pos_right l1 hq
  have k2 : z * q * y < p * u * y := Nat.mul_lt_mul_of_pos_right l2 hy
  have k3 : (x * q) * u < (p * y) * u := by
    have e1 : x * u * q = x * q * u := by rw [Nat.mul_assoc, Nat.mul_comm u q, ← Nat.mul_assoc]
    have e2 : z * y * q = z * q * y := by rw [Nat.mul_assoc, Nat.mul_comm y q, ← Nat.mul_assoc]
    have e3 : p * u * y = p * y * u := by rw [Nat.mul_assoc, Nat.mul_comm u y, ← Nat.mul_assoc]
    rw [← e1, ← e3]
    rw [e2] at k1
    exact Nat.lt_trans k1 k2
  exact Nat.lt_of_mul_lt_mul_right k3
theorem less_eq {a b c d : Int} (m1 : mayI a b = true) (m2 : mayI c d = true) (h1 : lessI a b c d = false) (h2 : lessI c d a b = false) : a = c ∧ b = d := by
  unfold lessI at *
  rw [m1, m2] at h1 h2
  simp only [Bool.true_and, decide_eq_false_iff_not, Nat.not_lt] at h1 h2
  obtain ⟨x, y, rfl, rfl, hy, g1⟩ := mayI_all m1
  obtain ⟨z, u, rfl, rfl, hu, g2⟩ := mayI_all m2
  simp only [Int.toNat_natCast] at *
  have e : x * u = z * y := by omega
  have d1 : y ∣ u := (Nat.Coprime.symm g1).dvd_of_dvd_mul_left (by rw [e]; exact Nat.dvd_mul_left y z)
  have d2 : u ∣ y := (Nat.Coprime.symm g2).dvd_of_dvd_mul_left (by rw [← e]; exact Nat.dvd_mul_left u x)
  have e2 : y = u := Nat.dvd_antisymm d1 d2
  subst e2
  have e3 : x = z := Nat.eq_of_mul_eq_mul_right hy e
  exact ⟨by rw [e3], rfl⟩
theorem less_no {a b c d : Int} (h : ¬ (mayI a b = true ∧ mayI c d = true)) : lessI a b c d = false := by
  unfold lessI
  cases hx : mayI a b
  · rfl
  · cases hy : mayI c d
    · rfl
    · exact absurd ⟨hx, hy⟩ h
theorem less_self (a b : Int) : lessI a b a b = false := by
  unfold lessI
  simp
end Go.Proofs.YtkfajeicbkeigaaDoor
