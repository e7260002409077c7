/- The plain law of a division of two words by one, whose quotient is small. -/
import Derived.Test.YtkfajeicbkeigaaDoorS8
namespace Go.Proofs.YtkfajeicbkeigaaDoor
open Go.RowKit
theorem pow_split {s : Nat} (hs : s ≤ 63) : 2 ^ s * 2 ^ (64 - s) = 18446744073709551616 := by
  rw [← Nat.pow_add, show s + (64 - s) = 64 by omega]
/-- the low word, shifted: what goes over and what stays -/
theorem low_split {s lo : Nat} (hs : s ≤ 63) : lo * 2 ^ s = lo / 2 ^ (64 - s) * 18446744073709551616 + lo * 2 ^ s % 18446744073709551616 := by
  have h := pow_split hs
  have e : lo * 2 ^ s / 18446744073709551616 = lo / 2 ^ (64 - s) := by
    rw [← h, Nat.mul_comm lo, Nat.mul_div_mul_left _ _ (Nat.two_pow_pos s)]
  have := Nat.div_add_mod (lo * 2 ^ s) 18446744073709551616
  rw [e] at this
  omega
theorem or_add {s hi lo : Nat} (hs : s ≤ 63) (hl : lo ≤ 18446744073709551615) : hi * 2 ^ s ||| lo / 2 ^ (64 - s) = hi * 2 ^ s + lo / 2 ^ (64 - s) := by
  have h : lo / 2 ^ (64 - s) < 2 ^ s := by
    rw [Nat.div_lt_iff_lt_mul (Nat.two_pow_pos _), pow_split hs]
    omega
  have := Nat.two_pow_add_eq_or_of_lt h hi
  rw [Nat.mul_comm hi, ← this]
/-- one correction of the guess -/
theorem guess_down {q y1 y0 r v L0 N Y : Nat} (e1 : q * y1 + r = v) (hY : Y = y1 * 4294967296 + y0) (hN : N = v * 4294967296 + L0) (h : 4294967296 * r + L0 < q * y0) (hq : N / Y ≤ q) (h0 : 0 < Y) : 1 ≤ q ∧ N / Y ≤ q - 1 ∧ (q - 1) * y1 + (r + y1) = v := by
  have hq1 : 1 ≤ q := by
    rcases Nat.eq_zero_or_pos q with h | h
    · subst h; omega
    · exact h
  refine ⟨hq1, ?_, ?_⟩
  · have h3 : N < q * Y := by
      have : q * Y = (q * y1) * 4294967296 + q * y0 := by rw [hY, Nat.mul_add, Nat.mul_assoc]
      omega
    have := (Nat.div_lt_iff_lt_mul h0).2 h3
    omega
  · obtain ⟨p, rfl⟩ : ∃ p, q = p + 1 := ⟨q - 1, by omega⟩
    have h4 : (p + 1) * y1 = p * y1 + y1 := by rw [Nat.add_mul, Nat.one_mul]
    rw [h4] at e1
    show p * y1 + (r + y1) = v
    omega
/-- a guess that is not too great -/
theorem guess_stop {q y1 y0 r v L0 N Y : Nat} (e1 : q * y1 + r = v) (hY : Y = y1 * 4294967296 + y0) (hN : N = v * 4294967296 + L0) (h : q * y0 ≤ 4294967296 * r + L0) (hq : N / Y ≤ q) (h0 : 0 < Y) : q = N / Y := by
  have h3 : q * Y ≤ N := by
    have : q * Y = (q * y1) * 4294967296 + q * y0 := by rw [hY, Nat.mul_add, Nat.mul_assoc]
    omega
  have := (Nat.le_div_iff_mul_le h0).2 h3
  omega
theorem guess_first {y1 y0 v L0 N Y : Nat} (hY : Y = y1 * 4294967296 + y0) (hN : N = v * 4294967296 + L0) (hL : L0 < 4294967296) (h1 : 0 < y1) : N / Y ≤ v / y1 := by
  have h0 : 0 < Y := by omega
  rw [Nat.le_div_iff_mul_le h1]
  have h2 := Nat.div_mul_le_self N Y
  have h3 : N / Y * Y = (N / Y * y1) * 4294967296 + N / Y * y0 := by generalize N / Y = q; rw [hY, Nat.mul_add, Nat.mul_assoc]
  omega
theorem back_div {n y s : Nat} : (n * 2 ^ s) / (y * 2 ^ s) = n / y := Nat.mul_div_mul_right _ _ (Nat.two_pow_pos s)
theorem back_mod {n y s : Nat} : (n * 2 ^ s) % (y * 2 ^ s) / 2 ^ s = n % y := by
  rw [Nat.mul_mod_mul_right, Nat.mul_div_cancel _ (Nat.two_pow_pos s)]
theorem bits_span (y : Nat) (h0 : 0 < y) (hy : y ≤ 9223372036854775807) : ∃ s : Nat, (64 - (Lib.bitLen y : Int)) = s ∧ s ≤ 63 ∧ 1 ≤ s ∧ 9223372036854775808 ≤ y * 2 ^ s ∧ y * 2 ^ s ≤ 18446744073709551615 := by
  have k1 := Nat.log2_self_le (n := y) (by omega)
  have k2 := Nat.lt_log2_self (n := y)
  obtain ⟨k, hk⟩ : ∃ k, y.log2 = k := ⟨_, rfl⟩
  rw [hk] at k1 k2
  have k3 : k ≤ 62 := by
    rcases Nat.lt_or_ge k 63 with h | h
    · omega
    · have := Nat.pow_le_pow_right (n := 2) (by omega) h
      omega
  have e : y / 2 ^ k = 1 := by
    have h1 := (Nat.le_div_iff_mul_le (x := 1) (y := y) (Nat.two_pow_pos k)).2 (by omega)
    have h2 := (Nat.div_lt_iff_lt_mul (x := y) (y := 2) (Nat.two_pow_pos k)).2 (by rw [Nat.pow_succ] at k2; omega)
    omega
  have hb : Lib.bitLen y = k + 1 := by
    rw [Lib.bitLen_shift k y k1 (by omega), e]
    rfl
  have s1 : 2 ^ k * 2 ^ (63 - k) = 9223372036854775808 := by
    rw [← Nat.pow_add, show k + (63 - k) = 63 by omega]
  refine ⟨63 - k, by rw [hb]; omega, by omega, by omega, ?_, ?_⟩
  · have := Nat.mul_le_mul_right (2 ^ (63 - k)) k1
    omega
  · have := Nat.mul_lt_mul_of_pos_right k2 (Nat.two_pow_pos (63 - k))
    rw [Nat.pow_succ] at this
    have h3 : 2 ^ k * 2 * 2 ^ (63 - k) = 2 ^ k * 2 ^ (63 - k) * 2 := by rw [Nat.mul_right_comm]
    omega
end Go.Proofs.YtkfajeicbkeigaaDoor
