/- The walk over the reference's Percent: digit by digit. -/
import Derived.Test.YtkfajeicbkeigaaDoorSD
namespace Go.Proofs.YtkfajeicbkeigaaDoor
open Go.RowKit
set_option maxHeartbeats 1000000 in
theorem whole37 (r b : Nat) (hr : r < b) (hb : b ≤ 9223372036854775807) (w : World) : Calls Tryd.prog 37 #[.int .i64 r, .int .i64 b] w fun e w' => e = .returned (.int .i64 (if b - r ≤ r then 1 else 0)) ∧ w' = w := by
  by_cases h : b - r ≤ r
  · rw [if_pos h]
    have h1 : (b : Int) - r ≤ r := by omega
    go_enter Tryd.func37, Tryd.ntmps37
    go_wp2_with fail
    go_ret
    exact ⟨rfl, rfl⟩
  · rw [if_neg h]
    have h1 : ¬ (b : Int) - r ≤ r := by omega
    go_enter Tryd.func37, Tryd.ntmps37
    go_wp2_with fail
    go_ret
    exact ⟨rfl, rfl⟩
/-- a digit is drawn -/
def Dig (b rest d left k : Nat) : Prop := d * b + left = k * rest ∧ left < b ∧ d ≤ k
theorem Dig.over {b rest d left k : Nat} (h : Dig b rest d left k) (hr : rest ≤ b) (h1 : b - left ≤ rest) : Dig b rest (d + 1) (rest - (b - left)) (k + 1) := by
  obtain ⟨e, h2, h3⟩ := h
  refine ⟨?_, by omega, by omega⟩
  rw [Nat.add_mul, Nat.add_mul]
  omega
theorem Dig.under {b rest d left k : Nat} (h : Dig b rest d left k) (h1 : ¬ b - left ≤ rest) : Dig b rest d (left + rest) (k + 1) := by
  obtain ⟨e, h2, h3⟩ := h
  refine ⟨?_, by omega, by omega⟩
  rw [Nat.add_mul]
  omega
/-- so many digits stand -/
def Digs (a b n rest i : Nat) : Prop := n * b + rest = a * 10 ^ i ∧ rest ≤ b ∧ (0 < i → rest < b) ∧ n ≤ 10 ^ i
theorem Digs.step {a b n rest i d left : Nat} (ha : a ≤ b) (hb : 0 < b) (h : Digs a b n rest i) (h1 : Dig b rest d left 10) : Digs a b (n * 10 + d) left (i + 1) := by
  obtain ⟨e, h2, h3, h4⟩ := h
  obtain ⟨e1, h5, h6⟩ := h1
  have e2 : (n * 10 + d) * b + left = a * 10 ^ (i + 1) := by
    rw [Nat.add_mul, Nat.mul_right_comm, Nat.pow_succ, ← Nat.mul_assoc, ← e]
    omega
  refine ⟨e2, by omega, fun _ => h5, ?_⟩
  have h7 : (n * 10 + d) * b ≤ 10 ^ (i + 1) * b := by
    have : a * 10 ^ (i + 1) ≤ b * 10 ^ (i + 1) := Nat.mul_le_mul_right _ ha
    rw [Nat.mul_comm (10 ^ (i + 1)) b]
    omega
  exact Nat.le_of_mul_le_mul_right h7 hb
theorem Digs.last {a b n rest : Nat} (h : Digs a b n rest 3) (hb : 0 < b) : n + (if b - rest ≤ rest then 1 else 0) = pctN a b ∧ rest < b ∧ n ≤ 1000 := by
  obtain ⟨e, h2, h3, h4⟩ := h
  have h5 := h3 (by omega)
  have e' : b * n + rest = a * 1000 := by rw [Nat.mul_comm]; exact e
  have q1 : a * 1000 / b = n := by
    rw [← e', Nat.mul_add_div hb, Nat.div_eq_of_lt h5, Nat.add_zero]
  have q2 : a * 1000 % b = rest := by
    rw [← e', Nat.mul_add_mod, Nat.mod_eq_of_lt h5]
  exact ⟨by unfold pctN; rw [q1, q2], h5, h4⟩
set_option maxRecDepth 100000 in
set_option maxHeartbeats 4000000 in
theorem rpercent11 (a b : Nat) (ha : a ≤ b) (h0 : 0 < b) (hb : b ≤ 9223372036854775807) (w : World) :
    Calls Tryd.prog 11 #[.int .i64 a, .int .i64 b] w fun e w' => e = .returned (.string (str (pctL a b))) ∧ Below w.heap.size w w' := by
  have hq := pctN_le ha h0
  have HL : Hid (pctL a b = digs (pctN a b / 10) ++ [46] ++ digs (pctN a b % 10) ++ [37]) := Lib.hid rfl
  rw [HL.out]
  have HN : Hid (∀ n rest, Digs a b n rest 3 → n + (if b - rest ≤ rest then 1 else 0) = pctN a b ∧ rest < b ∧ n ≤ 1000) := Lib.hid (fun _ _ h => h.last h0)
  generalize pctN a b = N at *
  have F1 : Hid (∀ W, Calls Tryd.prog 38 #[.int .i64 ((N / 10 : Nat) : Int)] W fun e w' => e = .returned (.string (str (digs (N / 10)))) ∧ Below W.heap.size W w') := Lib.hid (fun W => number38 (N / 10) (by omega) W)
  have F2 : Hid (∀ W, Calls Tryd.prog 38 #[.int .i64 ((N % 10 : Nat) : Int)] W fun e w' => e = .returned (.string (str (digs (N % 10)))) ∧ Below W.heap.size W w') := Lib.hid (fun W => number38 (N % 10) (by omega) W)
  have HS : Hid (str (digs (N / 10) ++ [46] ++ digs (N % 10) ++ [37]) = str (digs (N / 10)) ++ str [46] ++ str (digs (N % 10)) ++ str [37]) := Lib.hid (by simp only [str_append])
  rw [HS.out]
  have z1 : (str (digs (N / 10))).size ≤ 200 := by rw [str_size]; have := digs_len (N / 10); omega
  have z2 : (str (digs (N % 10))).size ≤ 200 := by rw [str_size]; have := digs_len (N % 10); omega
  have E1 : (N : Int) / 10 = ((N / 10 : Nat) : Int) := by omega
  have E2 : (N : Int) % 10 = ((N % 10 : Nat) : Int) := by omega
  generalize str (digs (N / 10)) = s1 at *
  generalize str (digs (N % 10)) = s2 at *
  generalize N / 10 = N1 at *
  generalize N % 10 = N2 at *
  have EE := Lib.hid (And.intro E1 E2)
  have HW : Hid (∀ r W, r < b → Calls Tryd.prog 37 #[.int .i64 (r : Int), .int .i64 b] W fun e w' => e = .returned (.int .i64 (if b - r ≤ r then 1 else 0)) ∧ w' = W) := Lib.hid (fun r W hr => whole37 r b hr hb W)
  have HB := Lib.hid (And.intro ha (And.intro h0 hb))
  have ha' : (a : Int) ≤ b := by omega
  have hb' : (b : Int) ≤ 9223372036854775807 := by omega
  clear HS HL E1 E2 ha h0 hb
  go_enter Tryd.func11, Tryd.ntmps11
  go_wp2_with fail
  go_loop [5, 6, 7] (fun n r i => ∃ nn rr k : Nat, n = .int .i64 nn ∧ r = .int .i64 rr ∧ i = .int .i64 k ∧ k ≤ 3 ∧ Digs a b nn rr k) (fun _ _ i => 3 - (intOf i).toNat)
  case atStart => exact ⟨0, a, 0, rfl, rfl, rfl, by omega, by unfold Digs; refine ⟨by simp, by omega, by omega, by omega⟩⟩
  case round =>
    obtain ⟨nn, rr, k, rfl, rfl, rfl, hk, hd⟩ := hrel
    by_cases hk3 : k < 3
    · have hrb : (rr : Int) ≤ b := by have := hd.2.1; omega
      have hn : (nn : Int) ≤ 1000 := by
        have h1 := hd.2.2.2
        have h2 : 10 ^ k ≤ 10 ^ 3 := Nat.pow_le_pow_right (by omega) (by omega)
        omega
      have HD := Lib.hid hd
      clear hd
      go_wp2_with fail
      go_loop [8, 9, 10] (fun d l j => ∃ dd ll jj : Nat, d = .int .i64 dd ∧ l = .int .i64 ll ∧ j = .int .i64 jj ∧ jj ≤ 10 ∧ Dig b rr dd ll jj) (fun _ _ j => 10 - (intOf j).toNat)
      case atStart => exact ⟨0, 0, 0, rfl, rfl, rfl, by omega, by unfold Dig; have := HB.out; refine ⟨by simp, by omega, by omega⟩⟩
      case round =>
        obtain ⟨dd, ll, jj, rfl, rfl, rfl, hj, hg⟩ := hrel
        have g1 := hg.2.1
        have g2 := hg.2.2
        have HG := Lib.hid hg
        clear hg
        by_cases hj10 : jj < 10
        · by_cases ho : b - ll ≤ rr
          · have ho' : (b : Int) - ll ≤ rr := by omega
            have HO := Lib.hid ho
            clear ho
            go_wp2_with fail
            go_round
            case rel => exact ⟨dd + 1, rr - (b - ll), jj + 1, by go_num, by have := HO.out; go_num, by go_num, by omega, HG.out.over (by omega) HO.out⟩
            case measure => simp [intOf]; omega
          · have ho' : ¬ (b : Int) - ll ≤ rr := by omega
            have HO := Lib.hid ho
            clear ho
            go_wp2_with fail
            go_round
            case rel => exact ⟨dd, ll + rr, jj + 1, rfl, by go_num, by go_num, by omega, HG.out.under HO.out⟩
            case measure => simp [intOf]; omega
        · obtain rfl : jj = 10 := by omega
          go_wp2_with fail
          go_round
          case rel => exact ⟨nn * 10 + dd, ll, k + 1, by go_num, rfl, by go_num, by omega, Digs.step (by have := HB.out; omega) (by have := HB.out; omega) HD.out HG.out⟩
          case measure => simp [intOf]; omega
    · obtain rfl : k = 3 := by omega
      obtain ⟨q1, q2, q3⟩ := HN.out _ _ hd
      have HC := Lib.hid (HW.out rr w q2)
      have EQ : (nn : Int) + (if b - rr ≤ rr then (1 : Int) else 0) = (N : Int) := by
        rw [← q1]
        split <;> simp
      generalize (if b - rr ≤ rr then (1 : Int) else 0) = t at *
      have hd2 := hd.2.1
      have E1 := EE.out.1
      have E2 := EE.out.2
      clear hd q1 EE HN
      go_wp2_with fail
      refine Calls.mono HC.out ?_
      rintro e w3 ⟨rfl, rfl⟩
      go_wp2_with fail
      refine Calls.mono (F1.out _) ?_
      rintro e w4 ⟨rfl, hb4⟩
      have HB4 := Lib.hid hb4
      clear hb4
      go_wp2_with fail
      refine Calls.mono (F2.out _) ?_
      rintro e w5 ⟨rfl, hb5⟩
      have HB5 := Lib.hid hb5
      clear hb5
      go_wp2_with fail
      go_ret
      exact ⟨rfl, HB4.out.trans (HB5.out.mono HB4.out.size)⟩
end Go.Proofs.YtkfajeicbkeigaaDoor
