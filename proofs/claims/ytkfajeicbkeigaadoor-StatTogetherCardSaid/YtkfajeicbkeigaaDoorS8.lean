/- The walk over Less. -/
import Derived.Test.YtkfajeicbkeigaaDoorS7
import Derived.Test.YtkfajeicbkeigaaDoorShelf
namespace Go.Proofs.YtkfajeicbkeigaaDoor
open Go.RowKit
def lessI (a b c d : Int) : Bool := mayI a b && mayI c d && decide (a.toNat * d.toNat < c.toNat * b.toNat)
theorem mayI_pos {a b : Int} (h : mayI a b = true) : 0 ≤ a ∧ 1 ≤ b := by
  unfold mayI at h
  simp only [Bool.and_eq_true, decide_eq_true_eq] at h
  exact h.1
theorem mul40 (x y : Nat) (hx : x ≤ 9223372036854775807) (hy : y ≤ 9223372036854775807) (w : World) :
    Calls Tryd.prog 40 #[.int .u64 x, .int .u64 y] w fun e w' => e = .returned (.tuple #[.int .u64 ((x * y / 18446744073709551616 : Nat) : Int), .int .u64 ((x * y % 18446744073709551616 : Nat) : Int)]) ∧ w' = w := Tryd.bits_Mul64 x y (by omega) (by omega) w
theorem wide_lt {p q h l g k : Nat} (h1 : p / 18446744073709551616 = h) (h2 : p % 18446744073709551616 = l) (h3 : q / 18446744073709551616 = g) (h4 : q % 18446744073709551616 = k) : p < q ↔ h < g ∨ (h = g ∧ l < k) := by omega
set_option maxRecDepth 100000 in
set_option maxHeartbeats 2000000 in
theorem less14 (a b c d : Int) (ha : a ≤ 9223372036854775807) (hb : b ≤ 9223372036854775807) (hc : c ≤ 9223372036854775807) (hd : d ≤ 9223372036854775807) (w : World) :
    Calls Tryd.prog 14 #[.agg (shA a b), .agg (shA c d)] w fun e w' => e = .returned (.bool (lessI a b c d)) ∧ Below w.heap.size w w' := by
  have HC1 : Hid (∀ W, Calls Tryd.prog 39 #[.agg (shA a b)] W fun e w' => e = .returned (.bool (mayI a b)) ∧ Below W.heap.size W w') := Lib.hid (fun W => may39 a b ha hb W)
  have HC2 : Hid (∀ W, Calls Tryd.prog 39 #[.agg (shA c d)] W fun e w' => e = .returned (.bool (mayI c d)) ∧ Below W.heap.size W w') := Lib.hid (fun W => may39 c d hc hd W)
  have HB0 : Hid (Below w.heap.size w ((w.alloc (.cells (shA a b) 23)).alloc (.cells (shA c d) 23))) := Lib.hid (((Below.refl _ _).alloc (Nat.le_refl _) _).alloc (by simp) _)
  have HG0 : Hid (∀ W, Below (w.heap.size + 2) ((w.alloc (.cells (shA a b) 23)).alloc (.cells (shA c d) 23)) W → W.heap[w.heap.size]? = some (.cells (shA a b) 23 (0, 0)) ∧ W.heap[w.heap.size + 1]? = some (.cells (shA c d) 23 (0, 0))) := Lib.hid (fun W hb => ⟨(hb.block _ (by omega)).trans ((((Below.refl (w.heap.size + 1) _).alloc (by simp) _).block _ (by omega)).trans (heap_alloc_new w _)), (hb.block _ (by omega)).trans (by have := heap_alloc_new (w.alloc (.cells (shA a b) 23)) (.cells (shA c d) 23); simpa using this)⟩)
  by_cases h1 : mayI a b = true
  · rw [h1] at HC1
    by_cases h2 : mayI c d = true
    · rw [h2] at HC2
      have HL : Hid (lessI a b c d = decide (a.toNat * d.toNat < c.toNat * b.toNat)) := Lib.hid (by unfold lessI; rw [h1, h2]; rfl)
      rw [HL.out]
      have p1 := mayI_pos h1
      have p2 := mayI_pos h2
      clear h1 h2 HL
      obtain ⟨x, rfl⟩ : ∃ x : Nat, a = x := ⟨a.toNat, by omega⟩
      obtain ⟨y, rfl⟩ : ∃ y : Nat, b = y := ⟨b.toNat, by omega⟩
      obtain ⟨z, rfl⟩ : ∃ x : Nat, c = x := ⟨c.toNat, by omega⟩
      obtain ⟨u, rfl⟩ : ∃ y : Nat, d = y := ⟨d.toNat, by omega⟩
      simp only [Int.toNat_natCast]
      have M1 : Hid (∀ W, Calls Tryd.prog 40 #[.int .u64 x, .int .u64 u] W fun e w' => e = .returned (.tuple #[.int .u64 ((x * u / 18446744073709551616 : Nat) : Int), .int .u64 ((x * u % 18446744073709551616 : Nat) : Int)]) ∧ w' = W) := Lib.hid (fun W => mul40 x u (by omega) (by omega) W)
      have M2 : Hid (∀ W, Calls Tryd.prog 40 #[.int .u64 z, .int .u64 y] W fun e w' => e = .returned (.tuple #[.int .u64 ((z * y / 18446744073709551616 : Nat) : Int), .int .u64 ((z * y % 18446744073709551616 : Nat) : Int)]) ∧ w' = W) := Lib.hid (fun W => mul40 z y (by omega) (by omega) W)
      obtain ⟨h, e1⟩ : ∃ h, x * u / 18446744073709551616 = h := ⟨_, rfl⟩
      obtain ⟨l, e2⟩ : ∃ h, x * u % 18446744073709551616 = h := ⟨_, rfl⟩
      obtain ⟨g, e3⟩ : ∃ h, z * y / 18446744073709551616 = h := ⟨_, rfl⟩
      obtain ⟨k, e4⟩ : ∃ h, z * y % 18446744073709551616 = h := ⟨_, rfl⟩
      have HL : Hid (decide (x * u < z * y) = decide (h < g ∨ (h = g ∧ l < k))) := Lib.hid (by rw [Bool.eq_iff_iff]; simp only [decide_eq_true_eq]; exact wide_lt e1 e2 e3 e4)
      have l1 : h ≤ 18446744073709551615 ∧ l ≤ 18446744073709551615 ∧ g ≤ 18446744073709551615 ∧ k ≤ 18446744073709551615 := by
        refine ⟨?_, by omega, ?_, by omega⟩
        · have : x * u ≤ 9223372036854775807 * 9223372036854775807 := Nat.mul_le_mul (by omega) (by omega)
          omega
        · have : z * y ≤ 9223372036854775807 * 9223372036854775807 := Nat.mul_le_mul (by omega) (by omega)
          omega
      rw [HL.out]
      rw [e1, e2] at M1
      rw [e3, e4] at M2
      clear e1 e2 e3 e4 HL
      obtain ⟨r, hr⟩ : ∃ r, decide (h < g ∨ (h = g ∧ l < k)) = r := ⟨_, rfl⟩
      rw [hr]
      have HR := Lib.hid hr
      clear hr
      unfold shA at *
      go_enter Tryd.func14, Tryd.ntmps14
      go_wp2_with fail
      refine Calls.mono (HC1.out _) ?_
      rintro e w3 ⟨rfl, hb3⟩
      have z3 := HG0.out w3 (hb3.mono (by simp))
      have c0 : w3.cell? ⟨w.heap.size + 1, 0, none⟩ = some (.int .i64 z) := cell_of_row w3 _ 0 _ 23 _ z3.2
      have c1 : w3.cell? ⟨w.heap.size + 1, 1, none⟩ = some (.int .i64 u) := cell_of_row w3 _ 1 _ 23 _ z3.2
      have HB3 := Lib.hid hb3
      clear hb3 z3
      go_wp2_with fail
      refine Calls.mono (HC2.out _) ?_
      rintro e w4 ⟨rfl, hb4⟩
      have z4 := HG0.out w4 ((HB3.out.mono (by simp)).trans (hb4.mono (by have := HB3.out.size; simp at this; omega)))
      have d0 : w4.cell? ⟨w.heap.size + 1, 0, none⟩ = some (.int .i64 z) := cell_of_row w4 _ 0 _ 23 _ z4.2
      have d1 : w4.cell? ⟨w.heap.size + 1, 1, none⟩ = some (.int .i64 u) := cell_of_row w4 _ 1 _ 23 _ z4.2
      have d2 : w4.cell? ⟨w.heap.size, 0, none⟩ = some (.int .i64 x) := cell_of_row w4 _ 0 _ 23 _ z4.1
      have d3 : w4.cell? ⟨w.heap.size, 1, none⟩ = some (.int .i64 y) := cell_of_row w4 _ 1 _ 23 _ z4.1
      have HB4 := Lib.hid hb4
      clear hb4 z4 c0 c1
      go_wp2_with fail
      refine Calls.mono (M1.out _) ?_
      rintro e w5 ⟨rfl, rfl⟩
      go_wp2_with fail
      refine Calls.mono (M2.out _) ?_
      rintro e w6 ⟨rfl, rfl⟩
      have HE : Hid (Below w.heap.size w w6) := Lib.hid ((HB0.out.trans (HB3.out.mono HB0.out.size)).trans (HB4.out.mono (Nat.le_trans HB0.out.size HB3.out.size)))
      have q1 : h < g ∨ (h = g ∧ l < k) ∨ (h = g ∧ ¬ l < k) ∨ g < h := by omega
      rcases q1 with q | ⟨q, q'⟩ | ⟨q, q'⟩ | q
      · obtain rfl : r = true := by
          rw [← HR.out]
          simp [q]
        clear HR
        go_wp2_with fail
        go_ret
        exact ⟨rfl, HE.out⟩
      · obtain rfl : r = true := by
          rw [← HR.out]
          simp [q, q']
        clear HR
        subst q
        go_wp2_with fail
        go_ret
        exact ⟨rfl, HE.out⟩
      · obtain rfl : r = false := by
          rw [← HR.out]
          simp [q, q']
        clear HR
        subst q
        go_wp2_with fail
        go_ret
        exact ⟨rfl, HE.out⟩
      · obtain rfl : r = false := by
          rw [← HR.out]
          simp; omega
        clear HR
        have q2 : ¬ h < g := by omega
        have q3 : ((h : Int) == (g : Int)) = false := by simp; omega
        go_wp2_with fail
        go_ret
        exact ⟨rfl, HE.out⟩
    · have h2' : mayI c d = false := by simpa using h2
      rw [h2'] at HC2
      have HL : Hid (lessI a b c d = false) := Lib.hid (by unfold lessI; rw [h2', Bool.and_false, Bool.false_and])
      rw [HL.out]
      clear h1 h2 h2' HL
      unfold shA at *
      go_enter Tryd.func14, Tryd.ntmps14
      go_wp2_with fail
      refine Calls.mono (HC1.out _) ?_
      rintro e w3 ⟨rfl, hb3⟩
      have z3 := HG0.out w3 (hb3.mono (by simp))
      have c0 : w3.cell? ⟨w.heap.size + 1, 0, none⟩ = some (.int .i64 c) := cell_of_row w3 _ 0 _ 23 _ z3.2
      have c1 : w3.cell? ⟨w.heap.size + 1, 1, none⟩ = some (.int .i64 d) := cell_of_row w3 _ 1 _ 23 _ z3.2
      have HB3 := Lib.hid hb3
      clear hb3 z3
      go_wp2_with fail
      refine Calls.mono (HC2.out _) ?_
      rintro e w4 ⟨rfl, hb4⟩
      have HB4 := Lib.hid hb4
      clear hb4
      have HE : Hid (Below w.heap.size w w4) := Lib.hid ((HB0.out.trans (HB3.out.mono HB0.out.size)).trans (HB4.out.mono (Nat.le_trans HB0.out.size HB3.out.size)))
      go_wp2_with fail
      go_ret
      exact ⟨rfl, HE.out⟩
  · have h1' : mayI a b = false := by simpa using h1
    rw [h1'] at HC1
    have HL : Hid (lessI a b c d = false) := Lib.hid (by unfold lessI; rw [h1', Bool.false_and, Bool.false_and])
    rw [HL.out]
    clear h1 h1' HL
    unfold shA at *
    go_enter Tryd.func14, Tryd.ntmps14
    go_wp2_with fail
    refine Calls.mono (HC1.out _) ?_
    rintro e w3 ⟨rfl, hb3⟩
    have HE : Hid (Below w.heap.size w w3) := Lib.hid (HB0.out.trans (hb3.mono HB0.out.size))
    clear hb3
    go_wp2_with fail
    go_ret
    exact ⟨rfl, HE.out⟩
end Go.Proofs.YtkfajeicbkeigaaDoor
