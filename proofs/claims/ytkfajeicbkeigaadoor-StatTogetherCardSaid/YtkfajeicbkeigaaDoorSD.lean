/- The walk over the program's Percent. -/
import Derived.Test.YtkfajeicbkeigaaDoorSC
namespace Go.Proofs.YtkfajeicbkeigaaDoor
open Go.RowKit
/-- tenths of a percent, rounded -/
def pctN (a b : Nat) : Nat := a * 1000 / b + if b - a * 1000 % b ≤ a * 1000 % b then 1 else 0
def pctL (a b : Nat) : List UInt8 := digs (pctN a b / 10) ++ [46] ++ digs (pctN a b % 10) ++ [37]
def pctI (a b : Int) : ByteArray := if mayI a b = true ∧ a ≤ b then str (pctL a.toNat b.toNat) else str [63]
theorem pctN_le {a b : Nat} (h : a ≤ b) (hb : 0 < b) : pctN a b ≤ 1000 := by
  unfold pctN
  have h1 : a * 1000 ≤ 1000 * b := by omega
  have h2 := Nat.div_add_mod (a * 1000) b
  have h3 := Nat.mod_lt (a * 1000) hb
  generalize a * 1000 / b = q at *
  generalize a * 1000 % b = r at *
  split
  · rename_i h4
    rcases Nat.lt_or_ge q 1000 with h | h
    · omega
    · have := Nat.mul_le_mul_left b h
      omega
  · rcases Nat.lt_or_ge q 1001 with h | h
    · omega
    · have := Nat.mul_le_mul_left b h
      omega
theorem div_any (hi lo y : Nat) (hl : lo ≤ 18446744073709551615) (hy : y ≤ 9223372036854775807) (h1 : 0 < y) (hh : hi * 18446744073709551616 + lo ≤ 1000 * y) (w : World) :
    Calls Tryd.prog 41 #[.int .u64 hi, .int .u64 lo, .int .u64 y] w fun e w' => e = .returned (.tuple #[.int .u64 (((hi * 18446744073709551616 + lo) / y : Nat) : Int), .int .u64 (((hi * 18446744073709551616 + lo) % y : Nat) : Int)]) ∧ ∃ n, w' = w.drewN n := by
  rcases Nat.eq_zero_or_pos hi with h0 | h0
  · subst h0
    have := div41_0 lo y hl hy h1 w
    simpa using this
  · exact (div41 hi lo y h0 hl hy h1 hh w).mono fun e w' h => ⟨h.1, 0, h.2⟩
set_option maxRecDepth 100000 in
set_option maxHeartbeats 2000000 in
theorem percent12 (a b : Int) (ha : a ≤ 9223372036854775807) (hb : b ≤ 9223372036854775807) (w : World) (ht : Tb w) :
    Calls Tryd.prog 12 #[.agg (shA a b)] w fun e w' => e = .returned (.string (pctI a b)) ∧ Below w.heap.size w w' := by
  have HC1 : Hid (∀ W, Calls Tryd.prog 39 #[.agg (shA a b)] W fun e w' => e = .returned (.bool (mayI a b)) ∧ Below W.heap.size W w') := Lib.hid (fun W => may39 a b ha hb W)
  have HB0 : Hid (Below w.heap.size w (w.alloc (.cells (shA a b) 23))) := Lib.hid ((Below.refl _ _).alloc (Nat.le_refl _) _)
  have HG0 : Hid (∀ W, Below (w.heap.size + 1) (w.alloc (.cells (shA a b) 23)) W → W.heap[w.heap.size]? = some (.cells (shA a b) 23 (0, 0))) := Lib.hid (fun W hb => (hb.block _ (by omega)).trans (heap_alloc_new w _))
  have HT := Lib.hid ht
  clear ht
  by_cases h1 : mayI a b = true
  · by_cases h2 : a ≤ b
    · have p1 := mayI_pos h1
      have HP : Hid (pctI a b = str (pctL a.toNat b.toNat)) := Lib.hid (by unfold pctI; rw [if_pos ⟨h1, h2⟩])
      rw [h1] at HC1
      rw [HP.out]
      clear HP h1
      obtain ⟨x, rfl⟩ : ∃ x : Nat, a = x := ⟨a.toNat, by omega⟩
      obtain ⟨y, rfl⟩ : ∃ y : Nat, b = y := ⟨b.toNat, by omega⟩
      simp only [Int.toNat_natCast]
      have M1 : Hid (∀ W, Calls Tryd.prog 40 #[.int .u64 x, .int .u64 1000] W fun e w' => e = .returned (.tuple #[.int .u64 ((x * 1000 / 18446744073709551616 : Nat) : Int), .int .u64 ((x * 1000 % 18446744073709551616 : Nat) : Int)]) ∧ w' = W) := Lib.hid (fun W => mul40 x 1000 (by omega) (by omega) W)
      have HD : Hid (∀ W, Calls Tryd.prog 41 #[.int .u64 ((x * 1000 / 18446744073709551616 : Nat) : Int), .int .u64 ((x * 1000 % 18446744073709551616 : Nat) : Int), .int .u64 y] W fun e w' => e = .returned (.tuple #[.int .u64 ((x * 1000 / y : Nat) : Int), .int .u64 ((x * 1000 % y : Nat) : Int)]) ∧ ∃ n, w' = W.drewN n) := Lib.hid (fun W => by
        have := div_any (x * 1000 / 18446744073709551616) (x * 1000 % 18446744073709551616) y (by omega) (by omega) (by omega) (by omega) W
        rw [show x * 1000 / 18446744073709551616 * 18446744073709551616 + x * 1000 % 18446744073709551616 = x * 1000 by omega] at this
        exact this)
      have l1 : x * 1000 / 18446744073709551616 ≤ 1000 := by omega
      have l2 : x * 1000 % 18446744073709551616 ≤ 18446744073709551615 := by omega
      generalize x * 1000 / 18446744073709551616 = hh at *
      generalize x * 1000 % 18446744073709551616 = ll at *
      have hq := pctN_le (a := x) (b := y) (by omega) (by omega)
      have HQ : Hid (pctN x y = x * 1000 / y + if y - x * 1000 % y ≤ x * 1000 % y then 1 else 0) := Lib.hid rfl
      have hr : x * 1000 % y < y := Nat.mod_lt _ (by omega)
      have HL : Hid (pctL x y = digs (pctN x y / 10) ++ [46] ++ digs (pctN x y % 10) ++ [37]) := Lib.hid rfl
      rw [HL.out]
      generalize pctN x y = N at *
      generalize x * 1000 / y = q at *
      generalize x * 1000 % y = r at *
      have F1 : Hid (∀ W, Tb W → Calls Tryd.prog 42 #[.int .u64 ((N / 10 : Nat) : Int), .int .i64 10] W fun e w' => e = .returned (.string (str (digs (N / 10)))) ∧ Below W.heap.size W w') := Lib.hid (fun W ht => fmt42 (N / 10) (by omega) W ht)
      have F2 : Hid (∀ W, Tb W → Calls Tryd.prog 42 #[.int .u64 ((N % 10 : Nat) : Int), .int .i64 10] W fun e w' => e = .returned (.string (str (digs (N % 10)))) ∧ Below W.heap.size W w') := Lib.hid (fun W ht => fmt42 (N % 10) (by omega) W ht)
      have HS : Hid (str (digs (N / 10) ++ [46] ++ digs (N % 10) ++ [37]) = str (digs (N / 10)) ++ str [46] ++ str (digs (N % 10)) ++ str [37]) := Lib.hid (by simp only [str_append])
      rw [HS.out]
      have z1 : (str (digs (N / 10))).size ≤ 200 := by rw [str_size]; have := digs_len (N / 10); omega
      have z2 : (str (digs (N % 10))).size ≤ 200 := by rw [str_size]; have := digs_len (N % 10); omega
      have E1 : (N : Int) / 10 = ((N / 10 : Nat) : Int) := by omega
      have E2 : (N : Int) % 10 = ((N % 10 : Nat) : Int) := by omega
      generalize str (digs (N / 10)) = s1 at *
      generalize str (digs (N % 10)) = s2 at *
      have b1 : N / 10 ≤ 100 := by omega
      have b2 : N % 10 ≤ 9 := by omega
      generalize N / 10 = N1 at *
      generalize N % 10 = N2 at *
      have EE := Lib.hid (And.intro E1 E2)
      clear HS HL E1 E2
      by_cases h5 : y - r ≤ r
      · have hN : N = q + 1 := by have := HQ.out; rw [if_pos h5] at this; exact this
        have EN : (q : Int) + 1 = (N : Int) := by omega
        have g1 : decide ((y : Int) - (r : Int) ≤ (r : Int)) = true := by simp; omega
        have E1 := EE.out.1
        have E2 := EE.out.2
        clear hN HQ EE h5
        unfold shA at *
        go_enter Tryd.func12, Tryd.ntmps12
        go_wp2_with fail
        refine Calls.mono (HC1.out _) ?_
        rintro e w3 ⟨rfl, hb3⟩
        have hz3 : w3.heap[w.heap.size]? = some (.cells #[.int .i64 x, .int .i64 y] 23 (0, 0)) := HG0.out w3 (hb3.mono (by simp))
        have c0 : w3.cell? ⟨w.heap.size, 0, none⟩ = some (.int .i64 x) := cell_of_row w3 _ 0 _ 23 _ hz3
        have c1 : w3.cell? ⟨w.heap.size, 1, none⟩ = some (.int .i64 y) := cell_of_row w3 _ 1 _ 23 _ hz3
        have HB3 : Hid (Below w.heap.size w w3) := Lib.hid (HB0.out.trans (hb3.mono HB0.out.size))
        have HT3 : Hid (Tb w3) := Lib.hid (HT.out.below HB3.out)
        clear hb3 hz3
        go_wp2_with fail
        refine Calls.mono (M1.out _) ?_
        rintro e w4 ⟨rfl, rfl⟩
        go_wp2_with fail
        refine Calls.mono (HD.out _) ?_
        rintro e w5 ⟨rfl, n5, rfl⟩
        go_wp2_with fail
        refine Calls.mono (F1.out _ (HT3.out.below (below_drewN (Below.refl _ _) n5))) ?_
        rintro e w6 ⟨rfl, hb6⟩
        have HB6 : Hid (Below w.heap.size w w6) := Lib.hid ((below_drewN HB3.out n5).trans (hb6.mono HB3.out.size))
        have HT6 : Hid (Tb w6) := Lib.hid (HT.out.below HB6.out)
        clear hb6
        go_wp2_with fail
        refine Calls.mono (F2.out _ HT6.out) ?_
        rintro e w7 ⟨rfl, hb7⟩
        have HB7 : Hid (Below w.heap.size w w7) := Lib.hid (HB6.out.trans (hb7.mono HB6.out.size))
        clear hb7
        go_wp2_with fail
        go_ret
        exact ⟨rfl, HB7.out⟩
      · have hN : N = q := by have := HQ.out; rw [if_neg h5] at this; exact this
        have g1 : decide ((y : Int) - (r : Int) ≤ (r : Int)) = false := by simp; omega
        subst hN
        have E1 := EE.out.1
        have E2 := EE.out.2
        clear HQ EE h5
        unfold shA at *
        go_enter Tryd.func12, Tryd.ntmps12
        go_wp2_with fail
        refine Calls.mono (HC1.out _) ?_
        rintro e w3 ⟨rfl, hb3⟩
        have hz3 : w3.heap[w.heap.size]? = some (.cells #[.int .i64 x, .int .i64 y] 23 (0, 0)) := HG0.out w3 (hb3.mono (by simp))
        have c0 : w3.cell? ⟨w.heap.size, 0, none⟩ = some (.int .i64 x) := cell_of_row w3 _ 0 _ 23 _ hz3
        have c1 : w3.cell? ⟨w.heap.size, 1, none⟩ = some (.int .i64 y) := cell_of_row w3 _ 1 _ 23 _ hz3
        have HB3 : Hid (Below w.heap.size w w3) := Lib.hid (HB0.out.trans (hb3.mono HB0.out.size))
        have HT3 : Hid (Tb w3) := Lib.hid (HT.out.below HB3.out)
        clear hb3 hz3
        go_wp2_with fail
        refine Calls.mono (M1.out _) ?_
        rintro e w4 ⟨rfl, rfl⟩
        go_wp2_with fail
        refine Calls.mono (HD.out _) ?_
        rintro e w5 ⟨rfl, n5, rfl⟩
        go_wp2_with fail
        refine Calls.mono (F1.out _ (HT3.out.below (below_drewN (Below.refl _ _) n5))) ?_
        rintro e w6 ⟨rfl, hb6⟩
        have HB6 : Hid (Below w.heap.size w w6) := Lib.hid ((below_drewN HB3.out n5).trans (hb6.mono HB3.out.size))
        have HT6 : Hid (Tb w6) := Lib.hid (HT.out.below HB6.out)
        clear hb6
        go_wp2_with fail
        refine Calls.mono (F2.out _ HT6.out) ?_
        rintro e w7 ⟨rfl, hb7⟩
        have HB7 : Hid (Below w.heap.size w w7) := Lib.hid (HB6.out.trans (hb7.mono HB6.out.size))
        clear hb7
        go_wp2_with fail
        go_ret
        exact ⟨rfl, HB7.out⟩
    · have HP : Hid (pctI a b = str [63]) := Lib.hid (by unfold pctI; rw [if_neg (by simp [h2])])
      rw [h1] at HC1
      rw [HP.out]
      have h3 : b < a := by omega
      clear HP h1 h2
      unfold shA at *
      go_enter Tryd.func12, Tryd.ntmps12
      go_wp2_with fail
      refine Calls.mono (HC1.out _) ?_
      rintro e w3 ⟨rfl, hb3⟩
      have hz3 : w3.heap[w.heap.size]? = some (.cells #[.int .i64 a, .int .i64 b] 23 (0, 0)) := HG0.out w3 (hb3.mono (by simp))
      have c0 : w3.cell? ⟨w.heap.size, 0, none⟩ = some (.int .i64 a) := cell_of_row w3 _ 0 _ 23 _ hz3
      have c1 : w3.cell? ⟨w.heap.size, 1, none⟩ = some (.int .i64 b) := cell_of_row w3 _ 1 _ 23 _ hz3
      have HB3 : Hid (Below w.heap.size w w3) := Lib.hid (HB0.out.trans (hb3.mono HB0.out.size))
      clear hb3 hz3
      go_wp2_with fail
      go_ret
      exact ⟨rfl, HB3.out⟩
  · have h1' : mayI a b = false := by simpa using h1
    have HP : Hid (pctI a b = str [63]) := Lib.hid (by unfold pctI; rw [if_neg (by simp [h1'])])
    rw [h1'] at HC1
    rw [HP.out]
    clear HP h1 h1'
    unfold shA at *
    go_enter Tryd.func12, Tryd.ntmps12
    go_wp2_with fail
    refine Calls.mono (HC1.out _) ?_
    rintro e w3 ⟨rfl, hb3⟩
    have HB3 : Hid (Below w.heap.size w w3) := Lib.hid (HB0.out.trans (hb3.mono HB0.out.size))
    clear hb3
    go_wp2_with fail
    go_ret
    exact ⟨rfl, HB3.out⟩
end Go.Proofs.YtkfajeicbkeigaaDoor
