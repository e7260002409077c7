/- The walk over StatTimes. -/
import Derived.Test.YtkfajeicbkeigaaDoorTX
namespace Go.Proofs.YtkfajeicbkeigaaDoor
open Go.RowKit Go.Maps
theorem of_times (a d k : Nat) (hd : 1 ≤ d) (hk : 1 ≤ k) : ∃ p q : Int, ofV (a : Int) (d : Int) = .tuple #[.agg #[.int .i64 p, .int .i64 q], .int .i64 0] ∧ ofV ((a * k : Nat) : Int) ((d * k : Nat) : Int) = .tuple #[.agg #[.int .i64 p, .int .i64 q], .int .i64 0] := by
  have hdk : 1 ≤ d * k := Nat.mul_pos hd hk
  have h1 := ofV_nat (a := (a : Int)) (b := (d : Int)) (by omega) (by omega)
  have h2 := ofV_nat (a := ((a * k : Nat) : Int)) (b := ((d * k : Nat) : Int)) (by omega) (by omega)
  refine ⟨_, _, h1, ?_⟩
  rw [h2]
  simp only [Int.toNat_natCast]
  rw [Nat.gcd_mul_right, Nat.mul_div_mul_right _ _ hk, Nat.mul_div_mul_right _ _ hk]
  rfl
set_option maxRecDepth 100000 in
set_option maxHeartbeats 8000000 in
theorem times5 (a b k : Nat) (ha : a ≤ 65535) (hb : b ≤ 65535) (hk : k ≤ 65535) (w : World) (ht : Tb w) :
    Calls Tryd.prog 5 #[.int .u16 a, .int .u16 b, .int .u16 k] w fun e w' => e = .returned (.bool true) ∧ Below w.heap.size w w' := by
  have hq := eq23
  have hg := guard23
  have HT := Lib.hid ht
  clear ht
  obtain ⟨p, q, e1, e2⟩ := of_times a (b + 1) (k + 1) (by omega) (by omega)
  have hm1 : (a : Int) * ((k : Int) + 1) ≤ 4294967296 := by
    have : a * (k + 1) ≤ 65535 * 65536 := Nat.mul_le_mul ha (by omega)
    have h2 : ((a * (k + 1) : Nat) : Int) = (a : Int) * ((k : Int) + 1) := by push_cast; rfl
    omega
  have hm2 : ((b : Int) + 1) * ((k : Int) + 1) ≤ 4294967296 := by
    have : (b + 1) * (k + 1) ≤ 65536 * 65536 := Nat.mul_le_mul (by omega) (by omega)
    have h2 : (((b + 1) * (k + 1) : Nat) : Int) = ((b : Int) + 1) * ((k : Int) + 1) := by push_cast; rfl
    omega
  have hm3 : 0 ≤ (a : Int) * ((k : Int) + 1) := Int.mul_nonneg (by omega) (by omega)
  have hm4 : 0 ≤ ((b : Int) + 1) * ((k : Int) + 1) := Int.mul_nonneg (by omega) (by omega)
  have HC1 : Hid (∀ W, Calls Tryd.prog 8 #[.int .i64 a, .int .i64 ((b : Int) + 1)] W fun e w' => e = .returned (.tuple #[.agg #[.int .i64 p, .int .i64 q], .int .i64 0]) ∧ Below W.heap.size W w') := Lib.hid (fun W => by
    have q := of8 (a : Int) (((b + 1 : Nat)) : Int) (by omega) (by omega) W
    rw [e1] at q
    push_cast at q
    exact q)
  have HC2 : Hid (∀ W, Calls Tryd.prog 8 #[.int .i64 ((a : Int) * ((k : Int) + 1)), .int .i64 (((b : Int) + 1) * ((k : Int) + 1))] W fun e w' => e = .returned (.tuple #[.agg #[.int .i64 p, .int .i64 q], .int .i64 0]) ∧ Below W.heap.size W w') := Lib.hid (fun W => by
    have q := of8 (((a * (k + 1) : Nat)) : Int) (((b + 1) * (k + 1) : Nat) : Int) (by push_cast; omega) (by push_cast; omega) W
    rw [e2] at q
    push_cast at q
    exact q)
  clear e1 e2
  obtain ⟨m1, hM1⟩ : ∃ m1, (a : Int) * ((k : Int) + 1) = m1 := ⟨_, rfl⟩
  obtain ⟨m2, hM2⟩ : ∃ m2, ((b : Int) + 1) * ((k : Int) + 1) = m2 := ⟨_, rfl⟩
  have HM1 := Lib.hid hM1
  have HM2 := Lib.hid hM2
  rw [hM1, hM2] at HC2
  rw [hM1] at hm1 hm3
  rw [hM2] at hm2 hm4
  clear hM1 hM2
  have HW1 : Hid (wrap64 m1 = m1) := Lib.hid (by unfold wrap64; omega)
  have HW2 : Hid (wrap64 m2 = m2) := Lib.hid (by unfold wrap64; omega)
  go_enter Tryd.func5, Tryd.ntmps5
  go_wp2_with fail
  refine Calls.mono (HC1.out w) ?_
  rintro e W1 ⟨rfl, hb1⟩
  have HB1 := Lib.hid hb1
  clear hb1
  go_wp2_with fail
  rw [HM1.out, HM2.out, HW1.out, HW2.out]
  have HBa : Hid (Below w.heap.size w (W1.alloc (.cells #[.int .i64 p, .int .i64 q] 23))) := Lib.hid (HB1.out.alloc HB1.out.size _)
  have c0 : (W1.alloc (.cells #[.int .i64 p, .int .i64 q] 23)).cell? ⟨W1.heap.size, 0, none⟩ = some (.int .i64 p) := cell_of_row _ _ 0 _ 23 (0, 0) (heap_alloc_new W1 (.cells #[.int .i64 p, .int .i64 q] 23))
  have c1 : (W1.alloc (.cells #[.int .i64 p, .int .i64 q] 23)).cell? ⟨W1.heap.size, 1, none⟩ = some (.int .i64 q) := cell_of_row _ _ 1 _ 23 (0, 0) (heap_alloc_new W1 (.cells #[.int .i64 p, .int .i64 q] 23))
  refine Calls.mono (HC2.out _) ?_
  rintro e W2 ⟨rfl, hb2⟩
  have d0 := below_cell hb2 c0
  have d1 := below_cell hb2 c1
  have HB2 : Hid (Below w.heap.size w W2) := Lib.hid (HBa.out.trans (hb2.mono HBa.out.size))
  clear hb2 c0 c1
  have HCA : Hid (Calls Tryd.prog 13 #[] (W2.alloc (.cells #[.int .i64 p, .int .i64 q] 23)) fun e w' => e = .returned (.bool true) ∧ Below W2.heap.size W2 w') := Lib.hid ((awake13 _ (HT.out.below (HB2.out.alloc HB2.out.size _))).mono (by
    rintro e w' ⟨h1, h2⟩
    exact ⟨h1, ((Below.refl _ W2).alloc (Nat.le_refl _) _).trans (h2.mono (by simp))⟩))
  have d2 := cell_al (.cells #[.int .i64 p, .int .i64 q] 23) d0
  have d3 := cell_al (.cells #[.int .i64 p, .int .i64 q] 23) d1
  clear d0 d1
  go_wp2_with fail
  refine Calls.mono HCA.out ?_
  rintro e W3 ⟨rfl, hb3⟩
  have HB3 : Hid (Below w.heap.size w W3) := Lib.hid (HB2.out.trans (hb3.mono HB2.out.size))
  clear hb3
  go_wp2_with fail
  go_ret
  exact ⟨rfl, HB3.out⟩
end Go.Proofs.YtkfajeicbkeigaaDoor
