/- The walk over StatLess. -/
import Derived.Test.YtkfajeicbkeigaaDoorUD
namespace Go.Proofs.YtkfajeicbkeigaaDoor
open Go.RowKit Go.Maps
set_option maxRecDepth 100000 in
set_option maxHeartbeats 8000000 in
theorem less4 (a0 b0 a1 b1 a2 b2 : Int) (ha0 : a0 ≤ 9223372036854775807) (hb0 : b0 ≤ 9223372036854775807) (ha1 : a1 ≤ 9223372036854775807) (hb1 : b1 ≤ 9223372036854775807) (ha2 : a2 ≤ 9223372036854775807) (hb2 : b2 ≤ 9223372036854775807) (w : World) (ht : Tb w) :
    Calls Tryd.prog 4 #[.agg #[.int .i64 a0, .int .i64 b0], .agg #[.int .i64 a1, .int .i64 b1], .agg #[.int .i64 a2, .int .i64 b2]] w fun e w' => e = .returned (.bool true) ∧ Below w.heap.size w w' := by
  have hq := neq23
  have hg := guard23
  have HT := Lib.hid ht
  clear ht
  have HT1 : Hid (lessI a0 b0 a1 b1 = true → lessI a1 b1 a2 b2 = true → lessI a0 b0 a2 b2 = true) := Lib.hid less_trans
  have HT2 : Hid (mayI a0 b0 = true → mayI a1 b1 = true → lessI a0 b0 a1 b1 = false → lessI a1 b1 a0 b0 = false → a0 = a1 ∧ b0 = b1) := Lib.hid less_eq
  have HNO : Hid (¬ (mayI a0 b0 = true ∧ mayI a1 b1 = true) → lessI a0 b0 a1 b1 = false) := Lib.hid less_no
  have HL01 : Hid (∀ V, Calls Tryd.prog 14 #[.agg #[.int .i64 a0, .int .i64 b0], .agg #[.int .i64 a1, .int .i64 b1]] V fun e w' => e = .returned (.bool (lessI a0 b0 a1 b1)) ∧ Below V.heap.size V w') := Lib.hid (fun V => less14 a0 b0 a1 b1 ha0 hb0 ha1 hb1 V)
  have HL12 : Hid (∀ V, Calls Tryd.prog 14 #[.agg #[.int .i64 a1, .int .i64 b1], .agg #[.int .i64 a2, .int .i64 b2]] V fun e w' => e = .returned (.bool (lessI a1 b1 a2 b2)) ∧ Below V.heap.size V w') := Lib.hid (fun V => less14 a1 b1 a2 b2 ha1 hb1 ha2 hb2 V)
  have HL02 : Hid (∀ V, Calls Tryd.prog 14 #[.agg #[.int .i64 a0, .int .i64 b0], .agg #[.int .i64 a2, .int .i64 b2]] V fun e w' => e = .returned (.bool (lessI a0 b0 a2 b2)) ∧ Below V.heap.size V w') := Lib.hid (fun V => less14 a0 b0 a2 b2 ha0 hb0 ha2 hb2 V)
  have HL10 : Hid (∀ V, Calls Tryd.prog 14 #[.agg #[.int .i64 a1, .int .i64 b1], .agg #[.int .i64 a0, .int .i64 b0]] V fun e w' => e = .returned (.bool (lessI a1 b1 a0 b0)) ∧ Below V.heap.size V w') := Lib.hid (fun V => less14 a1 b1 a0 b0 ha1 hb1 ha0 hb0 V)
  have HL00 : Hid (∀ V, Calls Tryd.prog 14 #[.agg #[.int .i64 a0, .int .i64 b0], .agg #[.int .i64 a0, .int .i64 b0]] V fun e w' => e = .returned (.bool (lessI a0 b0 a0 b0)) ∧ Below V.heap.size V w') := Lib.hid (fun V => less14 a0 b0 a0 b0 ha0 hb0 ha0 hb0 V)
  rw [less_self] at HL00
  have HM0 : Hid (∀ V, Calls Tryd.prog 10 #[.int .i64 a0, .int .i64 b0] V fun e w' => e = .returned (.bool (mayI a0 b0)) ∧ w' = V) := Lib.hid (fun V => may10 a0 b0 ha0 hb0 V)
  have HM1 : Hid (∀ V, Calls Tryd.prog 10 #[.int .i64 a1, .int .i64 b1] V fun e w' => e = .returned (.bool (mayI a1 b1)) ∧ w' = V) := Lib.hid (fun V => may10 a1 b1 ha1 hb1 V)
  have HM2 : Hid (∀ V, Calls Tryd.prog 10 #[.int .i64 a2, .int .i64 b2] V fun e w' => e = .returned (.bool (mayI a2 b2)) ∧ w' = V) := Lib.hid (fun V => may10 a2 b2 ha2 hb2 V)
  have HR : Hid (mayI a0 b0 = true → mayI a1 b1 = true → ∀ V, Calls Tryd.prog 15 #[.int .i64 a0, .int .i64 b0, .int .i64 a1, .int .i64 b1] V fun e w' => e = .returned (.bool (lessI a0 b0 a1 b1)) ∧ Below V.heap.size V w') := Lib.hid (fun m1 m2 V => by
    have e : lessI a0 b0 a1 b1 = decide (a0.toNat * b1.toNat < a1.toNat * b0.toNat) := by unfold lessI; rw [m1, m2]; rfl
    rw [e]
    obtain ⟨x, y, rfl, rfl, hy, _⟩ := mayI_all m1
    obtain ⟨z, u, rfl, rfl, hu, _⟩ := mayI_all m2
    refine (rless15 (y + u) x y z u (Nat.le_refl _) hy hu (by omega) (by omega) (by omega) (by omega) V).mono ?_
    rintro e w' ⟨h1, nq, rfl⟩
    exact ⟨by simpa using h1, below_drewN (Below.refl _ _) nq⟩)
  obtain ⟨n0, hn0⟩ : ∃ n0, w.heap.size = n0 := ⟨_, rfl⟩
  obtain ⟨n1, hn1⟩ : ∃ n1, n0 + 1 = n1 := ⟨_, rfl⟩
  obtain ⟨n2, hn2⟩ : ∃ n2, n1 + 1 = n2 := ⟨_, rfl⟩
  have HN0 := Lib.hid hn0
  have HN1 := Lib.hid hn1
  have HN2 := Lib.hid hn2
  obtain ⟨W0, hW0⟩ : ∃ W0, ((w.alloc (.cells #[.int .i64 a0, .int .i64 b0] 23)).alloc (.cells #[.int .i64 a1, .int .i64 b1] 23)).alloc (.cells #[.int .i64 a2, .int .i64 b2] 23) = W0 := ⟨_, rfl⟩
  have HW0 := Lib.hid hW0
  have HC : Hid (∀ V, Below W0.heap.size W0 V → V.cell? ⟨n0, 0, none⟩ = some (.int .i64 a0) ∧ V.cell? ⟨n0, 1, none⟩ = some (.int .i64 b0) ∧ V.cell? ⟨n1, 0, none⟩ = some (.int .i64 a1) ∧ V.cell? ⟨n1, 1, none⟩ = some (.int .i64 b1) ∧ V.cell? ⟨n2, 0, none⟩ = some (.int .i64 a2) ∧ V.cell? ⟨n2, 1, none⟩ = some (.int .i64 b2)) := Lib.hid (fun V hV => by
    subst hW0 hn0 hn1 hn2
    have k0 : V.heap[w.heap.size]? = some (.cells #[.int .i64 a0, .int .i64 b0] 23) := (hV.block _ (by simp; omega)).trans ((heap_alloc_old _ _ (by simp; omega)).trans ((heap_alloc_old _ _ (by simp)).trans (heap_alloc_new w _)))
    have k1 : V.heap[w.heap.size + 1]? = some (.cells #[.int .i64 a1, .int .i64 b1] 23) := by
      have q := heap_alloc_new (w.alloc (.cells #[.int .i64 a0, .int .i64 b0] 23)) (.cells #[.int .i64 a1, .int .i64 b1] 23)
      rw [World.size_alloc] at q
      exact (hV.block _ (by simp)).trans ((heap_alloc_old _ _ (by simp)).trans q)
    have k2 : V.heap[w.heap.size + 1 + 1]? = some (.cells #[.int .i64 a2, .int .i64 b2] 23) := by
      have q := heap_alloc_new ((w.alloc (.cells #[.int .i64 a0, .int .i64 b0] 23)).alloc (.cells #[.int .i64 a1, .int .i64 b1] 23)) (.cells #[.int .i64 a2, .int .i64 b2] 23)
      simp only [World.size_alloc] at q
      exact (hV.block _ (by simp)).trans q
    exact ⟨cell_of_row _ _ 0 _ 23 (0, 0) k0, cell_of_row _ _ 1 _ 23 (0, 0) k0, cell_of_row _ _ 0 _ 23 (0, 0) k1, cell_of_row _ _ 1 _ 23 (0, 0) k1, cell_of_row _ _ 0 _ 23 (0, 0) k2, cell_of_row _ _ 1 _ 23 (0, 0) k2⟩)
  have HBW : Hid (Below w.heap.size w W0) := Lib.hid (hW0 ▸ ((((Below.refl _ w).alloc (Nat.le_refl _) _).alloc (by simp) _).alloc (by simp; omega) _))
  have HC13 : Hid (∀ V, Below W0.heap.size W0 V → Calls Tryd.prog 13 #[] V fun e w' => e = .returned (.bool true) ∧ Below V.heap.size V w') := Lib.hid (fun V hV => awake13 V (HT.out.below (HBW.out.trans (hV.mono HBW.out.size))))
  clear hW0 hn0 hn1 hn2 ha0 hb0 ha1 hb1 ha2 hb2
  go_enter Tryd.func4, Tryd.ntmps4
  go_wp2_with fail
  rw [HN0.out, HN1.out, HN2.out, HW0.out]
  obtain ⟨c0, c1, c2, c3, c4, c5⟩ := HC.out W0 (Below.refl _ _)
  go_quiet ((go_at_call 10; first | (with_reducible refine Calls.quiet_of_same (HM0.out _)) | (with_reducible refine Calls.quiet_of_same (HM1.out _)) | (with_reducible refine Calls.quiet_of_same (HM2.out _))))
  cases hX : mayI a0 b0
  · have h01 := HNO.out (by rw [hX]; simp)
    rw [h01] at HL01
    have HV0 : Hid (Below W0.heap.size W0 (W0.drewN nq)) := Lib.hid (below_drewN (Below.refl _ _) nq)
    go_wp2_with fail
    refine Calls.mono (HL01.out _) ?_
    rintro e v1 ⟨rfl, hv⟩
    have HV1 : Hid (Below W0.heap.size W0 v1) := Lib.hid (HV0.out.trans (hv.mono HV0.out.size))
    clear hv c0 c1 c2 c3 c4 c5
    obtain ⟨c0, c1, c2, c3, c4, c5⟩ := HC.out v1 HV1.out
    go_wp2_with fail
    refine Calls.mono (HC13.out _ HV1.out) ?_
    rintro e z ⟨rfl, hz⟩
    have HZ : Hid (Below W0.heap.size W0 z) := Lib.hid (HV1.out.trans (hz.mono HV1.out.size))
    clear hz
    go_wp2_with fail
    go_ret
    exact ⟨rfl, HBW.out.trans (HZ.out.mono HBW.out.size)⟩
  · cases hY : mayI a1 b1
    · have h01 := HNO.out (by rw [hY]; simp)
      rw [h01] at HL01
      have HV0 : Hid (Below W0.heap.size W0 (W0.drewN nq)) := Lib.hid (below_drewN (Below.refl _ _) nq)
      go_wp2_with fail
      refine Calls.mono (HL01.out _) ?_
      rintro e v1 ⟨rfl, hv⟩
      have HV1 : Hid (Below W0.heap.size W0 v1) := Lib.hid (HV0.out.trans (hv.mono HV0.out.size))
      clear hv c0 c1 c2 c3 c4 c5
      obtain ⟨c0, c1, c2, c3, c4, c5⟩ := HC.out v1 HV1.out
      go_wp2_with fail
      refine Calls.mono (HC13.out _ HV1.out) ?_
      rintro e z ⟨rfl, hz⟩
      have HZ : Hid (Below W0.heap.size W0 z) := Lib.hid (HV1.out.trans (hz.mono HV1.out.size))
      clear hz
      go_wp2_with fail
      go_ret
      exact ⟨rfl, HBW.out.trans (HZ.out.mono HBW.out.size)⟩
    · cases hZ : mayI a2 b2
      · cases h01 : lessI a0 b0 a1 b1
        · have HRR := Lib.hid (HR.out hX hY)
          rw [h01] at HRR
          rw [h01] at HL01
          have HV0 : Hid (Below W0.heap.size W0 (W0.drewN nq)) := Lib.hid (below_drewN (Below.refl _ _) nq)
          go_wp2_with fail
          refine Calls.mono (HL01.out _) ?_
          rintro e v1 ⟨rfl, hv⟩
          have HV1 : Hid (Below W0.heap.size W0 v1) := Lib.hid (HV0.out.trans (hv.mono HV0.out.size))
          clear hv c0 c1 c2 c3 c4 c5
          obtain ⟨c0, c1, c2, c3, c4, c5⟩ := HC.out v1 HV1.out
          go_wp2_with fail
          refine Calls.mono (HRR.out _) ?_
          rintro e v2 ⟨rfl, hv⟩
          have HV2 : Hid (Below W0.heap.size W0 v2) := Lib.hid (HV1.out.trans (hv.mono HV1.out.size))
          clear hv c0 c1 c2 c3 c4 c5
          obtain ⟨c0, c1, c2, c3, c4, c5⟩ := HC.out v2 HV2.out
          go_wp2_with fail
          refine Calls.mono (HC13.out _ HV2.out) ?_
          rintro e z ⟨rfl, hz⟩
          have HZ : Hid (Below W0.heap.size W0 z) := Lib.hid (HV2.out.trans (hz.mono HV2.out.size))
          clear hz
          go_wp2_with fail
          go_ret
          exact ⟨rfl, HBW.out.trans (HZ.out.mono HBW.out.size)⟩
        · have HRR := Lib.hid (HR.out hX hY)
          rw [h01] at HRR
          rw [h01] at HL01
          have HV0 : Hid (Below W0.heap.size W0 (W0.drewN nq)) := Lib.hid (below_drewN (Below.refl _ _) nq)
          go_wp2_with fail
          refine Calls.mono (HL01.out _) ?_
          rintro e v1 ⟨rfl, hv⟩
          have HV1 : Hid (Below W0.heap.size W0 v1) := Lib.hid (HV0.out.trans (hv.mono HV0.out.size))
          clear hv c0 c1 c2 c3 c4 c5
          obtain ⟨c0, c1, c2, c3, c4, c5⟩ := HC.out v1 HV1.out
          go_wp2_with fail
          refine Calls.mono (HRR.out _) ?_
          rintro e v2 ⟨rfl, hv⟩
          have HV2 : Hid (Below W0.heap.size W0 v2) := Lib.hid (HV1.out.trans (hv.mono HV1.out.size))
          clear hv c0 c1 c2 c3 c4 c5
          obtain ⟨c0, c1, c2, c3, c4, c5⟩ := HC.out v2 HV2.out
          go_wp2_with fail
          refine Calls.mono (HC13.out _ HV2.out) ?_
          rintro e z ⟨rfl, hz⟩
          have HZ : Hid (Below W0.heap.size W0 z) := Lib.hid (HV2.out.trans (hz.mono HV2.out.size))
          clear hz
          go_wp2_with fail
          go_ret
          exact ⟨rfl, HBW.out.trans (HZ.out.mono HBW.out.size)⟩
      · cases h01 : lessI a0 b0 a1 b1
        · have HRR := Lib.hid (HR.out hX hY)
          rw [h01] at HRR
          rw [h01] at HL01
          cases h10 : lessI a1 b1 a0 b0
          · rw [h10] at HL10
            obtain ⟨rfl, rfl⟩ := HT2.out hX hY h01 h10
            have HV0 : Hid (Below W0.heap.size W0 (W0.drewN nq)) := Lib.hid (below_drewN (Below.refl _ _) nq)
            go_wp2_with fail
            refine Calls.mono (HL01.out _) ?_
            rintro e v1 ⟨rfl, hv⟩
            have HV1 : Hid (Below W0.heap.size W0 v1) := Lib.hid (HV0.out.trans (hv.mono HV0.out.size))
            clear hv c0 c1 c2 c3 c4 c5
            obtain ⟨c0, c1, c2, c3, c4, c5⟩ := HC.out v1 HV1.out
            go_wp2_with fail
            refine Calls.mono (HRR.out _) ?_
            rintro e v2 ⟨rfl, hv⟩
            have HV2 : Hid (Below W0.heap.size W0 v2) := Lib.hid (HV1.out.trans (hv.mono HV1.out.size))
            clear hv c0 c1 c2 c3 c4 c5
            obtain ⟨c0, c1, c2, c3, c4, c5⟩ := HC.out v2 HV2.out
            go_wp2_with fail
            refine Calls.mono (HL01.out _) ?_
            rintro e v3 ⟨rfl, hv⟩
            have HV3 : Hid (Below W0.heap.size W0 v3) := Lib.hid (HV2.out.trans (hv.mono HV2.out.size))
            clear hv c0 c1 c2 c3 c4 c5
            obtain ⟨c0, c1, c2, c3, c4, c5⟩ := HC.out v3 HV3.out
            go_wp2_with fail
            refine Calls.mono (HL01.out _) ?_
            rintro e v4 ⟨rfl, hv⟩
            have HV4 : Hid (Below W0.heap.size W0 v4) := Lib.hid (HV3.out.trans (hv.mono HV3.out.size))
            clear hv c0 c1 c2 c3 c4 c5
            obtain ⟨c0, c1, c2, c3, c4, c5⟩ := HC.out v4 HV4.out
            go_wp2_with fail
            refine Calls.mono (HL10.out _) ?_
            rintro e v5 ⟨rfl, hv⟩
            have HV5 : Hid (Below W0.heap.size W0 v5) := Lib.hid (HV4.out.trans (hv.mono HV4.out.size))
            clear hv c0 c1 c2 c3 c4 c5
            obtain ⟨c0, c1, c2, c3, c4, c5⟩ := HC.out v5 HV5.out
            go_wp2_with fail
            refine Calls.mono (HL00.out _) ?_
            rintro e v6 ⟨rfl, hv⟩
            have HV6 : Hid (Below W0.heap.size W0 v6) := Lib.hid (HV5.out.trans (hv.mono HV5.out.size))
            clear hv c0 c1 c2 c3 c4 c5
            obtain ⟨c0, c1, c2, c3, c4, c5⟩ := HC.out v6 HV6.out
            go_wp2_with fail
            refine Calls.mono (HC13.out _ HV6.out) ?_
            rintro e z ⟨rfl, hz⟩
            have HZ : Hid (Below W0.heap.size W0 z) := Lib.hid (HV6.out.trans (hz.mono HV6.out.size))
            clear hz
            go_wp2_with fail
            go_ret
            exact ⟨rfl, HBW.out.trans (HZ.out.mono HBW.out.size)⟩
          · rw [h10] at HL10
            have HV0 : Hid (Below W0.heap.size W0 (W0.drewN nq)) := Lib.hid (below_drewN (Below.refl _ _) nq)
            go_wp2_with fail
            refine Calls.mono (HL01.out _) ?_
            rintro e v1 ⟨rfl, hv⟩
            have HV1 : Hid (Below W0.heap.size W0 v1) := Lib.hid (HV0.out.trans (hv.mono HV0.out.size))
            clear hv c0 c1 c2 c3 c4 c5
            obtain ⟨c0, c1, c2, c3, c4, c5⟩ := HC.out v1 HV1.out
            go_wp2_with fail
            refine Calls.mono (HRR.out _) ?_
            rintro e v2 ⟨rfl, hv⟩
            have HV2 : Hid (Below W0.heap.size W0 v2) := Lib.hid (HV1.out.trans (hv.mono HV1.out.size))
            clear hv c0 c1 c2 c3 c4 c5
            obtain ⟨c0, c1, c2, c3, c4, c5⟩ := HC.out v2 HV2.out
            go_wp2_with fail
            refine Calls.mono (HL01.out _) ?_
            rintro e v3 ⟨rfl, hv⟩
            have HV3 : Hid (Below W0.heap.size W0 v3) := Lib.hid (HV2.out.trans (hv.mono HV2.out.size))
            clear hv c0 c1 c2 c3 c4 c5
            obtain ⟨c0, c1, c2, c3, c4, c5⟩ := HC.out v3 HV3.out
            go_wp2_with fail
            refine Calls.mono (HL01.out _) ?_
            rintro e v4 ⟨rfl, hv⟩
            have HV4 : Hid (Below W0.heap.size W0 v4) := Lib.hid (HV3.out.trans (hv.mono HV3.out.size))
            clear hv c0 c1 c2 c3 c4 c5
            obtain ⟨c0, c1, c2, c3, c4, c5⟩ := HC.out v4 HV4.out
            go_wp2_with fail
            refine Calls.mono (HL10.out _) ?_
            rintro e v5 ⟨rfl, hv⟩
            have HV5 : Hid (Below W0.heap.size W0 v5) := Lib.hid (HV4.out.trans (hv.mono HV4.out.size))
            clear hv c0 c1 c2 c3 c4 c5
            obtain ⟨c0, c1, c2, c3, c4, c5⟩ := HC.out v5 HV5.out
            go_wp2_with fail
            refine Calls.mono (HL00.out _) ?_
            rintro e v6 ⟨rfl, hv⟩
            have HV6 : Hid (Below W0.heap.size W0 v6) := Lib.hid (HV5.out.trans (hv.mono HV5.out.size))
            clear hv c0 c1 c2 c3 c4 c5
            obtain ⟨c0, c1, c2, c3, c4, c5⟩ := HC.out v6 HV6.out
            go_wp2_with fail
            refine Calls.mono (HC13.out _ HV6.out) ?_
            rintro e z ⟨rfl, hz⟩
            have HZ : Hid (Below W0.heap.size W0 z) := Lib.hid (HV6.out.trans (hz.mono HV6.out.size))
            clear hz
            go_wp2_with fail
            go_ret
            exact ⟨rfl, HBW.out.trans (HZ.out.mono HBW.out.size)⟩
        · have HRR := Lib.hid (HR.out hX hY)
          rw [h01] at HRR
          rw [h01] at HL01
          cases h12 : lessI a1 b1 a2 b2
          · rw [h12] at HL12
            have HV0 : Hid (Below W0.heap.size W0 (W0.drewN nq)) := Lib.hid (below_drewN (Below.refl _ _) nq)
            go_wp2_with fail
            refine Calls.mono (HL01.out _) ?_
            rintro e v1 ⟨rfl, hv⟩
            have HV1 : Hid (Below W0.heap.size W0 v1) := Lib.hid (HV0.out.trans (hv.mono HV0.out.size))
            clear hv c0 c1 c2 c3 c4 c5
            obtain ⟨c0, c1, c2, c3, c4, c5⟩ := HC.out v1 HV1.out
            go_wp2_with fail
            refine Calls.mono (HRR.out _) ?_
            rintro e v2 ⟨rfl, hv⟩
            have HV2 : Hid (Below W0.heap.size W0 v2) := Lib.hid (HV1.out.trans (hv.mono HV1.out.size))
            clear hv c0 c1 c2 c3 c4 c5
            obtain ⟨c0, c1, c2, c3, c4, c5⟩ := HC.out v2 HV2.out
            go_wp2_with fail
            refine Calls.mono (HL01.out _) ?_
            rintro e v3 ⟨rfl, hv⟩
            have HV3 : Hid (Below W0.heap.size W0 v3) := Lib.hid (HV2.out.trans (hv.mono HV2.out.size))
            clear hv c0 c1 c2 c3 c4 c5
            obtain ⟨c0, c1, c2, c3, c4, c5⟩ := HC.out v3 HV3.out
            go_wp2_with fail
            refine Calls.mono (HL12.out _) ?_
            rintro e v4 ⟨rfl, hv⟩
            have HV4 : Hid (Below W0.heap.size W0 v4) := Lib.hid (HV3.out.trans (hv.mono HV3.out.size))
            clear hv c0 c1 c2 c3 c4 c5
            obtain ⟨c0, c1, c2, c3, c4, c5⟩ := HC.out v4 HV4.out
            go_wp2_with fail
            refine Calls.mono (HL01.out _) ?_
            rintro e v5 ⟨rfl, hv⟩
            have HV5 : Hid (Below W0.heap.size W0 v5) := Lib.hid (HV4.out.trans (hv.mono HV4.out.size))
            clear hv c0 c1 c2 c3 c4 c5
            obtain ⟨c0, c1, c2, c3, c4, c5⟩ := HC.out v5 HV5.out
            go_wp2_with fail
            refine Calls.mono (HL00.out _) ?_
            rintro e v6 ⟨rfl, hv⟩
            have HV6 : Hid (Below W0.heap.size W0 v6) := Lib.hid (HV5.out.trans (hv.mono HV5.out.size))
            clear hv c0 c1 c2 c3 c4 c5
            obtain ⟨c0, c1, c2, c3, c4, c5⟩ := HC.out v6 HV6.out
            go_wp2_with fail
            refine Calls.mono (HC13.out _ HV6.out) ?_
            rintro e z ⟨rfl, hz⟩
            have HZ : Hid (Below W0.heap.size W0 z) := Lib.hid (HV6.out.trans (hz.mono HV6.out.size))
            clear hz
            go_wp2_with fail
            go_ret
            exact ⟨rfl, HBW.out.trans (HZ.out.mono HBW.out.size)⟩
          · have h02 := HT1.out h01 h12
            rw [h12] at HL12
            rw [h02] at HL02
            have HV0 : Hid (Below W0.heap.size W0 (W0.drewN nq)) := Lib.hid (below_drewN (Below.refl _ _) nq)
            go_wp2_with fail
            refine Calls.mono (HL01.out _) ?_
            rintro e v1 ⟨rfl, hv⟩
            have HV1 : Hid (Below W0.heap.size W0 v1) := Lib.hid (HV0.out.trans (hv.mono HV0.out.size))
            clear hv c0 c1 c2 c3 c4 c5
            obtain ⟨c0, c1, c2, c3, c4, c5⟩ := HC.out v1 HV1.out
            go_wp2_with fail
            refine Calls.mono (HRR.out _) ?_
            rintro e v2 ⟨rfl, hv⟩
            have HV2 : Hid (Below W0.heap.size W0 v2) := Lib.hid (HV1.out.trans (hv.mono HV1.out.size))
            clear hv c0 c1 c2 c3 c4 c5
            obtain ⟨c0, c1, c2, c3, c4, c5⟩ := HC.out v2 HV2.out
            go_wp2_with fail
            refine Calls.mono (HL01.out _) ?_
            rintro e v3 ⟨rfl, hv⟩
            have HV3 : Hid (Below W0.heap.size W0 v3) := Lib.hid (HV2.out.trans (hv.mono HV2.out.size))
            clear hv c0 c1 c2 c3 c4 c5
            obtain ⟨c0, c1, c2, c3, c4, c5⟩ := HC.out v3 HV3.out
            go_wp2_with fail
            refine Calls.mono (HL12.out _) ?_
            rintro e v4 ⟨rfl, hv⟩
            have HV4 : Hid (Below W0.heap.size W0 v4) := Lib.hid (HV3.out.trans (hv.mono HV3.out.size))
            clear hv c0 c1 c2 c3 c4 c5
            obtain ⟨c0, c1, c2, c3, c4, c5⟩ := HC.out v4 HV4.out
            go_wp2_with fail
            refine Calls.mono (HL02.out _) ?_
            rintro e v5 ⟨rfl, hv⟩
            have HV5 : Hid (Below W0.heap.size W0 v5) := Lib.hid (HV4.out.trans (hv.mono HV4.out.size))
            clear hv c0 c1 c2 c3 c4 c5
            obtain ⟨c0, c1, c2, c3, c4, c5⟩ := HC.out v5 HV5.out
            go_wp2_with fail
            refine Calls.mono (HL01.out _) ?_
            rintro e v6 ⟨rfl, hv⟩
            have HV6 : Hid (Below W0.heap.size W0 v6) := Lib.hid (HV5.out.trans (hv.mono HV5.out.size))
            clear hv c0 c1 c2 c3 c4 c5
            obtain ⟨c0, c1, c2, c3, c4, c5⟩ := HC.out v6 HV6.out
            go_wp2_with fail
            refine Calls.mono (HL00.out _) ?_
            rintro e v7 ⟨rfl, hv⟩
            have HV7 : Hid (Below W0.heap.size W0 v7) := Lib.hid (HV6.out.trans (hv.mono HV6.out.size))
            clear hv c0 c1 c2 c3 c4 c5
            obtain ⟨c0, c1, c2, c3, c4, c5⟩ := HC.out v7 HV7.out
            go_wp2_with fail
            refine Calls.mono (HC13.out _ HV7.out) ?_
            rintro e z ⟨rfl, hz⟩
            have HZ : Hid (Below W0.heap.size W0 z) := Lib.hid (HV7.out.trans (hz.mono HV7.out.size))
            clear hz
            go_wp2_with fail
            go_ret
            exact ⟨rfl, HBW.out.trans (HZ.out.mono HBW.out.size)⟩
end Go.Proofs.YtkfajeicbkeigaaDoor
