/- The walk over StatShares. -/
import Derived.Test.YtkfajeicbkeigaaDoorUB
namespace Go.Proofs.YtkfajeicbkeigaaDoor
open Go.RowKit Go.Maps
set_option maxRecDepth 100000 in
set_option maxHeartbeats 8000000 in
theorem shares3 (num den a b : Int) (hn : num ≤ 9223372036854775807) (hd : den ≤ 9223372036854775807) (ha : a ≤ 9223372036854775807) (hb : b ≤ 9223372036854775807) (w : World) (ht : Tb w) :
    Calls Tryd.prog 3 #[.int .i64 num, .int .i64 den, .agg #[.int .i64 a, .int .i64 b]] w fun e w' => e = .returned (.bool true) ∧ Below w.heap.size w w' := by
  have hq := neq23
  have hg := guard23
  have HT := Lib.hid ht
  clear ht
  obtain ⟨n0, hn0⟩ : ∃ n0, w.heap.size = n0 := ⟨_, rfl⟩
  have HN0 := Lib.hid hn0
  have HC : Hid (∀ V, Below (w.heap.size + 1) (w.alloc (.cells #[.int .i64 a, .int .i64 b] 23)) V → Below w.heap.size w V ∧ V.cell? ⟨n0, 0, none⟩ = some (.int .i64 a) ∧ V.cell? ⟨n0, 1, none⟩ = some (.int .i64 b)) := Lib.hid (fun V hV => by
    subst hn0
    exact ⟨((Below.refl _ w).alloc (Nat.le_refl _) _).trans (hV.mono (Nat.le_succ _)), box_below hV rfl rfl, box_below hV rfl rfl⟩)
  clear hn0
  have HC8 : Hid (∀ V, Calls Tryd.prog 8 #[.int .i64 num, .int .i64 den] V fun e w' => e = .returned (ofV num den) ∧ Below V.heap.size V w') := Lib.hid (fun V => of8 num den hn hd V)
  have HC10 : Hid (∀ V, Calls Tryd.prog 10 #[.int .i64 a, .int .i64 b] V fun e w' => e = .returned (.bool (mayI a b)) ∧ w' = V) := Lib.hid (fun V => may10 a b ha hb V)
  have HC12 : Hid (∀ V, Below w.heap.size w V → Calls Tryd.prog 12 #[.agg #[.int .i64 a, .int .i64 b]] V fun e w' => e = .returned (.string (pctI a b)) ∧ Below V.heap.size V w') := Lib.hid (fun V hV => percent12 a b ha hb V (HT.out.below hV))
  have HC13 : Hid (∀ V, Below w.heap.size w V → Calls Tryd.prog 13 #[] V fun e w' => e = .returned (.bool true) ∧ Below V.heap.size V w') := Lib.hid (fun V hV => awake13 V (HT.out.below hV))
  have HC11 : Hid (mayI a b = true → a ≤ b → ∀ V, Calls Tryd.prog 11 #[.int .i64 a, .int .i64 b] V fun e w' => e = .returned (.string (pctI a b)) ∧ Below V.heap.size V w') := Lib.hid (fun hm hab V => by
    have hm2 := hm
    unfold mayI at hm2
    simp only [Bool.and_eq_true, decide_eq_true_eq] at hm2
    have q := rpercent11 a.toNat b.toNat (by omega) (by omega) (by omega) V
    rw [Int.toNat_of_nonneg hm2.1.1, Int.toNat_of_nonneg (by omega)] at q
    unfold pctI
    rw [if_pos ⟨hm, hab⟩]
    exact q)
  have HNO : Hid (¬ (mayI a b = true ∧ a ≤ b) → pctI a b = ⟨#[63]⟩) := Lib.hid (fun h => by unfold pctI; rw [if_neg h]; rfl)
  go_enter Tryd.func3, Tryd.ntmps3
  go_wp2_with fail
  refine Calls.mono (HC8.out _) ?_
  rintro e W1 ⟨rfl, hb1⟩
  have hsz : w.heap.size + 1 = (w.alloc (.cells #[.int .i64 a, .int .i64 b] 23)).heap.size := by simp
  rw [← hsz] at hb1
  clear hsz
  have HB1 := Lib.hid hb1
  clear hb1
  rw [HN0.out]
  by_cases hs : 0 ≤ num ∧ 1 ≤ den
  · obtain ⟨x, rfl⟩ := Int.eq_ofNat_of_zero_le hs.1
    obtain ⟨y, rfl⟩ := Int.eq_ofNat_of_zero_le (show 0 ≤ den by omega)
    have hof := ofV_nat (a := (x : Int)) (b := (y : Int)) hs.1 hs.2
    simp only [Int.toNat_natCast] at hof
    rw [hof]
    have HC9 : Hid (∀ V, Calls Tryd.prog 9 #[.int .i64 (x : Int), .int .i64 (y : Int)] V fun e w' => e = .returned (.tuple #[.int .i64 ((x / Nat.gcd x y : Nat) : Int), .int .i64 ((y / Nat.gcd x y : Nat) : Int)]) ∧ ∃ nq, w' = V.drewN nq) := Lib.hid (fun V => of9 x y (by omega) (by omega) (by omega) V)
    unfold shA
    obtain ⟨p, hp⟩ : ∃ p : Int, ((x / Nat.gcd x y : Nat) : Int) = p := ⟨_, rfl⟩
    obtain ⟨q, hq2⟩ : ∃ q : Int, ((y / Nat.gcd x y : Nat) : Int) = q := ⟨_, rfl⟩
    rw [hp, hq2] at HC9 ⊢
    clear hof hp hq2
    have h1 : ¬ (x : Int) < 0 := by omega
    have h2 : ¬ (y : Int) < 1 := by omega
    clear hs
    go_wp2_with fail
    refine Calls.mono (HC9.out _) ?_
    rintro e w2 ⟨rfl, nq, hw2⟩
    have hb2 : Below W1.heap.size W1 w2 := by subst hw2; exact below_drewN ((Below.refl _ W1).alloc (Nat.le_refl _) _) nq
    have f0 : w2.cell? ⟨W1.heap.size, 0, none⟩ = some (.int .i64 p) := by subst hw2; exact cell_of_row _ _ 0 _ 23 (0, 0) (heap_alloc_new W1 _)
    have f1 : w2.cell? ⟨W1.heap.size, 1, none⟩ = some (.int .i64 q) := by subst hw2; exact cell_of_row _ _ 1 _ 23 (0, 0) (heap_alloc_new W1 _)
    have HB2 : Hid (Below (w.heap.size + 1) (w.alloc (.cells #[.int .i64 a, .int .i64 b] 23)) w2) := Lib.hid (HB1.out.trans (hb2.mono (by have := HB1.out.size; simp at this; exact this)))
    obtain ⟨hB2, c0, c1⟩ := HC.out w2 HB2.out
    have HBw2 := Lib.hid hB2
    clear hw2 hb2 hB2
    go_wp2_with fail
    refine Calls.mono (HC10.out _) ?_
    rintro e v0 ⟨rfl, rfl⟩
    by_cases hm : mayI a b = true
    · rw [hm]
      by_cases hab : a ≤ b
      · have HC11B := Lib.hid (HC11.out hm hab)
        obtain ⟨P, hP⟩ : ∃ P, pctI a b = P := ⟨_, rfl⟩
        rw [hP] at HC11B HC12
        clear hP
        go_wp2_with fail
        refine Calls.mono (HC11B.out _) ?_
        rintro e w3 ⟨rfl, hb3⟩
        have HB3 : Hid (Below (w.heap.size + 1) (w.alloc (.cells #[.int .i64 a, .int .i64 b] 23)) w3) := Lib.hid (HB2.out.trans (hb3.mono (by have := HB2.out.size; simp at this ⊢; omega)))
        clear hb3 c0 c1 f0 f1
        obtain ⟨hB3, c0, c1⟩ := HC.out w3 HB3.out
        have HBw3 := Lib.hid hB3
        clear hB3
        go_wp2_with fail
        refine Calls.mono (HC12.out _ HBw3.out) ?_
        rintro e v1 ⟨rfl, hv1⟩
        have HV1 : Hid (Below w.heap.size w v1) := Lib.hid (HBw3.out.trans (hv1.mono HBw3.out.size))
        clear hv1
        go_wp2_with fail
        refine Calls.mono (HC13.out _ HV1.out) ?_
        rintro e v2 ⟨rfl, hv2⟩
        have HV2 : Hid (Below w.heap.size w v2) := Lib.hid (HV1.out.trans (hv2.mono HV1.out.size))
        clear hv2
        go_wp2_with fail
        go_ret
        exact ⟨rfl, HV2.out⟩
      · rw [HNO.out (fun h => hab h.2)] at HC12
        go_wp2_with fail
        refine Calls.mono (HC12.out _ HBw2.out) ?_
        rintro e v1 ⟨rfl, hv1⟩
        have HV1 : Hid (Below w.heap.size w v1) := Lib.hid (HBw2.out.trans (hv1.mono HBw2.out.size))
        clear hv1
        go_wp2_with fail
        refine Calls.mono (HC13.out _ HV1.out) ?_
        rintro e v2 ⟨rfl, hv2⟩
        have HV2 : Hid (Below w.heap.size w v2) := Lib.hid (HV1.out.trans (hv2.mono HV1.out.size))
        clear hv2
        go_wp2_with fail
        go_ret
        exact ⟨rfl, HV2.out⟩
    · rw [HNO.out (fun h => hm h.1)] at HC12
      have hm0 : mayI a b = false := by simpa using hm
      rw [hm0]
      go_wp2_with fail
      refine Calls.mono (HC12.out _ HBw2.out) ?_
      rintro e v1 ⟨rfl, hv1⟩
      have HV1 : Hid (Below w.heap.size w v1) := Lib.hid (HBw2.out.trans (hv1.mono HBw2.out.size))
      clear hv1
      go_wp2_with fail
      refine Calls.mono (HC13.out _ HV1.out) ?_
      rintro e v2 ⟨rfl, hv2⟩
      have HV2 : Hid (Below w.heap.size w v2) := Lib.hid (HV1.out.trans (hv2.mono HV1.out.size))
      clear hv2
      go_wp2_with fail
      go_ret
      exact ⟨rfl, HV2.out⟩
  · have hof : ofV num den = .tuple #[.agg (shA 0 0), .int .i64 5] := if_neg hs
    rw [hof]
    unfold shA
    clear hof
    have f0 : (W1.alloc (.cells #[.int .i64 0, .int .i64 0] 23)).cell? ⟨W1.heap.size, 0, none⟩ = some (.int .i64 0) := cell_of_row _ _ 0 _ 23 (0, 0) (heap_alloc_new W1 _)
    have f1 : (W1.alloc (.cells #[.int .i64 0, .int .i64 0] 23)).cell? ⟨W1.heap.size, 1, none⟩ = some (.int .i64 0) := cell_of_row _ _ 1 _ 23 (0, 0) (heap_alloc_new W1 _)
    have HB2 : Hid (Below (w.heap.size + 1) (w.alloc (.cells #[.int .i64 a, .int .i64 b] 23)) (W1.alloc (.cells #[.int .i64 0, .int .i64 0] 23))) := Lib.hid (HB1.out.alloc (by have := HB1.out.size; simp at this; exact this) _)
    obtain ⟨hB2, c0, c1⟩ := HC.out _ HB2.out
    have HBw2 := Lib.hid hB2
    clear hB2
    by_cases hneg : num < 0
    · go_wp2_with fail
      refine Calls.mono (HC10.out _) ?_
      rintro e v0 ⟨rfl, rfl⟩
      by_cases hm : mayI a b = true
      · rw [hm]
        by_cases hab : a ≤ b
        · have HC11B := Lib.hid (HC11.out hm hab)
          obtain ⟨P, hP⟩ : ∃ P, pctI a b = P := ⟨_, rfl⟩
          rw [hP] at HC11B HC12
          clear hP
          go_wp2_with fail
          refine Calls.mono (HC11B.out _) ?_
          rintro e w3 ⟨rfl, hb3⟩
          have HB3 : Hid (Below (w.heap.size + 1) (w.alloc (.cells #[.int .i64 a, .int .i64 b] 23)) w3) := Lib.hid (HB2.out.trans (hb3.mono (by have := HB2.out.size; simp at this ⊢; omega)))
          clear hb3 c0 c1 f0 f1
          obtain ⟨hB3, c0, c1⟩ := HC.out w3 HB3.out
          have HBw3 := Lib.hid hB3
          clear hB3
          go_wp2_with fail
          refine Calls.mono (HC12.out _ HBw3.out) ?_
          rintro e v1 ⟨rfl, hv1⟩
          have HV1 : Hid (Below w.heap.size w v1) := Lib.hid (HBw3.out.trans (hv1.mono HBw3.out.size))
          clear hv1
          go_wp2_with fail
          refine Calls.mono (HC13.out _ HV1.out) ?_
          rintro e v2 ⟨rfl, hv2⟩
          have HV2 : Hid (Below w.heap.size w v2) := Lib.hid (HV1.out.trans (hv2.mono HV1.out.size))
          clear hv2
          go_wp2_with fail
          go_ret
          exact ⟨rfl, HV2.out⟩
        · rw [HNO.out (fun h => hab h.2)] at HC12
          go_wp2_with fail
          refine Calls.mono (HC12.out _ HBw2.out) ?_
          rintro e v1 ⟨rfl, hv1⟩
          have HV1 : Hid (Below w.heap.size w v1) := Lib.hid (HBw2.out.trans (hv1.mono HBw2.out.size))
          clear hv1
          go_wp2_with fail
          refine Calls.mono (HC13.out _ HV1.out) ?_
          rintro e v2 ⟨rfl, hv2⟩
          have HV2 : Hid (Below w.heap.size w v2) := Lib.hid (HV1.out.trans (hv2.mono HV1.out.size))
          clear hv2
          go_wp2_with fail
          go_ret
          exact ⟨rfl, HV2.out⟩
      · rw [HNO.out (fun h => hm h.1)] at HC12
        have hm0 : mayI a b = false := by simpa using hm
        rw [hm0]
        go_wp2_with fail
        refine Calls.mono (HC12.out _ HBw2.out) ?_
        rintro e v1 ⟨rfl, hv1⟩
        have HV1 : Hid (Below w.heap.size w v1) := Lib.hid (HBw2.out.trans (hv1.mono HBw2.out.size))
        clear hv1
        go_wp2_with fail
        refine Calls.mono (HC13.out _ HV1.out) ?_
        rintro e v2 ⟨rfl, hv2⟩
        have HV2 : Hid (Below w.heap.size w v2) := Lib.hid (HV1.out.trans (hv2.mono HV1.out.size))
        clear hv2
        go_wp2_with fail
        go_ret
        exact ⟨rfl, HV2.out⟩
    · have hden : den < 1 := by omega
      go_wp2_with fail
      refine Calls.mono (HC10.out _) ?_
      rintro e v0 ⟨rfl, rfl⟩
      by_cases hm : mayI a b = true
      · rw [hm]
        by_cases hab : a ≤ b
        · have HC11B := Lib.hid (HC11.out hm hab)
          obtain ⟨P, hP⟩ : ∃ P, pctI a b = P := ⟨_, rfl⟩
          rw [hP] at HC11B HC12
          clear hP
          go_wp2_with fail
          refine Calls.mono (HC11B.out _) ?_
          rintro e w3 ⟨rfl, hb3⟩
          have HB3 : Hid (Below (w.heap.size + 1) (w.alloc (.cells #[.int .i64 a, .int .i64 b] 23)) w3) := Lib.hid (HB2.out.trans (hb3.mono (by have := HB2.out.size; simp at this ⊢; omega)))
          clear hb3 c0 c1 f0 f1
          obtain ⟨hB3, c0, c1⟩ := HC.out w3 HB3.out
          have HBw3 := Lib.hid hB3
          clear hB3
          go_wp2_with fail
          refine Calls.mono (HC12.out _ HBw3.out) ?_
          rintro e v1 ⟨rfl, hv1⟩
          have HV1 : Hid (Below w.heap.size w v1) := Lib.hid (HBw3.out.trans (hv1.mono HBw3.out.size))
          clear hv1
          go_wp2_with fail
          refine Calls.mono (HC13.out _ HV1.out) ?_
          rintro e v2 ⟨rfl, hv2⟩
          have HV2 : Hid (Below w.heap.size w v2) := Lib.hid (HV1.out.trans (hv2.mono HV1.out.size))
          clear hv2
          go_wp2_with fail
          go_ret
          exact ⟨rfl, HV2.out⟩
        · rw [HNO.out (fun h => hab h.2)] at HC12
          go_wp2_with fail
          refine Calls.mono (HC12.out _ HBw2.out) ?_
          rintro e v1 ⟨rfl, hv1⟩
          have HV1 : Hid (Below w.heap.size w v1) := Lib.hid (HBw2.out.trans (hv1.mono HBw2.out.size))
          clear hv1
          go_wp2_with fail
          refine Calls.mono (HC13.out _ HV1.out) ?_
          rintro e v2 ⟨rfl, hv2⟩
          have HV2 : Hid (Below w.heap.size w v2) := Lib.hid (HV1.out.trans (hv2.mono HV1.out.size))
          clear hv2
          go_wp2_with fail
          go_ret
          exact ⟨rfl, HV2.out⟩
      · rw [HNO.out (fun h => hm h.1)] at HC12
        have hm0 : mayI a b = false := by simpa using hm
        rw [hm0]
        go_wp2_with fail
        refine Calls.mono (HC12.out _ HBw2.out) ?_
        rintro e v1 ⟨rfl, hv1⟩
        have HV1 : Hid (Below w.heap.size w v1) := Lib.hid (HBw2.out.trans (hv1.mono HBw2.out.size))
        clear hv1
        go_wp2_with fail
        refine Calls.mono (HC13.out _ HV1.out) ?_
        rintro e v2 ⟨rfl, hv2⟩
        have HV2 : Hid (Below w.heap.size w v2) := Lib.hid (HV1.out.trans (hv2.mono HV1.out.size))
        clear hv2
        go_wp2_with fail
        go_ret
        exact ⟨rfl, HV2.out⟩
end Go.Proofs.YtkfajeicbkeigaaDoor
