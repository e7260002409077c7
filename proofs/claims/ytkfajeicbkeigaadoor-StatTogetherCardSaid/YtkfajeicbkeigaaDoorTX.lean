/- The walk over the law's awake. -/
import Derived.Test.YtkfajeicbkeigaaDoorTW
import Derived.Deep.RegionHeld3
namespace Go.Proofs.YtkfajeicbkeigaaDoor
open Go.RowKit Go.Maps
abbrev exW (w : World) : World :=
  ((((w.alloc (.cells #[.int .u32 1, .int .i64 0, .int .i64 5] 78)).alloc (.cells #[.int .u32 2, .int .i64 0, .int .i64 7] 78)).alloc (.cells #[.int .u32 1, .int .i64 0, .int .i64 5, .int .u32 2, .int .i64 0, .int .i64 7] 78)).alloc (.cells #[.int .u32 2, .int .i64 0, .int .i64 7] 78)).alloc
    (.cells #[.string ⟨#[97]⟩, .slice (some ⟨w.heap.size + 1 + 1, 0, none⟩) 2 2, .string ⟨#[98]⟩, .slice (some ⟨w.heap.size + 1 + 1 + 1, 0, none⟩) 1 1] 81)
theorem exW_size (w : World) : (exW w).heap.size = w.heap.size + 1 + 1 + 1 + 1 + 1 := by simp
theorem exW_in {w V : World} (hV : Below (exW w).heap.size (exW w) V) :
    Uss V (some ⟨w.heap.size + 1 + 1 + 1 + 1, 0, none⟩) (us0 (some ⟨w.heap.size + 1 + 1, 0, none⟩) (some ⟨w.heap.size + 1 + 1 + 1, 0, none⟩)) := by
  have hs := exW_size w
  have sz : w.heap.size + 5 ≤ V.heap.size := by have := hV.size; omega
  have k2 : V.heap[w.heap.size + 1 + 1]? = some (.cells #[.int .u32 1, .int .i64 0, .int .i64 5, .int .u32 2, .int .i64 0, .int .i64 7] 78) := by
    have q := heap_alloc_new ((w.alloc (.cells #[.int .u32 1, .int .i64 0, .int .i64 5] 78)).alloc (.cells #[.int .u32 2, .int .i64 0, .int .i64 7] 78)) (.cells #[.int .u32 1, .int .i64 0, .int .i64 5, .int .u32 2, .int .i64 0, .int .i64 7] 78)
    simp only [World.size_alloc] at q
    exact (hV.block _ (by omega)).trans ((heap_alloc_old _ _ (by simp)).trans ((heap_alloc_old _ _ (by simp)).trans q))
  have k3 : V.heap[w.heap.size + 1 + 1 + 1]? = some (.cells #[.int .u32 2, .int .i64 0, .int .i64 7] 78) := by
    have q := heap_alloc_new (((w.alloc (.cells #[.int .u32 1, .int .i64 0, .int .i64 5] 78)).alloc (.cells #[.int .u32 2, .int .i64 0, .int .i64 7] 78)).alloc (.cells #[.int .u32 1, .int .i64 0, .int .i64 5, .int .u32 2, .int .i64 0, .int .i64 7] 78)) (.cells #[.int .u32 2, .int .i64 0, .int .i64 7] 78)
    simp only [World.size_alloc] at q
    exact (hV.block _ (by omega)).trans ((heap_alloc_old _ _ (by simp)).trans q)
  have k4 : V.heap[w.heap.size + 1 + 1 + 1 + 1]? = some (.cells #[.string ⟨#[97]⟩, .slice (some ⟨w.heap.size + 1 + 1, 0, none⟩) 2 2, .string ⟨#[98]⟩, .slice (some ⟨w.heap.size + 1 + 1 + 1, 0, none⟩) 1 1] 81) := by
    have q := heap_alloc_new ((((w.alloc (.cells #[.int .u32 1, .int .i64 0, .int .i64 5] 78)).alloc (.cells #[.int .u32 2, .int .i64 0, .int .i64 7] 78)).alloc (.cells #[.int .u32 1, .int .i64 0, .int .i64 5, .int .u32 2, .int .i64 0, .int .i64 7] 78)).alloc (.cells #[.int .u32 2, .int .i64 0, .int .i64 7] 78)) (.cells #[.string ⟨#[97]⟩, .slice (some ⟨w.heap.size + 1 + 1, 0, none⟩) 2 2, .string ⟨#[98]⟩, .slice (some ⟨w.heap.size + 1 + 1 + 1, 0, none⟩) 1 1] 81)
    simp only [World.size_alloc] at q
    exact (hV.block _ (by omega)).trans q
  refine ⟨fun _ => ⟨_, 0, rfl, by omega, fun j v hj => ?_⟩, fun u hu => ?_⟩
  · rw [Nat.zero_add, cell_of_row V _ j _ 81 (0, 0) k4]
    simpa [us0, usV, str] using hj
  · simp [us0] at hu
    rcases hu with rfl | rfl
    · refine fun _ => ⟨_, 0, rfl, by omega, fun j v hj => ?_⟩
      rw [Nat.zero_add, cell_of_row V _ j _ 78 (0, 0) k2]
      simpa [ckV] using hj
    · refine fun _ => ⟨_, 0, rfl, by omega, fun j v hj => ?_⟩
      rw [Nat.zero_add, cell_of_row V _ j _ 78 (0, 0) k3]
      simpa [ckV] using hj
theorem below_cell {w w' : World} (hb : Below w.heap.size w w') {p : Addr} {v : Value} (h : w.cell? p = some v) : w'.cell? p = some v := (grown_of_below hb).cell h (by simp)
theorem nm97 : NmOk [97] := by unfold NmOk; decide +kernel
theorem nm98 : NmOk [98] := by unfold NmOk; decide +kernel
set_option maxRecDepth 100000 in
set_option maxHeartbeats 8000000 in
theorem awake13 (w : World) (ht : Tb w) : Calls Tryd.prog 13 #[] w fun e w' => e = .returned (.bool true) ∧ Below w.heap.size w w' := by
  have hq := eq23
  have hg := guard23
  have HT := Lib.hid ht
  clear ht
  go_enter Tryd.func13, Tryd.ntmps13
  go_wp2_with fail
  obtain ⟨W0, hW0⟩ : ∃ W0, exW w = W0 := ⟨_, rfl⟩
  rw [show ((((w.alloc (.cells #[.int .u32 1, .int .i64 0, .int .i64 5] 78)).alloc (.cells #[.int .u32 2, .int .i64 0, .int .i64 7] 78)).alloc (.cells #[.int .u32 1, .int .i64 0, .int .i64 5, .int .u32 2, .int .i64 0, .int .i64 7] 78)).alloc (.cells #[.int .u32 2, .int .i64 0, .int .i64 7] 78)).alloc
    (.cells #[.string ⟨#[97]⟩, .slice (some ⟨w.heap.size + 1 + 1, 0, none⟩) 2 2, .string ⟨#[98]⟩, .slice (some ⟨w.heap.size + 1 + 1 + 1, 0, none⟩) 1 1] 81) = W0 from hW0]
  have HBW : Hid (Below w.heap.size w W0) := Lib.hid (hW0 ▸ (((((Below.refl _ w).alloc (Nat.le_refl _) _).alloc (by simp) _).alloc (by simp; omega) _).alloc (by simp; omega) _).alloc (by simp; omega) _)
  have HIN : Hid (∀ V, Below W0.heap.size W0 V → Uss V (some ⟨w.heap.size + 1 + 1 + 1 + 1, 0, none⟩) (us0 (some ⟨w.heap.size + 1 + 1, 0, none⟩) (some ⟨w.heap.size + 1 + 1 + 1, 0, none⟩))) := Lib.hid (fun V hV => exW_in (by rw [hW0]; exact hV))
  clear hW0
  obtain ⟨n4, hn4⟩ : ∃ n4, w.heap.size + 1 + 1 + 1 + 1 = n4 := ⟨_, rfl⟩
  obtain ⟨A2, hA2⟩ : ∃ A, some (⟨w.heap.size + 1 + 1, 0, none⟩ : Addr) = A := ⟨_, rfl⟩
  obtain ⟨A3, hA3⟩ : ∃ A, some (⟨w.heap.size + 1 + 1 + 1, 0, none⟩ : Addr) = A := ⟨_, rfl⟩
  rw [hn4, hA2, hA3] at HIN
  rw [hn4, hA2, hA3]
  clear hn4 hA2 hA3
  have HO := Lib.hid (order25 (c := 2) (HIN.out _ (Below.refl _ _)) (us0_lim A2 A3) (us0_ok A2 A3))
  rw [us0_order] at HO
  refine Calls.mono HO.out ?_
  rintro e W1 ⟨B, d, rfl, hnm, hb1⟩
  obtain ⟨bb, bo, rfl, _, hcc⟩ := hnm.get (by decide)
  have c0 : W1.cell? ⟨bb, bo, none⟩ = some (.string ⟨#[97]⟩) := hcc 0 _ rfl
  have HB1 := Lib.hid hb1
  clear hb1 hnm hcc
  have HC8 := Lib.hid (of8 6 4 (by omega) (by omega) W1)
  rw [of0] at HC8
  go_wp2_with fail
  refine Calls.mono HC8.out ?_
  rintro e W2 ⟨rfl, hb2⟩
  have HB2 : Hid (Below W0.heap.size W0 W2) := Lib.hid (HB1.out.trans (hb2.mono HB1.out.size))
  have c1 := below_cell hb2 c0
  clear hb2 c0
  unfold shA
  obtain ⟨W3, hW3⟩ : ∃ W3, W2.alloc (.cells #[.int .i64 3, .int .i64 2] 23) = W3 := ⟨_, rfl⟩
  obtain ⟨n3, hn3⟩ : ∃ n3, W2.heap.size = n3 := ⟨_, rfl⟩
  have HN3 := Lib.hid hn3
  have HW3 := Lib.hid hW3
  have HB3 : Hid (Below W0.heap.size W0 W3) := Lib.hid (hW3 ▸ HB2.out.alloc HB2.out.size _)
  have e1 : W3.cell? ⟨bb, bo, none⟩ = some (.string ⟨#[97]⟩) := by rw [← hW3]; exact cell_al _ c1
  have e2 : W3.cell? ⟨n3, 0, none⟩ = some (.int .i64 3) := by rw [← hW3, ← hn3]; exact cell_of_row _ _ 0 _ 23 (0, 0) (heap_alloc_new W2 _)
  have e3 : W3.cell? ⟨n3, 1, none⟩ = some (.int .i64 2) := by rw [← hW3, ← hn3]; exact cell_of_row _ _ 1 _ 23 (0, 0) (heap_alloc_new W2 _)
  have HC : Hid (∀ V, Below W3.heap.size W3 V → V.cell? ⟨bb, bo, none⟩ = some (.string ⟨#[97]⟩) ∧ V.cell? ⟨n3, 0, none⟩ = some (.int .i64 3) ∧ V.cell? ⟨n3, 1, none⟩ = some (.int .i64 2)) := Lib.hid (fun V hV => ⟨below_cell hV e1, below_cell hV e2, below_cell hV e3⟩)
  clear e1 e2 e3 c1 hW3 hn3
  have HC22 := Lib.hid (whole22 (c := 2) (HIN.out _ HB3.out) (us0_lim A2 A3) (us0_ok A2 A3))
  rw [us0_whole] at HC22
  have HC23 : Hid (∀ V, Below W3.heap.size W3 V → Calls Tryd.prog 23 #[.slice (some ⟨n4, 0, none⟩) 2 2, .slice (some ⟨V.heap.size, 0, none⟩) 1 1] (V.alloc (.cells #[.string ⟨#[97]⟩] 9)) fun e w' => e = .returned (.int .i64 5) ∧ Below V.heap.size V w') := Lib.hid (fun V hV => by
    have hb := (Below.refl V.heap.size V).alloc (Nat.le_refl _) (.cells #[.string ⟨#[97]⟩] 9)
    have q := gains23 (c := 2) (cc := 1) (ns := [[97]]) (NA := some ⟨V.heap.size, 0, none⟩) (HIN.out _ ((HB3.out.trans (hV.mono HB3.out.size)).trans (hb.mono (Nat.le_trans HB3.out.size hV.size)))) (us0_lim A2 A3) (us0_ok A2 A3) (fun _ => ⟨_, 0, rfl, by simp, fun j v hj => by
      rw [Nat.zero_add, cell_of_row _ _ j _ 9 (0, 0) (heap_alloc_new V _)]
      simpa [str] using hj⟩) (by simp) (fun s hs => by rw [List.mem_singleton] at hs; subst hs; exact nm97) (Nat.le_refl _)
    rw [us0_gains] at q
    refine q.mono ?_
    rintro e w' ⟨h1, h2⟩
    exact ⟨h1, hb.trans (h2.mono (by simp))⟩)
  have HC24 : Hid (∀ V, Below W3.heap.size W3 V → Calls Tryd.prog 24 #[.slice (some ⟨n4, 0, none⟩) 2 2, .string ⟨#[97]⟩, .string ⟨#[98]⟩] V fun e w' => e = .returned (.int .i64 7) ∧ Below V.heap.size V w') := Lib.hid (fun V hV => by
    have q := both24 (c := 2) (s := [97]) (u := [98]) (HIN.out V (HB3.out.trans (hV.mono HB3.out.size))) (us0_lim A2 A3) (us0_ok A2 A3) nm97 nm98
    rw [us0_both] at q
    exact q)
  have HC26 : Hid (∀ V, Below W3.heap.size W3 V → Calls Tryd.prog 26 #[.slice (some ⟨n4, 0, none⟩) 2 2] V fun e w' => e = .returned (.agg #[.int .i64 7, .int .i64 19]) ∧ Below V.heap.size V w') := Lib.hid (fun V hV => by
    have q := saved26 (c := 2) (HIN.out V (HB3.out.trans (hV.mono HB3.out.size))) (us0_lim A2 A3) (us0_ok A2 A3)
    rw [us0_sav] at q
    exact q)
  have HC12 : Hid (∀ V, Below W3.heap.size W3 V → Calls Tryd.prog 12 #[.agg #[.int .i64 1, .int .i64 8]] V fun e w' => e = .returned (.string ⟨#[49, 50, 46, 53, 37]⟩) ∧ Below V.heap.size V w') := Lib.hid (fun V hV => by
    have q := percent12 1 8 (by omega) (by omega) V (HT.out.below (HBW.out.trans ((HB3.out.trans (hV.mono HB3.out.size)).mono HBW.out.size)))
    rw [pct0] at q
    exact q)
  have HC14 : Hid (∀ V, Calls Tryd.prog 14 #[.agg #[.int .i64 1, .int .i64 3], .agg #[.int .i64 1, .int .i64 2]] V fun e w' => e = .returned (.bool true) ∧ Below V.heap.size V w') := Lib.hid (fun V => by
    have q := less14 1 3 1 2 (by omega) (by omega) (by omega) (by omega) V
    rw [less0] at q
    exact q)
  go_wp2_with fail
  rw [HW3.out]
  refine Calls.mono HC22.out ?_
  rintro e W4 ⟨rfl, hb4⟩
  have HB4 := Lib.hid hb4
  clear hb4
  go_wp2_with fail
  refine Calls.mono (HC23.out W4 HB4.out) ?_
  rintro e W5 ⟨rfl, hb5⟩
  have HB5 : Hid (Below W3.heap.size W3 W5) := Lib.hid (HB4.out.trans (hb5.mono HB4.out.size))
  clear hb5
  go_wp2_with fail
  refine Calls.mono (HC24.out W5 HB5.out) ?_
  rintro e W6 ⟨rfl, hb6⟩
  have HB6 : Hid (Below W3.heap.size W3 W6) := Lib.hid (HB5.out.trans (hb6.mono HB5.out.size))
  clear hb6
  go_wp2_with fail
  refine Calls.mono (HC26.out W6 HB6.out) ?_
  rintro e W7 ⟨rfl, hb7⟩
  have HB7 : Hid (Below W3.heap.size W3 W7) := Lib.hid (HB6.out.trans (hb7.mono HB6.out.size))
  clear hb7
  obtain ⟨c1, c2, c3⟩ := HC.out W7 HB7.out
  rw [HN3.out]
  go_wp2_with fail
  refine Calls.mono (HC12.out W7 HB7.out) ?_
  rintro e W8 ⟨rfl, hb8⟩
  have HB8 : Hid (Below W3.heap.size W3 W8) := Lib.hid (HB7.out.trans (hb8.mono HB7.out.size))
  clear hb8
  go_wp2_with fail
  refine Calls.mono (HC14.out W8) ?_
  rintro e W9 ⟨rfl, hb9⟩
  have HB9 : Hid (Below W3.heap.size W3 W9) := Lib.hid (HB8.out.trans (hb9.mono HB8.out.size))
  clear hb9
  go_wp2_with fail
  go_ret
  exact ⟨rfl, HBW.out.trans ((HB3.out.trans (HB9.out.mono HB3.out.size)).mono HBW.out.size)⟩
end Go.Proofs.YtkfajeicbkeigaaDoor
