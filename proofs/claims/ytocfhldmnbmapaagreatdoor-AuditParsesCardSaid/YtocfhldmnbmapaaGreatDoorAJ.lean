/- Pick of bytes 0; halt; what open recovers. -/
import Derived.Test.YtocfhldmnbmapaaGreatDoorAI
import Derived.Defers
import Derived.Recover
namespace Go.Proofs.YtocfhldmnbmapaaGreatDoor
open Go.RowKit
set_option maxRecDepth 100000 in
set_option maxHeartbeats 1000000 in
theorem pick111 (w : World) : Calls Tryz.prog 111 #[.string (str (zs 128)), .string (str (zs 128))] w (GetPost w) := by
  have HGET := Lib.hid get167
  generalize str (zs 128) = Z at *
  have HI41 := Lib.hid info41
  have HO41 := Lib.hid sup_one
  obtain ⟨b0, hb0⟩ : ∃ b0, b0 = w.heap.size := ⟨_, rfl⟩
  have HS0 : Hid (SupAt b0 ((w.alloc (.cells #[.int .u64 0, .int .i64 0, .int .i64 0, .int .i64 0, .int .i64 0, .slice none 0 0] 41)).alloc (.cells #[.int .u64 0, .int .i64 0, .int .i64 0, .int .i64 0, .int .i64 0, .slice none 0 0] 41))) := Lib.hid (by rw [hb0]; exact (SupAt.new w).below ((Below.refl _ _).alloc (Nat.le_refl _) _))
  have HS1 : Hid (SupAt (b0 + 1) ((w.alloc (.cells #[.int .u64 0, .int .i64 0, .int .i64 0, .int .i64 0, .int .i64 0, .slice none 0 0] 41)).alloc (.cells #[.int .u64 0, .int .i64 0, .int .i64 0, .int .i64 0, .int .i64 0, .slice none 0 0] 41))) := Lib.hid (by have := SupAt.new (w.alloc (.cells #[.int .u64 0, .int .i64 0, .int .i64 0, .int .i64 0, .int .i64 0, .slice none 0 0] 41)); rw [World.size_alloc] at this; rw [hb0]; exact this)
  have HB0 : Hid (Below w.heap.size w ((w.alloc (.cells #[.int .u64 0, .int .i64 0, .int .i64 0, .int .i64 0, .int .i64 0, .slice none 0 0] 41)).alloc (.cells #[.int .u64 0, .int .i64 0, .int .i64 0, .int .i64 0, .int .i64 0, .slice none 0 0] 41))) := Lib.hid (((Below.refl _ _).alloc (Nat.le_refl _) _).alloc (by rw [World.size_alloc]; omega) _)
  have HGE : Hid (w.heap.size ≤ b0) := Lib.hid (by omega)
  go_enter Tryz.func111, Tryz.ntmps111
  go_upto_region 2 with fail
  rw [← hb0]
  clear hb0
  generalize (w.alloc (.cells #[.int .u64 0, .int .i64 0, .int .i64 0, .int .i64 0, .int .i64 0, .slice none 0 0] 41)).alloc (.cells #[.int .u64 0, .int .i64 0, .int .i64 0, .int .i64 0, .int .i64 0, .slice none 0 0] 41) = V1 at *
  obtain ⟨sb, hsb⟩ : ∃ sb, sb = V1.heap.size := ⟨_, rfl⟩
  have HC2 : Hid ((V1.alloc (.cells #[.string Z, .string Z] 9)).heap[sb]? = some (.cells #[.string Z, .string Z] 9 (0, 0))) := Lib.hid (by rw [hsb]; exact heap_alloc_new _ _)
  have HB12 : Hid (Below V1.heap.size V1 (V1.alloc (.cells #[.string Z, .string Z] 9))) := Lib.hid ((Below.refl _ _).alloc (Nat.le_refl _) _)
  have HB2 : Hid (Below w.heap.size w (V1.alloc (.cells #[.string Z, .string Z] 9))) := Lib.hid (HB0.out.trans (HB12.out.mono HB0.out.size))
  have HT0 := Lib.hid (HS0.out.below HB12.out)
  have HT1 := Lib.hid (HS1.out.below HB12.out)
  go_wp2_with fail
  rw [← hsb]
  clear hsb HS0 HS1 HB0 HB12
  generalize V1.alloc (.cells #[.string Z, .string Z] 9) = V2 at *
  go_loopg [7, 17] 2 (fun gk ev iv wr => ∃ k : Nat, k ≤ 2 ∧ gk = 2 - k ∧ ev = .int .i64 110 ∧ iv = .int .i64 (k : Nat) ∧ Below V2.heap.size V2 wr)
  case atStart => exact ⟨0, by omega, rfl, rfl, rfl, Below.refl _ _⟩
  case round =>
    obtain ⟨k, hk, hgk, rfl, rfl, hb⟩ := hrel
    have HK := Lib.hid hgk
    have HB := Lib.hid hb
    clear hgk hb
    by_cases hlt : k < 2
    · have k0 : (0 : Int) ≤ (k : Int) := by omega
      have k2 : (k : Int) < 2 := by omega
      have cc : wr.cell? ⟨sb, k, none⟩ = some (.string Z) := by
        rw [cell_of_row wr sb k _ 9 (0, 0) ((HB.out.block _ (lt_of_block HC2.out)).trans HC2.out)]
        rcases (by omega : k = 0 ∨ k = 1) with rfl | rfl <;> rfl
      go_wp2_with fail
      refine Calls.mono (HGET.out wr) ?_
      rintro _ W1 ⟨rfl, hb1⟩
      have HBA : Hid (Below V2.heap.size V2 (W1.alloc (.cells #[.int .u64 0, .int .i64 0, .int .i64 0, .int .i64 0, .int .i64 0, .slice none 0 0] 41))) := Lib.hid (by
        have q := HB.out.trans (hb1.mono HB.out.size)
        exact q.alloc q.size _)
      clear hb1 cc
      go_wp2_with fail
      go_roundg (2 - (k + 1))
      case measure => rw [HK.out]; omega
      case rel => exact ⟨k + 1, by omega, rfl, rfl, by go_num, HBA.out⟩
    · obtain rfl : k = 2 := by omega
      have HE0 := Lib.hid (HT0.out.below HB.out)
      have HE1 := Lib.hid (HT1.out.below HB.out)
      have HRW := Lib.hid HE0.out
      unfold SupAt at HRW
      obtain ⟨c0, c1, c2, c3, c4, c5⟩ := HE1.out.c
      have HFIN : Hid (SupAt b0 (wr.setRow b0 #[.int .u64 0, .int .i64 0, .int .i64 0, .int .i64 0, .int .i64 0, .slice none 0 0]) ∧ GetPost w (.returned (.tuple #[.agg #[.int .u64 0, .int .i64 0, .int .i64 0, .int .i64 0, .int .i64 0, .slice none 0 0], .int .i64 110])) (wr.setRow b0 #[.int .u64 0, .int .i64 0, .int .i64 0, .int .i64 0, .int .i64 0, .slice none 0 0])) := Lib.hid ⟨setRow_heap _ _ _ _ _ _ HE0.out, rfl, below_grown0 (HB2.out.trans (HB.out.mono HB2.out.size)) (setRow_grown _ _ _) HGE.out⟩
      go_wp2_with (first
        | ((with_reducible refine wpList_store_row (o := ⟨none, .store _ _ _, _, _, _, _⟩) rfl 41 (.tmp 4) (.tmp 45) rfl b0 #[.int .u64 0, .int .i64 0, .int .i64 0, .int .i64 0, .int .i64 0, .slice none 0 0] ?_ ?_ 41 _ HRW.out HI41.out rfl HO41.out ?_); rfl; rfl))
      exact bodyPost_ret (results_sup rfl _ _ b0 110 rfl rfl HFIN.out.1) rfl HFIN.out.2
theorem halt_no (k : Int) (w : World) : Calls Tryz.prog 109 #[.bool false, .int .i64 k] w fun e w' => e = .returned (.tuple #[]) ∧ w' = w := by
  go_enter Tryz.func109, Tryz.ntmps109
  go_wp2_with fail
  go_end0
  exact ⟨rfl, rfl⟩
def stopV (k : Int) : Value := .iface 188 (.agg #[.int .i64 k])
theorem halt_yes (k : Int) (w : World) : Calls Tryz.prog 109 #[.bool true, .int .i64 k] w fun e w' => e = .panicked [{ v := .iface 188 (.agg #[.int .i64 k]), recovered := false }] ∧ w' = w := by
  go_enter Tryz.func109, Tryz.ntmps109
  go_wp2_with fail
  simp [bodyPost]
end Go.Proofs.YtocfhldmnbmapaaGreatDoor
