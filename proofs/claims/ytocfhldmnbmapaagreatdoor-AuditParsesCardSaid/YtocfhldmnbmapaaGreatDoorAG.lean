/- A reader of bytes 0. -/
import Derived.Test.YtocfhldmnbmapaaGreatDoorAF
namespace Go.Proofs.YtocfhldmnbmapaaGreatDoor
open Go.RowKit
def zs (n : Nat) : List UInt8 := List.replicate n 0
theorem zs_len (n : Nat) : (zs n).length = n := List.length_replicate
theorem zs_cut {n k : Nat} (h : k ≤ n) : (str (zs n)).extract 0 k = str (zs k) := by
  apply ByteArray.ext
  simp [str, zs]
  omega
theorem zs_rest {n k : Nat} (_h : k ≤ n) : (str (zs n)).extract k n = str (zs (n - k)) := by
  apply ByteArray.ext
  simp [str, zs]
def RdZ (rb n : Nat) (w : World) : Prop := w.heap[rb]? = some (.cells #[.string (str (zs n)), .int .i64 0] 374 (0, 0))
theorem RdZ.below {rb n : Nat} {w w' : World} (h : RdZ rb n w) (hb : Below w.heap.size w w') : RdZ rb n w' := (hb.block _ (lt_of_block h)).trans h
theorem read235 (l : List UInt8) (w : World) : Calls Tryz.prog 235 #[.string (str l)] w fun e w' => e = .returned (.pointer (some ⟨w.heap.size, 0, none⟩)) ∧ w' = w.alloc (.cells #[.string (str l), .int .i64 0] 374) := by
  go_enter Tryz.func235, Tryz.ntmps235
  go_wp2_with fail
  go_ret
  exact ⟨rfl, rfl⟩
set_option maxHeartbeats 1000000 in
theorem take236 {rb n k : Nat} {w : World} (h : RdZ rb n w) (hk : k ≤ n) (_hn : n ≤ 1000000) : Calls Tryz.prog 236 #[.pointer (some ⟨rb, 0, none⟩), .int .i64 (k : Nat)] w fun e w' => e = .returned (.string (str (zs k))) ∧ RdZ rb (n - k) w' ∧ w.grownBy w' (some rb) := by
  have c0 := cell_of_row w rb 0 _ 374 (0, 0) h
  have c1 := cell_of_row w rb 1 _ 374 (0, 0) h
  have z0 := frozen_of_row w rb 0 _ 374 h
  have hsz : (str (zs n)).size = n := by rw [str_size, zs_len]
  have e1 := zs_cut hk
  have e2 := zs_rest hk
  have k0 : ¬ (k : Int) < 0 := by omega
  have k00 : (0 : Int) ≤ (k : Int) := by omega
  have k1 : ¬ (n : Int) < (k : Int) := by omega
  have k2 : (k : Int) ≤ (n : Int) := by omega
  have HF : Hid (RdZ rb (n - k) (w.setCell ⟨rb, 0, none⟩ (.string (str (zs (n - k))))) ∧ w.grownBy (w.setCell ⟨rb, 0, none⟩ (.string (str (zs (n - k))))) (some rb)) := Lib.hid ⟨by unfold RdZ; rw [heap_setCell_same w rb 0 _ 374 _ h]; rfl, set_grown _ _ _ _⟩
  clear h
  generalize str (zs n) = Z at *
  generalize str (zs k) = ZK at *
  generalize zs (n - k) = zr at *
  go_enter Tryz.func236, Tryz.ntmps236
  go_wp2_with fail
  go_ret
  exact ⟨rfl, HF.out⟩
set_option maxHeartbeats 1000000 in
theorem number297 {rb n k : Nat} {w : World} (h : RdZ rb n w) (hk : k ≤ n) (hn : n ≤ 1000000) (hk8 : k ≤ 8) : Calls Tryz.prog 297 #[.pointer (some ⟨rb, 0, none⟩), .int .i64 (k : Nat)] w fun e w' => e = .returned (.int .u64 0) ∧ RdZ rb (n - k) w' ∧ w.grownBy w' (some rb) := by
  have HC := Lib.hid (take236 h hk hn)
  have hsz : (str (zs k)).size = k := by rw [str_size, zs_len]
  clear h
  go_enter Tryz.func297, Tryz.ntmps297
  go_wp2_with fail
  refine Calls.mono HC.out ?_
  rintro _ W1 ⟨rfl, h1, h2⟩
  have HF := Lib.hid (And.intro h1 h2)
  clear h1 h2 HC
  go_wp2_with fail
  go_loopg [6, 13] k (fun gk v i wr => ∃ j : Nat, j ≤ k ∧ gk = k - j ∧ v = .int .u64 0 ∧ i = .int .i64 (j : Nat) ∧ wr = W1)
  case atStart => exact ⟨0, Nat.zero_le _, rfl, rfl, rfl, rfl⟩
  case round =>
    obtain ⟨j, hj, hgk, rfl, rfl, rfl⟩ := hrel
    have HK := Lib.hid hgk
    clear hgk
    by_cases hlt : j < k
    · have q0 : (j : Int) < (k : Int) := by omega
      have hlt2 : j < (zs k).length := by rw [zs_len]; exact hlt
      have hg := str_get (zs k) j hlt2 (by rw [hsz]; exact hlt)
      rw [show (zs k)[j]'hlt2 = 0 from by unfold zs; exact List.getElem_replicate ..] at hg
      have w8 : IntKind.i64.wrap (8 * (j : Int)) = ((8 * j : Nat) : Int) := by rw [IntWalk.i64_in _ (by omega)]; omega
      obtain ⟨m, hm⟩ : ∃ m, m = 8 * j := ⟨_, rfl⟩
      rw [← hm] at w8
      have m0 : (0 : Int) ≤ (m : Int) := by omega
      have m1 : ¬ (m : Int) < 0 := by omega
      have m2 : (m : Int) < 64 := by omega
      have m3 : ¬ (64 : Int) ≤ (m : Int) := by omega
      have m4 : m < 64 := by omega
      clear hm
      generalize str (zs k) = Z at *
      go_wp2_with fail
      go_roundg (k - (j + 1))
      case measure => rw [HK.out]; omega
      case rel => exact ⟨j + 1, by omega, rfl, rfl, by go_num, rfl⟩
    · obtain rfl : j = k := by omega
      generalize str (zs j) = Z at *
      go_wp2_with fail
      go_ret
      exact ⟨rfl, HF.out⟩
theorem u64_237 {rb n : Nat} {w : World} (h : RdZ rb n w) (hk : 8 ≤ n) (hn : n ≤ 1000000) : Calls Tryz.prog 237 #[.pointer (some ⟨rb, 0, none⟩)] w fun e w' => e = .returned (.int .u64 0) ∧ RdZ rb (n - 8) w' ∧ w.grownBy w' (some rb) := by
  have HC := Lib.hid (number297 (k := 8) h hk hn (Nat.le_refl _))
  clear h
  go_enter Tryz.func237, Tryz.ntmps237
  go_wp2_with fail
  refine Calls.mono HC.out ?_
  rintro _ W1 ⟨rfl, h1, h2⟩
  have HF := Lib.hid (And.intro h1 h2)
  clear h1 h2 HC
  go_wp2_with fail
  go_ret
  exact ⟨rfl, HF.out⟩
theorem u32_245 {rb n : Nat} {w : World} (h : RdZ rb n w) (hk : 4 ≤ n) (hn : n ≤ 1000000) : Calls Tryz.prog 245 #[.pointer (some ⟨rb, 0, none⟩)] w fun e w' => e = .returned (.int .u32 0) ∧ RdZ rb (n - 4) w' ∧ w.grownBy w' (some rb) := by
  have HC := Lib.hid (number297 (k := 4) h hk hn (by decide))
  clear h
  go_enter Tryz.func245, Tryz.ntmps245
  go_wp2_with fail
  refine Calls.mono HC.out ?_
  rintro _ W1 ⟨rfl, h1, h2⟩
  have HF := Lib.hid (And.intro h1 h2)
  clear h1 h2 HC
  go_wp2_with fail
  go_ret
  exact ⟨rfl, HF.out⟩
theorem u16_261 {rb n : Nat} {w : World} (h : RdZ rb n w) (hk : 2 ≤ n) (hn : n ≤ 1000000) : Calls Tryz.prog 261 #[.pointer (some ⟨rb, 0, none⟩)] w fun e w' => e = .returned (.int .u16 0) ∧ RdZ rb (n - 2) w' ∧ w.grownBy w' (some rb) := by
  have HC := Lib.hid (number297 (k := 2) h hk hn (by decide))
  clear h
  go_enter Tryz.func261, Tryz.ntmps261
  go_wp2_with fail
  refine Calls.mono HC.out ?_
  rintro _ W1 ⟨rfl, h1, h2⟩
  have HF := Lib.hid (And.intro h1 h2)
  clear h1 h2 HC
  go_wp2_with fail
  go_ret
  exact ⟨rfl, HF.out⟩
theorem grown_alloc {w w' : World} {rb : Nat} (o : Obj) (h : (w.alloc o).grownBy w' (some rb)) : w.grownBy w' (some rb) := (World.grownBy_alloc w o (some rb)).andThen h (fun _ q => .inr q)
theorem word238 {rb n : Nat} {w : World} (h : RdZ rb n w) (hk : 4 ≤ n) (hn : n ≤ 1000000) : Calls Tryz.prog 238 #[.agg #[.pointer (some ⟨rb, 0, none⟩)]] w fun e w' => e = .returned (.int .i64 0) ∧ RdZ rb (n - 4) w' ∧ w.grownBy w' (some rb) := by
  have HC := Lib.hid (u32_245 (h.below ((Below.refl w.heap.size w).alloc (Nat.le_refl _) (.cells #[.pointer (some ⟨rb, 0, none⟩)] 329))) hk hn)
  clear h
  go_enter Tryz.func238, Tryz.ntmps238
  go_wp2_with fail
  refine Calls.mono HC.out ?_
  rintro _ W1 ⟨rfl, h1, h2⟩
  have HF := Lib.hid (And.intro h1 (grown_alloc _ h2))
  clear h1 h2 HC
  go_wp2_with fail
  go_ret
  exact ⟨rfl, HF.out⟩
theorem half239 {rb n : Nat} {w : World} (h : RdZ rb n w) (hk : 2 ≤ n) (hn : n ≤ 1000000) : Calls Tryz.prog 239 #[.agg #[.pointer (some ⟨rb, 0, none⟩)]] w fun e w' => e = .returned (.int .i64 0) ∧ RdZ rb (n - 2) w' ∧ w.grownBy w' (some rb) := by
  have HC := Lib.hid (u16_261 (h.below ((Below.refl w.heap.size w).alloc (Nat.le_refl _) (.cells #[.pointer (some ⟨rb, 0, none⟩)] 329))) hk hn)
  clear h
  go_enter Tryz.func239, Tryz.ntmps239
  go_wp2_with fail
  refine Calls.mono HC.out ?_
  rintro _ W1 ⟨rfl, h1, h2⟩
  have HF := Lib.hid (And.intro h1 (grown_alloc _ h2))
  clear h1 h2 HC
  go_wp2_with fail
  go_ret
  exact ⟨rfl, HF.out⟩
theorem check298 (w : World) : Calls Tryz.prog 298 #[.agg #[.int .u64 0, .int .i64 0, .int .i64 0, .int .i64 0, .int .i64 0, .slice none 0 0]] w fun e w' => e = .returned (.int .i64 1) ∧ Below w.heap.size w w' := by
  have HB : Hid (Below w.heap.size w (w.alloc (.cells #[.int .u64 0, .int .i64 0, .int .i64 0, .int .i64 0, .int .i64 0, .slice none 0 0] 41))) := Lib.hid ((Below.refl _ _).alloc (Nat.le_refl _) _)
  go_enter Tryz.func298, Tryz.ntmps298
  go_wp2_with fail
  go_ret
  exact ⟨rfl, HB.out⟩
theorem put240 (w : World) : Calls Tryz.prog 240 #[.agg #[.int .u64 0, .int .i64 0, .int .i64 0, .int .i64 0, .int .i64 0, .slice none 0 0]] w fun e w' => e = .returned (.tuple #[.string ⟨#[]⟩, .int .i64 1]) ∧ Below w.heap.size w w' := by
  have HB : Hid (Below w.heap.size w (w.alloc (.cells #[.int .u64 0, .int .i64 0, .int .i64 0, .int .i64 0, .int .i64 0, .slice none 0 0] 41))) := Lib.hid ((Below.refl _ _).alloc (Nat.le_refl _) _)
  have HC := Lib.hid (check298 (w.alloc (.cells #[.int .u64 0, .int .i64 0, .int .i64 0, .int .i64 0, .int .i64 0, .slice none 0 0] 41)))
  go_enter Tryz.func240, Tryz.ntmps240
  go_wp2_with fail
  refine Calls.mono HC.out ?_
  rintro _ W1 ⟨rfl, hb⟩
  have HB1 := Lib.hid (HB.out.trans (hb.mono HB.out.size))
  clear hb HC
  go_wp2_with fail
  go_ret2
  exact ⟨rfl, HB1.out⟩
end Go.Proofs.YtocfhldmnbmapaaGreatDoor
