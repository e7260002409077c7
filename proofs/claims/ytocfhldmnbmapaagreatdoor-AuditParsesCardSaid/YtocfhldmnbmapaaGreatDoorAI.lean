/- A disk of bytes 0. -/
import Derived.Test.YtocfhldmnbmapaaGreatDoorAH
import Derived.Maps.OwnSet
import Derived.Maps.Own
import Derived.Laws.IdiomRangeMap
namespace Go.Proofs.YtocfhldmnbmapaaGreatDoor
open Go.RowKit
open Go.Maps
theorem keyed3 : Keyed Tryz.prog 3 := int_keyed Tryz.underlying3
theorem keyOf3 {a : Int} (h : (Lit.int .i64 a).wf = true) : keyOf Tryz.prog 3 (.int .i64 a) = some (.int .i64 a) := keyOf_int_mk Tryz.underlying3 h
theorem zero_ok : plainElem (H := Value) Tryz.prog 9 (.string ⟨#[]⟩) = some (.lit (.string []), []) := by kernel_rfl
structure DkZ (db mb N : Nat) (W : World) : Prop where
  hd : W.heap[db]? = some (.cells #[.slice (some ⟨N, 0, none⟩) 5 5, .slice none 0 0, .map (some mb), .int .i64 (-1), .int .i64 0, .bool false] 260 (0, 0))
  mp : W.ownsMap (H := Value) Tryz.prog 3 (plainElem Tryz.prog 9) mb 0 (.map [])
  st : ∀ i, i < 5 → W.cell? ⟨N, i, none⟩ = some (.string (str (zs 128)))
  lt : N < W.heap.size
theorem DkZ.below {db mb N : Nat} {W W' : World} (h : DkZ db mb N W) (hb : Below W.heap.size W W') : DkZ db mb N W' := by
  refine ⟨(hb.block _ (lt_of_block h.hd)).trans h.hd, ?_, fun i hi => (hb.cell (p := ⟨N, i, none⟩) h.lt).trans (h.st i hi), Nat.lt_of_lt_of_le h.lt hb.size⟩
  exact h.mp.kept (grown_of_below hb) (by simp)
theorem DkZ.look {db mb N : Nat} {W : World} (h : DkZ db mb N W) (i : Int) (hi : (Lit.int .i64 i).wf = true) : ∃ v, (Instr.lookup 258 (.map (some mb)) (.int .i64 i) true).run Tryz.prog W = .ok (.tuple #[v, .bool false]) W := by
  obtain ⟨v, ps, hrun, hv⟩ := h.mp.look_ok keyed3 Tryz.underlying258 (Tryz.zeroValue9 W) zero_ok (keyOf3 hi)
  exact ⟨v, hrun⟩
set_option maxHeartbeats 1000000 in
theorem ready234 {db mb N : Nat} {W : World} (h : DkZ db mb N W) : Calls Tryz.prog 234 #[.pointer (some ⟨db, 0, none⟩)] W fun e w' => e = .returned (.int .i64 0) ∧ w' = W := by
  have c0 := cell_of_row W db 0 _ 260 (0, 0) h.hd
  have c5 := cell_of_row W db 5 _ 260 (0, 0) h.hd
  clear h
  go_enter Tryz.func234, Tryz.ntmps234
  go_wp2_with fail
  go_ret
  exact ⟨rfl, rfl⟩
set_option maxHeartbeats 1000000 in
theorem at166 {db mb N : Nat} {W : World} (h : DkZ db mb N W) (i : Nat) (hi : i < 5) : Calls Tryz.prog 166 #[.pointer (some ⟨db, 0, none⟩), .int .i64 (i : Nat)] W fun e w' => e = .returned (.int .i64 0) ∧ w' = W := by
  have HC := Lib.hid (ready234 h)
  have c0 := cell_of_row W db 0 _ 260 (0, 0) h.hd
  have i0 : ¬ (i : Int) < 0 := by omega
  have i5 : ¬ (5 : Int) ≤ (i : Int) := by omega
  have i6 : ¬ 5 ≤ i := by omega
  clear h hi
  go_enter Tryz.func166, Tryz.ntmps166
  go_wp2_with fail
  refine Calls.mono HC.out ?_
  rintro _ W1 ⟨rfl, rfl⟩
  go_wp2_with fail
  go_ret
  exact ⟨rfl, rfl⟩
set_option maxHeartbeats 1000000 in
theorem read110 {db mb N : Nat} {W : World} (h : DkZ db mb N W) (i : Nat) (hi : i < 5) : Calls Tryz.prog 110 #[.pointer (some ⟨db, 0, none⟩), .int .i64 (i : Nat)] W fun e w' => e = .returned (.tuple #[.string (str (zs 128)), .int .i64 0]) ∧ w' = W := by
  have HC := Lib.hid (at166 h i hi)
  have c0 := cell_of_row W db 0 _ 260 (0, 0) h.hd
  have c2 := cell_of_row W db 2 _ 260 (0, 0) h.hd
  have cs := h.st i hi
  obtain ⟨v, hlk⟩ := h.look i (by rcases (by omega : i = 0 ∨ i = 1 ∨ i = 2 ∨ i = 3 ∨ i = 4) with rfl | rfl | rfl | rfl | rfl <;> decide)
  have i0 : (0 : Int) ≤ (i : Int) := by omega
  have i5 : (i : Int) < 5 := by omega
  clear h hi
  generalize str (zs 128) = Z at *
  go_enter Tryz.func110, Tryz.ntmps110
  go_wp2_with fail
  refine Calls.mono HC.out ?_
  rintro _ W1 ⟨rfl, rfl⟩
  go_wp2_with fail
  go_ret2
  exact ⟨rfl, rfl⟩
theorem zs_mid {n a b : Nat} (h : b ≤ n) : (str (zs n)).extract a b = str (zs (b - a)) := by
  apply ByteArray.ext
  simp [str, zs]
  omega
theorem zs_part (i : Nat) (h : i < 5) : (str (zs 640)).extract (128 * i) (128 * (i + 1)) = str (zs 128) := by
  rw [zs_mid (by omega), show 128 * (i + 1) - 128 * i = 128 by omega]
theorem info9 : (Tryz.prog.info? 9).map (fun i => (i.zero, i.size, i.bytes)) = some (some (.string ⟨#[]⟩), 1, 16) := by kernel_rfl
def LoadPost (w : World) (e : Ending) (w' : World) : Prop := ∃ db mb N, e = .returned (.tuple #[.pointer (some ⟨db, 0, none⟩), .int .i64 0]) ∧ DkZ db mb N w' ∧ w.heap.size ≤ db ∧ Below w.heap.size w w'
set_option maxHeartbeats 1000000 in
theorem made165 {N : Nat} {W : World} (hs : ∀ i, i < 5 → W.cell? ⟨N, i, none⟩ = some (.string (str (zs 128)))) (hN : N < W.heap.size) : Calls Tryz.prog 165 #[.slice (some ⟨N, 0, none⟩) 5 5] W fun e w' => ∃ db mb, e = .returned (.pointer (some ⟨db, 0, none⟩)) ∧ DkZ db mb N w' ∧ W.heap.size ≤ db ∧ Below W.heap.size W w' := by
  have hmm := @run_makeMap Tryz.prog
  have HB : Hid (Below W.heap.size W ((W.alloc (.map #[] 0)).alloc (.cells #[.slice (some ⟨N, 0, none⟩) 5 5, .slice none 0 0, .map (some W.heap.size), .int .i64 (-1), .int .i64 0, .bool false] 260))) := Lib.hid (((Below.refl _ _).alloc (Nat.le_refl _) _).alloc (by rw [World.size_alloc]; omega) _)
  have HD : Hid (DkZ (W.heap.size + 1) W.heap.size N ((W.alloc (.map #[] 0)).alloc (.cells #[.slice (some ⟨N, 0, none⟩) 5 5, .slice none 0 0, .map (some W.heap.size), .int .i64 (-1), .int .i64 0, .bool false] 260))) := Lib.hid (by
    refine ⟨?_, (World.ownsMap_made W _ _ _).alloc _, fun i hi => (HB.out.cell (p := ⟨N, i, none⟩) hN).trans (hs i hi), by rw [World.size_alloc, World.size_alloc]; omega⟩
    have := heap_alloc_new (W.alloc (.map #[] 0)) (.cells #[.slice (some ⟨N, 0, none⟩) 5 5, .slice none 0 0, .map (some W.heap.size), .int .i64 (-1), .int .i64 0, .bool false] 260)
    rwa [World.size_alloc] at this)
  clear hs hN
  go_enter Tryz.func165, Tryz.ntmps165
  go_wp2_with fail
  go_ret
  exact ⟨_, _, rfl, HD.out, by omega, HB.out⟩
set_option maxRecDepth 100000 in
set_option maxHeartbeats 1000000 in
theorem load108 (w : World) : Calls Tryz.prog 108 #[.string (str (zs 640))] w (LoadPost w) := by
  have hsz : (str (zs 640)).size = 640 := by rw [str_size, zs_len]
  have HP := Lib.hid zs_part
  obtain ⟨i9, hi, hz0, hz1, hz2⟩ := info_parts info9
  have hmk := run_makeSlice (P := Tryz.prog) w 66 9 i9 _ Tryz.underlying66 hi hz0 .i64 .i64 5 5 (by omega) (by omega) (by rw [hz1]; decide) (by rw [hz2]; decide) (by decide)
  rw [hz1] at hmk
  have HMS : Hid ((madeCells (Value.string ⟨#[]⟩).cells (Int.toNat 5 * 1)).size = 5) := Lib.hid (size_madeCells _ _)
  generalize madeCells (Value.string ⟨#[]⟩).cells (Int.toNat 5 * 1) = mk at *
  have h5 : Int.toNat 5 = 5 := rfl
  rw [h5] at hmk
  have HB0 : Hid (Below w.heap.size w (w.alloc (.cells mk 9))) := Lib.hid ((Below.refl _ _).alloc (Nat.le_refl _) _)
  have HM0 : Hid ((w.alloc (.cells mk 9)).heap[w.heap.size]? = some (.cells mk 9 (0, 0))) := Lib.hid (heap_alloc_new _ _)
  clear hi hz0 hz1 hz2 h5
  obtain ⟨ZK, hZK⟩ : ∃ z, z = str (zs 128) := ⟨_, rfl⟩
  have HZK := Lib.hid hZK
  rw [← hZK] at HP
  clear hZK
  generalize str (zs 640) = Z at *
  obtain ⟨N, hN⟩ : ∃ N, N = w.heap.size := ⟨_, rfl⟩
  rw [← hN] at hmk HM0
  have HNN := Lib.hid hN
  clear hN
  go_enter Tryz.func108, Tryz.ntmps108
  go_wp2_with fail
  clear hmk
  generalize w.alloc (.cells mk 9) = V1 at *
  go_loopg [26] 5 (fun gk iv wr => ∃ (k : Nat) (cs : Array Value), k ≤ 5 ∧ gk = 5 - k ∧ iv = .int .i64 (k : Nat) ∧ wr.heap[N]? = some (.cells cs 9 (0, 0)) ∧ cs.size = 5 ∧ (∀ i, i < k → cs[i]? = some (.string ZK)) ∧ Below w.heap.size w wr)
  case atStart => exact ⟨0, mk, by omega, rfl, rfl, HM0.out, HMS.out, fun i hi => absurd hi (Nat.not_lt_zero _), HB0.out⟩
  case round =>
    obtain ⟨k, cs, hk, hgk, rfl, hh, hcs, hall, hb⟩ := hrel
    have HK := Lib.hid hgk
    have HH := Lib.hid hh
    have HCS := Lib.hid hcs
    have HALL := Lib.hid hall
    have HB := Lib.hid hb
    clear hgk hh hall hb
    by_cases hlt : k < 5
    · have k0 : (0 : Int) ≤ (k : Int) := by omega
      have k5 : (k : Int) < 5 := by omega
      have hp := HP.out k hlt
      have w1 : IntKind.i64.wrap (128 * (k : Int)) = ((128 * k : Nat) : Int) := by rw [IntWalk.i64_in _ (by omega)]; omega
      have w2 : IntKind.i64.wrap ((k : Int) + 1) = ((k + 1 : Nat) : Int) := by rw [IntWalk.i64_in _ (by omega)]; omega
      have w3 : IntKind.i64.wrap (128 * ((k + 1 : Nat) : Int)) = ((128 * (k + 1) : Nat) : Int) := by rw [IntWalk.i64_in _ (by omega)]; omega
      obtain ⟨lo, hlo⟩ : ∃ lo, lo = 128 * k := ⟨_, rfl⟩
      obtain ⟨k1, hk1⟩ : ∃ k1, k1 = k + 1 := ⟨_, rfl⟩
      obtain ⟨hi, hhi⟩ : ∃ hi, hi = 128 * (k + 1) := ⟨_, rfl⟩
      rw [← hlo] at w1 hp
      rw [← hhi] at w3 hp
      rw [← hk1] at w2 w3
      have l0 : (0 : Int) ≤ (lo : Int) := by omega
      have l1 : (lo : Int) ≤ (hi : Int) := by omega
      have l2 : (hi : Int) ≤ 640 := by omega
      have cc : wr.cell? ⟨N, k, none⟩ = some (cs[k]'(by omega)) := by rw [cell_of_row wr N k _ 9 (0, 0) HH.out, Array.getElem?_eq_getElem (by omega)]
      have zz := frozen_of_row wr N k _ 9 HH.out
      have HN2 : Hid ((wr.setCell ⟨N, k, none⟩ (.string ZK)).heap[N]? = some (.cells (cs.setIfInBounds k (.string ZK)) 9 (0, 0))) := Lib.hid (heap_setCell_same wr N k _ 9 _ HH.out)
      have HB2 : Hid (Below w.heap.size w (wr.setCell ⟨N, k, none⟩ (.string ZK))) := Lib.hid (below_grown0 HB.out (set_grown wr N k (.string ZK)) (by rw [HNN.out]; exact Nat.le_refl _))
      have HA2 : Hid (∀ i, i < k + 1 → (cs.setIfInBounds k (.string ZK))[i]? = some (.string ZK)) := Lib.hid (fun i hi => by
        rw [Array.getElem?_setIfInBounds]
        by_cases e : k = i
        · subst e; rw [if_pos rfl, if_pos (by omega)]
        · rw [if_neg e]; exact HALL.out i (by omega))
      generalize cs[k]'(by omega) = cv at *
      have HK1 := Lib.hid hk1
      clear hlo hhi hk1
      go_wp2_with fail
      go_roundg (5 - (k + 1))
      case measure => rw [HK.out]; omega
      case rel => exact ⟨k + 1, cs.setIfInBounds k (.string ZK), by omega, rfl, by rw [HK1.out], HN2.out, by rw [Array.size_setIfInBounds]; exact HCS.out, HA2.out, HB2.out⟩
    · obtain rfl : k = 5 := by omega
      have HMD := Lib.hid (made165 (N := N) (W := wr) (fun i hi => by rw [cell_of_row wr N i _ 9 (0, 0) HH.out, HALL.out i hi, HZK.out]) (lt_of_block HH.out))
      go_wp2_with fail
      refine Calls.mono HMD.out ?_
      rintro _ W2 ⟨db, mb, rfl, h1, h2, h3⟩
      have HF : Hid (LoadPost w (.returned (.tuple #[.pointer (some ⟨db, 0, none⟩), .int .i64 0])) W2) := Lib.hid ⟨db, mb, N, rfl, h1, Nat.le_trans HB.out.size h2, HB.out.trans (h3.mono HB.out.size)⟩
      clear h1 h2 h3
      go_wp2_with fail
      go_ret2
      exact HF.out
end Go.Proofs.YtocfhldmnbmapaaGreatDoor
