/- The walks over hex, of both. -/
import Derived.Test.YtocfhldmnbmapaaGreatDoorA3
namespace Go.Proofs.YtocfhldmnbmapaaGreatDoor
open Go.RowKit
theorem hex_len (l : List UInt8) : (hexL l).length = 2 * l.length := by
  induction l with
  | nil => rfl
  | cons a r ih => simp [hexL] at ih ⊢; omega
theorem hex_snoc (l : List UInt8) (c : UInt8) : hexL (l ++ [c]) = hexL l ++ [hexD (c.toNat / 16), hexD (c.toNat % 16)] := by simp [hexL]
theorem build_new (w : World) : Lib.IsBuilder 136 5 w.heap.size w.heap.size [] (w.alloc (.cells #[.pointer none, .slice none 0 0] 136)) :=
  .inl ⟨Nat.le_refl _, .slice none 0 0, heap_alloc_new _ _, World.ownsRow_nil _ _ _ _, by simp [Value.ownBlock]⟩
def figs : List UInt8 := [48, 49, 50, 51, 52, 53, 54, 55, 56, 57, 97, 98, 99, 100, 101, 102]
theorem hex_at (n : Nat) (h : n < 16) (h' : n < (⟨#[48, 49, 50, 51, 52, 53, 54, 55, 56, 57, 97, 98, 99, 100, 101, 102]⟩ : ByteArray).size) : (⟨#[48, 49, 50, 51, 52, 53, 54, 55, 56, 57, 97, 98, 99, 100, 101, 102]⟩ : ByteArray)[n]'h' = hexD n := by
  have h2 : n < figs.length := h
  have h3 : n < (str figs).size := h'
  have := str_get figs n h2 h3
  refine Eq.trans this ?_
  have e : hexD n = figs.getD n 0 := rfl
  rw [e]
  simp [List.getD, h2]
set_option maxRecDepth 100000 in
set_option maxHeartbeats 400000 in
theorem hex33 (l : List UInt8) (hl : l.length ≤ 1000000) (w : World) : Calls Tryz.prog 33 #[.string (str l)] w fun e w' => e = .returned (.string (str (hexL l))) ∧ Below w.heap.size w w' := by
  have hlz : (str l).size = l.length := str_size l
  go_enter Tryz.func33, Tryz.ntmps33
  go_wp2_with fail
  go_loopg [7] l.length (fun gk i wr => ∃ k : Nat, k ≤ l.length ∧ gk = l.length - k ∧ i = .int .i64 k ∧ Lib.IsBuilder 136 5 w.heap.size w.heap.size (bytesV (hexL (l.take k))) wr ∧ Below w.heap.size w wr)
  case atStart => exact ⟨0, Nat.zero_le _, rfl, rfl, build_new w, (Below.refl _ _).alloc (Nat.le_refl _) _⟩
  case round =>
    obtain ⟨k, hk, hgk, rfl, hbd, hb⟩ := hrel
    have HK := Lib.hid hgk
    have HBD := Lib.hid hbd
    have HB := Lib.hid hb
    clear hgk hbd hb
    by_cases hlt : k < l.length
    · have h1 : (k : Int) < (l.length : Int) := by omega
      have hg := str_get l k hlt (by rw [hlz]; exact hlt)
      have HT : Hid (hexL (l.take (k + 1)) = hexL (l.take k) ++ [hexD ((l[k]'hlt).toNat / 16), hexD ((l[k]'hlt).toNat % 16)]) := Lib.hid (by rw [List.take_succ_eq_append_getElem hlt, hex_snoc])
      have HL : Hid ((bytesV (hexL (l.take k))).length ≤ 2000000) := Lib.hid (by rw [bytesV_len, hex_len]; simp; omega)
      obtain ⟨c, hcc⟩ : ∃ c, l[k]'hlt = c := ⟨_, rfl⟩
      rw [hcc] at hg HT
      clear hcc
      have q1 : (c.toNat : Int) / 16 < 16 := by have := c.toNat_lt; omega
      have q2 : (0 : Int) ≤ (c.toNat : Int) / 16 := by omega
      have x1 := hex_at (c.toNat / 16) (by have := c.toNat_lt; omega) (by have := c.toNat_lt; show c.toNat / 16 < 16; omega)
      have x2 := hex_at (c.toNat % 16) (by omega) (by show c.toNat % 16 < 16; omega)
      go_wp2_with fail
      refine Calls.mono (Tryz.Builder_WriteByte w.heap.size w.heap.size (bytesV (hexL (l.take k))) _ wr HBD.out (by have := HL.out; omega) HB.out.size) ?_
      rintro e w1 ⟨rfl, hd1, hb1⟩
      have HBD1 := Lib.hid hd1
      have HB1 := Lib.hid (HB.out.trans hb1)
      clear hd1 hb1
      go_wp2_with fail
      refine Calls.mono (Tryz.Builder_WriteByte w.heap.size w.heap.size (bytesV (hexL (l.take k)) ++ [.int .u8 (hexD (c.toNat / 16)).toNat]) _ w1 (.inr HBD1.out) (by have := HL.out; simp; omega) HB1.out.size) ?_
      rintro e w2 ⟨rfl, hd2, hb2⟩
      have HBD2 := Lib.hid hd2
      have HB2 := Lib.hid (HB1.out.trans hb2)
      clear hd2 hb2
      go_wp2
      go_roundg (l.length - (k + 1))
      case measure => rw [HK.out]; omega
      case rel =>
        refine ⟨k + 1, by omega, rfl, by go_num, .inr ?_, HB2.out⟩
        rw [HT.out, bytesV_append]
        have := HBD2.out
        rw [List.append_assoc] at this
        exact this
    · obtain rfl : k = l.length := by omega
      have HE : Hid (hexL (l.take l.length) = hexL l) := Lib.hid (by rw [List.take_length])
      go_wp2_with fail
      refine Calls.mono (Tryz.Builder_String_any w.heap.size w.heap.size (hexL (l.take l.length)) wr HBD.out HB.out.size) ?_
      rintro e w1 ⟨rfl, hb1⟩
      go_wp2
      go_ret
      exact ⟨by rw [← HE.out]; rfl, HB.out.trans hb1⟩
end Go.Proofs.YtocfhldmnbmapaaGreatDoor
