/- The walk over the reference's Sizes. -/
import Derived.Test.YtgdljjoaiogpfaaR7
import Derived.Deep.RegionHeld3
namespace Go.Proofs.Ytgdljjoaiogpfaa
open Go.RowKit Go.Maps
theorem bytes_part {V : World} {x : Hd} {named : List Plc} {live : Bool} (hS : Slts V x.A x.n x.sl) (ho : ∀ s ∈ x.sl, SOk s) (hn : x.n ≤ 1000) {A : Option Addr} {c : Nat} (hP : Pls V A (part named x live).length (part named x live)) :
    Calls Try.prog 32 #[.agg #[.int .u32 x.id, .slice x.A x.n x.c], .slice A (part named x live).length c] V fun e w' => e = .returned (.int .i64 (bytes named x live)) ∧ Below V.heap.size V w' := by
  refine (bytes32 hS ho hP (Nat.le_trans (partTo_len named x live x.n) hn) (part_ix named x live x.n)).mono ?_
  rintro e w' ⟨rfl, hb⟩
  exact ⟨by rw [show bytesOf x (part named x live) = bytes named x live from bytesOf_part named x live x.n], hb⟩
theorem may_ok {hs : List Hd} (hm : May hs) {k : Nat} {x : Hd} (hx : hs[k]? = some x) : ∀ s ∈ x.sl, SOk s := (hm k).2 x hx
theorem sumB_take (named : List Plc) (live : Bool) {hs : List Hd} {k : Nat} {x : Hd} (hx : hs[k]? = some x) : sumB named live (hs.take (k + 1)) = sumB named live (hs.take k) + bytes named x live := by
  rw [List.take_add_one, hx]
  exact sumB_snoc named live x (hs.take k)
set_option maxRecDepth 100000 in
set_option maxHeartbeats 4000000 in
theorem rsizes25 {w : World} {A : Option Addr} {n c : Nat} {hs : List Hd} {B : Option Addr} {m d : Nat} {named : List Plc} (h : InOk w A n hs B m named) (hm : May hs) :
    Calls Try.prog 25 #[.slice A n c, .slice B m d] w fun e w' => e = .returned (.tuple #[.int .i64 (sumB named true hs), .int .i64 (sumB named false hs)]) ∧ Below w.heap.size w w' := by
  have H := Lib.hid h.hd
  have HLM := Lib.hid h.lim
  have HM := Lib.hid hm
  have HN : Hid (n ≤ 1000) := by have := h.lim.1; rw [h.hd.len] at this; exact this
  have HC16 : Hid (∀ V, Below w.heap.size w V → ∀ (x : Hd) live, x.n ≤ 1000 → Calls Try.prog 16 #[.agg #[.int .u32 x.id, .slice x.A x.n x.c], .slice B m d, .bool live] V fun e w' => ∃ v, e = .returned v ∧ Below V.heap.size V w' ∧ w'.ownsRow V.heap.size 39 2 v (part named x live).length (rowP (part named x live))) := Lib.hid (fun V hV x live hx => part16 (h.pl.below hV) h.mm x hx live)
  clear h hm
  go_enter Try.func25, Try.ntmps25
  go_wp2_with fail
  go_loopg [6, 7, 8] n (fun gk s1 s2 i wr => ∃ k : Nat, k ≤ n ∧ gk = n - k ∧ i = .int .i64 k ∧ s1 = .int .i64 (sumB named true (hs.take k)) ∧ s2 = .int .i64 (sumB named false (hs.take k)) ∧ Below w.heap.size w wr)
  case atStart => exact ⟨0, Nat.zero_le _, rfl, rfl, rfl, rfl, Below.refl _ _⟩
  case round =>
    obtain ⟨k, hk, hgk, rfl, rfl, rfl, hb⟩ := hrel
    have HK := Lib.hid hgk
    have HB := Lib.hid hb
    have HN' := HN.out
    clear hgk hb
    have hb1 := sumB_le (named := named) (live := true) (hs := hs.take k) (fun x hx => by
      obtain ⟨j, hj⟩ := List.getElem?_of_mem (List.mem_of_mem_take hx)
      exact ⟨HLM.out.2 x (List.mem_of_mem_take hx), may_ok HM.out hj⟩)
    have hb2 := sumB_le (named := named) (live := false) (hs := hs.take k) (fun x hx => by
      obtain ⟨j, hj⟩ := List.getElem?_of_mem (List.mem_of_mem_take hx)
      exact ⟨HLM.out.2 x (List.mem_of_mem_take hx), may_ok HM.out hj⟩)
    have hlk : (hs.take k).length ≤ k := by simp; omega
    by_cases hlt : k < n
    · obtain ⟨x, hx⟩ : ∃ x, hs[k]? = some x := ⟨hs[k]'(by rw [H.out.len]; exact hlt), by simp⟩
      obtain ⟨b, o, rfl, c1, c2⟩ := (H.out.below HB.out).get hx
      have hk0 : (0 : Int) ≤ (k : Int) := by omega
      have hk1 : (k : Int) < (n : Int) := by omega
      have hxl : x.n ≤ 1000 := HLM.out.2 x (List.mem_of_getElem? hx)
      have hok := may_ok HM.out hx
      have HT1 := Lib.hid (sumB_take named true hx)
      have HT2 := Lib.hid (sumB_take named false hx)
      have hq1 := bytes_le (named := named) (live := true) hxl hok
      have hq2 := bytes_le (named := named) (live := false) hxl hok
      have HSL := Lib.hid ((H.out.below HB.out).2 x (List.mem_of_getElem? hx))
      have HBY : Hid (∀ V, Below wr.heap.size wr V → ∀ live A2 c2, Pls V A2 (part named x live).length (part named x live) → Calls Try.prog 32 #[.agg #[.int .u32 x.id, .slice x.A x.n x.c], .slice A2 (part named x live).length c2] V fun e w' => e = .returned (.int .i64 (bytes named x live)) ∧ Below V.heap.size V w') := Lib.hid (fun V hV live A2 c2 hp => bytes_part (Slts.below HSL.out hV) hok hxl hp)
      have HCX : Hid (∀ V, Below w.heap.size w V → ∀ live, Calls Try.prog 16 #[.agg #[.int .u32 x.id, .slice x.A x.n x.c], .slice B m d, .bool live] V fun e w' => ∃ v, e = .returned v ∧ Below V.heap.size V w' ∧ w'.ownsRow V.heap.size 39 2 v (part named x live).length (rowP (part named x live))) := Lib.hid (fun V hV live => HC16.out V hV x live hxl)
      have hcl : Hid (∀ V, Below wr.heap.size wr V → V.cell? ⟨b, o + k * 2, none⟩ = some (.int .u32 x.id) ∧ V.cell? ⟨b, o + k * 2 + 1, none⟩ = some (.slice x.A x.n x.c)) := Lib.hid (fun V hV => ⟨below_cell hV c1, below_cell hV c2⟩)
      obtain ⟨S1, hS1⟩ : ∃ S1, sumB named true (hs.take k) = S1 := ⟨_, rfl⟩
      obtain ⟨S2, hS2⟩ : ∃ S2, sumB named false (hs.take k) = S2 := ⟨_, rfl⟩
      rw [hS1] at HT1 hb1
      rw [hS2] at HT2 hb2
      rw [hS1, hS2]
      obtain ⟨Y1, hY1⟩ : ∃ Y1, bytes named x true = Y1 := ⟨_, rfl⟩
      obtain ⟨Y2, hY2⟩ : ∃ Y2, bytes named x false = Y2 := ⟨_, rfl⟩
      have HY1 : Hid (∀ V, Below wr.heap.size wr V → ∀ A2 c2, Pls V A2 (part named x true).length (part named x true) → Calls Try.prog 32 #[.agg #[.int .u32 x.id, .slice x.A x.n x.c], .slice A2 (part named x true).length c2] V fun e w' => e = .returned (.int .i64 Y1) ∧ Below V.heap.size V w') := Lib.hid (fun V hV A2 c2 hp => hY1 ▸ HBY.out V hV true A2 c2 hp)
      have HY2 : Hid (∀ V, Below wr.heap.size wr V → ∀ A2 c2, Pls V A2 (part named x false).length (part named x false) → Calls Try.prog 32 #[.agg #[.int .u32 x.id, .slice x.A x.n x.c], .slice A2 (part named x false).length c2] V fun e w' => e = .returned (.int .i64 Y2) ∧ Below V.heap.size V w') := Lib.hid (fun V hV A2 c2 hp => hY2 ▸ HBY.out V hV false A2 c2 hp)
      rw [hY1] at HT1 hq1
      rw [hY2] at HT2 hq2
      obtain ⟨u1, u2⟩ := hb1
      obtain ⟨u3, u4⟩ := hb2
      obtain ⟨u5, u6⟩ := hq1
      obtain ⟨u7, u8⟩ := hq2
      clear hx hxl hok HBY HC16 hS1 hS2 hY1 hY2
      have hwr1 : IntKind.i64.wrap (S1 + Y1) = S1 + Y1 := IntWalk.i64_in _ (by omega)
      have hwr2 : IntKind.i64.wrap (S2 + Y2) = S2 + Y2 := IntWalk.i64_in _ (by omega)
      go_wp2_with fail
      go_region_held3 (fun w' => w'.cell? ⟨b, o + k * 2, none⟩ = some (.int .u32 x.id) ∧ w'.cell? ⟨b, o + k * 2 + 1, none⟩ = some (.slice x.A x.n x.c))
        (first | (refine ⟨?_, ?_⟩ <;> with_reducible assumption) | go_keep)
        (first
          | (go_at_call 16; refine Calls.mono (HCX.out _ (below_drew HB.out) true) ?_; rintro e w2 ⟨v2, rfl, hb2, hr2⟩; obtain ⟨A2, ac2, hv2⟩ := own_slice hr2; subst hv2; have HP2 := Lib.hid (Pls.own hr2 rfl); have HB2 : Hid (Below wr.heap.size wr w2) := Lib.hid ((below_drew (Below.refl _ wr)).trans hb2); obtain ⟨e1, e2⟩ := hcl.out _ HB2.out; clear hr2 hb2)
          | (go_at_call 32; refine Calls.mono (HY1.out _ HB2.out _ _ HP2.out) ?_; rintro e w3 ⟨rfl, hb3⟩; have HB3 : Hid (Below wr.heap.size wr w3) := Lib.hid (HB2.out.trans (hb3.mono HB2.out.size)); obtain ⟨f1, f2⟩ := hcl.out _ HB3.out; clear hb3))
      have HB3W : Hid (Below w.heap.size w w3) := Lib.hid (HB.out.trans (HB3.out.mono HB.out.size))
      clear e1 e2 c1 c2
      go_wp2_with fail
      go_region_held3 (fun w' => w'.cell? ⟨b, o + k * 2, none⟩ = some (.int .u32 x.id) ∧ w'.cell? ⟨b, o + k * 2 + 1, none⟩ = some (.slice x.A x.n x.c))
        (first | (refine ⟨?_, ?_⟩ <;> with_reducible assumption) | go_keep)
        (first
          | (go_at_call 16; refine Calls.mono (HCX.out _ (below_drew HB3W.out) false) ?_; rintro e w4 ⟨v4, rfl, hb4, hr4⟩; obtain ⟨A4, ac4, hv4⟩ := own_slice hr4; subst hv4; have HP4 := Lib.hid (Pls.own hr4 rfl); have HB4 : Hid (Below wr.heap.size wr w4) := Lib.hid ((below_drew HB3.out).trans (hb4.mono HB3.out.size)); obtain ⟨e1, e2⟩ := hcl.out _ HB4.out; clear hr4 hb4)
          | (go_at_call 32; refine Calls.mono (HY2.out _ HB4.out _ _ HP4.out) ?_; rintro e w5 ⟨rfl, hb5⟩; have HB5 : Hid (Below wr.heap.size wr w5) := Lib.hid (HB4.out.trans (hb5.mono HB4.out.size)); obtain ⟨g1, g2⟩ := hcl.out _ HB5.out; clear hb5))
      have HB5W : Hid (Below w.heap.size w w5) := Lib.hid (HB.out.trans (HB5.out.mono HB.out.size))
      go_wp2
      go_roundg (n - (k + 1))
      case measure => rw [HK.out]; omega
      case rel => exact ⟨k + 1, by omega, rfl, by go_num, by rw [HT1.out], by rw [HT2.out], HB5W.out⟩
    · have HT : Hid (hs.take k = hs) := Lib.hid (List.take_of_length_le (by rw [H.out.len]; omega))
      go_wp2
      go_ret2
      exact ⟨by rw [HT.out]; rfl, HB.out⟩
end Go.Proofs.Ytgdljjoaiogpfaa
