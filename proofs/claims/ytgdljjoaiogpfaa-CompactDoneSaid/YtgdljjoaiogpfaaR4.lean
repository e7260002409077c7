/- The walk over the reference's mixed. -/
import Derived.Test.YtgdljjoaiogpfaaR3
import Derived.Test.YtgdljjoaiogpfaaC10
namespace Go.Proofs.Ytgdljjoaiogpfaa
open Go.RowKit Go.Maps
set_option maxRecDepth 100000 in
set_option maxHeartbeats 1000000 in
theorem rmixed31 {w : World} {B : Option Addr} {m d : Nat} {named : List Plc} (hP : Pls w B m named) (hm : m ≤ 1000) (x : Hd) (hn : x.n ≤ 1000) :
    Calls Try.prog 31 #[.agg #[.int .u32 x.id, .slice x.A x.n x.c], .slice B m d] w fun e w' => e = .returned (.bool (isMixed named x)) ∧ Below w.heap.size w w' := by
  have HCALL : Hid (∀ V, Below w.heap.size w V → ∀ live, Calls Try.prog 16 #[.agg #[.int .u32 x.id, .slice x.A x.n x.c], .slice B m d, .bool live] V fun e w' => ∃ v, e = .returned v ∧ Below V.heap.size V w' ∧ w'.ownsRow V.heap.size 39 2 v (part named x live).length (rowP (part named x live))) := Lib.hid (fun V hV live => part16 (hP.below hV) hm x hn live)
  clear hP
  have HW : Hid (Below w.heap.size w (w.alloc (.cells #[.int .u32 x.id, .slice x.A x.n x.c] 45))) := Lib.hid ((Below.refl _ w).alloc (Nat.le_refl _) _)
  have hb := heap_alloc_new w (.cells #[.int .u32 x.id, .slice x.A x.n x.c] 45)
  have c0 := cell_of_row _ w.heap.size 0 _ 45 (0, 0) hb
  have c1 := cell_of_row _ w.heap.size 1 _ 45 (0, 0) hb
  have HBX := Lib.hid hb
  clear hb
  go_enter Try.func31, Try.ntmps31
  go_wp2_with fail
  refine Calls.mono (HCALL.out _ HW.out true) ?_
  rintro e w1 ⟨v1, rfl, hb1, hr1⟩
  obtain ⟨A1, ac1, hv1⟩ := own_slice hr1
  subst hv1
  have HW1 : Hid (Below w.heap.size w w1) := Lib.hid (HW.out.trans (hb1.mono HW.out.size))
  have hx1 := (hb1.block w.heap.size (by simp)).trans HBX.out
  have e0 := cell_of_row w1 w.heap.size 0 _ 45 (0, 0) hx1
  have e1 := cell_of_row w1 w.heap.size 1 _ 45 (0, 0) hx1
  have HL1 : Hid ((part named x true).length ≤ 1000) := Lib.hid (Nat.le_trans (partTo_len named x true x.n) hn)
  obtain ⟨k1, hk1⟩ : ∃ k1, (part named x true).length = k1 := ⟨_, rfl⟩
  have HK1 := Lib.hid hk1
  rw [hk1]
  clear hr1 hb1 hx1 c0 c1 hk1
  by_cases hp1 : 0 < k1
  · go_wp2_with fail
    refine Calls.mono (HCALL.out _ HW1.out false) ?_
    rintro e w2 ⟨v2, rfl, hb2, hr2⟩
    obtain ⟨A2, ac2, hv2⟩ := own_slice hr2
    subst hv2
    have HW2 : Hid (Below w.heap.size w w2) := Lib.hid (HW1.out.trans (hb2.mono HW1.out.size))
    obtain ⟨k2, hk2⟩ : ∃ k2, (part named x false).length = k2 := ⟨_, rfl⟩
    have HR : Hid (isMixed named x = decide (0 < k2)) := Lib.hid (by rw [isMixed, HK1.out, hk2]; simp [hp1])
    rw [hk2]
    clear hr2 hb2 hk2
    by_cases hp2 : 0 < k2
    · rw [decide_eq_true hp2] at HR
      go_wp2
      go_ret
      exact ⟨by rw [HR.out]; rfl, HW2.out⟩
    · rw [decide_eq_false hp2] at HR
      go_wp2
      go_ret
      exact ⟨by rw [HR.out]; rfl, HW2.out⟩
  · have HR : Hid (isMixed named x = false) := Lib.hid (by rw [isMixed, HK1.out]; simp [hp1])
    go_wp2
    go_ret
    exact ⟨by rw [HR.out]; rfl, HW1.out⟩
end Go.Proofs.Ytgdljjoaiogpfaa
