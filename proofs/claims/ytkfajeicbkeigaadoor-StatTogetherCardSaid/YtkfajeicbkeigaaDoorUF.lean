/- The walk over the law's few. -/
import Derived.Test.YtkfajeicbkeigaaDoorUB
namespace Go.Proofs.YtkfajeicbkeigaaDoor
open Go.RowKit Go.Maps
def fewB (us : List Us) : Bool := decide (us.length ≤ 10) && us.all fun u => decide (u.cs.length ≤ 12)
set_option maxRecDepth 100000 in
set_option maxHeartbeats 4000000 in
theorem few16 {A : Option Addr} {c : Nat} {us : List Us} {w : World} (h : Uss w A us) (hn : us.length ≤ 9223372036854775807) (hm : ∀ u ∈ us, u.cs.length ≤ 9223372036854775807) :
    Calls Tryd.prog 16 #[.slice A us.length c] w fun e w' => (∃ b, e = .returned (.bool b) ∧ (b = true → fewB us = true)) ∧ Below w.heap.size w w' := by
  have H := Lib.hid h
  have HM := Lib.hid hm
  clear h hm
  go_enter Tryd.func16, Tryd.ntmps16
  go_wp2_with fail
  go_loopg [3] us.length (fun gk i wr => ∃ k : Nat, k ≤ us.length ∧ k ≤ 10 ∧ gk = us.length - k ∧ i = .int .i64 k ∧ Below w.heap.size w wr ∧ ∀ u ∈ us.take k, u.cs.length ≤ 12)
  case atStart => exact ⟨0, Nat.zero_le _, Nat.zero_le _, rfl, rfl, Below.refl _ _, fun u hu => by simp at hu⟩
  case round =>
    obtain ⟨k, hk, hk10, hgk, rfl, hb, hall⟩ := hrel
    have HK := Lib.hid hgk
    have HB := Lib.hid hb
    have HA := Lib.hid hall
    clear hgk hb hall
    have hk0 : (0 : Int) ≤ (k : Int) := by omega
    by_cases hlt : k < us.length
    · by_cases h10 : k < 10
      · obtain ⟨u, hu⟩ : ∃ u, us[k]? = some u := ⟨us[k]'hlt, by simp⟩
        obtain ⟨b, o, rfl, _, hr, _⟩ := (H.out.below HB.out).get hu
        have f1 := hr 1 _ rfl
        have hul := HM.out u (List.mem_of_getElem? hu)
        have HTK : Hid (us.take (k + 1) = us.take k ++ [u]) := Lib.hid (by rw [List.take_add_one, hu]; rfl)
        clear hr hu
        have hk1 : (k : Int) < (us.length : Int) := by omega
        obtain ⟨nm, uA, uc, cs⟩ := u
        simp only at *
        by_cases hc : 12 < cs.length
        · go_wp2_with fail
          go_ret
          exact ⟨⟨false, rfl, fun h => by cases h⟩, HB.out⟩
        · go_wp2_with fail
          go_roundg (us.length - (k + 1))
          case measure => rw [HK.out]; omega
          case rel => exact ⟨k + 1, by omega, by omega, rfl, by go_num, HB.out, fun u hu => by
            rw [HTK.out] at hu
            rcases List.mem_append.1 hu with hu | hu
            · exact HA.out u hu
            · rw [List.mem_singleton] at hu
              subst hu
              show cs.length ≤ 12
              omega⟩
      · obtain rfl : k = 10 := by omega
        have hno : ¬ (us.length ≤ 10) := by omega
        go_wp2_with fail
        go_ret
        exact ⟨⟨_, rfl, fun h => by simp at h; omega⟩, HB.out⟩
    · obtain rfl : k = us.length := by omega
      have HE : Hid (fewB us = decide (us.length ≤ 10)) := Lib.hid (by
        have h1 := HA.out
        rw [List.take_length] at h1
        unfold fewB
        rw [show (us.all fun u => decide (u.cs.length ≤ 12)) = true from List.all_eq_true.2 (fun u hu => decide_eq_true (h1 u hu)), Bool.and_true])
      go_wp2_with fail
      go_ret
      exact ⟨⟨_, rfl, fun h => by
        rw [HE.out]
        simp at h
        simp
        omega⟩, HB.out⟩
end Go.Proofs.YtkfajeicbkeigaaDoor
