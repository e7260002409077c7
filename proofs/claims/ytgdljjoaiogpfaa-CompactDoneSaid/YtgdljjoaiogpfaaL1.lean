/- The walks over the law's few and slot. -/
import Derived.Test.YtgdljjoaiogpfaaC4
import Derived.Deep.RegionWith
namespace Go.Proofs.Ytgdljjoaiogpfaa
open Go.RowKit Go.Maps
def FewEnd (hs : List Hd) (n m : Nat) (e : Ending) : Prop := ∃ b : Bool, e = .returned (.bool b) ∧ (b = true → n ≤ 12 ∧ m ≤ 60 ∧ ∀ x ∈ hs, x.n ≤ 20)
set_option maxRecDepth 100000 in
set_option maxHeartbeats 4000000 in
theorem few7 {w : World} {A : Option Addr} {n c : Nat} {hs : List Hd} (h : Hds w A n hs) (B : Option Addr) (m d : Nat) :
    Calls Try.prog 7 #[.slice A n c, .slice B m d] w fun e w' => FewEnd hs n m e ∧ Below w.heap.size w w' := by
  have H := Lib.hid h
  clear h
  go_enter Try.func7, Try.ntmps7
  go_wp2_with fail
  go_loopg [5] 12 (fun gk i wr => ∃ k : Nat, k ≤ 12 ∧ gk = 12 - k ∧ i = .int .i64 k ∧ Below w.heap.size w wr ∧ ∀ x ∈ hs.take k, x.n ≤ 20)
  case atStart => exact ⟨0, Nat.zero_le _, rfl, rfl, Below.refl _ _, by simp⟩
  case round =>
    obtain ⟨k, hk, hgk, rfl, hb, ha⟩ := hrel
    have HK := Lib.hid hgk
    have HB := Lib.hid hb
    have HA := Lib.hid ha
    clear hgk hb ha
    by_cases hlt : k < n
    · by_cases h12 : k < 12
      · obtain ⟨x, hx⟩ : ∃ x, hs[k]? = some x := ⟨hs[k]'(by rw [H.out.len]; exact hlt), by simp⟩
        obtain ⟨b, o, rfl, c1, c2⟩ := (H.out.below HB.out).get hx
        have hk0 : (0 : Int) ≤ (k : Int) := by omega
        have hk1 : (k : Int) < (n : Int) := by omega
        have hk2 : (k : Int) < 12 := by omega
        by_cases hbig : (20 : Int) < (x.n : Int)
        · go_wp2
          go_ret
          exact ⟨⟨false, rfl, (fun e => by cases e)⟩, HB.out⟩
        · have HTK : Hid (∀ y ∈ hs.take (k + 1), y.n ≤ 20) := Lib.hid (by
            intro y hy
            rw [List.take_add_one, hx] at hy
            simp only [Option.toList_some, List.mem_append, List.mem_singleton] at hy
            rcases hy with hy | rfl
            · exact HA.out y hy
            · omega)
          go_wp2
          go_roundg (12 - (k + 1))
          case measure => rw [HK.out]; omega
          case rel => exact ⟨k + 1, by omega, rfl, by go_num, HB.out, HTK.out⟩
      · have hk1 : (k : Int) < (n : Int) := by omega
        have hk2 : ¬ (k : Int) < 12 := by omega
        have hk3 : ¬ (n : Int) ≤ 12 := by omega
        clear h12
        go_wp2
        go_ret
        exact ⟨⟨false, rfl, (fun e => by cases e)⟩, HB.out⟩
    · have hk1 : ¬ (k : Int) < (n : Int) := by omega
      have hk3 : (n : Int) ≤ 12 := by omega
      have HN : Hid (n ≤ 12) := by show n ≤ 12; omega
      have HT : Hid (hs.take k = hs) := Lib.hid (List.take_of_length_le (by rw [H.out.len]; omega))
      by_cases hm : (m : Int) ≤ 60
      · have HM : Hid (m ≤ 60) := by show m ≤ 60; omega
        clear hlt
        go_wp2
        go_ret
        exact ⟨⟨true, rfl, fun _ => ⟨HN.out, HM.out, by have := HA.out; rw [HT.out] at this; exact this⟩⟩, HB.out⟩
      · clear hlt
        go_wp2
        go_ret
        exact ⟨⟨false, rfl, (fun e => by cases e)⟩, HB.out⟩
end Go.Proofs.Ytgdljjoaiogpfaa
