/- The walk over the reference's May. -/
import Derived.Test.YtgdljjoaiogpfaaR5
namespace Go.Proofs.Ytgdljjoaiogpfaa
open Go.RowKit Go.Maps
open Classical in
noncomputable def mayB (hs : List Hd) : Bool := decide (May hs)
theorem mayB_yes {hs : List Hd} (h : May hs) : mayB hs = true := by unfold mayB; simpa using h
theorem mayB_no {hs : List Hd} (h : ¬ May hs) : mayB hs = false := by unfold mayB; simpa using h
set_option maxRecDepth 100000 in
set_option maxHeartbeats 4000000 in
theorem may10 {w : World} {A : Option Addr} {n c : Nat} {hs : List Hd} (h : Hds w A n hs) (hl : Lim hs) :
    Calls Try.prog 10 #[.slice A n c] w fun e w' => e = .returned (.bool (mayB hs)) ∧ Below w.heap.size w w' := by
  have H := Lib.hid h
  have HN : Hid (n ≤ 1000) := by have := hl.1; rw [h.len] at this; exact this
  have HL := Lib.hid hl.2
  clear h hl
  go_enter Try.func10, Try.ntmps10
  go_wp2_with fail
  go_loopg [2, 3, 4] n (fun gk r i ik wr => r = .bool false ∧ ∃ k : Nat, k ≤ n ∧ gk = n - k ∧ i = .int .i64 k ∧ Below w.heap.size w wr ∧ ∀ j, j < k → HOk hs j)
  case atStart => exact ⟨rfl, 0, Nat.zero_le _, rfl, rfl, Below.refl _ _, fun j hj => by omega⟩
  case round =>
    obtain ⟨wo, rfl⟩ : ∃ wo, wo = wr := ⟨_, rfl⟩
    obtain ⟨rfl, k, hk, hgk, rfl, hb, hok⟩ := hrel
    have HK := Lib.hid hgk
    have HB := Lib.hid hb
    have HOK := Lib.hid hok
    have HN' := HN.out
    clear hgk hb hok
    by_cases hlt : k < n
    · obtain ⟨x, hx⟩ : ∃ x, hs[k]? = some x := ⟨hs[k]'(by rw [H.out.len]; exact hlt), by simp⟩
      obtain ⟨b, o, rfl, c1, c2⟩ := (H.out.below HB.out).get hx
      have HX := Lib.hid hx
      have hk0 : (0 : Int) ≤ (k : Int) := by omega
      have hk1 : (k : Int) < (n : Int) := by omega
      have hxl : x.n ≤ 1000 := HL.out x (List.mem_of_getElem? hx)
      have HS := Lib.hid ((H.out.below HB.out).2 x (List.mem_of_getElem? hx))
      have hcase := idOk_cases hx
      obtain ⟨xi, xA, xn, xc, xl⟩ := x
      simp only at *
      clear hx
      by_cases hidk : IdOk hs k
      · have HID := Lib.hid hidk
        have hcase2 : k = 0 ∨ ∃ g, hs[k - 1]? = some g ∧ 0 < k ∧ g.id < xi := by
          rcases hcase with ⟨_, h0⟩ | ⟨g, h1, h2, ⟨_, h3⟩ | ⟨h3, _⟩⟩
          · exact .inl h0
          · exact .inr ⟨g, h1, h2, h3⟩
          · exact absurd hidk h3
        clear hcase hidk
        refine hcase2.elim (fun hkz => ?kz) (fun hkp => ?kp)
        case' kz =>
          have hk2 : ¬ (0 : Int) < (k : Int) := by omega
          have HK2 : Hid (¬ 0 < k) := by show ¬ 0 < k; omega
          clear hkz hcase2
          go_wp2_with fail
          have hk22 := HK2.out
          go_quiet (fail)
          clear hk22 hk2
          go_wp2
        case' kp =>
          obtain ⟨g, hg, hkp, hlt2⟩ := hkp
          obtain ⟨b', o', hb', d1, d2⟩ := (H.out.below HB.out).get hg
          obtain ⟨rfl, rfl⟩ : b = b' ∧ o = o' := by simpa using hb'
          have hk2 : (0 : Int) < (k : Int) := by omega
          have hk3 : ((k : Int) - 1).toNat = k - 1 := by omega
          clear hb' hg hcase2
          go_wp2_with fail
          go_quiet (fail)
          go_wp2
        all_goals
          go_loopg [2, 4] xn (fun gk2 r2 i2 wQ => r2 = .bool false ∧ ∃ m : Nat, m ≤ xn ∧ gk2 = xn - m ∧ i2 = .int .i64 m ∧ Below wo.heap.size wo wQ ∧ ∀ s ∈ xl.take m, SOk s)
        all_goals first
          | (exact ⟨rfl, 0, Nat.zero_le _, rfl, rfl, below_drewN (Below.refl _ _) _, by simp⟩)
          | skip
        all_goals
          obtain ⟨rfl, m, hm, hgk2, rfl, hbi, hso⟩ := hrel
          have HGK2 := Lib.hid hgk2
          have HBI := Lib.hid hbi
          have HSO := Lib.hid hso
          have HB2 : Hid (Below wo.heap.size wo wr) := Lib.hid hbi
          have c2i := below_cell hbi c2
          have HBW : Hid (Below w.heap.size w wr) := Lib.hid (HB.out.trans (HB2.out.mono HB.out.size))
          clear hgk2 hbi hso
          by_cases hlt2 : m < xn
          · obtain ⟨s, hs'⟩ : ∃ s, xl[m]? = some s := ⟨xl[m]'(by rw [HS.out.len]; exact hlt2), by simp⟩
            obtain ⟨b2, o2, rfl, f1, f2⟩ := (HS.out.below HB2.out).get hs'
            have hm0 : (0 : Int) ≤ (m : Int) := by omega
            have hm1 : (m : Int) < (xn : Int) := by omega
            have HNS := Lib.hid (not_may_s HX.out hs')
            have HTK := Lib.hid (take_ok hs' HSO.out)
            obtain ⟨sl, sc⟩ := s
            simp only at *
            clear hs'
            by_cases q1 : sl < 1
            · go_wp2
              go_ret
              exact ⟨by rw [mayB_no (HNS.out fun h => by have := h.1; simp only at this; omega)]; rfl, HBW.out⟩
            · by_cases q2 : 4096 < sl
              · go_wp2
                go_ret
                exact ⟨by rw [mayB_no (HNS.out fun h => by have := h.2; simp only at this; omega)]; rfl, HBW.out⟩
              · go_wp2
                go_roundg (xn - (m + 1))
                case measure => rw [HGK2.out]; omega
                case rel => exact ⟨rfl, m + 1, by omega, rfl, by go_num, HBI.out, HTK.out ⟨by simp only; omega, by simp only; omega⟩⟩
          · have HHD := Lib.hid (head_done (m := m) HX.out HID.out (by rw [HS.out.len]; omega) HSO.out)
            go_wp2
            go_roundg (n - (k + 1))
            case measure => rw [HK.out]; omega
            case rel =>
              refine ⟨rfl, k + 1, by omega, rfl, by go_num, HBW.out, fun j hj => ?_⟩
              by_cases hjk : j < k
              · exact HOK.out j hjk
              · obtain rfl : j = k := by omega
                exact HHD.out
      · obtain ⟨g, hg, hkp, hlt2⟩ : ∃ g, hs[k - 1]? = some g ∧ 0 < k ∧ xi ≤ g.id := by
          rcases hcase with ⟨h0, _⟩ | ⟨g, h1, h2, ⟨h3, _⟩ | ⟨_, h3⟩⟩
          · exact absurd h0 hidk
          · exact absurd h3 hidk
          · exact ⟨g, h1, h2, h3⟩
        have HNO := Lib.hid (mayB_no (not_may_id hidk))
        obtain ⟨b', o', hb', d1, d2⟩ := (H.out.below HB.out).get hg
        obtain ⟨rfl, rfl⟩ : b = b' ∧ o = o' := by simpa using hb'
        have hk2 : (0 : Int) < (k : Int) := by omega
        have hk3 : ((k : Int) - 1).toNat = k - 1 := by omega
        clear hb' hg hcase hidk
        go_wp2_with fail
        go_quiet (fail)
        go_wp2
        go_ret
        exact ⟨by rw [HNO.out]; rfl, below_drewN HB.out _⟩
    · have HOUT : Hid (mayB hs = true) := Lib.hid (mayB_yes (may_done (n := k) (by rw [H.out.len]; omega) HOK.out))
      go_wp2
      go_ret
      exact ⟨by rw [HOUT.out]; rfl, HB.out⟩
end Go.Proofs.Ytgdljjoaiogpfaa
