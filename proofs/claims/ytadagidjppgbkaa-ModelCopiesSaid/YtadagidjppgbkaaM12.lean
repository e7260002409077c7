/- The walks over slices.Equal and the reference's Same of texts, whatever they hold. -/
import Derived.Test.YtadagidjppgbkaaM11
namespace Go.Proofs.Ytadagidjppgbkaa
open Go.RowKit Go.Maps Go.Sort
/-- the slice value reads as texts -/
def Rd (w : World) (A : Option Addr) (n : Nat) (ls : List ByteArray) : Prop :=
  ls.length = n ∧ (0 < n → ∃ b o, A = some ⟨b, o, none⟩ ∧ b < w.heap.size ∧ ∀ (i : Nat) (s : ByteArray), ls[i]? = some s → w.cell? ⟨b, o + i, none⟩ = some (.string s))
theorem Rd.below {w w' : World} {n : Nat} {A : Option Addr} {ls : List ByteArray} (h : Rd w A n ls) (hb : Below w.heap.size w w') : Rd w' A n ls :=
  ⟨h.1, fun hn => by
    obtain ⟨b, o, e, hl, hc⟩ := h.2 hn
    exact ⟨b, o, e, Nat.lt_of_lt_of_le hl hb.size, fun i s hi => (hb.cell (p := ⟨b, o + i, none⟩) hl).trans (hc i s hi)⟩⟩
theorem Rd.own {w : World} {base n c : Nat} {A : Option Addr} {ks : List (List UInt8)} (h : w.ownsRow base 9 1 (.slice A n c) n (ks.map encStr)) : Rd w A n (strs ks) := by
  have hl : ks.length = n := by have := h.1; simpa using this
  refine ⟨by simp [strs, hl], fun hn => ?_⟩
  obtain ⟨b, c', hv, hc⟩ := own_str h hn
  injection hv with e1 _ _
  subst e1
  have h0 := hc 0 (by simp [strs]; omega)
  refine ⟨b, 0, rfl, World.block_lt_of_cell? _ _ h0, fun i s hi => ?_⟩
  have hlt := (List.getElem?_eq_some_iff.1 hi).1
  rw [hc i hlt]
  simp [List.getD, hi]
set_option maxRecDepth 100000 in
set_option maxHeartbeats 2000000 in
theorem eq37 {w : World} {A B : Option Addr} {n m c d : Nat} {xs ys : List ByteArray} (h1 : Rd w A n xs) (h2 : Rd w B m ys) (hn : n ≤ 9223372036854775807) (hm : m ≤ 9223372036854775807) :
    Calls Try.prog 37 #[.slice A n c, .slice B m d] w fun e w' => e = .returned (.bool (decide (xs = ys))) ∧ Below w.heap.size w w' := by
  have H1 := Lib.hid h1
  have H2 := Lib.hid h2
  clear h1 h2
  by_cases hnm : n = m
  · subst hnm
    have hnn : (((n : Nat) : Int) != (n : Int)) = false := by simp
    go_enter Try.func37, Try.ntmps37
    go_wp2_with fail
    go_loopg [5, 13] n (fun gk _ i wr => ∃ k : Nat, k ≤ n ∧ gk = n - k ∧ i = .int .i64 k ∧ Below w.heap.size w wr ∧ xs.take k = ys.take k)
    case atStart => exact ⟨0, Nat.zero_le _, rfl, rfl, Below.refl _ _, by simp⟩
    case round =>
      obtain ⟨k, hk, hgk, rfl, hbw, htk⟩ := hrel
      have HK := Lib.hid hgk
      have HBW := Lib.hid hbw
      have HTK := Lib.hid htk
      clear hgk htk
      by_cases hlt : k < n
      · obtain ⟨x, hx⟩ : ∃ x, xs[k]? = some x := ⟨xs[k]'(by rw [H1.out.1]; exact hlt), by simp⟩
        obtain ⟨y, hy⟩ : ∃ y, ys[k]? = some y := ⟨ys[k]'(by rw [H2.out.1]; exact hlt), by simp⟩
        obtain ⟨b1, o1, rfl, hb1, hc1⟩ := H1.out.2 (by omega)
        obtain ⟨b2, o2, rfl, hb2, hc2⟩ := H2.out.2 (by omega)
        have q1 := (hbw.cell (p := ⟨b1, o1 + k, none⟩) hb1).trans (hc1 k x hx)
        have q2 := (hbw.cell (p := ⟨b2, o2 + k, none⟩) hb2).trans (hc2 k y hy)
        have HX := Lib.hid hx
        have HY := Lib.hid hy
        have hk0 : (0 : Int) ≤ (k : Int) := by omega
        have hk1 : (k : Int) < (n : Int) := by omega
        clear hc1 hc2 hx hy hbw
        by_cases hxy : x = y
        · have HTK2 : Hid (xs.take (k + 1) = ys.take (k + 1)) := by
            show _ = _
            rw [List.take_add_one, List.take_add_one, HTK.out, HX.out, HY.out, hxy]
          subst hxy
          go_wp2
          go_quiet (fail)
          go_wp2
          go_roundg (n - (k + 1))
          case measure => rw [HK.out]; omega
          case rel => exact ⟨k + 1, by omega, rfl, by go_num, below_drewN HBW.out _, HTK2.out⟩
        · have hne : decide (xs = ys) = false := by
            simp only [decide_eq_false_iff_not]
            intro e
            have h := HX.out
            rw [e, HY.out] at h
            injection h with h
            exact hxy h.symm
          have HNE := Lib.hid hne
          have hb := ne_list hxy
          clear hxy hne
          go_wp2
          go_quiet (fail)
          go_wp2
          go_ret
          exact ⟨by rw [HNE.out]; rfl, below_drewN HBW.out _⟩
      · have he : decide (xs = ys) = true := by
          have := HTK.out
          rw [List.take_of_length_le (by rw [H1.out.1]; omega), List.take_of_length_le (by rw [H2.out.1]; omega)] at this
          simpa using this
        have HE := Lib.hid he
        clear he
        go_wp2
        go_ret
        exact ⟨by rw [HE.out]; rfl, HBW.out⟩
  · have hnn : (((n : Nat) : Int) != (m : Int)) = true := by simp only [bne_iff_ne, ne_eq]; omega
    have hne : decide (xs = ys) = false := by
      simp only [decide_eq_false_iff_not]
      intro e
      exact hnm (by rw [← H1.out.1, e, H2.out.1])
    have HNE := Lib.hid hne
    clear hnm hne
    go_enter Try.func37, Try.ntmps37
    go_wp2
    go_ret
    exact ⟨by rw [HNE.out]; rfl, Below.refl _ _⟩
set_option maxRecDepth 100000 in
set_option maxHeartbeats 2000000 in
theorem eq30 {w : World} {A B : Option Addr} {n m c d : Nat} {xs ys : List ByteArray} (h1 : Rd w A n xs) (h2 : Rd w B m ys) (hn : n ≤ 9223372036854775807) (hm : m ≤ 9223372036854775807) :
    Calls Try.prog 30 #[.slice A n c, .slice B m d] w fun e w' => e = .returned (.bool (decide (xs = ys))) ∧ Below w.heap.size w w' := by
  have H1 := Lib.hid h1
  have H2 := Lib.hid h2
  clear h1 h2
  by_cases hnm : n = m
  · subst hnm
    have hnn : (((n : Nat) : Int) != (n : Int)) = false := by simp
    go_enter Try.func30, Try.ntmps30
    go_wp2_with fail
    go_loopg [5] n (fun gk i wr => ∃ k : Nat, k ≤ n ∧ gk = n - k ∧ i = .int .i64 k ∧ Below w.heap.size w wr ∧ xs.take k = ys.take k)
    case atStart => exact ⟨0, Nat.zero_le _, rfl, rfl, Below.refl _ _, by simp⟩
    case round =>
      obtain ⟨k, hk, hgk, rfl, hbw, htk⟩ := hrel
      have HK := Lib.hid hgk
      have HBW := Lib.hid hbw
      have HTK := Lib.hid htk
      clear hgk htk
      by_cases hlt : k < n
      · obtain ⟨x, hx⟩ : ∃ x, xs[k]? = some x := ⟨xs[k]'(by rw [H1.out.1]; exact hlt), by simp⟩
        obtain ⟨y, hy⟩ : ∃ y, ys[k]? = some y := ⟨ys[k]'(by rw [H2.out.1]; exact hlt), by simp⟩
        obtain ⟨b1, o1, rfl, hb1, hc1⟩ := H1.out.2 (by omega)
        obtain ⟨b2, o2, rfl, hb2, hc2⟩ := H2.out.2 (by omega)
        have q1 := (hbw.cell (p := ⟨b1, o1 + k, none⟩) hb1).trans (hc1 k x hx)
        have q2 := (hbw.cell (p := ⟨b2, o2 + k, none⟩) hb2).trans (hc2 k y hy)
        have HX := Lib.hid hx
        have HY := Lib.hid hy
        have hk0 : (0 : Int) ≤ (k : Int) := by omega
        have hk1 : (k : Int) < (n : Int) := by omega
        clear hc1 hc2 hx hy hbw
        by_cases hxy : x = y
        · have HTK2 : Hid (xs.take (k + 1) = ys.take (k + 1)) := by
            show _ = _
            rw [List.take_add_one, List.take_add_one, HTK.out, HX.out, HY.out, hxy]
          subst hxy
          go_wp2
          go_quiet (fail)
          go_wp2
          go_roundg (n - (k + 1))
          case measure => rw [HK.out]; omega
          case rel => exact ⟨k + 1, by omega, rfl, by go_num, below_drewN HBW.out _, HTK2.out⟩
        · have hne : decide (xs = ys) = false := by
            simp only [decide_eq_false_iff_not]
            intro e
            have h := HX.out
            rw [e, HY.out] at h
            injection h with h
            exact hxy h.symm
          have HNE := Lib.hid hne
          have hb := ne_list hxy
          clear hxy hne
          go_wp2
          go_quiet (fail)
          go_wp2
          go_ret
          exact ⟨by rw [HNE.out]; rfl, below_drewN HBW.out _⟩
      · have he : decide (xs = ys) = true := by
          have := HTK.out
          rw [List.take_of_length_le (by rw [H1.out.1]; omega), List.take_of_length_le (by rw [H2.out.1]; omega)] at this
          simpa using this
        have HE := Lib.hid he
        clear he
        go_wp2
        go_ret
        exact ⟨by rw [HE.out]; rfl, HBW.out⟩
  · have hnn : (((n : Nat) : Int) != (m : Int)) = true := by simp only [bne_iff_ne, ne_eq]; omega
    have hne : decide (xs = ys) = false := by
      simp only [decide_eq_false_iff_not]
      intro e
      exact hnm (by rw [← H1.out.1, e, H2.out.1])
    have HNE := Lib.hid hne
    clear hnm hne
    go_enter Try.func30, Try.ntmps30
    go_wp2
    go_ret
    exact ⟨by rw [HNE.out]; rfl, Below.refl _ _⟩
end Go.Proofs.Ytadagidjppgbkaa
