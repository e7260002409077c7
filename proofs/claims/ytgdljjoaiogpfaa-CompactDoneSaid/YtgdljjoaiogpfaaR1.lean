/- The walks over the reference's Same and SameIDs. -/
import Derived.Test.YtgdljjoaiogpfaaC8
namespace Go.Proofs.Ytgdljjoaiogpfaa
open Go.RowKit Go.Maps
/-- the slice value reads as these IDs -/
def Ids (w : World) (A : Option Addr) (n : Nat) (l : List Int) : Prop :=
  l.length = n ∧ (0 < n → ∃ b o, A = some ⟨b, o, none⟩ ∧ b < w.heap.size ∧ ∀ (i : Nat) (x : Int), l[i]? = some x → w.cell? ⟨b, o + i, none⟩ = some (.int .u32 x))
theorem Ids.len {w : World} {n : Nat} {A : Option Addr} {l : List Int} (h : Ids w A n l) : l.length = n := h.1
theorem Ids.below {w w' : World} {n : Nat} {A : Option Addr} {l : List Int} (h : Ids w A n l) (hb : Below w.heap.size w w') : Ids w' A n l :=
  ⟨h.1, fun hn => by
    obtain ⟨b, o, e, hl, hc⟩ := h.2 hn
    exact ⟨b, o, e, Nat.lt_of_lt_of_le hl hb.size, fun i x hi => (hb.cell (p := ⟨b, o + i, none⟩) hl).trans (hc i x hi)⟩⟩
theorem Ids.get {w : World} {n : Nat} {A : Option Addr} {l : List Int} (h : Ids w A n l) {k : Nat} {p : Int} (hp : l[k]? = some p) :
    ∃ b o, A = some ⟨b, o, none⟩ ∧ w.cell? ⟨b, o + k, none⟩ = some (.int .u32 p) := by
  have hk := (List.getElem?_eq_some_iff.1 hp).1
  obtain ⟨b, o, e, _, hc⟩ := h.2 (by have := h.len; omega)
  exact ⟨b, o, e, hc k p hp⟩
set_option maxRecDepth 100000 in
set_option maxHeartbeats 1000000 in
theorem sameIDs12 {w : World} {A1 A2 : Option Addr} {n1 n2 c1 c2 : Nat} {l1 l2 : List Int} (h1 : Ids w A1 n1 l1) (h2 : Ids w A2 n2 l2) (hn : n1 ≤ 1000000) :
    Calls Try.prog 12 #[.slice A1 n1 c1, .slice A2 n2 c2] w fun e w' => e = .returned (.bool (decide (l1 = l2))) ∧ Below w.heap.size w w' := by
  have H1 := Lib.hid h1
  have H2 := Lib.hid h2
  clear h1 h2
  go_enter Try.func12, Try.ntmps12
  by_cases hne : n1 = n2
  · subst hne
    go_wp2_with fail
    go_loopg [4, 5] n1 (fun gk r i wr => r = .bool false ∧ ∃ k : Nat, k ≤ n1 ∧ gk = n1 - k ∧ i = .int .i64 k ∧ Below w.heap.size w wr ∧ l1.take k = l2.take k)
    case atStart => exact ⟨rfl, 0, Nat.zero_le _, rfl, rfl, Below.refl _ _, by simp⟩
    case round =>
      obtain ⟨rfl, k, hk, hgk, rfl, hb, heq⟩ := hrel
      have HK := Lib.hid hgk
      have HB := Lib.hid hb
      have HEQ := Lib.hid heq
      clear hgk hb heq
      by_cases hlt : k < n1
      · obtain ⟨x, hx⟩ : ∃ x, l1[k]? = some x := ⟨l1[k]'(by rw [H1.out.len]; exact hlt), by simp⟩
        obtain ⟨y, hy⟩ : ∃ y, l2[k]? = some y := ⟨l2[k]'(by rw [H2.out.len]; exact hlt), by simp⟩
        obtain ⟨b, o, rfl, d1⟩ := (H1.out.below HB.out).get hx
        obtain ⟨b', o', rfl, d2⟩ := (H2.out.below HB.out).get hy
        have hk0 : (0 : Int) ≤ (k : Int) := by omega
        have hk1 : (k : Int) < (n1 : Int) := by omega
        have HX := Lib.hid hx
        have HY := Lib.hid hy
        clear hx hy
        by_cases hxy : x = y
        · subst hxy
          go_wp2
          go_quiet (fail)
          go_wp2
          go_roundg (n1 - (k + 1))
          case measure => rw [HK.out]; omega
          case rel => exact ⟨rfl, k + 1, by omega, rfl, by go_num, below_drewN HB.out _, by rw [List.take_add_one, List.take_add_one, HX.out, HY.out, HEQ.out]⟩
        · have HF : Hid (decide (l1 = l2) = false) := Lib.hid (decide_eq_false fun e => hxy (by have := HX.out; rw [e, HY.out] at this; exact (Option.some.inj this).symm))
          go_wp2
          go_quiet (fail)
          go_wp2
          go_ret
          exact ⟨by rw [HF.out]; rfl, below_drewN HB.out _⟩
      · have HF : Hid (decide (l1 = l2) = true) := by
          have h := HEQ.out
          rw [List.take_of_length_le (by rw [H1.out.len]; omega), List.take_of_length_le (by rw [H2.out.len]; omega)] at h
          exact decide_eq_true h
        go_wp2
        go_ret
        exact ⟨by rw [HF.out]; rfl, HB.out⟩
  · have HF : Hid (decide (l1 = l2) = false) := Lib.hid (decide_eq_false fun e => hne (by rw [← H1.out.len, ← H2.out.len, e]))
    have hne2 : ¬ (n1 : Int) = (n2 : Int) := by omega
    go_wp2
    go_ret
    exact ⟨by rw [HF.out]; rfl, Below.refl _ _⟩
set_option maxRecDepth 100000 in
set_option maxHeartbeats 1000000 in
theorem same15 {w : World} {A1 A2 : Option Addr} {n1 n2 c1 c2 : Nat} {l1 l2 : List Plc} (h1 : Pls w A1 n1 l1) (h2 : Pls w A2 n2 l2) (hn : n1 ≤ 1000000) :
    Calls Try.prog 15 #[.slice A1 n1 c1, .slice A2 n2 c2] w fun e w' => e = .returned (.bool (decide (l1 = l2))) ∧ Below w.heap.size w w' := by
  have H1 := Lib.hid h1
  have H2 := Lib.hid h2
  clear h1 h2
  go_enter Try.func15, Try.ntmps15
  by_cases hne : n1 = n2
  · subst hne
    go_wp2_with fail
    go_loopg [4, 5] n1 (fun gk r i wr => r = .bool false ∧ ∃ k : Nat, k ≤ n1 ∧ gk = n1 - k ∧ i = .int .i64 k ∧ Below w.heap.size w wr ∧ l1.take k = l2.take k)
    case atStart => exact ⟨rfl, 0, Nat.zero_le _, rfl, rfl, Below.refl _ _, by simp⟩
    case round =>
      obtain ⟨rfl, k, hk, hgk, rfl, hb, heq⟩ := hrel
      have HK := Lib.hid hgk
      have HB := Lib.hid hb
      have HEQ := Lib.hid heq
      clear hgk hb heq
      by_cases hlt : k < n1
      · obtain ⟨x, hx⟩ : ∃ x, l1[k]? = some x := ⟨l1[k]'(by rw [H1.out.len]; exact hlt), by simp⟩
        obtain ⟨y, hy⟩ : ∃ y, l2[k]? = some y := ⟨l2[k]'(by rw [H2.out.len]; exact hlt), by simp⟩
        obtain ⟨b, o, rfl, d1, d11⟩ := (H1.out.below HB.out).get hx
        obtain ⟨b', o', rfl, d2, d21⟩ := (H2.out.below HB.out).get hy
        have hk0 : (0 : Int) ≤ (k : Int) := by omega
        have hk1 : (k : Int) < (n1 : Int) := by omega
        have hq := neq39
        have hg := guard39
        have HX := Lib.hid hx
        have HY := Lib.hid hy
        have hpe := pair_eq (x := x) (y := y)
        clear hx hy
        obtain ⟨xb, xs⟩ := x
        obtain ⟨yb, ys⟩ := y
        simp only at *
        rcases hpe with ⟨t1, he⟩ | ⟨t1, he⟩
        · have HE := Lib.hid he
          clear he
          go_wp2
          go_quiet (fail)
          go_wp2
          go_roundg (n1 - (k + 1))
          case measure => rw [HK.out]; omega
          case rel => exact ⟨rfl, k + 1, by omega, rfl, by go_num, below_drewN HB.out _, by rw [List.take_add_one, List.take_add_one, HX.out, HY.out, HEQ.out, HE.out]⟩
        · have HF : Hid (decide (l1 = l2) = false) := Lib.hid (decide_eq_false fun e => he (by have := HX.out; rw [e, HY.out] at this; exact (Option.some.inj this).symm))
          clear he
          go_wp2
          go_quiet (fail)
          go_wp2
          go_ret
          exact ⟨by rw [HF.out]; rfl, below_drewN HB.out _⟩
      · have HF : Hid (decide (l1 = l2) = true) := by
          have h := HEQ.out
          rw [List.take_of_length_le (by rw [H1.out.len]; omega), List.take_of_length_le (by rw [H2.out.len]; omega)] at h
          exact decide_eq_true h
        go_wp2
        go_ret
        exact ⟨by rw [HF.out]; rfl, HB.out⟩
  · have HF : Hid (decide (l1 = l2) = false) := Lib.hid (decide_eq_false fun e => hne (by rw [← H1.out.len, ← H2.out.len, e]))
    have hne2 : ¬ (n1 : Int) = (n2 : Int) := by omega
    go_wp2
    go_ret
    exact ⟨by rw [HF.out]; rfl, Below.refl _ _⟩
end Go.Proofs.Ytgdljjoaiogpfaa
