/- The reference's Has and Same over numbers. -/
import Derived.Test.YtnpgfhoagpeelaaA1
namespace Go.Proofs.Ytnpgfhoagpeelaa
open Go.RowKit
theorem not_mem_take {α : Type} [DecidableEq α] {l : List α} {k : Nat} {x y : α} (hk : l[k]? = some y) (h : ∀ z ∈ l.take k, z ≠ x) (hy : y ≠ x) : ∀ z ∈ l.take (k + 1), z ≠ x := by
  intro z hz
  rw [List.take_add_one, hk] at hz
  rcases List.mem_append.1 hz with hz | hz
  · exact h z hz
  · simp only [Option.toList_some, List.mem_singleton] at hz
    rw [hz]; exact hy
theorem same_take {α : Type} {l m : List α} {k : Nat} {x : α} (h : l.take k = m.take k) (hl : l[k]? = some x) (hm : m[k]? = some x) : l.take (k + 1) = m.take (k + 1) := by
  rw [List.take_add_one, List.take_add_one, h, hl, hm]
set_option maxHeartbeats 1000000 in
theorem same20 {A B : Option Addr} {c d : Nat} {l m : List Id} {w : World} (h1 : Ids w A l) (h2 : Ids w B m) (hn : l.length ≤ 1000000) :
    Calls Try.prog 18 #[.slice A l.length c, .slice B m.length d] w fun e w' => e = .returned (.bool (decide (l = m))) ∧ ∃ q, w' = w.drewN q := by
  have H1 := Lib.hid h1
  have H2 := Lib.hid h2
  have HY : Hid (l = m → decide (l = m) = true) := Lib.hid (fun h => decide_eq_true h)
  have HN : Hid (l ≠ m → decide (l = m) = false) := Lib.hid (fun h => decide_eq_false h)
  clear h1 h2
  generalize decide (l = m) = r at *
  by_cases hlen : l.length = m.length
  · have hlb : ((l.length : Int) != (m.length : Int)) = false := by simp [hlen]
    have HL := Lib.hid hlen
    clear hlen
    go_enter Try.func18, Try.ntmps18
    go_wp2_with fail
    go_loopg [5] l.length (fun gk i wr => ∃ k : Nat, k ≤ l.length ∧ gk = l.length - k ∧ i = .int .i64 k ∧ (∃ q, wr = w.drewN q) ∧ l.take k = m.take k)
    case atStart => exact ⟨0, Nat.zero_le _, rfl, rfl, ⟨0, rfl⟩, by simp⟩
    case round =>
      obtain ⟨k, hk, hgk, rfl, ⟨q, hw⟩, hall⟩ := hrel
      have HK := Lib.hid hgk
      have HALL := Lib.hid hall
      have HW := Lib.hid hw
      clear hgk hall hw
      by_cases hlt : k < l.length
      · obtain ⟨x, hx⟩ : ∃ y, l[k]? = some y := ⟨_, List.getElem?_eq_getElem hlt⟩
        obtain ⟨y, hy⟩ : ∃ y, m[k]? = some y := ⟨_, List.getElem?_eq_getElem (by rw [← HL.out]; exact hlt)⟩
        obtain ⟨b, o, rfl, _, hc⟩ := H1.out.get hx
        obtain ⟨b2, o2, rfl, _, hc2⟩ := H2.out.get hy
        have c1 : wr.cell? ⟨b, o + k, none⟩ = some (.int .u32 x) := by rw [HW.out]; exact hc
        have c2 : wr.cell? ⟨b2, o2 + k, none⟩ = some (.int .u32 y) := by rw [HW.out]; exact hc2
        have hk0 : (0 : Int) ≤ (k : Int) := by omega
        have hk1 : (k : Int) < (l.length : Int) := by omega
        have hk2 : (k : Int) < (m.length : Int) := by have := HL.out; omega
        have HX := Lib.hid hx
        have HYY := Lib.hid hy
        clear hx hy hc hc2
        by_cases hyx : x = y
        · subst hyx
          have hb : (x != x) = false := by simp
          go_wp2_with fail
          go_quiet (fail)
          go_wp2_with fail
          go_roundg (l.length - (k + 1))
          case measure => rw [HK.out]; omega
          case rel => exact ⟨k + 1, by omega, rfl, by go_num, ⟨q + nq, by rw [HW.out, World.drewN_drewN]⟩, same_take HALL.out HX.out HYY.out⟩
        · have hb : (x != y) = true := by simp [hyx]
          have hr := HN.out (fun e => hyx (by have := HX.out; rw [e, HYY.out] at this; exact (Option.some.inj this).symm))
          subst hr
          go_wp2_with fail
          go_quiet (fail)
          go_wp2_with fail
          go_ret
          exact ⟨rfl, q + nq, by rw [HW.out, World.drewN_drewN]⟩
      · obtain rfl : k = l.length := by omega
        have hr := HY.out (by
          have := HALL.out
          rw [List.take_length, HL.out, List.take_length] at this
          exact this)
        subst hr
        go_wp2_with fail
        go_ret
        exact ⟨rfl, q, HW.out⟩
  · have hlb : ((l.length : Int) != (m.length : Int)) = true := by simp; omega
    have hr := HN.out (fun e => hlen (by rw [e]))
    subst hr
    go_enter Try.func18, Try.ntmps18
    go_wp2_with fail
    go_ret
    exact ⟨rfl, 0, rfl⟩
end Go.Proofs.Ytnpgfhoagpeelaa
