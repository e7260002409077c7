/- The walk over ModelPieces. -/
import Derived.Test.YtadagidjppgbkaaM8
namespace Go.Proofs.Ytadagidjppgbkaa
open Go.RowKit Go.Maps Go.Sort
def bN : ByteArray := ⟨#[110]⟩
def ok0 : Value := .agg #[.int .i64 0, .string ByteArray.empty, .slice none 0 0]
theorem field39 (e : Int) (da : ByteArray) (v : Value) (W : World) : (Instr.field 39 (.agg #[.int .i64 e, .string da, v]) 0).run Try.prog W = .ok (.int .i64 e) W := by kernel_rfl
theorem small' {n : Nat} (h : n ≤ 1048576) : n ≤ maxLen := by simp only [maxLen]; omega
set_option maxRecDepth 100000 in
set_option maxHeartbeats 4000000 in
theorem modelPieces (nm : ByteArray) (A : Option Addr) (n c : Nat) (ls : List ByteArray) (w : World) (hl : Strs w w.heap.size A n ls) (hnc : n ≤ c) :
    Calls Try.prog 6 #[.string nm, .slice A n c] w (LawPost w) := by
  have HL := Lib.hid hl
  clear hl
  have hcase : ∃ nm2 : ByteArray, 1 ≤ nm2.size ∧ nm2.size ≤ 48 ∧ ((decide ((nm.size : Int) < 1) = true ∧ bN = nm2) ∨ (decide ((nm.size : Int) < 1) = false ∧ decide ((48 : Int) < (nm.size : Int)) = true ∧ bN = nm2) ∨ (decide ((nm.size : Int) < 1) = false ∧ decide ((48 : Int) < (nm.size : Int)) = false ∧ nm = nm2)) := by
    by_cases h1 : nm.size < 1
    · exact ⟨bN, by decide, by decide, .inl ⟨by simp; omega, rfl⟩⟩
    · by_cases h2 : 48 < nm.size
      · exact ⟨bN, by decide, by decide, .inr (.inl ⟨by simp; omega, by simp; omega, rfl⟩)⟩
      · exact ⟨nm, by omega, by omega, .inr (.inr ⟨by simp; omega, by simp; omega, rfl⟩)⟩
  obtain ⟨nm2, hz1, hz2, hcase⟩ := hcase
  have hz3 : nm2.size ≤ maxLen := small (by omega)
  have hB : Hid (∀ g b w1, AwAt w g b st0 w1 → Calls Try.prog 14 #[.pointer (some ⟨g, 0, none⟩), callV 1 nm2 ByteArray.empty] w1 fun e w2 => e = .returned ok0 ∧ AwAt w g b (stO nm2 ByteArray.empty) w2) := fun g b w1 h =>
    (do_begin h.1 nm2 ByteArray.empty hz3).mono fun e w2 ⟨he, hm, ht⟩ => ⟨by rw [he, (begun_stO hz1 hz2).1]; rfl, by rw [(begun_stO hz1 hz2).2] at hm; exact h.turn hm ht⟩
  have hW : Hid (∀ g b w1 al da, AwAt w g b (stO nm2 al) w1 → al.size + da.size ≤ 1048576 → da.size ≤ maxLen → Calls Try.prog 14 #[.pointer (some ⟨g, 0, none⟩), callV 2 ByteArray.empty da] w1 fun e w2 => e = .returned ok0 ∧ AwAt w g b (stO nm2 (al ++ da)) w2) := fun g b w1 al da h hs hd =>
    (do_write h.1 ByteArray.empty da hd (by show al.size ≤ _; omega)).mono fun e w2 ⟨he, hm, ht⟩ => ⟨by rw [he, (wrote_stO hs).1]; rfl, by rw [(wrote_stO hs).2] at hm; exact h.turn hm ht⟩
  have hB2 : Hid (∀ g b g2 b2 s w1, Two w g b g2 b2 s st0 w1 → Calls Try.prog 14 #[.pointer (some ⟨g2, 0, none⟩), callV 1 nm2 ByteArray.empty] w1 fun e w2 => (∃ v, e = .returned v) ∧ Two w g b g2 b2 s (stO nm2 ByteArray.empty) w2) := fun g b g2 b2 s w1 h =>
    (do_begin h.two.1 nm2 ByteArray.empty hz3).mono fun e w2 ⟨he, hm, ht⟩ => ⟨⟨_, he⟩, by rw [(begun_stO hz1 hz2).2] at hm; exact h.right hm ht⟩
  have hW2 : Hid (∀ g b g2 b2 s w1 da, Two w g b g2 b2 s (stO nm2 ByteArray.empty) w1 → da.size ≤ 1048576 → Calls Try.prog 14 #[.pointer (some ⟨g2, 0, none⟩), callV 2 ByteArray.empty da] w1 fun e w2 => (∃ v, e = .returned v) ∧ Two w g b g2 b2 s (stO nm2 da) w2) := fun g b g2 b2 s w1 da h hd =>
    (do_write h.two.1 ByteArray.empty da (by simp only [maxLen]; omega) (by show ByteArray.empty.size ≤ _; decide)).mono fun e w2 ⟨he, hm, ht⟩ => ⟨⟨_, he⟩, by
      have hs : ByteArray.empty.size + da.size ≤ 1048576 := by simpa using hd
      rw [(wrote_stO hs).2] at hm
      simp only [ByteArray.empty_append] at hm
      exact h.right hm ht⟩
  have hS1 : Hid (∀ g b g2 b2 al s2 w1, Two w g b g2 b2 (stO nm2 al) s2 w1 → Calls Try.prog 19 #[.pointer (some ⟨g, 0, none⟩)] w1 fun e w2 => e = .returned (.tuple #[.string nm2, .string al, .bool true]) ∧ Two w g b g2 b2 (stO nm2 al) s2 w2) := fun g b g2 b2 al s2 w1 h =>
    (stream_at h.one.1 rfl).mono fun e w2 ⟨he, hb⟩ => ⟨he, h.below hb⟩
  have hS2 : Hid (∀ g b g2 b2 al s w1, Two w g b g2 b2 s (stO nm2 al) w1 → Calls Try.prog 19 #[.pointer (some ⟨g2, 0, none⟩)] w1 fun e w2 => e = .returned (.tuple #[.string nm2, .string al, .bool true]) ∧ Two w g b g2 b2 s (stO nm2 al) w2) := fun g b g2 b2 al s w1 h =>
    (stream_at h.two.1 rfl).mono fun e w2 ⟨he, hb⟩ => ⟨he, h.below hb⟩
  have hC1 : Hid (∀ g b g2 b2 al s2 w1, Two w g b g2 b2 (stO nm2 al) s2 w1 → al.size ≤ maxLen → Calls Try.prog 14 #[.pointer (some ⟨g, 0, none⟩), callV 3 ByteArray.empty ByteArray.empty] w1 fun e w2 => (∃ v, e = .returned v) ∧ Two w g b g2 b2 (stK nm2 al) s2 w2) := fun g b g2 b2 al s2 w1 h ha =>
    (do_commit h.one.1 ByteArray.empty ByteArray.empty hz3 ha (by simp [stO, maxLen])).mono fun e w2 ⟨he, hm, ht⟩ => ⟨⟨_, he⟩, by rw [(ended_stO nm2 al).2] at hm; exact h.left hm ht⟩
  have hC2 : Hid (∀ g b g2 b2 al s w1, Two w g b g2 b2 s (stO nm2 al) w1 → al.size ≤ maxLen → Calls Try.prog 14 #[.pointer (some ⟨g2, 0, none⟩), callV 3 ByteArray.empty ByteArray.empty] w1 fun e w2 => (∃ v, e = .returned v) ∧ Two w g b g2 b2 s (stK nm2 al) w2) := fun g b g2 b2 al s w1 h ha =>
    (do_commit h.two.1 ByteArray.empty ByteArray.empty hz3 ha (by simp [stO, maxLen])).mono fun e w2 ⟨he, hm, ht⟩ => ⟨⟨_, he⟩, by rw [(ended_stO nm2 al).2] at hm; exact h.right hm ht⟩
  have hR : Hid (∀ g b g2 b2 al s2 w1, Two w g b g2 b2 (stK nm2 al) s2 w1 → Calls Try.prog 14 #[.pointer (some ⟨g, 0, none⟩), callV 5 nm2 ByteArray.empty] w1 fun e w2 => e = .returned (.agg #[.int .i64 0, .string al, .slice none 0 0]) ∧ Two w g b g2 b2 (stK nm2 al) s2 w2) := fun g b g2 b2 al s2 w1 h =>
    (do_restore h.one.1 nm2 ByteArray.empty hz3).mono fun e w2 ⟨he, hm, ht⟩ => ⟨by rw [he, if_pos (has_stK nm2 al), val_stK]; rfl, h.left hm ht⟩
  have hSm : Hid (∀ g b g2 b2 al w1, Two w g b g2 b2 (stK nm2 al) (stK nm2 al) w1 → Calls Try.prog 24 #[.pointer (some ⟨g, 0, none⟩), .pointer (some ⟨g2, 0, none⟩)] w1 fun e w2 => e = .returned (.bool true) ∧ Two w g b g2 b2 (stK nm2 al) (stK nm2 al) w2) := fun g b g2 b2 al w1 h =>
    (same_at h.one.1 h.two.1 rfl (by simp [stK, Maps.size])).mono fun e w2 ⟨he, hb⟩ => ⟨he, h.below hb⟩
  unfold ok0 at hB hW
  have hfd := field39
  clear hz1 hz2 hz3
  rcases hcase with ⟨t1, hn2⟩ | ⟨t1, t2, hn2⟩ | ⟨t1, t2, hn2⟩
  all_goals
    have HN2 := Lib.hid hn2
    clear hn2
    go_enter Try.func6, Try.ntmps6
    go_wp2_with (first
      | (go_at_call 8; refine (new8 _).mono ?_; rintro e w1 ⟨g, b, rfl, hb1, hg1, hb2, hm1⟩; have HA1 : Hid (AwAt w g b st0 w1) := ⟨hm1, hb1, hg1, hb2⟩; clear hm1))
    first | rw [show (⟨#[110]⟩ : ByteArray) = nm2 from HN2.out] | rw [HN2.out]
    refine (hB.out g b _ HA1.out).mono ?_
    rintro e w2 ⟨rfl, ha2⟩
    have HA2 := Lib.hid ha2
    clear ha2
    go_wp2_with fail
    go_loopg [6, 7, 8] n (fun gk av i _ wr => ∃ (k : Nat) (al : ByteArray), k ≤ n ∧ k ≤ 12 ∧ gk = n - k ∧ i = .int .i64 k ∧ av = .string al ∧ al.size ≤ 2000 * k ∧ AwAt w g b (stO nm2 al) wr)
    case atStart => exact ⟨0, ByteArray.empty, Nat.zero_le _, Nat.zero_le _, rfl, rfl, rfl, by simp, HA2.out⟩
    case round =>
      obtain ⟨k, al, hk, hk12, hgk, rfl, rfl, hal, haw⟩ := hrel
      have HK := Lib.hid hgk
      have HAW := Lib.hid haw
      clear hgk haw
      by_cases hlt : k < n ∧ k < 12
      · obtain ⟨hlt, hlt12⟩ := hlt
        obtain ⟨s, hs⟩ : ∃ s, ls[k]? = some s := ⟨ls[k]'(by rw [HL.out.1]; exact hlt), by simp⟩
        have hsm := HL.out.2.1 s (List.mem_of_getElem? hs)
        obtain ⟨bb, o, rfl, hbb, hcc2⟩ := HL.out.2.2 (by omega)
        have hc := ((HAW.out.2.1).cell (p := ⟨bb, o + k, none⟩) hbb).trans (hcc2 k s hs)
        clear hcc2 hs
        have t3 : decide ((k : Int) < (n : Int)) = true := by simp; omega
        have t4 : decide ((k : Int) < 12) = true := by simp; omega
        have hss : (s.size : Int) ≤ 9223372036854775807 := by unfold maxLen at hsm; omega
        by_cases hs2 : 2000 < s.size
        · have t5 : decide ((2000 : Int) < (s.size : Int)) = true := by simp; omega
          have hx : (s.extract 0 2000).size = 2000 := by simp [ByteArray.size_extract]; omega
          go_wp2_with fail
          refine (hW.out g b _ al (s.extract 0 2000) HAW.out (by omega) (by rw [hx]; exact small' (by omega))).mono ?_
          rintro e w3 ⟨rfl, ha3⟩
          have HA3 := Lib.hid ha3
          clear ha3
          go_wp2_with fail
          go_roundg (n - (k + 1))
          case measure => rw [HK.out]; omega
          case rel => exact ⟨k + 1, _, by omega, by omega, rfl, by go_num, rfl, by rw [ByteArray.size_append, hx]; omega, HA3.out⟩
        · have t5 : decide ((2000 : Int) < (s.size : Int)) = false := by simp; omega
          go_wp2_with fail
          refine (hW.out g b _ al s HAW.out (by omega) hsm).mono ?_
          rintro e w3 ⟨rfl, ha3⟩
          have HA3 := Lib.hid ha3
          clear ha3
          go_wp2_with fail
          go_roundg (n - (k + 1))
          case measure => rw [HK.out]; omega
          case rel => exact ⟨k + 1, _, by omega, by omega, rfl, by go_num, rfl, by rw [ByteArray.size_append]; omega, HA3.out⟩
      · have hex : k = n ∨ (k = 12 ∧ decide ((12 : Int) < (n : Int)) = true) := by
          by_cases h1 : k < n
          · exact .inr ⟨by omega, by simp; omega⟩
          · exact .inl (by omega)
        have hal2 : al.size ≤ 1048576 := by omega
        have hal3 : al.size ≤ maxLen := small' (by omega)
        clear hlt hal hk hk12
        rcases hex with rfl | ⟨rfl, t3⟩
        all_goals
          go_wp2_with fail
          refine (new8 _).mono ?_
          rintro e w3 ⟨g2, b2, rfl, hb3, hg3, hb32, hm3⟩
          have T0 := Lib.hid (HAW.out.second hb3 hg3 hb32 hm3)
          clear hm3 hb3 hg3 hb32
          go_wp2_with fail
          refine (hB2.out g b g2 b2 _ _ T0.out).mono ?_
          rintro e w4 ⟨⟨v4, rfl⟩, ht4⟩
          have T4 := Lib.hid ht4
          clear ht4
          go_wp2_with fail
          refine (hW2.out g b g2 b2 _ _ al T4.out hal2).mono ?_
          rintro e w5 ⟨⟨v5, rfl⟩, ht5⟩
          have T5 := Lib.hid ht5
          clear ht5
          go_wp2_with fail
          refine (hS2.out g b g2 b2 _ _ _ T5.out).mono ?_
          rintro e w6 ⟨rfl, ht6⟩
          have T6 := Lib.hid ht6
          clear ht6
          go_wp2_with fail
          refine (hS1.out g b g2 b2 _ _ _ T6.out).mono ?_
          rintro e w7 ⟨rfl, ht7⟩
          have T7 := Lib.hid ht7
          clear ht7
          go_wp2_with fail
          refine (hC1.out g b g2 b2 _ _ _ T7.out hal3).mono ?_
          rintro e w8 ⟨⟨v8, rfl⟩, ht8⟩
          have T8 := Lib.hid ht8
          clear ht8
          go_wp2_with fail
          refine (hC2.out g b g2 b2 _ _ _ T8.out hal3).mono ?_
          rintro e w9 ⟨⟨v9, rfl⟩, ht9⟩
          have T9 := Lib.hid ht9
          clear ht9
          go_wp2_with fail
          refine (hR.out g b g2 b2 _ _ _ T9.out).mono ?_
          rintro e w10 ⟨rfl, ht10⟩
          have T10 := Lib.hid ht10
          clear ht10
          go_wp2_with fail
          have T11 := Lib.hid (T10.out.below ((Below.refl _ _).alloc (Nat.le_refl _) (.cells #[.int .i64 0, .string al, .slice none 0 0] 39)))
          refine (hSm.out g b g2 b2 _ _ T11.out).mono ?_
          rintro e w12 ⟨rfl, ht12⟩
          have T12 := Lib.hid ht12
          clear ht12
          go_wp2_with fail
          refine (awake18 _).mono ?_
          rintro e w13 ⟨rfl, hb13⟩
          go_wp2
          go_ret
          exact ⟨rfl, T12.out.one.2.1.trans (hb13.mono T12.out.one.2.1.size)⟩
end Go.Proofs.Ytadagidjppgbkaa
