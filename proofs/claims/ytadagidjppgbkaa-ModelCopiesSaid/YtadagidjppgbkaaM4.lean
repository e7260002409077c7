/- The walks over awake, Alike, and ModelNobody. -/
import Derived.Test.YtadagidjppgbkaaM3
import Derived.Deep.LoopGhost
namespace Go.Proofs.Ytadagidjppgbkaa
open Go.RowKit Go.Maps
def bA : ByteArray := ⟨#[97]⟩
def bX : ByteArray := ⟨#[120]⟩
def bY : ByteArray := ⟨#[121]⟩
def bXY : ByteArray := ⟨#[120, 121]⟩
def st0 : Md := ⟨.map [], 0, false, ByteArray.empty, ByteArray.empty⟩
def st1 : Md := ⟨.map [], 0, true, bA, ByteArray.empty⟩
def st2 : Md := ⟨.map [], 0, true, bA, bX⟩
def st3 : Md := ⟨.map [], 0, true, bA, bXY⟩
theorem st01 : st0.begun bA = st1 := by
  have : beginE st0 bA = 0 := by decide
  rw [Md.begun, if_pos this]; rfl
theorem st12 : st1.wrote bX = st2 := by
  have : writeE st1 bX = 0 := by decide
  rw [Md.wrote, if_pos this]; rfl
theorem st23 : st2.wrote bY = st3 := by
  have : writeE st2 bY = 0 := by decide
  rw [Md.wrote, if_pos this]; rfl
def st4 : Md := ⟨.map [(.string [97], .lit (.string [120, 121]))], 1, false, ByteArray.empty, ByteArray.empty⟩
theorem st34 : st3.ended true = st4 := by
  rw [Md.ended, if_neg (by decide), if_pos rfl]; rfl
theorem has4 : has st4 bA = true := by rfl
theorem val4 : valOf st4 bA = bXY := by rfl
def LawPost (w : World) (e : Ending) (w' : World) : Prop := e = .returned (.bool true) ∧ Below w.heap.size w w'
/-- the model of awake -/
def AwAt (w : World) (g b : Nat) (s : Md) (w' : World) : Prop := MdAt g b s w' ∧ Below w.heap.size w w' ∧ w.heap.size ≤ g ∧ w.heap.size ≤ b
theorem AwAt.turn {w : World} {g b : Nat} {s s' : Md} {w1 w2 : World} (h : AwAt w g b s w1) (hm : MdAt g b s' w2) (ht : Turn g b w1 w2) : AwAt w g b s' w2 := ⟨hm, ht.below h.2.1 h.2.1.size h.2.2.1 h.2.2.2, h.2.2⟩
theorem small {n : Nat} (h : n ≤ 100) : n ≤ maxLen := by simp only [maxLen]; omega
set_option maxRecDepth 100000 in
set_option maxHeartbeats 2000000 in
theorem awake18 (w : World) : Calls Try.prog 18 #[] w (LawPost w) := by
  have hb : Hid (∀ g b w1, AwAt w g b st0 w1 → Calls Try.prog 14 #[.pointer (some ⟨g, 0, none⟩), callV 1 bA ByteArray.empty] w1 fun e w2 => (∃ v, e = .returned v) ∧ AwAt w g b st1 w2) := fun g b w1 h =>
    (do_begin h.1 bA ByteArray.empty (small (by decide))).mono fun e w2 ⟨he, hm, ht⟩ => ⟨⟨_, he⟩, by rw [st01] at hm; exact h.turn hm ht⟩
  have hx : Hid (∀ g b w1, AwAt w g b st1 w1 → Calls Try.prog 14 #[.pointer (some ⟨g, 0, none⟩), callV 2 ByteArray.empty bX] w1 fun e w2 => (∃ v, e = .returned v) ∧ AwAt w g b st2 w2) := fun g b w1 h =>
    (do_write h.1 ByteArray.empty bX (small (by decide)) (by decide)).mono fun e w2 ⟨he, hm, ht⟩ => ⟨⟨_, he⟩, by rw [st12] at hm; exact h.turn hm ht⟩
  have hy : Hid (∀ g b w1, AwAt w g b st2 w1 → Calls Try.prog 14 #[.pointer (some ⟨g, 0, none⟩), callV 2 ByteArray.empty bY] w1 fun e w2 => (∃ v, e = .returned v) ∧ AwAt w g b st3 w2) := fun g b w1 h =>
    (do_write h.1 ByteArray.empty bY (small (by decide)) (by decide)).mono fun e w2 ⟨he, hm, ht⟩ => ⟨⟨_, he⟩, by rw [st23] at hm; exact h.turn hm ht⟩
  have hc : Hid (∀ g b w1, AwAt w g b st3 w1 → Calls Try.prog 14 #[.pointer (some ⟨g, 0, none⟩), callV 3 ByteArray.empty ByteArray.empty] w1 fun e w2 => (∃ v, e = .returned v) ∧ AwAt w g b st4 w2) := fun g b w1 h =>
    (do_commit h.1 ByteArray.empty ByteArray.empty (small (by decide)) (small (by decide)) (by simp [st3, maxLen])).mono fun e w2 ⟨he, hm, ht⟩ => ⟨⟨_, he⟩, by rw [st34] at hm; exact h.turn hm ht⟩
  have hr : Hid (∀ g b w1, AwAt w g b st4 w1 → Calls Try.prog 14 #[.pointer (some ⟨g, 0, none⟩), callV 5 bA ByteArray.empty] w1 fun e w2 => e = .returned (replyV 0 bXY (.slice none 0 0)) ∧ AwAt w g b st4 w2) := fun g b w1 h =>
    (do_restore h.1 bA ByteArray.empty (small (by decide))).mono fun e w2 ⟨he, hm, ht⟩ => ⟨by rw [he, if_pos has4, val4], h.turn hm ht⟩
  go_enter Try.func18, Try.ntmps18
  go_wp2_with (first
    | (go_at_call 8; refine (new8 _).mono ?_; rintro e w1 ⟨g, b, rfl, hb1, hg1, hb2, hm1⟩; have HA1 : Hid (AwAt w g b st0 w1) := ⟨hm1, hb1, hg1, hb2⟩; clear hm1))
  refine (hb.out g b _ HA1.out).mono ?_
  rintro e w2 ⟨⟨v2, rfl⟩, ha2⟩
  have HA2 := Lib.hid ha2
  clear ha2
  go_wp2_with fail
  refine (hx.out g b _ HA2.out).mono ?_
  rintro e w3 ⟨⟨v3, rfl⟩, ha3⟩
  have HA3 := Lib.hid ha3
  clear ha3
  go_wp2_with fail
  refine (hy.out g b _ HA3.out).mono ?_
  rintro e w4 ⟨⟨v4, rfl⟩, ha4⟩
  have HA4 := Lib.hid ha4
  clear ha4
  go_wp2_with fail
  refine (hc.out g b _ HA4.out).mono ?_
  rintro e w5 ⟨⟨v5, rfl⟩, ha5⟩
  have HA5 := Lib.hid ha5
  clear ha5
  go_wp2_with fail
  refine (hr.out g b _ HA5.out).mono ?_
  rintro e w6 ⟨rfl, ha6⟩
  have HA6 := Lib.hid ha6
  clear ha6
  unfold replyV bXY
  go_wp2
  go_ret
  exact ⟨rfl, HA6.out.2.1.alloc HA6.out.2.1.size _⟩
theorem same_nil (w : World) : Calls Try.prog 30 #[.slice none 0 0, .slice none 0 0] w fun e w' => e = .returned (.bool true) ∧ w = w' := by
  go_enter Try.func30, Try.ntmps30
  go_wp2
  go_loopg [5] 0 (fun gk i wr => gk = 0 ∧ i = .int .i64 0 ∧ w = wr)
  case atStart => exact ⟨rfl, rfl, rfl⟩
  case round =>
    obtain ⟨_, rfl, rfl⟩ := hrel
    go_wp2
    go_ret
    exact ⟨rfl, rfl⟩
set_option maxHeartbeats 2000000 in
theorem alike_nil (w : World) : Calls Try.prog 13 #[replyV 4 ByteArray.empty (.slice none 0 0), replyV 4 ByteArray.empty (.slice none 0 0)] w fun e w' => e = .returned (.bool true) ∧ Below w.heap.size w w' := by
  unfold replyV
  go_enter Try.func13, Try.ntmps13
  go_wp2_with (go_at_call 30; refine (same_nil _).mono ?_; rintro e w' ⟨rfl, rfl⟩)
  go_ret
  exact ⟨rfl, ((Below.refl _ _).alloc (Nat.le_refl _) _).alloc (by simp) _⟩
set_option maxRecDepth 100000 in
set_option maxHeartbeats 2000000 in
theorem modelNobody (op : Int) (nm da : ByteArray) (w : World) : Calls Try.prog 4 #[.agg #[.int .i64 op, .string nm, .string da]] w (LawPost w) := by
  go_enter Try.func4, Try.ntmps4
  go_wp2_with (first
    | (go_at_call 9; refine (crash_nil _).mono ?_; rintro e w1 ⟨rfl, rfl⟩)
    | (go_at_call 16; refine (bytes_nil _ _).mono ?_; rintro e w2 ⟨rfl, rfl⟩)
    | (go_at_call 19; refine (stream_nil _).mono ?_; rintro e w3 ⟨rfl, rfl⟩)
    | (go_at_call 14; refine (do_nil _ _ _ _).mono ?_; rintro e w4 ⟨rfl, hb4⟩)
    | (go_at_call 13; refine (alike_nil _).mono ?_; rintro e w5 ⟨rfl, hb5⟩)
    | (go_at_call 20; refine (names_nil _).mono ?_; rintro e w6 ⟨rfl, rfl⟩)
    | (go_at_call 21; refine (copy_nil _).mono ?_; rintro e w7 ⟨rfl, rfl⟩)
    | (go_at_call 18; refine (awake18 _).mono ?_; rintro e w8 ⟨rfl, hb8⟩))
  go_ret
  have h1 : Below w.heap.size w w4 := ((Below.refl _ _).alloc (Nat.le_refl _) _).trans (hb4.mono (by simp))
  have h2 := h1.trans (hb5.mono h1.size)
  exact ⟨rfl, h2.trans (hb8.mono h2.size)⟩
end Go.Proofs.Ytadagidjppgbkaa
