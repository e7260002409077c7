/- The walk over Alike at replies that are alike. -/
import Derived.Test.YtadagidjppgbkaaR3
namespace Go.Proofs.Ytadagidjppgbkaa
open Go.RowKit Go.Maps Go.Sort
theorem row_below {w w' : World} {base n : Nat} {v : Value} {xs : List Value} (h : w.ownsRow base 9 1 v n xs) (hb : Below w.heap.size w w') : w'.ownsRow base 9 1 v n xs :=
  h.kept (row := none) ⟨hb.os, hb.tape, hb.output, hb.size, fun k hk _ => hb.block k hk⟩ (by cases v.ownBlock <;> simp)
set_option maxHeartbeats 1000000 in
theorem alike13 {w : World} {base1 base2 n : Nat} {v1 v2 : Value} {ks : List (List UInt8)} (h1 : w.ownsRow base1 9 1 v1 n (ks.map encStr)) (h2 : w.ownsRow base2 9 1 v2 n (ks.map encStr)) (hn : n ≤ 1000000) (e : Int) (da : ByteArray) :
    Calls Try.prog 13 #[replyV e da v1, replyV e da v2] w fun e w' => e = .returned (.bool true) ∧ Below w.heap.size w w' := by
  have hS : Hid (∀ W, Below w.heap.size w W → Calls Try.prog 30 #[v1, v2] W fun e w' => e = .returned (.bool true) ∧ Below w.heap.size w w') := fun W hb =>
    (same30 (row_below h1 hb) (row_below h2 hb) hn).mono fun e w' ⟨he, hb2⟩ => ⟨he, hb.trans (hb2.mono hb.size)⟩
  have HB0 : Hid (Below w.heap.size w ((w.alloc (.cells #[.int .i64 e, .string da, v1] 39)).alloc (.cells #[.int .i64 e, .string da, v2] 39))) := ((Below.refl _ _).alloc (Nat.le_refl _) _).alloc (by simp) _
  obtain ⟨A1, c1, rfl⟩ := own_slice h1
  obtain ⟨A2, c2, rfl⟩ := own_slice h2
  clear h1 h2
  have t1 : (e == e) = true := by simp
  unfold replyV
  go_enter Try.func13, Try.ntmps13
  go_wp2_with (go_at_call 30; refine (hS.out _ HB0.out).mono ?_; rintro e w' ⟨rfl, hb⟩)
  go_ret
  exact ⟨rfl, hb⟩
end Go.Proofs.Ytadagidjppgbkaa
