/- The walks over the reference's Do at Write, Commit, Abort, Pass. -/
import Derived.Test.YtadagidjppgbkaaR10
namespace Go.Proofs.Ytadagidjppgbkaa
open Go.RowKit Go.Maps Go.Sort
def rwE (r : Rm) (da : ByteArray) : Int := if r.op = false then 6 else if 1048576 < r.by_.size + da.size then 240 else 0
set_option maxRecDepth 100000 in
set_option maxHeartbeats 1000000 in
theorem refDo_write {w : World} {g b : Nat} {A : Option Addr} {c : Nat} (r : Rm) (hL : Nms w g b A r.L.length r.L) (hn : r.L.length ≤ 1000000) (nm da : ByteArray) (hda : da.size ≤ maxLen) (hby : r.by_.size ≤ 1048576) :
    Calls Try.prog 12 #[.agg (rmA A c r), callV 2 nm da] w (RefPost (if rwE r da = 0 then ⟨r.L, r.op, r.nm, r.by_ ++ da⟩ else r) A c (rwE r da) w) := by
  have hAt : Hid (∀ W, Below w.heap.size w W → Calls Try.prog 17 #[.agg (rmA A c r), .string nm] W fun e w' => e = .returned (.int .i64 (atN r.L nm 0)) ∧ w' = W.alloc (.cells (rmA A c r) 27)) := fun W hb => refAt (c := c) r (hL.below hb) hn nm
  clear hL
  have hcase : (r.op = false ∧ rwE r da = 6) ∨ (r.op = true ∧ (1048576 : Int) - (r.by_.size : Int) < (da.size : Int) ∧ rwE r da = 240) ∨ (r.op = true ∧ (da.size : Int) ≤ (1048576 : Int) - (r.by_.size : Int) ∧ rwE r da = 0) := by
    unfold rwE
    cases h1 : r.op
    · exact .inl ⟨rfl, by rw [if_pos rfl]⟩
    · by_cases h2 : 1048576 < r.by_.size + da.size
      · exact .inr (.inl ⟨rfl, by omega, by rw [if_neg (by simp), if_pos h2]⟩)
      · exact .inr (.inr ⟨rfl, by omega, by rw [if_neg (by simp), if_neg h2]⟩)
  have hml : (da.size : Int) ≤ 9223372036854775807 := by unfold maxLen at hda; omega
  have hb1 : (r.by_.size : Int) ≤ 1048576 := by omega
  generalize rwE r da = E at *
  generalize atN r.L nm 0 = K at *
  obtain ⟨L, rop, rn, rb⟩ := r
  simp only [rmA, callV] at *
  generalize hN : L.length = N at *
  have HN := Lib.hid hN
  clear hN hn hda hby
  rcases hcase with ⟨rfl, rfl⟩ | ⟨rfl, t1, rfl⟩ | ⟨rfl, t1, rfl⟩
  · rw [if_neg (by decide)]
    go_enter Try.func12, Try.ntmps12
    go_wp2_with fail
    refine Calls.mono (hAt.out _ ?hbA1) ?_
    case hbA1 => exact d4_below w _ _
    rintro e w1 ⟨rfl, rfl⟩
    go_wp2
    obtain ⟨e1, e2, e3⟩ := do5 w (.cells #[.slice A N c, .bool false, .string rn, .string rb] 27) (.cells #[.int .i64 2, .string nm, .string da] 30) (.cells #[.slice A N c, .bool false, .string rn, .string rb] 27) #[.slice A N c, .bool false, .string rn, .string rb] #[.int .i64 6, .string ByteArray.empty, .slice none 0 0]
    refine bodyPost_ret (results_cells2 rfl _ _ _ _ 27 39 _ _ (0, 0) (0, 0) _ _ rfl rfl e1 e2 Try.underlying27 Try.underlying39 rfl rfl info27 info39) rfl ⟨?_, e3⟩
    rw [← HN.out]; rfl
  · rw [if_neg (by decide)]
    go_enter Try.func12, Try.ntmps12
    go_wp2_with fail
    refine Calls.mono (hAt.out _ ?hbA2) ?_
    case hbA2 => exact d4_below w _ _
    rintro e w1 ⟨rfl, rfl⟩
    go_wp2
    obtain ⟨e1, e2, e3⟩ := do5 w (.cells #[.slice A N c, .bool true, .string rn, .string rb] 27) (.cells #[.int .i64 2, .string nm, .string da] 30) (.cells #[.slice A N c, .bool true, .string rn, .string rb] 27) #[.slice A N c, .bool true, .string rn, .string rb] #[.int .i64 240, .string ByteArray.empty, .slice none 0 0]
    refine bodyPost_ret (results_cells2 rfl _ _ _ _ 27 39 _ _ (0, 0) (0, 0) _ _ rfl rfl e1 e2 Try.underlying27 Try.underlying39 rfl rfl info27 info39) rfl ⟨?_, e3⟩
    rw [← HN.out]; rfl
  · rw [if_pos rfl]
    go_enter Try.func12, Try.ntmps12
    go_wp2_with fail
    refine Calls.mono (hAt.out _ ?hbA3) ?_
    case hbA3 => exact d4_below w _ _
    rintro e w1 ⟨rfl, rfl⟩
    go_wp2
    obtain ⟨e1, e2, e3⟩ := do5 w (.cells #[.slice A N c, .bool true, .string rn, .string (rb ++ da)] 27) (.cells #[.int .i64 2, .string nm, .string da] 30) (.cells #[.slice A N c, .bool true, .string rn, .string rb] 27) #[.slice A N c, .bool true, .string rn, .string (rb ++ da)] #[.int .i64 0, .string ByteArray.empty, .slice none 0 0]
    refine bodyPost_ret (results_cells2 rfl _ _ _ _ 27 39 _ _ (0, 0) (0, 0) _ _ rfl rfl e1 e2 Try.underlying27 Try.underlying39 rfl rfl info27 info39) rfl ⟨?_, e3⟩
    rw [← HN.out]; rfl
set_option maxRecDepth 100000 in
set_option maxHeartbeats 1000000 in
theorem refDo_abort {w : World} {g b : Nat} {A : Option Addr} {c : Nat} (r : Rm) (hL : Nms w g b A r.L.length r.L) (hn : r.L.length ≤ 1000000) (nm da : ByteArray) :
    Calls Try.prog 12 #[.agg (rmA A c r), callV 4 nm da] w (RefPost (if r.op = true then r.shut else r) A c (if r.op = true then 0 else 6) w) := by
  have hAt : Hid (∀ W, Below w.heap.size w W → Calls Try.prog 17 #[.agg (rmA A c r), .string nm] W fun e w' => e = .returned (.int .i64 (atN r.L nm 0)) ∧ w' = W.alloc (.cells (rmA A c r) 27)) := fun W hb => refAt (c := c) r (hL.below hb) hn nm
  clear hL
  generalize atN r.L nm 0 = K at *
  obtain ⟨L, rop, rn, rb⟩ := r
  simp only [rmA, callV] at *
  generalize hN : L.length = N at *
  have HN := Lib.hid hN
  clear hN hn
  cases rop
  · rw [if_neg (by decide), if_neg (by decide)]
    go_enter Try.func12, Try.ntmps12
    go_wp2_with fail
    refine Calls.mono (hAt.out _ ?hbA1) ?_
    case hbA1 => exact d4_below w _ _
    rintro e w1 ⟨rfl, rfl⟩
    go_wp2
    obtain ⟨e1, e2, e3⟩ := do5 w (.cells #[.slice A N c, .bool false, .string rn, .string rb] 27) (.cells #[.int .i64 4, .string nm, .string da] 30) (.cells #[.slice A N c, .bool false, .string rn, .string rb] 27) #[.slice A N c, .bool false, .string rn, .string rb] #[.int .i64 6, .string ByteArray.empty, .slice none 0 0]
    refine bodyPost_ret (results_cells2 rfl _ _ _ _ 27 39 _ _ (0, 0) (0, 0) _ _ rfl rfl e1 e2 Try.underlying27 Try.underlying39 rfl rfl info27 info39) rfl ⟨?_, e3⟩
    rw [← HN.out]; rfl
  · rw [if_pos rfl, if_pos rfl]
    go_enter Try.func12, Try.ntmps12
    go_wp2_with fail
    refine Calls.mono (hAt.out _ ?hbA2) ?_
    case hbA2 => exact d4_below w _ _
    rintro e w1 ⟨rfl, rfl⟩
    go_wp2
    obtain ⟨e1, e2, e3⟩ := do5 w (.cells #[.slice A N c, .bool true, .string rn, .string rb] 27) (.cells #[.int .i64 4, .string nm, .string da] 30) (.cells #[.slice A N c, .bool true, .string rn, .string rb] 27) #[.slice A N c, .bool false, .string ByteArray.empty, .string ByteArray.empty] #[.int .i64 0, .string ByteArray.empty, .slice none 0 0]
    refine bodyPost_ret (results_cells2 rfl _ _ _ _ 27 39 _ _ (0, 0) (0, 0) _ _ rfl rfl e1 e2 Try.underlying27 Try.underlying39 rfl rfl info27 info39) rfl ⟨?_, e3⟩
    rw [← HN.out]; rfl
set_option maxRecDepth 100000 in
set_option maxHeartbeats 1000000 in
theorem refDo_pass {w : World} {g b : Nat} {A : Option Addr} {c : Nat} (r : Rm) (hL : Nms w g b A r.L.length r.L) (hn : r.L.length ≤ 1000000) (nm da : ByteArray) :
    Calls Try.prog 12 #[.agg (rmA A c r), callV 8 nm da] w (RefPost r A c (if r.op = true then 250 else 0) w) := by
  have hAt : Hid (∀ W, Below w.heap.size w W → Calls Try.prog 17 #[.agg (rmA A c r), .string nm] W fun e w' => e = .returned (.int .i64 (atN r.L nm 0)) ∧ w' = W.alloc (.cells (rmA A c r) 27)) := fun W hb => refAt (c := c) r (hL.below hb) hn nm
  clear hL
  generalize atN r.L nm 0 = K at *
  obtain ⟨L, rop, rn, rb⟩ := r
  simp only [rmA, callV] at *
  generalize hN : L.length = N at *
  have HN := Lib.hid hN
  clear hN hn
  cases rop
  · rw [if_neg (by decide)]
    go_enter Try.func12, Try.ntmps12
    go_wp2_with fail
    refine Calls.mono (hAt.out _ ?hbA1) ?_
    case hbA1 => exact d4_below w _ _
    rintro e w1 ⟨rfl, rfl⟩
    go_wp2
    obtain ⟨e1, e2, e3⟩ := do5 w (.cells #[.slice A N c, .bool false, .string rn, .string rb] 27) (.cells #[.int .i64 8, .string nm, .string da] 30) (.cells #[.slice A N c, .bool false, .string rn, .string rb] 27) #[.slice A N c, .bool false, .string rn, .string rb] #[.int .i64 0, .string ByteArray.empty, .slice none 0 0]
    refine bodyPost_ret (results_cells2 rfl _ _ _ _ 27 39 _ _ (0, 0) (0, 0) _ _ rfl rfl e1 e2 Try.underlying27 Try.underlying39 rfl rfl info27 info39) rfl ⟨?_, e3⟩
    rw [← HN.out]; rfl
  · rw [if_pos rfl]
    go_enter Try.func12, Try.ntmps12
    go_wp2_with fail
    refine Calls.mono (hAt.out _ ?hbA2) ?_
    case hbA2 => exact d4_below w _ _
    rintro e w1 ⟨rfl, rfl⟩
    go_wp2
    obtain ⟨e1, e2, e3⟩ := do5 w (.cells #[.slice A N c, .bool true, .string rn, .string rb] 27) (.cells #[.int .i64 8, .string nm, .string da] 30) (.cells #[.slice A N c, .bool true, .string rn, .string rb] 27) #[.slice A N c, .bool true, .string rn, .string rb] #[.int .i64 250, .string ByteArray.empty, .slice none 0 0]
    refine bodyPost_ret (results_cells2 rfl _ _ _ _ 27 39 _ _ (0, 0) (0, 0) _ _ rfl rfl e1 e2 Try.underlying27 Try.underlying39 rfl rfl info27 info39) rfl ⟨?_, e3⟩
    rw [← HN.out]; rfl
end Go.Proofs.Ytadagidjppgbkaa
