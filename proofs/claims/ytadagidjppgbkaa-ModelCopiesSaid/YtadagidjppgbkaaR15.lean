/- The reference's Do, at whatever call. -/
import Derived.Test.YtadagidjppgbkaaR14
import Derived.Test.YtadagidjppgbkaaP1
namespace Go.Proofs.Ytadagidjppgbkaa
open Go.RowKit Go.Maps Go.Sort
set_option maxRecDepth 100000 in
set_option maxHeartbeats 1000000 in
theorem refDo_delno {w : World} {g b : Nat} {A : Option Addr} {c : Nat} (r : Rm) (hL : Nms w g b A r.L.length r.L) (hn : r.L.length ≤ 1000000) (nm da : ByteArray) (hk : r.op = true ∨ r.op = false ∧ atN r.L nm 0 = -1) :
    Calls Try.prog 12 #[.agg (rmA A c r), callV 6 nm da] w (RefPost r A c (if r.op = true then 250 else 6) w) := by
  have hAt : Hid (∀ W, Below w.heap.size w W → Calls Try.prog 17 #[.agg (rmA A c r), .string nm] W fun e w' => e = .returned (.int .i64 (atN r.L nm 0)) ∧ w' = W.alloc (.cells (rmA A c r) 27)) := fun W hb => refAt (c := c) r (hL.below hb) hn nm
  clear hL
  generalize atN r.L nm 0 = K at *
  obtain ⟨L, rop, rn, rb⟩ := r
  simp only [rmA, callV] at *
  generalize hN : L.length = N at *
  have HN := Lib.hid hN
  clear hN hn
  rcases hk with rfl | ⟨rfl, rfl⟩
  · rw [if_pos rfl]
    go_enter Try.func12, Try.ntmps12
    go_wp2_with fail
    refine Calls.mono (hAt.out _ ?hbA1) ?_
    case hbA1 => exact d4_below w _ _
    rintro e w1 ⟨rfl, rfl⟩
    go_wp2
    obtain ⟨e1, e2, e3⟩ := do5 w (.cells #[.slice A N c, .bool true, .string rn, .string rb] 27) (.cells #[.int .i64 6, .string nm, .string da] 30) (.cells #[.slice A N c, .bool true, .string rn, .string rb] 27) #[.slice A N c, .bool true, .string rn, .string rb] #[.int .i64 250, .string ByteArray.empty, .slice none 0 0]
    refine bodyPost_ret (results_cells2 rfl _ _ _ _ 27 39 _ _ (0, 0) (0, 0) _ _ rfl rfl e1 e2 Try.underlying27 Try.underlying39 rfl rfl info27 info39) rfl ⟨?_, e3⟩
    rw [← HN.out]; rfl
  · rw [if_neg (by decide)]
    go_enter Try.func12, Try.ntmps12
    go_wp2_with fail
    refine Calls.mono (hAt.out _ ?hbA2) ?_
    case hbA2 => exact d4_below w _ _
    rintro e w1 ⟨rfl, rfl⟩
    go_wp2
    obtain ⟨e1, e2, e3⟩ := do5 w (.cells #[.slice A N c, .bool false, .string rn, .string rb] 27) (.cells #[.int .i64 6, .string nm, .string da] 30) (.cells #[.slice A N c, .bool false, .string rn, .string rb] 27) #[.slice A N c, .bool false, .string rn, .string rb] #[.int .i64 6, .string ByteArray.empty, .slice none 0 0]
    refine bodyPost_ret (results_cells2 rfl _ _ _ _ 27 39 _ _ (0, 0) (0, 0) _ _ rfl rfl e1 e2 Try.underlying27 Try.underlying39 rfl rfl info27 info39) rfl ⟨?_, e3⟩
    rw [← HN.out]; rfl
/-- an answer: an error, bytes, names -/
structure Ans where
  E : Int
  D : ByteArray
  ks : List (List UInt8)
def Ans.err (e : Int) : Ans := ⟨e, ByteArray.empty, []⟩
/-- what a call makes of the reference's model -/
def Rm.step (r : Rm) (op : Int) (nm da : ByteArray) : Rm :=
  if op = 1 then (if rbE r nm = 0 then ⟨r.L, true, nm, ByteArray.empty⟩ else r)
  else if op = 2 then (if rwE r da = 0 then ⟨r.L, r.op, r.nm, r.by_ ++ da⟩ else r)
  else if op = 3 then (if r.op = true then ⟨insN r.L r.nm r.by_, false, ByteArray.empty, ByteArray.empty⟩ else r)
  else if op = 4 then (if r.op = true then r.shut else r)
  else if op = 6 then (if r.op = true then r else if (lookL r.L nm).isSome = true then ⟨r.L.eraseIdx (atN r.L nm 0).toNat, false, ByteArray.empty, ByteArray.empty⟩ else r)
  else r
/-- what it answers -/
def Rm.ans (r : Rm) (op : Int) (nm da : ByteArray) : Ans :=
  if op = 1 then .err (rbE r nm)
  else if op = 2 then .err (rwE r da)
  else if op = 3 ∨ op = 4 then .err (if r.op = true then 0 else 6)
  else if op = 5 then (match lookL r.L nm with | some v => ⟨0, v, []⟩ | none => .err 6)
  else if op = 6 then .err (if r.op = true then 250 else if (lookL r.L nm).isSome = true then 0 else 6)
  else if op = 7 then ⟨0, ByteArray.empty, namesL r.L⟩
  else if op = 8 then .err (if r.op = true then 250 else 0)
  else .err 1
theorem RefPost.rd {w : World} {g b : Nat} {A : Option Addr} {c : Nat} {r r' : Rm} {E : Int} {e : Ending} {w' : World} (h : RefPost r' A c E w e w') (hL : Nms w g b A r.L.length r.L) (hnc : r.L.length ≤ c) (hA : A = none → c = 0) (hcc : c ≤ 9223372036854775807) (hr : r'.L = r.L) : RdPost g b A r.L r' E ByteArray.empty [] w e w' := by
  refine ⟨A, c, .slice none 0 0, h.1, ?_, by rw [hr]; exact hnc, hA, hcc, World.ownsRow_nil _ _ _ _, .inl ⟨rfl, hr⟩, h.2⟩
  rw [hr]; exact hL.below h.2
theorem atN_some0 {L : List Named} {nm v : ByteArray} (h : lookL L nm = some v) : ∃ i : Nat, L[i]? = some (nm, v) ∧ atN L nm 0 = (i : Int) := by
  obtain ⟨i, h1, h2⟩ := atN_some 0 h
  exact ⟨i, h1, by rw [h2]; congr 1; omega⟩
set_option maxHeartbeats 1000000 in
theorem refDo_all {w : World} {g b : Nat} {A : Option Addr} {c : Nat} (r : Rm) (hL : Nms w g b A r.L.length r.L) (hn : r.L.length ≤ 1000000) (hnc : r.L.length ≤ c) (hA : A = none → c = 0) (hcc : c ≤ 9223372036854775807)
    (hg : g < w.heap.size) (hb : b < w.heap.size) (h1 : r.nm.size ≤ maxLen) (h2 : r.by_.size ≤ 1048576) (op : Int) (nm da : ByteArray) (hda : da.size ≤ maxLen) :
    Calls Try.prog 12 #[.agg (rmA A c r), callV op nm da] w (RdPost g b A r.L (r.step op nm da) (r.ans op nm da).E (r.ans op nm da).D (r.ans op nm da).ks w) := by
  have h2' : r.by_.size ≤ maxLen := by unfold maxLen; omega
  by_cases e1 : op = 1
  · subst e1
    exact (refDo_begin r hL hn nm da).mono fun e w' h => by
      rw [show r.step 1 nm da = (if rbE r nm = 0 then ⟨r.L, true, nm, ByteArray.empty⟩ else r) from rfl]
      exact RefPost.rd h hL hnc hA hcc (by split <;> rfl)
  by_cases e2 : op = 2
  · subst e2
    exact (refDo_write r hL hn nm da hda h2).mono fun e w' h => by
      rw [show r.step 2 nm da = (if rwE r da = 0 then ⟨r.L, r.op, r.nm, r.by_ ++ da⟩ else r) from rfl]
      exact RefPost.rd h hL hnc hA hcc (by split <;> rfl)
  by_cases e3 : op = 3
  · subst e3
    exact refDo_commit r hL hn hnc hA hcc hg hb h1 h2' nm da
  by_cases e4 : op = 4
  · subst e4
    exact (refDo_abort r hL hn nm da).mono fun e w' h => by
      rw [show r.step 4 nm da = (if r.op = true then r.shut else r) from rfl]
      exact RefPost.rd h hL hnc hA hcc (by split <;> rfl)
  by_cases e5 : op = 5
  · subst e5
    rw [show r.step 5 nm da = r from rfl, show r.ans 5 nm da = (match lookL r.L nm with | some v => ⟨0, v, []⟩ | none => .err 6) from rfl]
    cases hl : lookL r.L nm with
    | none => exact (refDo_none r hL hn nm da (atN_none 0 hl)).mono fun e w' h => RefPost.rd h hL hnc hA hcc rfl
    | some v =>
      obtain ⟨i, hi1, hi2⟩ := atN_some0 hl
      exact (refDo_restore r hL hn nm da i _ hi1 hi2).mono fun e w' h => ⟨A, c, .slice none 0 0, h.1, hL.below h.2, hnc, hA, hcc, World.ownsRow_nil _ _ _ _, .inl ⟨rfl, rfl⟩, h.2⟩
  by_cases e6 : op = 6
  · subst e6
    cases hop : r.op
    · cases hl : lookL r.L nm with
      | none =>
        have hs : r.step 6 nm da = r := by simp [Rm.step, hop, hl]
        have ha : r.ans 6 nm da = .err 6 := by simp [Rm.ans, hop, hl]
        rw [hs, ha]
        exact (refDo_delno r hL hn nm da (.inr ⟨hop, atN_none 0 hl⟩)).mono fun e w' h => by
          rw [hop, if_neg (by simp)] at h
          exact RefPost.rd h hL hnc hA hcc rfl
      | some v =>
        obtain ⟨i, hi1, hi2⟩ := atN_some0 hl
        have hs : r.step 6 nm da = ⟨r.L.eraseIdx i, false, ByteArray.empty, ByteArray.empty⟩ := by simp [Rm.step, hop, hl, hi2]
        have ha : r.ans 6 nm da = .err 0 := by simp [Rm.ans, hop, hl]
        rw [hs, ha]
        exact refDo_delete r hL hn hnc hcc hg hb nm da i (List.getElem?_eq_some_iff.1 hi1).1 hi2 hop
    · have hs : r.step 6 nm da = r := by simp [Rm.step, hop]
      have ha : r.ans 6 nm da = .err 250 := by simp [Rm.ans, hop]
      rw [hs, ha]
      exact (refDo_delno r hL hn nm da (.inl hop)).mono fun e w' h => by
        rw [hop, if_pos rfl] at h
        exact RefPost.rd h hL hnc hA hcc rfl
  by_cases e7 : op = 7
  · subst e7
    exact refDo_list r hL hn hnc hA hcc nm da
  by_cases e8 : op = 8
  · subst e8
    exact (refDo_pass r hL hn nm da).mono fun e w' h => RefPost.rd h hL hnc hA hcc rfl
  · have hs : r.step op nm da = r := by simp only [Rm.step, e1, e2, e3, e4, e6, if_false]
    have ha : r.ans op nm da = .err 1 := by simp only [Rm.ans, e1, e2, e3, e4, e5, e6, e7, e8, if_false, or_self]
    rw [hs, ha]
    exact (refDo_other r hL hn op nm da ⟨e1, e2, e3, e4, e5, e6, e7, e8⟩).mono fun e w' h => RefPost.rd (r := r) ⟨h.1, h.2⟩ hL hnc hA hcc rfl
end Go.Proofs.Ytadagidjppgbkaa
