/- The walks over the reference's Do at Commit, Restore, List. -/
import Derived.Test.YtadagidjppgbkaaR11
import Derived.BigRegion
namespace Go.Proofs.Ytadagidjppgbkaa
open Go.RowKit Go.Maps Go.Sort
/-- what Do hands back: a model, a reply, and what its names are -/
def RdPost (g b : Nat) (A0 : Option Addr) (L0 : List Named) (r : Rm) (E : Int) (D : ByteArray) (ks : List (List UInt8)) (w : World) (e : Ending) (w' : World) : Prop :=
  ∃ A c v, e = .returned (.tuple #[.agg (rmA A c r), replyV E D v]) ∧ Nms w' g b A r.L.length r.L ∧ r.L.length ≤ c ∧ (A = none → c = 0) ∧ c ≤ 9223372036854775807 ∧ w'.ownsRow w.heap.size 9 1 v ks.length (ks.map encStr) ∧ ((A = A0 ∧ r.L = L0) ∨ ∀ a, A = some a → w.heap.size ≤ a.block) ∧ Below w.heap.size w w'
/-- the two results' blocks apart, a row of names stays -/
theorem Nms.oth {w w' : World} {g b : Nat} {A : Option Addr} {n : Nat} {L : List Named} (h : Nms w g b A n L) (hs : w.heap.size ≤ w'.heap.size) (p q : Nat) (hp : ∀ a, A = some a → a.block ≠ p) (hq : ∀ a, A = some a → a.block ≠ q) (ho : ∀ k, k ≠ p → k ≠ q → w'.heap[k]? = w.heap[k]?) : Nms w' g b A n L :=
  ⟨h.1, h.2.1, fun hn => by
    obtain ⟨r, o, e, hl, h1, h2, hc⟩ := h.2.2 hn
    have hb := ho r (hp _ e) (hq _ e)
    exact ⟨r, o, e, Nat.lt_of_lt_of_le hl hs, h1, h2, fun i x hi => ⟨(World.cell?_of_block (a := ⟨r, o + i * 2, none⟩) hb).trans (hc i x hi).1, (World.cell?_of_block (a := ⟨r, o + i * 2 + 1, none⟩) hb).trans (hc i x hi).2⟩⟩⟩
set_option maxRecDepth 100000 in
set_option maxHeartbeats 1000000 in
theorem refDo_commit {w : World} {g b : Nat} {A : Option Addr} {c : Nat} (r : Rm) (hL : Nms w g b A r.L.length r.L) (hn : r.L.length ≤ 1000000) (hnc : r.L.length ≤ c) (hA : A = none → c = 0) (hcc : c ≤ 9223372036854775807)
    (hg : g < w.heap.size) (hb : b < w.heap.size) (h1 : r.nm.size ≤ maxLen) (h2 : r.by_.size ≤ maxLen) (nm da : ByteArray) :
    Calls Try.prog 12 #[.agg (rmA A c r), callV 3 nm da] w (RdPost g b A r.L (if r.op = true then ⟨insN r.L r.nm r.by_, false, ByteArray.empty, ByteArray.empty⟩ else r) (if r.op = true then 0 else 6) ByteArray.empty [] w) := by
  have hAt : Hid (∀ W, Below w.heap.size w W → Calls Try.prog 17 #[.agg (rmA A c r), .string nm] W fun e w' => e = .returned (.int .i64 (atN r.L nm 0)) ∧ w' = W.alloc (.cells (rmA A c r) 27)) := fun W hb => refAt (c := c) r (hL.below hb) hn nm
  have hCm : Hid (∀ W, Below w.heap.size w W → Calls Try.prog 28 #[.agg (rmA A c r)] W (RowPost g b ⟨insN r.L r.nm r.by_, false, ByteArray.empty, ByteArray.empty⟩ W)) := fun W hbw => refCommit r (hL.below hbw) hn hnc hA hcc (Nat.lt_of_lt_of_le hg hbw.size) (Nat.lt_of_lt_of_le hb hbw.size) h1 h2
  have HL := Lib.hid hL
  have HX := Lib.hid (And.intro hnc (And.intro hA hcc))
  clear hL hnc hA hcc hg hb h1 h2
  generalize atN r.L nm 0 = K at *
  generalize hr2 : (⟨insN r.L r.nm r.by_, false, ByteArray.empty, ByteArray.empty⟩ : Rm) = r2 at *
  have HR2 := Lib.hid hr2
  clear hr2
  obtain ⟨L, rop, rn, rb⟩ := r
  simp only [rmA, callV] at *
  generalize hN : L.length = N at *
  have HN := Lib.hid hN
  have HB0 := Lib.hid (Below.refl (w.heap.size + 1 + 1 + 1 + 1) (d4 w #[.slice A N c, .bool rop, .string rn, .string rb] #[.int .i64 3, .string nm, .string da]))
  have HB1 : Hid (Below (w.heap.size + 1 + 1 + 1 + 1) (d4 w #[.slice A N c, .bool rop, .string rn, .string rb] #[.int .i64 3, .string nm, .string da]) ((d4 w #[.slice A N c, .bool rop, .string rn, .string rb] #[.int .i64 3, .string nm, .string da]).alloc (.cells #[.slice A N c, .bool rop, .string rn, .string rb] 27))) := HB0.out.alloc (by rw [d4_size]; exact Nat.le_refl _) _
  clear hN hn
  cases rop
  · rw [if_neg (by decide), if_neg (by decide)]
    go_enter Try.func12, Try.ntmps12
    go_wp2_with fail
    refine Calls.mono (hAt.out _ ?hbA1) ?_
    case hbA1 => exact d4_below w _ _
    rintro e w1 ⟨rfl, rfl⟩
    go_wp2
    obtain ⟨e1, e2, e3⟩ := do5 w (.cells #[.slice A N c, .bool false, .string rn, .string rb] 27) (.cells #[.int .i64 3, .string nm, .string da] 30) (.cells #[.slice A N c, .bool false, .string rn, .string rb] 27) #[.slice A N c, .bool false, .string rn, .string rb] #[.int .i64 6, .string ByteArray.empty, .slice none 0 0]
    refine bodyPost_ret (results_cells2 rfl _ _ _ _ 27 39 _ _ (0, 0) (0, 0) _ _ rfl rfl e1 e2 Try.underlying27 Try.underlying39 rfl rfl info27 info39) rfl ⟨A, c, .slice none 0 0, ?_, ?_, ?_, HX.out.2.1, HX.out.2.2, World.ownsRow_nil _ _ _ _, .inl ⟨rfl, rfl⟩, e3⟩
    · rw [← HN.out]; rfl
    · show Nms _ _ _ _ L.length _
      rw [HN.out]
      exact HL.out.below e3
    · show L.length ≤ c
      rw [HN.out]; exact HX.out.1
  · rw [if_pos rfl, if_pos rfl]
    go_enter Try.func12, Try.ntmps12
    go_wp2_with fail
    refine Calls.mono (hAt.out _ ?hbA2) ?_
    case hbA2 => exact d4_below w _ _
    rintro e w1 ⟨rfl, rfl⟩
    go_wp2_with fail
    refine Calls.mono (hCm.out _ ?hbA3) ?_
    case hbA3 => exact (d4_heap HB1.out).2.2.2
    rintro e w2 ⟨A2, cp2, rfl, hN2, hlc2, hA2, hcc2, hfr2, hb2⟩
    have HB2 := Lib.hid (HB1.out.trans (hb2.mono (by simp)))
    have HX2 := Lib.hid (And.intro hN2 (And.intro hlc2 (And.intro hA2 (And.intro hcc2 (And.intro hfr2 hb2.size)))))
    clear hb2 hN2 hlc2 hA2 hcc2 hfr2
    obtain ⟨⟨c0, c1, c2, c3⟩, ⟨e0, e1, e2⟩, ⟨z0, z1, z2, z3⟩, ⟨y0, y1, y2⟩, ⟨f0, f1, f2, f3⟩, ⟨q0, q1, q2⟩⟩ := d4_cells HB2.out
    simp only [rmA]
    go_wp2
    obtain ⟨m1, m2, m3⟩ := d4_end HB2.out (.slice A2 r2.L.length cp2) (.bool r2.op) (.string r2.nm) (.string r2.by_) (.int .i64 0) (.string ByteArray.empty) (.slice none 0 0)
    obtain ⟨k1, k2, k3, k4, k5, k6⟩ := HX2.out
    refine bodyPost_ret (results_cells2 rfl _ _ _ _ 27 39 _ _ (0, 0) (0, 0) _ _ rfl rfl m1 m2 Try.underlying27 Try.underlying39 rfl rfl info27 info39) rfl ⟨A2, cp2, .slice none 0 0, rfl, ?_, k2, k3, k4, World.ownsRow_nil _ _ _ _, .inr (fun a ha => by have := k5 a ha; simp at this; omega), m3⟩
    exact k1.oth (by simp) (w.heap.size + 1 + 1) (w.heap.size + 1 + 1 + 1) (fun a ha => by have := k5 a ha; simp at this; omega) (fun a ha => by have := k5 a ha; simp at this; omega) (fun k h1 h2 => d4_oth w _ _ _ _ _ _ _ _ k h1 h2)
end Go.Proofs.Ytadagidjppgbkaa
