/- How numbers are ranked: the closure. -/
import Derived.Test.YtijdkgklajdbnaaAP
namespace Go.Proofs.Ytijdkgklajdbnaa
open Go.RowKit
open Go.Sort Go.Lib
open Go.Maps
def cmpI (x y : Int) : Int := if x < y then -1 else if y < x then 1 else 0
theorem nan55 (x : Int) (w : World) : Calls Try.prog 55 #[.int .i64 x] w fun e w' => e = .returned (.bool false) ∧ w' = w := by
  go_enter Try.func55, Try.ntmps55
  go_wp2_with fail
  go_ret
  exact ⟨by simp, rfl⟩
set_option maxRecDepth 100000 in
theorem compare45 (x y : Int) (w : World) : Calls Try.prog 45 #[.int .i64 x, .int .i64 y] w fun e w' => e = .returned (.int .i64 (cmpI x y)) ∧ w' = w := by
  have HC := Lib.hid (fun z => nan55 z w)
  by_cases h1 : x < y
  · have HR : Hid (cmpI x y = -1) := Lib.hid (by unfold cmpI; rw [if_pos h1])
    go_enter Try.func45, Try.ntmps45
    go_wp2_with fail
    refine Calls.mono (HC.out _) ?_
    rintro e w1 ⟨rfl, rfl⟩
    go_wp2_with fail
    refine Calls.mono (HC.out _) ?_
    rintro e w1 ⟨rfl, rfl⟩
    go_wp2_with fail
    go_ret
    exact ⟨by rw [HR.out]; rfl, rfl⟩
  · by_cases h2 : y < x
    · have HR : Hid (cmpI x y = 1) := Lib.hid (by unfold cmpI; rw [if_neg h1, if_pos h2])
      go_enter Try.func45, Try.ntmps45
      go_wp2_with fail
      refine Calls.mono (HC.out _) ?_
      rintro e w1 ⟨rfl, rfl⟩
      go_wp2_with fail
      refine Calls.mono (HC.out _) ?_
      rintro e w1 ⟨rfl, rfl⟩
      go_wp2_with fail
      go_ret
      exact ⟨by rw [HR.out]; rfl, rfl⟩
    · have HR : Hid (cmpI x y = 0) := Lib.hid (by unfold cmpI; rw [if_neg h1, if_neg h2])
      go_enter Try.func45, Try.ntmps45
      go_wp2_with fail
      refine Calls.mono (HC.out _) ?_
      rintro e w1 ⟨rfl, rfl⟩
      go_wp2_with fail
      refine Calls.mono (HC.out _) ?_
      rintro e w1 ⟨rfl, rfl⟩
      go_wp2_with fail
      go_ret
      exact ⟨by rw [HR.out]; rfl, rfl⟩
set_option maxRecDepth 100000 in
theorem compare46 (x y : Int) (w : World) : Calls Try.prog 46 #[.int .u32 x, .int .u32 y] w fun e w' => e = .returned (.int .i64 (cmpI x y)) ∧ w' = w := by
  have HC := Lib.hid (fun z => nan56 z w)
  by_cases h1 : x < y
  · have HR : Hid (cmpI x y = -1) := Lib.hid (by unfold cmpI; rw [if_pos h1])
    go_enter Try.func46, Try.ntmps46
    go_wp2_with fail
    refine Calls.mono (HC.out _) ?_
    rintro e w1 ⟨rfl, rfl⟩
    go_wp2_with fail
    refine Calls.mono (HC.out _) ?_
    rintro e w1 ⟨rfl, rfl⟩
    go_wp2_with fail
    go_ret
    exact ⟨by rw [HR.out]; rfl, rfl⟩
  · by_cases h2 : y < x
    · have HR : Hid (cmpI x y = 1) := Lib.hid (by unfold cmpI; rw [if_neg h1, if_pos h2])
      go_enter Try.func46, Try.ntmps46
      go_wp2_with fail
      refine Calls.mono (HC.out _) ?_
      rintro e w1 ⟨rfl, rfl⟩
      go_wp2_with fail
      refine Calls.mono (HC.out _) ?_
      rintro e w1 ⟨rfl, rfl⟩
      go_wp2_with fail
      go_ret
      exact ⟨by rw [HR.out]; rfl, rfl⟩
    · have HR : Hid (cmpI x y = 0) := Lib.hid (by unfold cmpI; rw [if_neg h1, if_neg h2])
      go_enter Try.func46, Try.ntmps46
      go_wp2_with fail
      refine Calls.mono (HC.out _) ?_
      rintro e w1 ⟨rfl, rfl⟩
      go_wp2_with fail
      refine Calls.mono (HC.out _) ?_
      rintro e w1 ⟨rfl, rfl⟩
      go_wp2_with fail
      go_ret
      exact ⟨by rw [HR.out]; rfl, rfl⟩
set_option maxRecDepth 100000 in
theorem or44 {a b : Int} {g : Nat} {w : World} (h1 : w.cell? ⟨g, 0, none⟩ = some (.int .i64 a)) (h2 : w.cell? ⟨g, 1, none⟩ = some (.int .i64 b)) :
    Calls Try.prog 44 #[.slice (some ⟨g, 0, none⟩) 2 2] w fun e w' => e = .returned (.int .i64 (if a = 0 then b else a)) ∧ w' = w := by
  by_cases ha : a = 0
  · subst ha
    by_cases hb : b = 0
    · subst hb
      go_enter Try.func44, Try.ntmps44
      go_wp2_with fail
      refine wp_loop_rounds 3 ?_
      rw [rounds_succ]
      go_wp2_with fail
      rw [rounds_succ]
      go_wp2_with fail
      rw [rounds_succ]
      go_wp2_with fail
      go_ret
      exact ⟨rfl, rfl⟩
    · have hb' : (b == 0) = false := by simpa using hb
      go_enter Try.func44, Try.ntmps44
      go_wp2_with fail
      refine wp_loop_rounds 3 ?_
      rw [rounds_succ]
      go_wp2_with fail
      rw [rounds_succ]
      go_wp2_with fail
      go_ret
      exact ⟨rfl, rfl⟩
  · rw [if_neg ha]
    have ha' : (a == 0) = false := by simpa using ha
    go_enter Try.func44, Try.ntmps44
    go_wp2_with fail
    refine wp_loop_rounds 3 ?_
    rw [rounds_succ]
    go_wp2_with fail
    go_ret
    exact ⟨rfl, rfl⟩
/-- how two numbers are ranked -/
def cmpR (f : Id → Nat) (x y : Id) : Int := if cmpI (f y : Nat) (f x : Nat) = 0 then cmpI y x else cmpI (f y : Nat) (f x : Nat)
set_option maxRecDepth 100000 in
set_option maxHeartbeats 2000000 in
theorem closure43 {f : Id → Nat} {b g : Nat} {w : World} {x y : Id} (h : Cnts w b f) (hx : IdOk x) (hy : IdOk y) (hg : w.cell? ⟨g, 0, none⟩ = some (.map (some b))) :
    Calls Try.prog 43 #[.int .u32 x, .int .u32 y, .pointer (some ⟨g, 0, none⟩)] w fun e w' => e = .returned (.int .i64 (cmpR f x y)) ∧ Gr w w' := by
  obtain ⟨n, D, hn, hcm, hown⟩ := h
  have HMP := Lib.hid hown
  have HAX := Lib.hid (hcm.2 x).1
  have HAY := Lib.hid (hcm.2 y).1
  have HKX : Hid (keyOf Try.prog 24 (.int .u32 x) = some (.int .u32 x)) := Lib.hid (keyOf_int_mk Try.underlying24 (wf24 hx))
  have HKY : Hid (keyOf Try.prog 24 (.int .u32 y) = some (.int .u32 y)) := Lib.hid (keyOf_int_mk Try.underlying24 (wf24 hy))
  have HR : Hid (cmpR f x y = if cmpI (f y : Nat) (f x : Nat) = 0 then cmpI y x else cmpI (f y : Nat) (f x : Nat)) := Lib.hid rfl
  generalize cmpR f x y = R at *
  generalize f x = fx at *
  generalize f y = fy at *
  have HC5 := Lib.hid (fun W => compare45 (fy : Int) (fx : Int) W)
  have HC6 := Lib.hid (fun W => compare46 y x W)
  generalize cmpI (fy : Int) (fx : Int) = A at *
  generalize cmpI y x = B at *
  have HC4 : Hid (∀ W : World, W.cell? ⟨W.heap.size - 1, 0, none⟩ = some (.int .i64 A) → W.cell? ⟨W.heap.size - 1, 1, none⟩ = some (.int .i64 B) → Calls Try.prog 44 #[.slice (some ⟨W.heap.size - 1, 0, none⟩) 2 2] W fun e w' => e = .returned (.int .i64 (if A = 0 then B else A)) ∧ w' = W) := Lib.hid (fun W h1 h2 => or44 h1 h2)
  generalize (if A = 0 then B else A) = R1 at *
  clear hcm hown hx hy
  go_enter Try.func43, Try.ntmps43
  go_wp2_with (first
    | (at_lookup; refine wpList_lookup_own_int _ rfl _ _ 49 rfl 24 3 .i64 law24 Try.underlying49 Try.underlying3 (Try.zeroValue3 _) b _ _ rfl HMP.out _ _ rfl HKY.out ?_; intro c hat hwc; obtain rfl : c = (fy : Int) := by (have := hat.symm.trans HAY.out; simpa using this))
    | (at_lookup; refine wpList_lookup_own_int _ rfl _ _ 49 rfl 24 3 .i64 law24 Try.underlying49 Try.underlying3 (Try.zeroValue3 _) b _ _ rfl HMP.out _ _ rfl HKX.out ?_; intro c hat hwc; obtain rfl : c = (fx : Int) := by (have := hat.symm.trans HAX.out; simpa using this))
    | (go_at_call 45; refine Calls.mono (HC5.out _) ?_; rintro e w1 ⟨rfl, hw1⟩; rw [hw1]; clear hw1)
    | (go_at_call 46; refine Calls.mono (HC6.out _) ?_; rintro e w1 ⟨rfl, hw1⟩; rw [hw1]; clear hw1)
    | (go_at_call 44; go_loud (have HC4' := HC4.out (w.alloc (.cells #[.int .i64 A, .int .i64 B] 3)) (by simp) (by simp); simp only [World.size_alloc, Nat.add_sub_cancel] at HC4'; refine Calls.mono HC4' ?_; rintro e w1 ⟨rfl, rfl⟩)))
  go_ret
  exact ⟨by rw [HR.out]; rfl, (Gr.refl w).alloc _⟩
end Go.Proofs.Ytijdkgklajdbnaa
