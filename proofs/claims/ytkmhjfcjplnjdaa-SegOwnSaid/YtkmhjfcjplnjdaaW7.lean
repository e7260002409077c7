/- The walk over SegFirst. -/
import Derived.Test.YtkmhjfcjplnjdaaW6
namespace Go.Proofs.Ytkmhjfcjplnjdaa
open Go.RowKit
/-- the settings' box stands, and what was there is as it was -/
def Boxed (x : CfX) (w w' : World) : Prop := w'.heap[w.heap.size]? = some (.cells x.A 24) ∧ Below w.heap.size w w'
theorem Boxed.below {x : CfX} {w w1 w2 : World} (h : Boxed x w w1) (hb : Below w1.heap.size w1 w2) : Boxed x w w2 :=
  ⟨(hb.block _ (Array.getElem?_eq_some_iff.1 h.1).1).trans h.1, h.2.trans (hb.mono h.2.size)⟩
theorem Boxed.fps {x : CfX} {w w1 : World} (h : Boxed x w w1) {A : Option Addr} {n : Nat} {fs : List Fp} (hl : Fps w w.heap.size A n fs) : Fps w1 w1.heap.size A n fs := (hl.below h.2).more h.2.size
theorem Boxed.drew {x : CfX} {w w1 : World} (h : Boxed x w w1) : Boxed x w w1.drew := ⟨h.1, h.2.drew⟩
theorem Boxed.new (x : CfX) (w : World) : Boxed x w (w.alloc (.cells x.A 24)) := ⟨heap_alloc_new _ _, (Below.refl _ _).alloc (Nat.le_refl _) _⟩
def LawPost (w : World) (e : Ending) (w' : World) : Prop := e = .returned (.bool true) ∧ Below w.heap.size w w'
set_option maxRecDepth 100000 in
set_option maxHeartbeats 4000000 in
theorem segFirst (x : CfX) (A : Option Addr) (n c : Nat) (fs : List Fp) (w : World) (hl : Fps w w.heap.size A n fs) (hnc : n ≤ c) (hc : c ≤ 9223372036854775807) :
    Calls Try.prog 3 #[.slice A n c, .agg x.A] w (LawPost w) := by
  have HL := Lib.hid (hl.take (k := min n 600) (by omega))
  have hn6 : min n 600 ≤ 1000000 := by omega
  have hmc : min n 600 ≤ c := by omega
  clear hl
  have c8 := few8 A n c hnc hc
  have C8 := Lib.hid c8
  clear c8
  generalize min n 600 = m at *
  generalize fs.take m = gs at *
  have c9 : Hid (∀ W, Boxed x w W → Calls Try.prog 9 #[.agg x.A] W fun e W' => e = .returned (.bool (may x.c)) ∧ Boxed x w W') := fun W hB => (segMay x W).mono fun e W' ⟨he, hw⟩ => ⟨he, by rw [hw]; exact hB.below ((Below.refl _ _).alloc (Nat.le_refl _) _)⟩
  have c10 : Hid (∀ W, Boxed x w W → Calls Try.prog 10 #[.agg x.A] W fun e W' => e = .returned (.bool (may x.c)) ∧ Boxed x w W') := fun W hB => (refMay x W).mono fun e W' ⟨he, hw⟩ => ⟨he, by rw [hw]; exact hB.below ((Below.refl _ _).alloc (Nat.le_refl _) _)⟩
  have c11 : Hid (∀ W, Boxed x w W → Calls Try.prog 11 #[.slice A m c, .agg x.A] W fun e W' => e = .returned (.int .i64 (cutN x.c gs)) ∧ Boxed x w W') := fun W hB => (segCut x A m c gs W (hB.fps HL.out) hn6).mono fun e W' ⟨he, hw⟩ => ⟨he, hB.below hw⟩
  have c12 : Hid (∀ W, Boxed x w W → Calls Try.prog 12 #[.slice A m c, .agg x.A] W fun e W' => e = .returned (.int .i64 (cutN x.c gs)) ∧ Boxed x w W') := fun W hB => (refCut x A m c gs W (hB.fps HL.out) hn6).mono fun e W' ⟨he, hw⟩ => ⟨he, hB.below hw⟩
  have c13 : Hid (∀ W, Boxed x w W → Calls Try.prog 13 #[] W fun e W' => e = .returned (.bool true) ∧ Boxed x w W') := fun W hB => (awake13 W).mono fun e W' ⟨he, hw⟩ => ⟨he, hB.below hw⟩
  generalize cutN x.c gs = K at *
  generalize may x.c = B at *
  have hBB : (B == B) = true := by simp
  have hKK : ((K : Int) == (K : Int)) = true := by simp
  go_enter Try.func3, Try.ntmps3
  go_wp2_with (first | (go_at_call 8; refine (C8.out _).mono ?_; rintro e w0 ⟨rfl, rfl⟩))
  have HS0 : Hid (Boxed x w (w.alloc (.cells x.A 24)).drew) := (Boxed.new x w).drew
  have hkeep : Hid (∀ w', Boxed x w w' → w'.cell? ⟨w.heap.size, 0, none⟩ = some (x.a0) ∧ w'.cell? ⟨w.heap.size, 1, none⟩ = some (x.a1) ∧ w'.cell? ⟨w.heap.size, 2, none⟩ = some (x.a2) ∧ w'.cell? ⟨w.heap.size, 3, none⟩ = some (x.a3) ∧ w'.cell? ⟨w.heap.size, 4, none⟩ = some (.int .i64 x.c.mn) ∧ w'.cell? ⟨w.heap.size, 5, none⟩ = some (.int .i64 x.c.mx) ∧ w'.cell? ⟨w.heap.size, 6, none⟩ = some (.int .i64 x.c.dv) ∧ w'.cell? ⟨w.heap.size, 7, none⟩ = some (x.a4) ∧ w'.cell? ⟨w.heap.size, 8, none⟩ = some (x.a5) ∧ w'.cell? ⟨w.heap.size, 9, none⟩ = some (x.a6) ∧ w'.cell? ⟨w.heap.size, 10, none⟩ = some (x.a7) ∧ w'.cell? ⟨w.heap.size, 11, none⟩ = some (x.a8) ∧ w'.cell? ⟨w.heap.size, 12, none⟩ = some (x.a9)) := fun w' hB => cells13 hB.1
  go_region_held3 (fun w' => w'.cell? ⟨w.heap.size, 0, none⟩ = some (x.a0) ∧ w'.cell? ⟨w.heap.size, 1, none⟩ = some (x.a1) ∧ w'.cell? ⟨w.heap.size, 2, none⟩ = some (x.a2) ∧ w'.cell? ⟨w.heap.size, 3, none⟩ = some (x.a3) ∧ w'.cell? ⟨w.heap.size, 4, none⟩ = some (.int .i64 x.c.mn) ∧ w'.cell? ⟨w.heap.size, 5, none⟩ = some (.int .i64 x.c.mx) ∧ w'.cell? ⟨w.heap.size, 6, none⟩ = some (.int .i64 x.c.dv) ∧ w'.cell? ⟨w.heap.size, 7, none⟩ = some (x.a4) ∧ w'.cell? ⟨w.heap.size, 8, none⟩ = some (x.a5) ∧ w'.cell? ⟨w.heap.size, 9, none⟩ = some (x.a6) ∧ w'.cell? ⟨w.heap.size, 10, none⟩ = some (x.a7) ∧ w'.cell? ⟨w.heap.size, 11, none⟩ = some (x.a8) ∧ w'.cell? ⟨w.heap.size, 12, none⟩ = some (x.a9)) (first | exact hkeep.out _ HS0.out | exact hkeep.out _ HS1.out | exact hkeep.out _ HS2.out | exact hkeep.out _ HS3.out | exact hkeep.out _ HS4.out | exact hkeep.out _ HS5.out)
    (first
      | (go_at_call 9; refine (c9.out _ HS0.out).mono ?_; rintro e w1 ⟨rfl, hs1⟩; have HS1 := Lib.hid hs1; clear hs1)
      | (go_at_call 10; refine (c10.out _ HS1.out).mono ?_; rintro e w2 ⟨rfl, hs2⟩; have HS2 := Lib.hid hs2; clear hs2)
      | (go_at_call 11; refine (c11.out _ HS2.out).mono ?_; rintro e w3 ⟨rfl, hs3⟩; have HS3 := Lib.hid hs3; clear hs3)
      | (go_at_call 12; refine (c12.out _ HS3.out).mono ?_; rintro e w4 ⟨rfl, hs4⟩; have HS4 := Lib.hid hs4; clear hs4)
      | (go_at_call 13; refine (c13.out _ HS4.out).mono ?_; rintro e w5 ⟨rfl, hs5⟩; have HS5 := Lib.hid hs5; clear hs5))
  go_wp2
  go_ret
  exact ⟨rfl, HS5.out.2⟩
end Go.Proofs.Ytkmhjfcjplnjdaa
