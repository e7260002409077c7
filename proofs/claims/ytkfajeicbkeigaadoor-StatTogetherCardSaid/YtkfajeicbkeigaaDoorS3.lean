/- The walk over the program's Of. -/
import Derived.Test.YtkfajeicbkeigaaDoorS0
namespace Go.Proofs.YtkfajeicbkeigaaDoor
open Go.RowKit
def shA (a b : Int) : Array Value := #[.int .i64 a, .int .i64 b]
/-- what Of answers -/
def ofV (a b : Int) : Value := if 0 ≤ a ∧ 1 ≤ b then .tuple #[.agg (shA ((a.toNat / Nat.gcd a.toNat b.toNat : Nat) : Int) ((b.toNat / Nat.gcd a.toNat b.toNat : Nat) : Int)), .int .i64 0] else .tuple #[.agg (shA 0 0), .int .i64 5]
theorem info23 : (Tryd.prog.info? 23).map (·.size) = some 2 := by kernel_rfl
set_option maxHeartbeats 2000000 in
theorem of8 (a b : Int) (ha : a ≤ 9223372036854775807) (hb : b ≤ 9223372036854775807) (w : World) :
    Calls Tryd.prog 8 #[.int .i64 a, .int .i64 b] w fun e w' => e = .returned (ofV a b) ∧ Below w.heap.size w w' := by
  have HB0 : Hid (Below w.heap.size w (w.alloc (.cells (shA 0 0) 23))) := Lib.hid ((Below.refl _ _).alloc (Nat.le_refl _) _)
  have HI : Hid (∀ x y, (Tryd.prog.info? 23).map (·.size) = some (shA x y).size) := Lib.hid (fun _ _ => info23)
  have HG0 : Hid ((w.alloc (.cells (shA 0 0) 23)).heap[w.heap.size]? = some (.cells (shA 0 0) 23 (0, 0))) := Lib.hid (heap_alloc_new w _)
  by_cases h1 : 0 ≤ a ∧ 1 ≤ b
  · have HV : Hid (ofV a b = .tuple #[.agg (shA ((a.toNat / Nat.gcd a.toNat b.toNat : Nat) : Int) ((b.toNat / Nat.gcd a.toNat b.toNat : Nat) : Int)), .int .i64 0]) := Lib.hid (by unfold ofV; rw [if_pos h1])
    rw [HV.out]
    obtain ⟨x, rfl⟩ : ∃ x : Nat, a = x := ⟨a.toNat, by omega⟩
    obtain ⟨y, rfl⟩ : ∃ y : Nat, b = y := ⟨b.toNat, by omega⟩
    simp only [Int.toNat_natCast]
    have HC : Hid (∀ W, Calls Tryd.prog 35 #[.int .i64 x, .int .i64 y] W fun e w' => e = .returned (.int .i64 (Nat.gcd x y : Int)) ∧ ∃ nq, w' = W.drewN nq) := Lib.hid (fun W => common35 x y (by omega) (by omega) W)
    have hg := gcd_pos x y (by omega)
    obtain ⟨g, hgg⟩ : ∃ g, Nat.gcd x y = g := ⟨_, rfl⟩
    rw [hgg] at HC hg ⊢
    clear hgg
    have h3 : ¬ (g : Int) = 0 := by omega
    have h4 : ¬ (x : Int) < 0 := by omega
    have h5 : ¬ (y : Int) < 1 := by omega
    have d1 : (x : Int).tdiv g = ((x / g : Nat) : Int) := rfl
    have d2 : (y : Int).tdiv g = ((y / g : Nat) : Int) := rfl
    have HA : Hid (x / g ≤ 9223372036854775807) := Lib.hid (Nat.le_trans (Nat.div_le_self _ _) (by omega))
    have HB : Hid (y / g ≤ 9223372036854775807) := Lib.hid (Nat.le_trans (Nat.div_le_self _ _) (by omega))
    generalize x / g = p at *
    generalize y / g = q at *
    have w1 : IntKind.i64.wrap (p : Int) = (p : Int) := IntWalk.i64_in _ (by have := HA.out; omega)
    have w2 : IntKind.i64.wrap (q : Int) = (q : Int) := IntWalk.i64_in _ (by have := HB.out; omega)
    clear h1
    go_enter Tryd.func8, Tryd.ntmps8
    go_wp2_with fail
    refine Calls.mono (HC.out _) ?_
    rintro e w3 ⟨rfl, n3, rfl⟩
    go_wp2_with fail
    go_region
    go_wp2_with fail
    have hh1 : ((w.alloc (.cells (shA 0 0) 23)).drewN (n3 + 1)).heap[w.heap.size]? = some (.cells (shA 0 0) 23 (0, 0)) := HG0.out
    have hh2 := Go.heap_setCell_same _ _ 0 _ _ (Value.int .i64 (p : Int)) hh1
    have hh3 := Go.heap_setCell_same _ _ 1 _ _ (Value.int .i64 (q : Int)) hh2
    exact bodyPost_ret (results_row2 rfl _ _ w.heap.size 23 (shA p q) (0, 0) _ rfl hh3 Tryd.underlying23 rfl (HI.out p q)) rfl ⟨rfl, ((below_drewN HB0.out _).setCell (Nat.le_refl _) _).setCell (Nat.le_refl _) _⟩
  · have HV : Hid (ofV a b = .tuple #[.agg (shA 0 0), .int .i64 5]) := Lib.hid (by unfold ofV; rw [if_neg h1])
    rw [HV.out]
    have h2 : a < 0 ∨ (¬ a < 0 ∧ b < 1) := by omega
    clear h1
    rcases h2 with h2 | ⟨h2, h3⟩
    all_goals
      go_enter Tryd.func8, Tryd.ntmps8
      go_wp2_with fail
      refine bodyPost_ret (results_row2 rfl _ _ w.heap.size 23 (shA 0 0) (0, 0) _ rfl HG0.out Tryd.underlying23 rfl (HI.out 0 0)) rfl ⟨rfl, HB0.out⟩
end Go.Proofs.YtkfajeicbkeigaaDoor
