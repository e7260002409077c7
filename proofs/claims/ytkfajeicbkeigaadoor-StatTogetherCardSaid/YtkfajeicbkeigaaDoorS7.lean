/- The walk over the reference's Less. -/
import Derived.Test.YtkfajeicbkeigaaDoorS6
namespace Go.Proofs.YtkfajeicbkeigaaDoor
open Go.RowKit
set_option maxRecDepth 100000 in
set_option maxHeartbeats 2000000 in
theorem rless15 : ∀ (n a b c d : Nat), b + d ≤ n → 0 < b → 0 < d → a ≤ 9223372036854775807 → b ≤ 9223372036854775807 → c ≤ 9223372036854775807 → d ≤ 9223372036854775807 → ∀ w : World,
    Calls Tryd.prog 15 #[.int .i64 a, .int .i64 b, .int .i64 c, .int .i64 d] w fun e w' => e = .returned (.bool (decide (a * d < c * b))) ∧ ∃ nq, w' = w.drewN nq := by
  intro n
  induction n with
  | zero => intro a b c d h hb; omega
  | succ n ih =>
    intro a b c d hn hb hd la lb lc ld w
    have hb1 : ¬ (b : Int) = 0 := by omega
    have hd1 : ¬ (d : Int) = 0 := by omega
    have t1 : (a : Int).tdiv b = ((a / b : Nat) : Int) := rfl
    have t2 : (c : Int).tdiv d = ((c / d : Nat) : Int) := rfl
    have t3 : (a : Int).tmod b = ((a % b : Nat) : Int) := rfl
    have t4 : (c : Int).tmod d = ((c % d : Nat) : Int) := rfl
    have q1 : a / b ≤ a := Nat.div_le_self _ _
    have q2 : c / d ≤ c := Nat.div_le_self _ _
    have m1 : a % b < b := Nat.mod_lt _ hb
    have m2 : c % d < d := Nat.mod_lt _ hd
    have w1 : IntKind.i64.wrap ((a / b : Nat) : Int) = ((a / b : Nat) : Int) := IntWalk.i64_in _ (by generalize a / b = x at *; generalize c / d = y at *; omega)
    have w2 : IntKind.i64.wrap ((c / d : Nat) : Int) = ((c / d : Nat) : Int) := IntWalk.i64_in _ (by generalize a / b = x at *; generalize c / d = y at *; omega)
    by_cases h1 : a / b = c / d
    · have hm := less_mod h1
      have h2 : ((a / b : Nat) : Int) = ((c / d : Nat) : Int) := by omega
      have w3 : IntKind.i64.wrap ((a % b : Nat) : Int) = ((a % b : Nat) : Int) := IntWalk.i64_in _ (by generalize a % b = x at *; omega)
      have w4 : IntKind.i64.wrap ((c % d : Nat) : Int) = ((c % d : Nat) : Int) := IntWalk.i64_in _ (by generalize c % d = x at *; omega)
      have HE : Hid (decide (a * d < c * b) = decide ((a % b) * d < (c % d) * b)) := Lib.hid (by rw [Bool.eq_iff_iff]; simp only [decide_eq_true_eq]; exact hm)
      rw [HE.out]
      clear hm HE
      rw [h1] at t1 w1
      generalize a % b = e at *
      generalize c % d = f at *
      generalize c / d = y at *
      clear h1 h2
      by_cases h3 : 0 < e ∧ 0 < f
      · obtain ⟨h3, h4⟩ := h3
        have HI : Hid (∀ W, Calls Tryd.prog 15 #[.int .i64 d, .int .i64 f, .int .i64 b, .int .i64 e] W fun e1 w' => e1 = .returned (.bool (decide (d * e < b * f))) ∧ ∃ nq, w' = W.drewN nq) := Lib.hid (fun W => ih d f b e (by omega) h4 h3 ld (by omega) lb (by omega) W)
        have HE : Hid (decide (e * d < f * b) = decide (d * e < b * f)) := Lib.hid (by rw [Nat.mul_comm e, Nat.mul_comm f])
        rw [HE.out]
        generalize decide (d * e < b * f) = r at *
        have h5 : ((e : Int) == 0) = false := by simp; omega
        have h6 : ((f : Int) == 0) = false := by simp; omega
        clear h3 h4
        clear ih
        go_enter Tryd.func15, Tryd.ntmps15
        go_wp2_with fail
        go_quiet (fail)
        go_wp2_with fail
        refine Calls.mono (HI.out _) ?_
        rintro e1 w5 ⟨rfl, n5, rfl⟩
        go_wp2_with fail
        go_ret
        exact ⟨rfl, _, rfl⟩
      · have HE : Hid (decide (e * d < f * b) = decide (e < f)) := Lib.hid (by
          rw [Bool.eq_iff_iff]
          simp only [decide_eq_true_eq]
          rcases Nat.eq_zero_or_pos e with h | h
          · subst h
            rw [Nat.zero_mul]
            exact ⟨fun h => by rcases Nat.eq_zero_or_pos f with g | g; · subst g; simp at h
                               · exact g, fun h => Nat.mul_pos h hb⟩
          · have : f = 0 := by omega
            subst this
            simp)
        rw [HE.out]
        have h5 : e = 0 ∨ (0 < e ∧ f = 0) := by omega
        clear ih h3
        rcases h5 with h5 | ⟨h5, h6⟩
        · subst h5
          go_enter Tryd.func15, Tryd.ntmps15
          go_wp2_with fail
          go_quiet (fail)
          go_wp2_with fail
          go_ret
          exact ⟨rfl, _, rfl⟩
        · subst h6
          have h7 : ¬ (e : Int) = 0 := by omega
          go_enter Tryd.func15, Tryd.ntmps15
          go_wp2_with fail
          go_quiet (fail)
          go_wp2_with fail
          go_ret
          exact ⟨rfl, _, rfl⟩
    · have HE : Hid (decide (a * d < c * b) = decide (a / b < c / d)) := Lib.hid (by rw [Bool.eq_iff_iff]; simp only [decide_eq_true_eq]; exact less_div hb hd h1)
      rw [HE.out]
      have h2 : ¬ ((a / b : Nat) : Int) = ((c / d : Nat) : Int) := by omega
      generalize a / b = x at *
      generalize c / d = y at *
      clear ih h1
      go_enter Tryd.func15, Tryd.ntmps15
      go_wp2_with fail
      go_quiet (fail)
      go_wp2_with fail
      go_quiet (fail)
      go_wp2_with fail
      go_ret
      exact ⟨rfl, _, World.drewN_drewN _ _ _⟩
end Go.Proofs.YtkfajeicbkeigaaDoor
