/- Settings: the two that look at them. -/
import Derived.Test.YtoffclpjhikjkaaGreatProg
import Derived.WalkKit
import Derived.WalkSpells
import Derived.WalkLawsBesides
import Derived.Deep.QuietTactic
import Derived.BigQuiet
import Derived.Deep.RegionHeld3
set_option linter.unusedSimpArgs false
set_option linter.unusedVariables false
namespace Go.Proofs.YtoffclpjhikjkaaGreat
open Go.RowKit
def inB (n lo hi : Int) : Bool := decide (lo ≤ n) && decide (n ≤ hi)
theorem in32 (n lo hi : Int) (b : Bool) (h : inB n lo hi = b) (w : World) : Calls Tryz.prog 32 #[.int .i64 n, .int .i64 lo, .int .i64 hi] w fun e w' => e = .returned (.bool b) ∧ w' = w := by
  subst h
  go_enter Tryz.func32, Tryz.ntmps32
  by_cases h1 : lo ≤ n
  · go_wp2
    go_ret
    refine ⟨?_, rfl⟩
    simp [inB, h1]
  · go_wp2
    go_ret
    refine ⟨?_, rfl⟩
    simp [inB, h1]
    try omega
theorem in69 (n lo hi : Int) (b : Bool) (h : inB n lo hi = b) (w : World) : Calls Tryz.prog 69 #[.int .i64 n, .int .i64 lo, .int .i64 hi] w fun e w' => e = .returned (.bool b) ∧ w' = w := by
  subst h
  go_enter Tryz.func69, Tryz.ntmps69
  by_cases h1 : lo ≤ n
  · go_wp2
    go_ret
    refine ⟨?_, rfl⟩
    simp [inB, h1]
  · go_wp2
    go_ret
    refine ⟨?_, rfl⟩
    simp [inB, h1]
    try omega
/-- settings: thirteen numbers -/
structure Cf where
  a : Int
  b : Int
  c : Int
  d : Int
  e : Int
  f : Int
  g : Int
  h : Int
  i : Int
  j : Int
  k : Int
  l : Int
  o : Int
abbrev Cf.A (m : Cf) : Array Value := #[.int .i64 m.a, .int .i64 m.b, .int .i64 m.c, .int .i64 m.d, .int .i64 m.e, .int .i64 m.f, .int .i64 m.g, .int .i64 m.h, .int .i64 m.i, .int .i64 m.j, .int .i64 m.k, .int .i64 m.l, .int .i64 m.o]
def mayC (m : Cf) : Bool := inB m.a 1 m.b && !decide (m.b > 4096) && inB m.c 1 1048576 && inB m.d 1 1048576 && inB m.e 1 m.f && !decide (m.f > 256) && inB m.g 1 1048576 && inB m.h 0 32 && inB m.i 0 64 && inB m.j 0 64 && inB m.k 0 65536 && inB m.l 1 256 && inB m.o m.b 65536
set_option maxHeartbeats 4000000 in
theorem may6 (m : Cf) (w : World) : Calls Tryz.prog 6 #[.agg m.A] w fun e w' => e = .returned (.bool (mayC m)) ∧ w' = w.alloc (.cells m.A 29) := by
  go_enter Tryz.func6, Tryz.ntmps6
  by_cases q0 : inB m.a 1 m.b = true
  · by_cases q1 : m.b > 4096
    · go_wp2_with (first
        | (go_at_call 32; refine (in32 _ _ _ true (by assumption) _).mono ?_; rintro e w1 ⟨rfl, rfl⟩)
        | (go_at_call 32; refine (in32 _ _ _ false (by simpa using (by assumption : ¬ (_ = true))) _).mono ?_; rintro e w1 ⟨rfl, rfl⟩))
      go_ret
      exact ⟨by simp [mayC, q0, q1], rfl⟩
    · by_cases q2 : inB m.c 1 1048576 = true
      · by_cases q3 : inB m.d 1 1048576 = true
        · by_cases q4 : inB m.e 1 m.f = true
          · by_cases q5 : m.f > 256
            · go_wp2_with (first
                | (go_at_call 32; refine (in32 _ _ _ true (by assumption) _).mono ?_; rintro e w1 ⟨rfl, rfl⟩)
                | (go_at_call 32; refine (in32 _ _ _ false (by simpa using (by assumption : ¬ (_ = true))) _).mono ?_; rintro e w1 ⟨rfl, rfl⟩))
              go_ret
              exact ⟨by simp [mayC, q0, q1, q2, q3, q4, q5], rfl⟩
            · by_cases q6 : inB m.g 1 1048576 = true
              · by_cases q7 : inB m.h 0 32 = true
                · by_cases q8 : inB m.i 0 64 = true
                  · by_cases q9 : inB m.j 0 64 = true
                    · by_cases q10 : inB m.k 0 65536 = true
                      · by_cases q11 : inB m.l 1 256 = true
                        · by_cases q12 : inB m.o m.b 65536 = true
                          · go_wp2_with (first
                              | (go_at_call 32; refine (in32 _ _ _ true (by assumption) _).mono ?_; rintro e w1 ⟨rfl, rfl⟩)
                              | (go_at_call 32; refine (in32 _ _ _ false (by simpa using (by assumption : ¬ (_ = true))) _).mono ?_; rintro e w1 ⟨rfl, rfl⟩))
                            go_ret
                            exact ⟨by simp [mayC, q0, q1, q2, q3, q4, q5, q6, q7, q8, q9, q10, q11, q12], rfl⟩
                          · go_wp2_with (first
                              | (go_at_call 32; refine (in32 _ _ _ true (by assumption) _).mono ?_; rintro e w1 ⟨rfl, rfl⟩)
                              | (go_at_call 32; refine (in32 _ _ _ false (by simpa using (by assumption : ¬ (_ = true))) _).mono ?_; rintro e w1 ⟨rfl, rfl⟩))
                            go_ret
                            exact ⟨by simp [mayC, q0, q1, q2, q3, q4, q5, q6, q7, q8, q9, q10, q11, q12], rfl⟩
                        · go_wp2_with (first
                            | (go_at_call 32; refine (in32 _ _ _ true (by assumption) _).mono ?_; rintro e w1 ⟨rfl, rfl⟩)
                            | (go_at_call 32; refine (in32 _ _ _ false (by simpa using (by assumption : ¬ (_ = true))) _).mono ?_; rintro e w1 ⟨rfl, rfl⟩))
                          go_ret
                          exact ⟨by simp [mayC, q0, q1, q2, q3, q4, q5, q6, q7, q8, q9, q10, q11], rfl⟩
                      · go_wp2_with (first
                          | (go_at_call 32; refine (in32 _ _ _ true (by assumption) _).mono ?_; rintro e w1 ⟨rfl, rfl⟩)
                          | (go_at_call 32; refine (in32 _ _ _ false (by simpa using (by assumption : ¬ (_ = true))) _).mono ?_; rintro e w1 ⟨rfl, rfl⟩))
                        go_ret
                        exact ⟨by simp [mayC, q0, q1, q2, q3, q4, q5, q6, q7, q8, q9, q10], rfl⟩
                    · go_wp2_with (first
                        | (go_at_call 32; refine (in32 _ _ _ true (by assumption) _).mono ?_; rintro e w1 ⟨rfl, rfl⟩)
                        | (go_at_call 32; refine (in32 _ _ _ false (by simpa using (by assumption : ¬ (_ = true))) _).mono ?_; rintro e w1 ⟨rfl, rfl⟩))
                      go_ret
                      exact ⟨by simp [mayC, q0, q1, q2, q3, q4, q5, q6, q7, q8, q9], rfl⟩
                  · go_wp2_with (first
                      | (go_at_call 32; refine (in32 _ _ _ true (by assumption) _).mono ?_; rintro e w1 ⟨rfl, rfl⟩)
                      | (go_at_call 32; refine (in32 _ _ _ false (by simpa using (by assumption : ¬ (_ = true))) _).mono ?_; rintro e w1 ⟨rfl, rfl⟩))
                    go_ret
                    exact ⟨by simp [mayC, q0, q1, q2, q3, q4, q5, q6, q7, q8], rfl⟩
                · go_wp2_with (first
                    | (go_at_call 32; refine (in32 _ _ _ true (by assumption) _).mono ?_; rintro e w1 ⟨rfl, rfl⟩)
                    | (go_at_call 32; refine (in32 _ _ _ false (by simpa using (by assumption : ¬ (_ = true))) _).mono ?_; rintro e w1 ⟨rfl, rfl⟩))
                  go_ret
                  exact ⟨by simp [mayC, q0, q1, q2, q3, q4, q5, q6, q7], rfl⟩
              · go_wp2_with (first
                  | (go_at_call 32; refine (in32 _ _ _ true (by assumption) _).mono ?_; rintro e w1 ⟨rfl, rfl⟩)
                  | (go_at_call 32; refine (in32 _ _ _ false (by simpa using (by assumption : ¬ (_ = true))) _).mono ?_; rintro e w1 ⟨rfl, rfl⟩))
                go_ret
                exact ⟨by simp [mayC, q0, q1, q2, q3, q4, q5, q6], rfl⟩
          · go_wp2_with (first
              | (go_at_call 32; refine (in32 _ _ _ true (by assumption) _).mono ?_; rintro e w1 ⟨rfl, rfl⟩)
              | (go_at_call 32; refine (in32 _ _ _ false (by simpa using (by assumption : ¬ (_ = true))) _).mono ?_; rintro e w1 ⟨rfl, rfl⟩))
            go_ret
            exact ⟨by simp [mayC, q0, q1, q2, q3, q4], rfl⟩
        · go_wp2_with (first
            | (go_at_call 32; refine (in32 _ _ _ true (by assumption) _).mono ?_; rintro e w1 ⟨rfl, rfl⟩)
            | (go_at_call 32; refine (in32 _ _ _ false (by simpa using (by assumption : ¬ (_ = true))) _).mono ?_; rintro e w1 ⟨rfl, rfl⟩))
          go_ret
          exact ⟨by simp [mayC, q0, q1, q2, q3], rfl⟩
      · go_wp2_with (first
          | (go_at_call 32; refine (in32 _ _ _ true (by assumption) _).mono ?_; rintro e w1 ⟨rfl, rfl⟩)
          | (go_at_call 32; refine (in32 _ _ _ false (by simpa using (by assumption : ¬ (_ = true))) _).mono ?_; rintro e w1 ⟨rfl, rfl⟩))
        go_ret
        exact ⟨by simp [mayC, q0, q1, q2], rfl⟩
  · go_wp2_with (first
      | (go_at_call 32; refine (in32 _ _ _ true (by assumption) _).mono ?_; rintro e w1 ⟨rfl, rfl⟩)
      | (go_at_call 32; refine (in32 _ _ _ false (by simpa using (by assumption : ¬ (_ = true))) _).mono ?_; rintro e w1 ⟨rfl, rfl⟩))
    go_ret
    exact ⟨by simp [mayC, q0], rfl⟩
end Go.Proofs.YtoffclpjhikjkaaGreat
