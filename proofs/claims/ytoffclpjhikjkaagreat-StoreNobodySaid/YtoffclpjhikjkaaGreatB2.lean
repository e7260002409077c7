/- Settings: the program's look at them. -/
import Derived.Test.YtoffclpjhikjkaaGreatB1
import Derived.Lib.Hide
set_option linter.unusedSimpArgs false
set_option linter.unusedVariables false
namespace Go.Proofs.YtoffclpjhikjkaaGreat
open Go.RowKit
theorem div157 (n : Int) (b : Bool) (h : inB n 1 1048576 = b) (w : World) : Calls Tryz.prog 157 #[.int .i64 n] w fun e w' => e = .returned (.bool b) ∧ w' = w := by
  subst h
  go_enter Tryz.func157, Tryz.ntmps157
  by_cases h1 : 1 ≤ n
  · go_wp2
    go_ret
    refine ⟨?_, rfl⟩
    simp [inB, h1]
  · go_wp2
    go_ret
    refine ⟨?_, rfl⟩
    simp [inB, h1]
    try omega
def cutB (m : Cf) : Bool := decide (1 ≤ m.a) && decide (m.a ≤ m.b) && decide (m.b ≤ 4096) && inB m.c 1 1048576 && inB m.d 1 1048576
def segB (m : Cf) : Bool := decide (1 ≤ m.e) && decide (m.e ≤ m.f) && decide (m.f ≤ 256) && decide (1 ≤ m.g) && decide (m.g ≤ 1048576)
def chkB (m : Cf) : Bool := cutB m && segB m && inB m.h 0 32 && inB m.i 0 64 && inB m.j 0 64 && inB m.k 0 65536 && inB m.l 1 256 && inB m.o m.b 65536
theorem chk_may (m : Cf) : chkB m = mayC m := by
  have e1 : (!decide (m.b > 4096)) = decide (m.b ≤ 4096) := by
    by_cases h : m.b ≤ 4096 <;> simp [h]
    omega
  have e2 : (!decide (m.f > 256)) = decide (m.f ≤ 256) := by
    by_cases h : m.f ≤ 256 <;> simp [h]
    omega
  unfold chkB mayC cutB segB
  rw [e1, e2]
  simp only [inB]
  ac_rfl
set_option maxHeartbeats 1000000 in
theorem cut70 (m : Cf) (b : Bool) (h : cutB m = b) (w : World) : Calls Tryz.prog 70 #[.agg m.A] w fun e w' => e = .returned (.bool b) ∧ w' = w.alloc (.cells m.A 29) := by
  subst h
  go_enter Tryz.func70, Tryz.ntmps70
  by_cases q0 : 1 ≤ m.a
  · by_cases q1 : m.a ≤ m.b
    · by_cases q2 : m.b ≤ 4096
      · by_cases q3 : inB m.c 1 1048576 = true
        · by_cases q4 : inB m.d 1 1048576 = true
          · go_wp2_with (first
              | (go_at_call 157; refine (div157 _ true (by assumption) _).mono ?_; rintro e w1 ⟨rfl, rfl⟩)
              | (go_at_call 157; refine (div157 _ false (by simpa using (by assumption : ¬ (_ = true))) _).mono ?_; rintro e w1 ⟨rfl, rfl⟩))
            go_ret
            exact ⟨by simp [cutB, q0, q1, q2, q3, q4] <;> (intros; exfalso; omega), rfl⟩
          · go_wp2_with (first
              | (go_at_call 157; refine (div157 _ true (by assumption) _).mono ?_; rintro e w1 ⟨rfl, rfl⟩)
              | (go_at_call 157; refine (div157 _ false (by simpa using (by assumption : ¬ (_ = true))) _).mono ?_; rintro e w1 ⟨rfl, rfl⟩))
            go_ret
            exact ⟨by simp [cutB, q0, q1, q2, q3, q4] <;> (intros; exfalso; omega), rfl⟩
        · go_wp2_with (first
            | (go_at_call 157; refine (div157 _ true (by assumption) _).mono ?_; rintro e w1 ⟨rfl, rfl⟩)
            | (go_at_call 157; refine (div157 _ false (by simpa using (by assumption : ¬ (_ = true))) _).mono ?_; rintro e w1 ⟨rfl, rfl⟩))
          go_ret
          exact ⟨by simp [cutB, q0, q1, q2, q3] <;> (intros; exfalso; omega), rfl⟩
      · go_wp2_with (first
          | (go_at_call 157; refine (div157 _ true (by assumption) _).mono ?_; rintro e w1 ⟨rfl, rfl⟩)
          | (go_at_call 157; refine (div157 _ false (by simpa using (by assumption : ¬ (_ = true))) _).mono ?_; rintro e w1 ⟨rfl, rfl⟩))
        go_ret
        exact ⟨by simp [cutB, q0, q1, q2] <;> (intros; exfalso; omega), rfl⟩
    · go_wp2_with (first
        | (go_at_call 157; refine (div157 _ true (by assumption) _).mono ?_; rintro e w1 ⟨rfl, rfl⟩)
        | (go_at_call 157; refine (div157 _ false (by simpa using (by assumption : ¬ (_ = true))) _).mono ?_; rintro e w1 ⟨rfl, rfl⟩))
      go_ret
      exact ⟨by simp [cutB, q0, q1] <;> (intros; exfalso; omega), rfl⟩
  · go_wp2_with (first
      | (go_at_call 157; refine (div157 _ true (by assumption) _).mono ?_; rintro e w1 ⟨rfl, rfl⟩)
      | (go_at_call 157; refine (div157 _ false (by simpa using (by assumption : ¬ (_ = true))) _).mono ?_; rintro e w1 ⟨rfl, rfl⟩))
    go_ret
    exact ⟨by simp [cutB, q0] <;> (intros; exfalso; omega), rfl⟩
set_option maxHeartbeats 1000000 in
theorem seg71 (m : Cf) (b : Bool) (h : segB m = b) (w : World) : Calls Tryz.prog 71 #[.agg m.A] w fun e w' => e = .returned (.bool b) ∧ w' = w.alloc (.cells m.A 29) := by
  subst h
  go_enter Tryz.func71, Tryz.ntmps71
  by_cases q0 : 1 ≤ m.e
  · by_cases q1 : m.e ≤ m.f
    · by_cases q2 : m.f ≤ 256
      · by_cases q3 : 1 ≤ m.g
        · by_cases q4 : m.g ≤ 1048576
          · go_wp2
            go_ret
            exact ⟨by simp [segB, q0, q1, q2, q3, q4] <;> (intros; exfalso; omega), rfl⟩
          · go_wp2
            go_ret
            exact ⟨by simp [segB, q0, q1, q2, q3, q4] <;> (intros; exfalso; omega), rfl⟩
        · go_wp2
          go_ret
          exact ⟨by simp [segB, q0, q1, q2, q3] <;> (intros; exfalso; omega), rfl⟩
      · go_wp2
        go_ret
        exact ⟨by simp [segB, q0, q1, q2] <;> (intros; exfalso; omega), rfl⟩
    · go_wp2
      go_ret
      exact ⟨by simp [segB, q0, q1] <;> (intros; exfalso; omega), rfl⟩
  · go_wp2
    go_ret
    exact ⟨by simp [segB, q0] <;> (intros; exfalso; omega), rfl⟩
set_option maxHeartbeats 4000000 in
theorem check25 (m : Cf) (k : Int) (hk : k = if chkB m = true then 0 else 230) (w : World) : Calls Tryz.prog 25 #[.agg m.A] w fun e w' => e = .returned (.int .i64 k) ∧ Below w.heap.size w w' := by
  have HK := Lib.hid hk
  clear hk
  go_enter Tryz.func25, Tryz.ntmps25
  by_cases q0 : cutB m = true
  · by_cases q1 : segB m = true
    · by_cases q2 : inB m.h 0 32 = true
      · by_cases q3 : inB m.i 0 64 = true
        · by_cases q4 : inB m.j 0 64 = true
          · by_cases q5 : inB m.k 0 65536 = true
            · by_cases q6 : inB m.l 1 256 = true
              · by_cases q7 : inB m.o m.b 65536 = true
                · go_wp2_with (first
                    | (go_at_call 69; refine (in69 _ _ _ true (by assumption) _).mono ?_; rintro e w1 ⟨rfl, rfl⟩)
                    | (go_at_call 69; refine (in69 _ _ _ false (by simpa using (by assumption : ¬ (_ = true))) _).mono ?_; rintro e w1 ⟨rfl, rfl⟩)
                    | (go_at_call 70; refine (cut70 m true (by assumption) _).mono ?_; rintro e w1 ⟨rfl, rfl⟩)
                    | (go_at_call 70; refine (cut70 m false (by simpa using (by assumption : ¬ (_ = true))) _).mono ?_; rintro e w1 ⟨rfl, rfl⟩)
                    | (go_at_call 71; refine (seg71 m true (by assumption) _).mono ?_; rintro e w1 ⟨rfl, rfl⟩)
                    | (go_at_call 71; refine (seg71 m false (by simpa using (by assumption : ¬ (_ = true))) _).mono ?_; rintro e w1 ⟨rfl, rfl⟩))
                  go_ret
                  refine ⟨by rw [HK.out]; simp [chkB, q0, q1, q2, q3, q4, q5, q6, q7], ?_⟩
                  first
                    | exact ((Below.refl _ _).alloc (Nat.le_refl _) _).alloc (by simp) _
                    | exact (((Below.refl _ _).alloc (Nat.le_refl _) _).alloc (by simp) _).alloc (by simp; omega) _
                · go_wp2_with (first
                    | (go_at_call 69; refine (in69 _ _ _ true (by assumption) _).mono ?_; rintro e w1 ⟨rfl, rfl⟩)
                    | (go_at_call 69; refine (in69 _ _ _ false (by simpa using (by assumption : ¬ (_ = true))) _).mono ?_; rintro e w1 ⟨rfl, rfl⟩)
                    | (go_at_call 70; refine (cut70 m true (by assumption) _).mono ?_; rintro e w1 ⟨rfl, rfl⟩)
                    | (go_at_call 70; refine (cut70 m false (by simpa using (by assumption : ¬ (_ = true))) _).mono ?_; rintro e w1 ⟨rfl, rfl⟩)
                    | (go_at_call 71; refine (seg71 m true (by assumption) _).mono ?_; rintro e w1 ⟨rfl, rfl⟩)
                    | (go_at_call 71; refine (seg71 m false (by simpa using (by assumption : ¬ (_ = true))) _).mono ?_; rintro e w1 ⟨rfl, rfl⟩))
                  go_ret
                  refine ⟨by rw [HK.out]; simp [chkB, q0, q1, q2, q3, q4, q5, q6, q7], ?_⟩
                  first
                    | exact ((Below.refl _ _).alloc (Nat.le_refl _) _).alloc (by simp) _
                    | exact (((Below.refl _ _).alloc (Nat.le_refl _) _).alloc (by simp) _).alloc (by simp; omega) _
              · go_wp2_with (first
                  | (go_at_call 69; refine (in69 _ _ _ true (by assumption) _).mono ?_; rintro e w1 ⟨rfl, rfl⟩)
                  | (go_at_call 69; refine (in69 _ _ _ false (by simpa using (by assumption : ¬ (_ = true))) _).mono ?_; rintro e w1 ⟨rfl, rfl⟩)
                  | (go_at_call 70; refine (cut70 m true (by assumption) _).mono ?_; rintro e w1 ⟨rfl, rfl⟩)
                  | (go_at_call 70; refine (cut70 m false (by simpa using (by assumption : ¬ (_ = true))) _).mono ?_; rintro e w1 ⟨rfl, rfl⟩)
                  | (go_at_call 71; refine (seg71 m true (by assumption) _).mono ?_; rintro e w1 ⟨rfl, rfl⟩)
                  | (go_at_call 71; refine (seg71 m false (by simpa using (by assumption : ¬ (_ = true))) _).mono ?_; rintro e w1 ⟨rfl, rfl⟩))
                go_ret
                refine ⟨by rw [HK.out]; simp [chkB, q0, q1, q2, q3, q4, q5, q6], ?_⟩
                first
                  | exact ((Below.refl _ _).alloc (Nat.le_refl _) _).alloc (by simp) _
                  | exact (((Below.refl _ _).alloc (Nat.le_refl _) _).alloc (by simp) _).alloc (by simp; omega) _
            · go_wp2_with (first
                | (go_at_call 69; refine (in69 _ _ _ true (by assumption) _).mono ?_; rintro e w1 ⟨rfl, rfl⟩)
                | (go_at_call 69; refine (in69 _ _ _ false (by simpa using (by assumption : ¬ (_ = true))) _).mono ?_; rintro e w1 ⟨rfl, rfl⟩)
                | (go_at_call 70; refine (cut70 m true (by assumption) _).mono ?_; rintro e w1 ⟨rfl, rfl⟩)
                | (go_at_call 70; refine (cut70 m false (by simpa using (by assumption : ¬ (_ = true))) _).mono ?_; rintro e w1 ⟨rfl, rfl⟩)
                | (go_at_call 71; refine (seg71 m true (by assumption) _).mono ?_; rintro e w1 ⟨rfl, rfl⟩)
                | (go_at_call 71; refine (seg71 m false (by simpa using (by assumption : ¬ (_ = true))) _).mono ?_; rintro e w1 ⟨rfl, rfl⟩))
              go_ret
              refine ⟨by rw [HK.out]; simp [chkB, q0, q1, q2, q3, q4, q5], ?_⟩
              first
                | exact ((Below.refl _ _).alloc (Nat.le_refl _) _).alloc (by simp) _
                | exact (((Below.refl _ _).alloc (Nat.le_refl _) _).alloc (by simp) _).alloc (by simp; omega) _
          · go_wp2_with (first
              | (go_at_call 69; refine (in69 _ _ _ true (by assumption) _).mono ?_; rintro e w1 ⟨rfl, rfl⟩)
              | (go_at_call 69; refine (in69 _ _ _ false (by simpa using (by assumption : ¬ (_ = true))) _).mono ?_; rintro e w1 ⟨rfl, rfl⟩)
              | (go_at_call 70; refine (cut70 m true (by assumption) _).mono ?_; rintro e w1 ⟨rfl, rfl⟩)
              | (go_at_call 70; refine (cut70 m false (by simpa using (by assumption : ¬ (_ = true))) _).mono ?_; rintro e w1 ⟨rfl, rfl⟩)
              | (go_at_call 71; refine (seg71 m true (by assumption) _).mono ?_; rintro e w1 ⟨rfl, rfl⟩)
              | (go_at_call 71; refine (seg71 m false (by simpa using (by assumption : ¬ (_ = true))) _).mono ?_; rintro e w1 ⟨rfl, rfl⟩))
            go_ret
            refine ⟨by rw [HK.out]; simp [chkB, q0, q1, q2, q3, q4], ?_⟩
            first
              | exact ((Below.refl _ _).alloc (Nat.le_refl _) _).alloc (by simp) _
              | exact (((Below.refl _ _).alloc (Nat.le_refl _) _).alloc (by simp) _).alloc (by simp; omega) _
        · go_wp2_with (first
            | (go_at_call 69; refine (in69 _ _ _ true (by assumption) _).mono ?_; rintro e w1 ⟨rfl, rfl⟩)
            | (go_at_call 69; refine (in69 _ _ _ false (by simpa using (by assumption : ¬ (_ = true))) _).mono ?_; rintro e w1 ⟨rfl, rfl⟩)
            | (go_at_call 70; refine (cut70 m true (by assumption) _).mono ?_; rintro e w1 ⟨rfl, rfl⟩)
            | (go_at_call 70; refine (cut70 m false (by simpa using (by assumption : ¬ (_ = true))) _).mono ?_; rintro e w1 ⟨rfl, rfl⟩)
            | (go_at_call 71; refine (seg71 m true (by assumption) _).mono ?_; rintro e w1 ⟨rfl, rfl⟩)
            | (go_at_call 71; refine (seg71 m false (by simpa using (by assumption : ¬ (_ = true))) _).mono ?_; rintro e w1 ⟨rfl, rfl⟩))
          go_ret
          refine ⟨by rw [HK.out]; simp [chkB, q0, q1, q2, q3], ?_⟩
          first
            | exact ((Below.refl _ _).alloc (Nat.le_refl _) _).alloc (by simp) _
            | exact (((Below.refl _ _).alloc (Nat.le_refl _) _).alloc (by simp) _).alloc (by simp; omega) _
      · go_wp2_with (first
          | (go_at_call 69; refine (in69 _ _ _ true (by assumption) _).mono ?_; rintro e w1 ⟨rfl, rfl⟩)
          | (go_at_call 69; refine (in69 _ _ _ false (by simpa using (by assumption : ¬ (_ = true))) _).mono ?_; rintro e w1 ⟨rfl, rfl⟩)
          | (go_at_call 70; refine (cut70 m true (by assumption) _).mono ?_; rintro e w1 ⟨rfl, rfl⟩)
          | (go_at_call 70; refine (cut70 m false (by simpa using (by assumption : ¬ (_ = true))) _).mono ?_; rintro e w1 ⟨rfl, rfl⟩)
          | (go_at_call 71; refine (seg71 m true (by assumption) _).mono ?_; rintro e w1 ⟨rfl, rfl⟩)
          | (go_at_call 71; refine (seg71 m false (by simpa using (by assumption : ¬ (_ = true))) _).mono ?_; rintro e w1 ⟨rfl, rfl⟩))
        go_ret
        refine ⟨by rw [HK.out]; simp [chkB, q0, q1, q2], ?_⟩
        first
          | exact ((Below.refl _ _).alloc (Nat.le_refl _) _).alloc (by simp) _
          | exact (((Below.refl _ _).alloc (Nat.le_refl _) _).alloc (by simp) _).alloc (by simp; omega) _
    · go_wp2_with (first
        | (go_at_call 69; refine (in69 _ _ _ true (by assumption) _).mono ?_; rintro e w1 ⟨rfl, rfl⟩)
        | (go_at_call 69; refine (in69 _ _ _ false (by simpa using (by assumption : ¬ (_ = true))) _).mono ?_; rintro e w1 ⟨rfl, rfl⟩)
        | (go_at_call 70; refine (cut70 m true (by assumption) _).mono ?_; rintro e w1 ⟨rfl, rfl⟩)
        | (go_at_call 70; refine (cut70 m false (by simpa using (by assumption : ¬ (_ = true))) _).mono ?_; rintro e w1 ⟨rfl, rfl⟩)
        | (go_at_call 71; refine (seg71 m true (by assumption) _).mono ?_; rintro e w1 ⟨rfl, rfl⟩)
        | (go_at_call 71; refine (seg71 m false (by simpa using (by assumption : ¬ (_ = true))) _).mono ?_; rintro e w1 ⟨rfl, rfl⟩))
      go_ret
      refine ⟨by rw [HK.out]; simp [chkB, q0, q1], ?_⟩
      first
        | exact ((Below.refl _ _).alloc (Nat.le_refl _) _).alloc (by simp) _
        | exact (((Below.refl _ _).alloc (Nat.le_refl _) _).alloc (by simp) _).alloc (by simp; omega) _
  · go_wp2_with (first
      | (go_at_call 69; refine (in69 _ _ _ true (by assumption) _).mono ?_; rintro e w1 ⟨rfl, rfl⟩)
      | (go_at_call 69; refine (in69 _ _ _ false (by simpa using (by assumption : ¬ (_ = true))) _).mono ?_; rintro e w1 ⟨rfl, rfl⟩)
      | (go_at_call 70; refine (cut70 m true (by assumption) _).mono ?_; rintro e w1 ⟨rfl, rfl⟩)
      | (go_at_call 70; refine (cut70 m false (by simpa using (by assumption : ¬ (_ = true))) _).mono ?_; rintro e w1 ⟨rfl, rfl⟩)
      | (go_at_call 71; refine (seg71 m true (by assumption) _).mono ?_; rintro e w1 ⟨rfl, rfl⟩)
      | (go_at_call 71; refine (seg71 m false (by simpa using (by assumption : ¬ (_ = true))) _).mono ?_; rintro e w1 ⟨rfl, rfl⟩))
    go_ret
    refine ⟨by rw [HK.out]; simp [chkB, q0], ?_⟩
    first
      | exact ((Below.refl _ _).alloc (Nat.le_refl _) _).alloc (by simp) _
      | exact (((Below.refl _ _).alloc (Nat.le_refl _) _).alloc (by simp) _).alloc (by simp; omega) _
end Go.Proofs.YtoffclpjhikjkaaGreat
