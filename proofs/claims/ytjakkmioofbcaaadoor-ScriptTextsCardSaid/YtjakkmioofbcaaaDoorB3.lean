/- The walk over just. -/
import Derived.Test.YtjakkmioofbcaaaDoorB2
namespace Go.Proofs.YtjakkmioofbcaaaDoor
open Go.RowKit
def call0 (op : Int) (nm dt : List UInt8) : Bool := decide (op = 0 ∧ nm = [] ∧ dt = [])
def justB (s : St) : Bool :=
  if s.k = 1 then decide (s.n = 0) && decide (s.kp = []) && decide (s.c = c0)
  else if s.k = 2 then call0 s.op s.nm s.dt && decide (s.kp = []) && decide (s.c = c0)
  else if s.k = 3 then call0 s.op s.nm s.dt && decide (s.n = 0) && decide (s.c = c0)
  else if s.k = 4 then call0 s.op s.nm s.dt && decide (s.n = 0) && decide (s.kp = [])
  else false
theorem q25 (o : Int) (a b : List UInt8) (r : Bool) (h : call0 o a b = r) (W : World) : (binOp .eql 41 (.agg #[.int .i64 o, .string (str a), .string (str b)]) (.agg #[.int .i64 0, .string ⟨#[]⟩, .string ⟨#[]⟩])).run Tryd.prog W = .ok (.bool r) W := by
  subst h
  exact eq25 o 0 a b [] [] W
theorem q28 (c : Fin 13 → Int) (r : Bool) (h : decide (c = c0) = r) (W : World) : (binOp .eql 23 (.agg #[.int .i64 (c 0), .int .i64 (c 1), .int .i64 (c 2), .int .i64 (c 3), .int .i64 (c 4), .int .i64 (c 5), .int .i64 (c 6), .int .i64 (c 7), .int .i64 (c 8), .int .i64 (c 9), .int .i64 (c 10), .int .i64 (c 11), .int .i64 (c 12)]) (.agg #[.int .i64 0, .int .i64 0, .int .i64 0, .int .i64 0, .int .i64 0, .int .i64 0, .int .i64 0, .int .i64 0, .int .i64 0, .int .i64 0, .int .i64 0, .int .i64 0, .int .i64 0])).run Tryd.prog W = .ok (.bool r) W := by
  subst h
  exact eq28 c c0 W
set_option maxRecDepth 100000 in
set_option maxHeartbeats 4000000 in
theorem just23 (s : St) (A : Option Addr) (cap : Nat) (w : World) : Calls Tryd.prog 50 #[.agg (s.A (.slice A s.kp.length cap))] w fun e w' => e = .returned (.bool (justB s)) ∧ Below w.heap.size w w' := by
  have hg1 := guard25
  have hg2 := guard28
  have z25 := q25 0 [] [] true rfl
  have z28 := q28 c0 true rfl
  obtain ⟨k, op, nm, dt, n, kp, c⟩ := s
  simp only [St.A, stA]
  have HJ : Hid (justB ⟨k, op, nm, dt, n, kp, c⟩ = justB ⟨k, op, nm, dt, n, kp, c⟩) := Lib.hid rfl
  have h25 := q25 op nm dt _ rfl
  have h28 := q28 c _ rfl
  clear HJ
  by_cases k1 : k = 1
  case pos =>
    subst k1
    rw [show justB ⟨1, op, nm, dt, n, kp, c⟩ = (decide (n = 0) && decide (kp = []) && decide (c = c0)) from rfl]
    by_cases h1 : n = 0
    case neg =>
      have e1 : (n == 0) = false := by simpa using h1
      have d1 : decide (n = 0) = false := by simpa using h1
      rw [d1]
      clear d1 h1
      go_enter Tryd.func50, Tryd.ntmps50
      go_wp2
      go_ret
      exact ⟨by simp, (Below.refl _ _).alloc (Nat.le_refl _) _⟩
    subst h1
    by_cases h2 : kp = []
    case neg =>
      have e2 : ((kp.length : Int) == 0) = false := by have := List.length_pos_iff.2 h2; simp; omega
      have d2 : decide (kp = []) = false := by simpa using h2
      rw [d2]
      clear d2 h2
      go_enter Tryd.func50, Tryd.ntmps50
      go_wp2
      go_ret
      exact ⟨by simp, (Below.refl _ _).alloc (Nat.le_refl _) _⟩
    subst h2
    generalize decide (c = c0) = bc at *
    cases bc
    case false =>
      go_enter Tryd.func50, Tryd.ntmps50
      go_wp2
      go_ret
      exact ⟨by simp, (Below.refl _ _).alloc (Nat.le_refl _) _⟩
    go_enter Tryd.func50, Tryd.ntmps50
    go_wp2
    go_ret
    exact ⟨rfl, (Below.refl _ _).alloc (Nat.le_refl _) _⟩
  by_cases k2 : k = 2
  case pos =>
    subst k2
    rw [show justB ⟨2, op, nm, dt, n, kp, c⟩ = (call0 op nm dt && decide (kp = []) && decide (c = c0)) from rfl]
    generalize call0 op nm dt = bl at *
    cases bl
    case false =>
      go_enter Tryd.func50, Tryd.ntmps50
      go_wp2
      go_ret
      exact ⟨by simp, (Below.refl _ _).alloc (Nat.le_refl _) _⟩
    by_cases h2 : kp = []
    case neg =>
      have e2 : ((kp.length : Int) == 0) = false := by have := List.length_pos_iff.2 h2; simp; omega
      have d2 : decide (kp = []) = false := by simpa using h2
      rw [d2]
      clear d2 h2
      go_enter Tryd.func50, Tryd.ntmps50
      go_wp2
      go_ret
      exact ⟨by simp, (Below.refl _ _).alloc (Nat.le_refl _) _⟩
    subst h2
    generalize decide (c = c0) = bc at *
    cases bc
    case false =>
      go_enter Tryd.func50, Tryd.ntmps50
      go_wp2
      go_ret
      exact ⟨by simp, (Below.refl _ _).alloc (Nat.le_refl _) _⟩
    go_enter Tryd.func50, Tryd.ntmps50
    go_wp2
    go_ret
    exact ⟨rfl, (Below.refl _ _).alloc (Nat.le_refl _) _⟩
  by_cases k3 : k = 3
  case pos =>
    subst k3
    rw [show justB ⟨3, op, nm, dt, n, kp, c⟩ = (call0 op nm dt && decide (n = 0) && decide (c = c0)) from rfl]
    generalize call0 op nm dt = bl at *
    cases bl
    case false =>
      go_enter Tryd.func50, Tryd.ntmps50
      go_wp2
      go_ret
      exact ⟨by simp, (Below.refl _ _).alloc (Nat.le_refl _) _⟩
    by_cases h1 : n = 0
    case neg =>
      have e1 : (n == 0) = false := by simpa using h1
      have d1 : decide (n = 0) = false := by simpa using h1
      rw [d1]
      clear d1 h1
      go_enter Tryd.func50, Tryd.ntmps50
      go_wp2
      go_ret
      exact ⟨by simp, (Below.refl _ _).alloc (Nat.le_refl _) _⟩
    subst h1
    generalize decide (c = c0) = bc at *
    cases bc
    case false =>
      go_enter Tryd.func50, Tryd.ntmps50
      go_wp2
      go_ret
      exact ⟨by simp, (Below.refl _ _).alloc (Nat.le_refl _) _⟩
    go_enter Tryd.func50, Tryd.ntmps50
    go_wp2
    go_ret
    exact ⟨rfl, (Below.refl _ _).alloc (Nat.le_refl _) _⟩
  by_cases k4 : k = 4
  case pos =>
    subst k4
    rw [show justB ⟨4, op, nm, dt, n, kp, c⟩ = (call0 op nm dt && decide (n = 0) && decide (kp = [])) from rfl]
    generalize call0 op nm dt = bl at *
    cases bl
    case false =>
      go_enter Tryd.func50, Tryd.ntmps50
      go_wp2
      go_ret
      exact ⟨by simp, (Below.refl _ _).alloc (Nat.le_refl _) _⟩
    by_cases h1 : n = 0
    case neg =>
      have e1 : (n == 0) = false := by simpa using h1
      have d1 : decide (n = 0) = false := by simpa using h1
      rw [d1]
      clear d1 h1
      go_enter Tryd.func50, Tryd.ntmps50
      go_wp2
      go_ret
      exact ⟨by simp, (Below.refl _ _).alloc (Nat.le_refl _) _⟩
    subst h1
    by_cases h2 : kp = []
    case neg =>
      have e2 : ((kp.length : Int) == 0) = false := by have := List.length_pos_iff.2 h2; simp; omega
      have d2 : decide (kp = []) = false := by simpa using h2
      rw [d2]
      clear d2 h2
      go_enter Tryd.func50, Tryd.ntmps50
      go_wp2
      go_ret
      exact ⟨by simp, (Below.refl _ _).alloc (Nat.le_refl _) _⟩
    subst h2
    go_enter Tryd.func50, Tryd.ntmps50
    go_wp2
    go_ret
    exact ⟨rfl, (Below.refl _ _).alloc (Nat.le_refl _) _⟩
  have hj : justB ⟨k, op, nm, dt, n, kp, c⟩ = false := by simp only [justB, k1, k2, k3, k4, if_false]
  rw [hj]
  clear hj
  go_enter Tryd.func50, Tryd.ntmps50
  go_wp2
  go_ret
  exact ⟨rfl, (Below.refl _ _).alloc (Nat.le_refl _) _⟩
end Go.Proofs.YtjakkmioofbcaaaDoor
