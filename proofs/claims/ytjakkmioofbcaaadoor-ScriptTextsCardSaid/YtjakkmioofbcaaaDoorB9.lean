/- The walk over Check. -/
import Derived.Test.YtjakkmioofbcaaaDoorB8
namespace Go.Proofs.YtjakkmioofbcaaaDoor
open Go.RowKit
def callOk (op : Int) (nm dt : List UInt8) : Bool := decide (wordL op ≠ []) && (decide (op = 1 ∨ op = 5 ∨ op = 6) || decide (nm = [])) && (decide (op = 2) || decide (dt = []))
def mayB (s : St) : Bool := justB s && decide (0 ≤ s.n) && decide (s.n ≤ 9999) && smallB s.c && (decide (s.k ≠ 1) || callOk s.op s.nm s.dt) && decide (s.nm.length ≤ 65536) && decide (s.dt.length ≤ 65536) && decide (s.kp.length ≤ 65536) && decide ((lineL s).length ≤ 65536)
theorem just_k {s : St} (h : justB s = true) : 1 ≤ s.k ∧ s.k ≤ 4 := by
  unfold justB at h
  split at h
  · omega
  · split at h
    · omega
    · split at h
      · omega
      · split at h
        · omega
        · cases h
theorem fin_mem (i : Fin 13) : i ∈ fins := by
  match i with
  | 0 => simp [fins]
  | 1 => simp [fins]
  | 2 => simp [fins]
  | 3 => simp [fins]
  | 4 => simp [fins]
  | 5 => simp [fins]
  | 6 => simp [fins]
  | 7 => simp [fins]
  | 8 => simp [fins]
  | 9 => simp [fins]
  | 10 => simp [fins]
  | 11 => simp [fins]
  | 12 => simp [fins]
theorem small_spec {c : Fin 13 → Int} (h : smallB c = true) : ∀ i, 0 ≤ c i ∧ c i ≤ 2147483647 := by
  unfold smallB at h
  simp only [Bool.not_eq_true', List.any_eq_false, decide_eq_true_eq, not_or, Int.not_lt] at h
  intro i
  exact h i (fin_mem i)
set_option maxRecDepth 100000 in
set_option maxHeartbeats 4000000 in
theorem check11 (s : St) (A : Option Addr) (cap : Nat) (w : World) (hk : Kp w (.slice A s.kp.length cap) s.kp) (hf : Fits s) :
    Calls Tryd.prog 28 #[.agg (s.A (.slice A s.kp.length cap))] w fun e w' => e = .returned (.int .i64 (if mayB s then 0 else 1)) ∧ Below w.heap.size w w' := by
  obtain ⟨k, op, nm, dt, n, kp, c⟩ := s
  simp only [St.A, Fits] at *
  rw [stA_eq]
  have HJ : Hid (∀ w, Calls Tryd.prog 50 #[.agg (stL k op nm dt n (.slice A kp.length cap) c).toArray] w fun e w' => e = .returned (.bool (justB ⟨k, op, nm, dt, n, kp, c⟩)) ∧ Below w.heap.size w w') := Lib.hid (fun w => just23 ⟨k, op, nm, dt, n, kp, c⟩ A cap w)
  have HS : Hid (∀ w, Calls Tryd.prog 27 #[.agg (cfL c).toArray] w fun e w' => e = .returned (.bool (smallB c)) ∧ Below w.heap.size w w') := Lib.hid (fun w => small24 c w)
  have HB0 : Hid (Below w.heap.size w (w.alloc (.cells (stL k op nm dt n (.slice A kp.length cap) c).toArray 44))) := Lib.hid ((Below.refl _ _).alloc (Nat.le_refl _) _)
  have HBX : Hid (∀ w', Below (w.heap.size + 1) (w.alloc (.cells (stL k op nm dt n (.slice A kp.length cap) c).toArray 44)) w' → BoxAt w' w.heap.size k op nm dt n (.slice A kp.length cap) (stL k op nm dt n (.slice A kp.length cap) c) (cfL c)) := Lib.hid (fun w' hb => boxAt_of ((hb.block w.heap.size (by omega)).trans (heap_alloc_new w _)))
  have HL : Hid (∀ w', Below w.heap.size w w' → 1 ≤ k ∧ k ≤ 4 → (k = 2 → 0 ≤ n ∧ n ≤ 2147483647) → (k = 4 → ∀ i, 0 ≤ c i ∧ c i ≤ 2147483647) → Calls Tryd.prog 31 #[.agg (stL k op nm dt n (.slice A kp.length cap) c).toArray] w' fun e w'' => e = .returned (.string (str (lineL ⟨k, op, nm, dt, n, kp, c⟩))) ∧ Below w'.heap.size w' w'') := Lib.hid (fun w' hb h1 h2 h3 => line22 ⟨k, op, nm, dt, n, kp, c⟩ A cap w' (hk.below hb) hf h1 h2 h3)
  have HI : Hid ((Tryd.prog.info? 44).map (·.size) = some (stL k op nm dt n (.slice A kp.length cap) c).length) := Lib.hid info30
  have HIC : Hid ((Tryd.prog.info? 23).map (·.size) = some (cfL c).length) := Lib.hid info28
  obtain ⟨f1, f2, f3⟩ := hf
  clear hk
  generalize stL k op nm dt n (.slice A kp.length cap) c = L at *
  generalize cfL c = CL at *
  have HR0 := Lib.hid (HBX.out (w.alloc (.cells L.toArray 44)) (Below.refl _ _)).r0
  cases hj : justB ⟨k, op, nm, dt, n, kp, c⟩
  case false =>
    rw [show mayB ⟨k, op, nm, dt, n, kp, c⟩ = false by simp only [mayB, hj, Bool.false_and]]
    rw [hj] at HJ
    clear hj
    go_enter Tryd.func28, Tryd.ntmps28
    go_wp2_with (first
      | ((with_reducible refine wpList_load_midg (op := ⟨some 4, _, _, _, _, _⟩) ?_ 44 (.tmp 1) rfl w.heap.size 0 ?_ L _ HR0.out Tryd.underlying44 rfl HI.out ?_); kernel_rfl; rfl)
      | (go_at_call 50; refine (HJ.out _).mono ?_; rintro e w2 ⟨rfl, hb⟩; have HB2 : Hid (Below (w.heap.size + 1) (w.alloc (.cells L.toArray 44)) w2) := Lib.hid (hb.mono (by simp)); obtain ⟨b0, b1, b2, b3, b4, b5, r0, r6⟩ := HBX.out w2 HB2.out; have HR6 := Lib.hid r6; clear hb r0 r6 b0 b1 b2 b3 b5))
    go_ret
    exact ⟨rfl, HB0.out.trans (HB2.out.mono (by omega))⟩
  rw [hj] at HJ
  have HJK0 := Lib.hid hj
  clear hj
  by_cases h1 : n < 0
  case pos =>
    have p1 : decide (n < 0) = true := by simpa using h1
    have g1 : decide (0 ≤ n) = false := by simp; omega
    rw [show mayB ⟨k, op, nm, dt, n, kp, c⟩ = false by simp [mayB, g1]]
    clear g1
    go_enter Tryd.func28, Tryd.ntmps28
    go_wp2_with (first
      | ((with_reducible refine wpList_load_midg (op := ⟨some 4, _, _, _, _, _⟩) ?_ 44 (.tmp 1) rfl w.heap.size 0 ?_ L _ HR0.out Tryd.underlying44 rfl HI.out ?_); kernel_rfl; rfl)
      | (go_at_call 50; refine (HJ.out _).mono ?_; rintro e w2 ⟨rfl, hb⟩; have HB2 : Hid (Below (w.heap.size + 1) (w.alloc (.cells L.toArray 44)) w2) := Lib.hid (hb.mono (by simp)); obtain ⟨b0, b1, b2, b3, b4, b5, r0, r6⟩ := HBX.out w2 HB2.out; have HR6 := Lib.hid r6; clear hb r0 r6 b0 b1 b2 b3 b5))
    go_ret
    exact ⟨rfl, HB0.out.trans (HB2.out.mono (by omega))⟩
  have dh1 : decide (n < 0) = false := by simpa using h1
  by_cases h2 : 9999 < n
  case pos =>
    have p2 : decide (9999 < n) = true := by simpa using h2
    have g2 : decide (n ≤ 9999) = false := by simp; omega
    rw [show mayB ⟨k, op, nm, dt, n, kp, c⟩ = false by simp [mayB, g2]]
    clear g2
    go_enter Tryd.func28, Tryd.ntmps28
    go_wp2_with (first
      | ((with_reducible refine wpList_load_midg (op := ⟨some 4, _, _, _, _, _⟩) ?_ 44 (.tmp 1) rfl w.heap.size 0 ?_ L _ HR0.out Tryd.underlying44 rfl HI.out ?_); kernel_rfl; rfl)
      | (go_at_call 50; refine (HJ.out _).mono ?_; rintro e w2 ⟨rfl, hb⟩; have HB2 : Hid (Below (w.heap.size + 1) (w.alloc (.cells L.toArray 44)) w2) := Lib.hid (hb.mono (by simp)); obtain ⟨b0, b1, b2, b3, b4, b5, r0, r6⟩ := HBX.out w2 HB2.out; have HR6 := Lib.hid r6; clear hb r0 r6 b0 b1 b2 b3 b5))
    go_ret
    exact ⟨rfl, HB0.out.trans (HB2.out.mono (by omega))⟩
  have dh2 : decide (9999 < n) = false := by simpa using h2
  cases hs : smallB c
  case false =>
    rw [show mayB ⟨k, op, nm, dt, n, kp, c⟩ = false by simp [mayB, hs]]
    rw [hs] at HS
    clear hs
    go_enter Tryd.func28, Tryd.ntmps28
    go_wp2_with (first
      | ((with_reducible refine wpList_load_midg (op := ⟨some 4, _, _, _, _, _⟩) ?_ 44 (.tmp 1) rfl w.heap.size 0 ?_ L _ HR0.out Tryd.underlying44 rfl HI.out ?_); kernel_rfl; rfl)
      | (go_at_call 50; refine (HJ.out _).mono ?_; rintro e w2 ⟨rfl, hb⟩; have HB2 : Hid (Below (w.heap.size + 1) (w.alloc (.cells L.toArray 44)) w2) := Lib.hid (hb.mono (by simp)); obtain ⟨b0, b1, b2, b3, b4, b5, r0, r6⟩ := HBX.out w2 HB2.out; have HR6 := Lib.hid r6; clear hb r0 r6 b0 b1 b2 b3 b5)
      | ((with_reducible refine wpList_load_midg (op := ⟨some 19, _, _, _, _, _⟩) ?_ 23 (.tmp 18) rfl w.heap.size 6 ?_ CL _ HR6.out Tryd.underlying23 rfl HIC.out ?_); kernel_rfl; rfl)
      | (go_at_call 27; refine (HS.out _).mono ?_; rintro e w3 ⟨rfl, hb⟩; have HB3 : Hid (Below (w.heap.size + 1) (w.alloc (.cells L.toArray 44)) w3) := Lib.hid (HB2.out.trans (hb.mono (by have := HB2.out.size; simpa using this))); have HB4 : Hid (Below (w.heap.size + 1) (w.alloc (.cells L.toArray 44)) (w3.alloc (.cells #[.int .i64 op, .string (str nm), .string (str dt)] 41))) := Lib.hid (HB3.out.alloc (by have := HB3.out.size; simpa using this) _); clear b4; obtain ⟨_, b1, b2, b3, _, _, _, _⟩ := HBX.out w3 HB3.out; obtain ⟨d0, d1, d2, d3, d4, d5, t0, t6⟩ := HBX.out (w3.alloc (.cells #[.int .i64 op, .string (str nm), .string (str dt)] 41)) HB4.out; have HT0 := Lib.hid t0; clear t0 t6 hb))
    go_ret
    exact ⟨rfl, HB0.out.trans (HB3.out.mono (by omega))⟩
  rw [hs] at HS
  have HJK : Hid ((1 ≤ k ∧ k ≤ 4) ∧ (k = 2 → 0 ≤ n ∧ n ≤ 2147483647) ∧ (k = 4 → ∀ i, 0 ≤ c i ∧ c i ≤ 2147483647)) := Lib.hid ⟨just_k (s := ⟨k, op, nm, dt, n, kp, c⟩) HJK0.out, fun _ => by omega, fun _ => small_spec hs⟩
  have HM : Hid (mayB ⟨k, op, nm, dt, n, kp, c⟩ = ((decide (k ≠ 1) || callOk op nm dt) && decide (nm.length ≤ 65536) && decide (dt.length ≤ 65536) && decide (kp.length ≤ 65536) && decide ((lineL ⟨k, op, nm, dt, n, kp, c⟩).length ≤ 65536))) := Lib.hid (by
    have g1 : decide (0 ≤ n) = true := by simp; omega
    have g2 : decide (n ≤ 9999) = true := by simp; omega
    simp [mayB, HJK0.out, hs, g1, g2])
  clear hs
  rw [HM.out]
  clear HM HJK0
  have hls : (str (lineL ⟨k, op, nm, dt, n, kp, c⟩)).size = (lineL ⟨k, op, nm, dt, n, kp, c⟩).length := str_size _
  have hns : (str nm).size = nm.length := str_size _
  have hds : (str dt).size = dt.length := str_size _
  generalize lineL ⟨k, op, nm, dt, n, kp, c⟩ = LL at *
  by_cases k1 : k = 1
  case neg =>
    rw [show (decide (k ≠ 1) || callOk op nm dt) = true by simp [k1]]
    simp only [Bool.true_and]
    have kk : (k == 1) = false := by simpa using k1
    by_cases l1 : nm.length ≤ 65536
    case neg =>
      rw [show decide (nm.length ≤ 65536) = false by simpa using l1]
      simp only [Bool.false_and]
      have m1 : decide ((65536 : Int) < (nm.length : Int)) = true := by simp; omega
      clear l1
      go_enter Tryd.func28, Tryd.ntmps28
      go_wp2_with (first
        | ((with_reducible refine wpList_load_midg (op := ⟨some 4, _, _, _, _, _⟩) ?_ 44 (.tmp 1) rfl w.heap.size 0 ?_ L _ HR0.out Tryd.underlying44 rfl HI.out ?_); kernel_rfl; rfl)
        | (go_at_call 50; refine (HJ.out _).mono ?_; rintro e w2 ⟨rfl, hb⟩; have HB2 : Hid (Below (w.heap.size + 1) (w.alloc (.cells L.toArray 44)) w2) := Lib.hid (hb.mono (by simp)); obtain ⟨b0, b1, b2, b3, b4, b5, r0, r6⟩ := HBX.out w2 HB2.out; have HR6 := Lib.hid r6; clear hb r0 r6 b0 b1 b2 b3 b5)
        | ((with_reducible refine wpList_load_midg (op := ⟨some 19, _, _, _, _, _⟩) ?_ 23 (.tmp 18) rfl w.heap.size 6 ?_ CL _ HR6.out Tryd.underlying23 rfl HIC.out ?_); kernel_rfl; rfl)
        | (go_at_call 27; refine (HS.out _).mono ?_; rintro e w3 ⟨rfl, hb⟩; have HB3 : Hid (Below (w.heap.size + 1) (w.alloc (.cells L.toArray 44)) w3) := Lib.hid (HB2.out.trans (hb.mono (by have := HB2.out.size; simpa using this))); have HB4 : Hid (Below (w.heap.size + 1) (w.alloc (.cells L.toArray 44)) (w3.alloc (.cells #[.int .i64 op, .string (str nm), .string (str dt)] 41))) := Lib.hid (HB3.out.alloc (by have := HB3.out.size; simpa using this) _); clear b4; obtain ⟨_, b1, b2, b3, _, _, _, _⟩ := HBX.out w3 HB3.out; obtain ⟨d0, d1, d2, d3, d4, d5, t0, t6⟩ := HBX.out (w3.alloc (.cells #[.int .i64 op, .string (str nm), .string (str dt)] 41)) HB4.out; have HT0 := Lib.hid t0; clear t0 t6 hb))
      go_ret
      exact ⟨rfl, HB0.out.trans (HB4.out.mono (by omega))⟩
    rw [show decide (nm.length ≤ 65536) = true by simpa using l1]
    have ml1 : decide ((65536 : Int) < (nm.length : Int)) = false := by simp; omega
    clear l1
    by_cases l2 : dt.length ≤ 65536
    case neg =>
      rw [show decide (dt.length ≤ 65536) = false by simpa using l2]
      simp only [Bool.false_and, Bool.and_false]
      have m1 : decide ((65536 : Int) < (dt.length : Int)) = true := by simp; omega
      clear l2
      go_enter Tryd.func28, Tryd.ntmps28
      go_wp2_with (first
        | ((with_reducible refine wpList_load_midg (op := ⟨some 4, _, _, _, _, _⟩) ?_ 44 (.tmp 1) rfl w.heap.size 0 ?_ L _ HR0.out Tryd.underlying44 rfl HI.out ?_); kernel_rfl; rfl)
        | (go_at_call 50; refine (HJ.out _).mono ?_; rintro e w2 ⟨rfl, hb⟩; have HB2 : Hid (Below (w.heap.size + 1) (w.alloc (.cells L.toArray 44)) w2) := Lib.hid (hb.mono (by simp)); obtain ⟨b0, b1, b2, b3, b4, b5, r0, r6⟩ := HBX.out w2 HB2.out; have HR6 := Lib.hid r6; clear hb r0 r6 b0 b1 b2 b3 b5)
        | ((with_reducible refine wpList_load_midg (op := ⟨some 19, _, _, _, _, _⟩) ?_ 23 (.tmp 18) rfl w.heap.size 6 ?_ CL _ HR6.out Tryd.underlying23 rfl HIC.out ?_); kernel_rfl; rfl)
        | (go_at_call 27; refine (HS.out _).mono ?_; rintro e w3 ⟨rfl, hb⟩; have HB3 : Hid (Below (w.heap.size + 1) (w.alloc (.cells L.toArray 44)) w3) := Lib.hid (HB2.out.trans (hb.mono (by have := HB2.out.size; simpa using this))); have HB4 : Hid (Below (w.heap.size + 1) (w.alloc (.cells L.toArray 44)) (w3.alloc (.cells #[.int .i64 op, .string (str nm), .string (str dt)] 41))) := Lib.hid (HB3.out.alloc (by have := HB3.out.size; simpa using this) _); clear b4; obtain ⟨_, b1, b2, b3, _, _, _, _⟩ := HBX.out w3 HB3.out; obtain ⟨d0, d1, d2, d3, d4, d5, t0, t6⟩ := HBX.out (w3.alloc (.cells #[.int .i64 op, .string (str nm), .string (str dt)] 41)) HB4.out; have HT0 := Lib.hid t0; clear t0 t6 hb))
      go_ret
      exact ⟨rfl, HB0.out.trans (HB4.out.mono (by omega))⟩
    rw [show decide (dt.length ≤ 65536) = true by simpa using l2]
    have ml2 : decide ((65536 : Int) < (dt.length : Int)) = false := by simp; omega
    clear l2
    by_cases l3 : kp.length ≤ 65536
    case neg =>
      rw [show decide (kp.length ≤ 65536) = false by simpa using l3]
      simp only [Bool.false_and, Bool.and_false]
      have m1 : decide ((65536 : Int) < (kp.length : Int)) = true := by simp; omega
      clear l3
      go_enter Tryd.func28, Tryd.ntmps28
      go_wp2_with (first
        | ((with_reducible refine wpList_load_midg (op := ⟨some 4, _, _, _, _, _⟩) ?_ 44 (.tmp 1) rfl w.heap.size 0 ?_ L _ HR0.out Tryd.underlying44 rfl HI.out ?_); kernel_rfl; rfl)
        | (go_at_call 50; refine (HJ.out _).mono ?_; rintro e w2 ⟨rfl, hb⟩; have HB2 : Hid (Below (w.heap.size + 1) (w.alloc (.cells L.toArray 44)) w2) := Lib.hid (hb.mono (by simp)); obtain ⟨b0, b1, b2, b3, b4, b5, r0, r6⟩ := HBX.out w2 HB2.out; have HR6 := Lib.hid r6; clear hb r0 r6 b0 b1 b2 b3 b5)
        | ((with_reducible refine wpList_load_midg (op := ⟨some 19, _, _, _, _, _⟩) ?_ 23 (.tmp 18) rfl w.heap.size 6 ?_ CL _ HR6.out Tryd.underlying23 rfl HIC.out ?_); kernel_rfl; rfl)
        | (go_at_call 27; refine (HS.out _).mono ?_; rintro e w3 ⟨rfl, hb⟩; have HB3 : Hid (Below (w.heap.size + 1) (w.alloc (.cells L.toArray 44)) w3) := Lib.hid (HB2.out.trans (hb.mono (by have := HB2.out.size; simpa using this))); have HB4 : Hid (Below (w.heap.size + 1) (w.alloc (.cells L.toArray 44)) (w3.alloc (.cells #[.int .i64 op, .string (str nm), .string (str dt)] 41))) := Lib.hid (HB3.out.alloc (by have := HB3.out.size; simpa using this) _); clear b4; obtain ⟨_, b1, b2, b3, _, _, _, _⟩ := HBX.out w3 HB3.out; obtain ⟨d0, d1, d2, d3, d4, d5, t0, t6⟩ := HBX.out (w3.alloc (.cells #[.int .i64 op, .string (str nm), .string (str dt)] 41)) HB4.out; have HT0 := Lib.hid t0; clear t0 t6 hb))
      go_ret
      exact ⟨rfl, HB0.out.trans (HB4.out.mono (by omega))⟩
    rw [show decide (kp.length ≤ 65536) = true by simpa using l3]
    have ml3 : decide ((65536 : Int) < (kp.length : Int)) = false := by simp; omega
    clear l3
    by_cases l4 : LL.length ≤ 65536
    case neg =>
      rw [show decide (LL.length ≤ 65536) = false by simpa using l4]
      simp only [Bool.and_false]
      have m1 : decide ((65536 : Int) < (LL.length : Int)) = true := by simp; omega
      clear l4
      go_enter Tryd.func28, Tryd.ntmps28
      go_wp2_with (first
        | ((with_reducible refine wpList_load_midg (op := ⟨some 4, _, _, _, _, _⟩) ?_ 44 (.tmp 1) rfl w.heap.size 0 ?_ L _ HR0.out Tryd.underlying44 rfl HI.out ?_); kernel_rfl; rfl)
        | (go_at_call 50; refine (HJ.out _).mono ?_; rintro e w2 ⟨rfl, hb⟩; have HB2 : Hid (Below (w.heap.size + 1) (w.alloc (.cells L.toArray 44)) w2) := Lib.hid (hb.mono (by simp)); obtain ⟨b0, b1, b2, b3, b4, b5, r0, r6⟩ := HBX.out w2 HB2.out; have HR6 := Lib.hid r6; clear hb r0 r6 b0 b1 b2 b3 b5)
        | ((with_reducible refine wpList_load_midg (op := ⟨some 19, _, _, _, _, _⟩) ?_ 23 (.tmp 18) rfl w.heap.size 6 ?_ CL _ HR6.out Tryd.underlying23 rfl HIC.out ?_); kernel_rfl; rfl)
        | (go_at_call 27; refine (HS.out _).mono ?_; rintro e w3 ⟨rfl, hb⟩; have HB3 : Hid (Below (w.heap.size + 1) (w.alloc (.cells L.toArray 44)) w3) := Lib.hid (HB2.out.trans (hb.mono (by have := HB2.out.size; simpa using this))); have HB4 : Hid (Below (w.heap.size + 1) (w.alloc (.cells L.toArray 44)) (w3.alloc (.cells #[.int .i64 op, .string (str nm), .string (str dt)] 41))) := Lib.hid (HB3.out.alloc (by have := HB3.out.size; simpa using this) _); clear b4; obtain ⟨_, b1, b2, b3, _, _, _, _⟩ := HBX.out w3 HB3.out; obtain ⟨d0, d1, d2, d3, d4, d5, t0, t6⟩ := HBX.out (w3.alloc (.cells #[.int .i64 op, .string (str nm), .string (str dt)] 41)) HB4.out; have HT0 := Lib.hid t0; clear t0 t6 hb)
        | ((with_reducible refine wpList_load_midg (op := ⟨some 72, _, _, _, _, _⟩) ?_ 44 (.tmp 1) rfl w.heap.size 0 ?_ L _ HT0.out Tryd.underlying44 rfl HI.out ?_); kernel_rfl; rfl)
        | (go_at_call 31; refine (HL.out _ (HB0.out.trans (HB4.out.mono (by omega))) HJK.out.1 HJK.out.2.1 HJK.out.2.2).mono ?_; rintro e w6 ⟨rfl, hb6⟩))
      go_ret
      exact ⟨rfl, (HB0.out.trans (HB4.out.mono (by omega))).trans (hb6.mono (HB0.out.trans (HB4.out.mono (by omega))).size)⟩
    rw [show decide (LL.length ≤ 65536) = true by simpa using l4]
    have m4 : decide ((65536 : Int) < (LL.length : Int)) = false := by simp; omega
    go_enter Tryd.func28, Tryd.ntmps28
    go_wp2_with (first
      | ((with_reducible refine wpList_load_midg (op := ⟨some 4, _, _, _, _, _⟩) ?_ 44 (.tmp 1) rfl w.heap.size 0 ?_ L _ HR0.out Tryd.underlying44 rfl HI.out ?_); kernel_rfl; rfl)
      | (go_at_call 50; refine (HJ.out _).mono ?_; rintro e w2 ⟨rfl, hb⟩; have HB2 : Hid (Below (w.heap.size + 1) (w.alloc (.cells L.toArray 44)) w2) := Lib.hid (hb.mono (by simp)); obtain ⟨b0, b1, b2, b3, b4, b5, r0, r6⟩ := HBX.out w2 HB2.out; have HR6 := Lib.hid r6; clear hb r0 r6 b0 b1 b2 b3 b5)
      | ((with_reducible refine wpList_load_midg (op := ⟨some 19, _, _, _, _, _⟩) ?_ 23 (.tmp 18) rfl w.heap.size 6 ?_ CL _ HR6.out Tryd.underlying23 rfl HIC.out ?_); kernel_rfl; rfl)
      | (go_at_call 27; refine (HS.out _).mono ?_; rintro e w3 ⟨rfl, hb⟩; have HB3 : Hid (Below (w.heap.size + 1) (w.alloc (.cells L.toArray 44)) w3) := Lib.hid (HB2.out.trans (hb.mono (by have := HB2.out.size; simpa using this))); have HB4 : Hid (Below (w.heap.size + 1) (w.alloc (.cells L.toArray 44)) (w3.alloc (.cells #[.int .i64 op, .string (str nm), .string (str dt)] 41))) := Lib.hid (HB3.out.alloc (by have := HB3.out.size; simpa using this) _); clear b4; obtain ⟨_, b1, b2, b3, _, _, _, _⟩ := HBX.out w3 HB3.out; obtain ⟨d0, d1, d2, d3, d4, d5, t0, t6⟩ := HBX.out (w3.alloc (.cells #[.int .i64 op, .string (str nm), .string (str dt)] 41)) HB4.out; have HT0 := Lib.hid t0; clear t0 t6 hb)
      | ((with_reducible refine wpList_load_midg (op := ⟨some 72, _, _, _, _, _⟩) ?_ 44 (.tmp 1) rfl w.heap.size 0 ?_ L _ HT0.out Tryd.underlying44 rfl HI.out ?_); kernel_rfl; rfl)
      | (go_at_call 31; refine (HL.out _ (HB0.out.trans (HB4.out.mono (by omega))) HJK.out.1 HJK.out.2.1 HJK.out.2.2).mono ?_; rintro e w6 ⟨rfl, hb6⟩))
    go_ret
    exact ⟨rfl, (HB0.out.trans (HB4.out.mono (by omega))).trans (hb6.mono (HB0.out.trans (HB4.out.mono (by omega))).size)⟩
  subst k1
  simp only [ne_eq, not_true_eq_false, decide_false, Bool.false_or]
  by_cases hw : wordL op = []
  case pos =>
    rw [show callOk op nm dt = false by simp [callOk, hw]]
    have ew : (str (wordL op)).toList.isEmpty = true := by rw [hw, str_toList]; rfl
    simp only [Bool.false_and]
    clear hw
    go_enter Tryd.func28, Tryd.ntmps28
    go_wp2_with (first
      | ((with_reducible refine wpList_load_midg (op := ⟨some 4, _, _, _, _, _⟩) ?_ 44 (.tmp 1) rfl w.heap.size 0 ?_ L _ HR0.out Tryd.underlying44 rfl HI.out ?_); kernel_rfl; rfl)
      | (go_at_call 50; refine (HJ.out _).mono ?_; rintro e w2 ⟨rfl, hb⟩; have HB2 : Hid (Below (w.heap.size + 1) (w.alloc (.cells L.toArray 44)) w2) := Lib.hid (hb.mono (by simp)); obtain ⟨b0, b1, b2, b3, b4, b5, r0, r6⟩ := HBX.out w2 HB2.out; have HR6 := Lib.hid r6; clear hb r0 r6 b0 b1 b2 b3 b5)
      | ((with_reducible refine wpList_load_midg (op := ⟨some 19, _, _, _, _, _⟩) ?_ 23 (.tmp 18) rfl w.heap.size 6 ?_ CL _ HR6.out Tryd.underlying23 rfl HIC.out ?_); kernel_rfl; rfl)
      | (go_at_call 27; refine (HS.out _).mono ?_; rintro e w3 ⟨rfl, hb⟩; have HB3 : Hid (Below (w.heap.size + 1) (w.alloc (.cells L.toArray 44)) w3) := Lib.hid (HB2.out.trans (hb.mono (by have := HB2.out.size; simpa using this))); have HB4 : Hid (Below (w.heap.size + 1) (w.alloc (.cells L.toArray 44)) (w3.alloc (.cells #[.int .i64 op, .string (str nm), .string (str dt)] 41))) := Lib.hid (HB3.out.alloc (by have := HB3.out.size; simpa using this) _); clear b4; obtain ⟨_, b1, b2, b3, _, _, _, _⟩ := HBX.out w3 HB3.out; obtain ⟨d0, d1, d2, d3, d4, d5, t0, t6⟩ := HBX.out (w3.alloc (.cells #[.int .i64 op, .string (str nm), .string (str dt)] 41)) HB4.out; have HT0 := Lib.hid t0; clear t0 t6 hb)
      | (go_at_call 51; refine (word13 _ _).mono ?_; rintro e w5 ⟨rfl, rfl⟩))
    go_ret
    exact ⟨rfl, HB0.out.trans (HB4.out.mono (by omega))⟩
  have ew := str_ne _ hw
  have HC : Hid (callOk op nm dt = ((decide (op = 1 ∨ op = 5 ∨ op = 6) || decide (nm = [])) && (decide (op = 2) || decide (dt = [])))) := Lib.hid (by simp [callOk, hw])
  rw [HC.out]
  clear HC hw
  by_cases hn0 : op = 1 ∨ op = 5 ∨ op = 6
  case pos =>
    have hn : decide (op = 1 ∨ op = 5 ∨ op = 6) = true := by simpa using hn0
    have HN : Hid (∀ w, Calls Tryd.prog 52 #[.int .i64 op] w fun e w' => e = .returned (.bool true) ∧ w' = w) := Lib.hid (fun w => by rw [← hn]; exact named25 op w)
    have ho : (op != 2) = true := by simp only [bne_iff_ne]; omega
    have ho2 : decide (op = 2) = false := by simp only [decide_eq_false_iff_not]; omega
    rw [hn, ho2]
    simp only [Bool.true_or, Bool.true_and, Bool.false_or]
    clear hn hn0 ho2
    by_cases hd : dt = []
    case neg =>
      have ed := str_ne _ hd
      rw [show decide (dt = []) = false by simpa using hd]
      simp only [Bool.false_and]
      clear hd
      go_enter Tryd.func28, Tryd.ntmps28
      go_wp2_with (first
        | ((with_reducible refine wpList_load_midg (op := ⟨some 4, _, _, _, _, _⟩) ?_ 44 (.tmp 1) rfl w.heap.size 0 ?_ L _ HR0.out Tryd.underlying44 rfl HI.out ?_); kernel_rfl; rfl)
        | (go_at_call 50; refine (HJ.out _).mono ?_; rintro e w2 ⟨rfl, hb⟩; have HB2 : Hid (Below (w.heap.size + 1) (w.alloc (.cells L.toArray 44)) w2) := Lib.hid (hb.mono (by simp)); obtain ⟨b0, b1, b2, b3, b4, b5, r0, r6⟩ := HBX.out w2 HB2.out; have HR6 := Lib.hid r6; clear hb r0 r6 b0 b1 b2 b3 b5)
        | ((with_reducible refine wpList_load_midg (op := ⟨some 19, _, _, _, _, _⟩) ?_ 23 (.tmp 18) rfl w.heap.size 6 ?_ CL _ HR6.out Tryd.underlying23 rfl HIC.out ?_); kernel_rfl; rfl)
        | (go_at_call 27; refine (HS.out _).mono ?_; rintro e w3 ⟨rfl, hb⟩; have HB3 : Hid (Below (w.heap.size + 1) (w.alloc (.cells L.toArray 44)) w3) := Lib.hid (HB2.out.trans (hb.mono (by have := HB2.out.size; simpa using this))); have HB4 : Hid (Below (w.heap.size + 1) (w.alloc (.cells L.toArray 44)) (w3.alloc (.cells #[.int .i64 op, .string (str nm), .string (str dt)] 41))) := Lib.hid (HB3.out.alloc (by have := HB3.out.size; simpa using this) _); clear b4; obtain ⟨_, b1, b2, b3, _, _, _, _⟩ := HBX.out w3 HB3.out; obtain ⟨d0, d1, d2, d3, d4, d5, t0, t6⟩ := HBX.out (w3.alloc (.cells #[.int .i64 op, .string (str nm), .string (str dt)] 41)) HB4.out; have HT0 := Lib.hid t0; clear t0 t6 hb)
        | (go_at_call 51; refine (word13 _ _).mono ?_; rintro e w5 ⟨rfl, rfl⟩)
        | (go_at_call 52; refine (HN.out _).mono ?_; rintro e w5 ⟨rfl, rfl⟩))
      go_ret
      exact ⟨rfl, HB0.out.trans (HB4.out.mono (by omega))⟩
    have ed : (str dt).toList.isEmpty = true := by rw [hd, str_toList]; rfl
    rw [show decide (dt = []) = true by simpa using hd]
    simp only [Bool.true_and]
    clear hd
    by_cases l1 : nm.length ≤ 65536
    case neg =>
      rw [show decide (nm.length ≤ 65536) = false by simpa using l1]
      simp only [Bool.false_and]
      have m1 : decide ((65536 : Int) < (nm.length : Int)) = true := by simp; omega
      clear l1
      go_enter Tryd.func28, Tryd.ntmps28
      go_wp2_with (first
        | ((with_reducible refine wpList_load_midg (op := ⟨some 4, _, _, _, _, _⟩) ?_ 44 (.tmp 1) rfl w.heap.size 0 ?_ L _ HR0.out Tryd.underlying44 rfl HI.out ?_); kernel_rfl; rfl)
        | (go_at_call 50; refine (HJ.out _).mono ?_; rintro e w2 ⟨rfl, hb⟩; have HB2 : Hid (Below (w.heap.size + 1) (w.alloc (.cells L.toArray 44)) w2) := Lib.hid (hb.mono (by simp)); obtain ⟨b0, b1, b2, b3, b4, b5, r0, r6⟩ := HBX.out w2 HB2.out; have HR6 := Lib.hid r6; clear hb r0 r6 b0 b1 b2 b3 b5)
        | ((with_reducible refine wpList_load_midg (op := ⟨some 19, _, _, _, _, _⟩) ?_ 23 (.tmp 18) rfl w.heap.size 6 ?_ CL _ HR6.out Tryd.underlying23 rfl HIC.out ?_); kernel_rfl; rfl)
        | (go_at_call 27; refine (HS.out _).mono ?_; rintro e w3 ⟨rfl, hb⟩; have HB3 : Hid (Below (w.heap.size + 1) (w.alloc (.cells L.toArray 44)) w3) := Lib.hid (HB2.out.trans (hb.mono (by have := HB2.out.size; simpa using this))); have HB4 : Hid (Below (w.heap.size + 1) (w.alloc (.cells L.toArray 44)) (w3.alloc (.cells #[.int .i64 op, .string (str nm), .string (str dt)] 41))) := Lib.hid (HB3.out.alloc (by have := HB3.out.size; simpa using this) _); clear b4; obtain ⟨_, b1, b2, b3, _, _, _, _⟩ := HBX.out w3 HB3.out; obtain ⟨d0, d1, d2, d3, d4, d5, t0, t6⟩ := HBX.out (w3.alloc (.cells #[.int .i64 op, .string (str nm), .string (str dt)] 41)) HB4.out; have HT0 := Lib.hid t0; clear t0 t6 hb)
        | (go_at_call 51; refine (word13 _ _).mono ?_; rintro e w5 ⟨rfl, rfl⟩)
        | (go_at_call 52; refine (HN.out _).mono ?_; rintro e w5 ⟨rfl, rfl⟩))
      go_ret
      exact ⟨rfl, HB0.out.trans (HB4.out.mono (by omega))⟩
    rw [show decide (nm.length ≤ 65536) = true by simpa using l1]
    have ml1 : decide ((65536 : Int) < (nm.length : Int)) = false := by simp; omega
    clear l1
    by_cases l2 : dt.length ≤ 65536
    case neg =>
      rw [show decide (dt.length ≤ 65536) = false by simpa using l2]
      simp only [Bool.false_and, Bool.and_false]
      have m1 : decide ((65536 : Int) < (dt.length : Int)) = true := by simp; omega
      clear l2
      go_enter Tryd.func28, Tryd.ntmps28
      go_wp2_with (first
        | ((with_reducible refine wpList_load_midg (op := ⟨some 4, _, _, _, _, _⟩) ?_ 44 (.tmp 1) rfl w.heap.size 0 ?_ L _ HR0.out Tryd.underlying44 rfl HI.out ?_); kernel_rfl; rfl)
        | (go_at_call 50; refine (HJ.out _).mono ?_; rintro e w2 ⟨rfl, hb⟩; have HB2 : Hid (Below (w.heap.size + 1) (w.alloc (.cells L.toArray 44)) w2) := Lib.hid (hb.mono (by simp)); obtain ⟨b0, b1, b2, b3, b4, b5, r0, r6⟩ := HBX.out w2 HB2.out; have HR6 := Lib.hid r6; clear hb r0 r6 b0 b1 b2 b3 b5)
        | ((with_reducible refine wpList_load_midg (op := ⟨some 19, _, _, _, _, _⟩) ?_ 23 (.tmp 18) rfl w.heap.size 6 ?_ CL _ HR6.out Tryd.underlying23 rfl HIC.out ?_); kernel_rfl; rfl)
        | (go_at_call 27; refine (HS.out _).mono ?_; rintro e w3 ⟨rfl, hb⟩; have HB3 : Hid (Below (w.heap.size + 1) (w.alloc (.cells L.toArray 44)) w3) := Lib.hid (HB2.out.trans (hb.mono (by have := HB2.out.size; simpa using this))); have HB4 : Hid (Below (w.heap.size + 1) (w.alloc (.cells L.toArray 44)) (w3.alloc (.cells #[.int .i64 op, .string (str nm), .string (str dt)] 41))) := Lib.hid (HB3.out.alloc (by have := HB3.out.size; simpa using this) _); clear b4; obtain ⟨_, b1, b2, b3, _, _, _, _⟩ := HBX.out w3 HB3.out; obtain ⟨d0, d1, d2, d3, d4, d5, t0, t6⟩ := HBX.out (w3.alloc (.cells #[.int .i64 op, .string (str nm), .string (str dt)] 41)) HB4.out; have HT0 := Lib.hid t0; clear t0 t6 hb)
        | (go_at_call 51; refine (word13 _ _).mono ?_; rintro e w5 ⟨rfl, rfl⟩)
        | (go_at_call 52; refine (HN.out _).mono ?_; rintro e w5 ⟨rfl, rfl⟩))
      go_ret
      exact ⟨rfl, HB0.out.trans (HB4.out.mono (by omega))⟩
    rw [show decide (dt.length ≤ 65536) = true by simpa using l2]
    have ml2 : decide ((65536 : Int) < (dt.length : Int)) = false := by simp; omega
    clear l2
    by_cases l3 : kp.length ≤ 65536
    case neg =>
      rw [show decide (kp.length ≤ 65536) = false by simpa using l3]
      simp only [Bool.false_and, Bool.and_false]
      have m1 : decide ((65536 : Int) < (kp.length : Int)) = true := by simp; omega
      clear l3
      go_enter Tryd.func28, Tryd.ntmps28
      go_wp2_with (first
        | ((with_reducible refine wpList_load_midg (op := ⟨some 4, _, _, _, _, _⟩) ?_ 44 (.tmp 1) rfl w.heap.size 0 ?_ L _ HR0.out Tryd.underlying44 rfl HI.out ?_); kernel_rfl; rfl)
        | (go_at_call 50; refine (HJ.out _).mono ?_; rintro e w2 ⟨rfl, hb⟩; have HB2 : Hid (Below (w.heap.size + 1) (w.alloc (.cells L.toArray 44)) w2) := Lib.hid (hb.mono (by simp)); obtain ⟨b0, b1, b2, b3, b4, b5, r0, r6⟩ := HBX.out w2 HB2.out; have HR6 := Lib.hid r6; clear hb r0 r6 b0 b1 b2 b3 b5)
        | ((with_reducible refine wpList_load_midg (op := ⟨some 19, _, _, _, _, _⟩) ?_ 23 (.tmp 18) rfl w.heap.size 6 ?_ CL _ HR6.out Tryd.underlying23 rfl HIC.out ?_); kernel_rfl; rfl)
        | (go_at_call 27; refine (HS.out _).mono ?_; rintro e w3 ⟨rfl, hb⟩; have HB3 : Hid (Below (w.heap.size + 1) (w.alloc (.cells L.toArray 44)) w3) := Lib.hid (HB2.out.trans (hb.mono (by have := HB2.out.size; simpa using this))); have HB4 : Hid (Below (w.heap.size + 1) (w.alloc (.cells L.toArray 44)) (w3.alloc (.cells #[.int .i64 op, .string (str nm), .string (str dt)] 41))) := Lib.hid (HB3.out.alloc (by have := HB3.out.size; simpa using this) _); clear b4; obtain ⟨_, b1, b2, b3, _, _, _, _⟩ := HBX.out w3 HB3.out; obtain ⟨d0, d1, d2, d3, d4, d5, t0, t6⟩ := HBX.out (w3.alloc (.cells #[.int .i64 op, .string (str nm), .string (str dt)] 41)) HB4.out; have HT0 := Lib.hid t0; clear t0 t6 hb)
        | (go_at_call 51; refine (word13 _ _).mono ?_; rintro e w5 ⟨rfl, rfl⟩)
        | (go_at_call 52; refine (HN.out _).mono ?_; rintro e w5 ⟨rfl, rfl⟩))
      go_ret
      exact ⟨rfl, HB0.out.trans (HB4.out.mono (by omega))⟩
    rw [show decide (kp.length ≤ 65536) = true by simpa using l3]
    have ml3 : decide ((65536 : Int) < (kp.length : Int)) = false := by simp; omega
    clear l3
    by_cases l4 : LL.length ≤ 65536
    case neg =>
      rw [show decide (LL.length ≤ 65536) = false by simpa using l4]
      simp only [Bool.and_false]
      have m1 : decide ((65536 : Int) < (LL.length : Int)) = true := by simp; omega
      clear l4
      go_enter Tryd.func28, Tryd.ntmps28
      go_wp2_with (first
        | ((with_reducible refine wpList_load_midg (op := ⟨some 4, _, _, _, _, _⟩) ?_ 44 (.tmp 1) rfl w.heap.size 0 ?_ L _ HR0.out Tryd.underlying44 rfl HI.out ?_); kernel_rfl; rfl)
        | (go_at_call 50; refine (HJ.out _).mono ?_; rintro e w2 ⟨rfl, hb⟩; have HB2 : Hid (Below (w.heap.size + 1) (w.alloc (.cells L.toArray 44)) w2) := Lib.hid (hb.mono (by simp)); obtain ⟨b0, b1, b2, b3, b4, b5, r0, r6⟩ := HBX.out w2 HB2.out; have HR6 := Lib.hid r6; clear hb r0 r6 b0 b1 b2 b3 b5)
        | ((with_reducible refine wpList_load_midg (op := ⟨some 19, _, _, _, _, _⟩) ?_ 23 (.tmp 18) rfl w.heap.size 6 ?_ CL _ HR6.out Tryd.underlying23 rfl HIC.out ?_); kernel_rfl; rfl)
        | (go_at_call 27; refine (HS.out _).mono ?_; rintro e w3 ⟨rfl, hb⟩; have HB3 : Hid (Below (w.heap.size + 1) (w.alloc (.cells L.toArray 44)) w3) := Lib.hid (HB2.out.trans (hb.mono (by have := HB2.out.size; simpa using this))); have HB4 : Hid (Below (w.heap.size + 1) (w.alloc (.cells L.toArray 44)) (w3.alloc (.cells #[.int .i64 op, .string (str nm), .string (str dt)] 41))) := Lib.hid (HB3.out.alloc (by have := HB3.out.size; simpa using this) _); clear b4; obtain ⟨_, b1, b2, b3, _, _, _, _⟩ := HBX.out w3 HB3.out; obtain ⟨d0, d1, d2, d3, d4, d5, t0, t6⟩ := HBX.out (w3.alloc (.cells #[.int .i64 op, .string (str nm), .string (str dt)] 41)) HB4.out; have HT0 := Lib.hid t0; clear t0 t6 hb)
        | (go_at_call 51; refine (word13 _ _).mono ?_; rintro e w5 ⟨rfl, rfl⟩)
        | (go_at_call 52; refine (HN.out _).mono ?_; rintro e w5 ⟨rfl, rfl⟩)
        | ((with_reducible refine wpList_load_midg (op := ⟨some 72, _, _, _, _, _⟩) ?_ 44 (.tmp 1) rfl w.heap.size 0 ?_ L _ HT0.out Tryd.underlying44 rfl HI.out ?_); kernel_rfl; rfl)
        | (go_at_call 31; refine (HL.out _ (HB0.out.trans (HB4.out.mono (by omega))) HJK.out.1 HJK.out.2.1 HJK.out.2.2).mono ?_; rintro e w6 ⟨rfl, hb6⟩))
      go_ret
      exact ⟨rfl, (HB0.out.trans (HB4.out.mono (by omega))).trans (hb6.mono (HB0.out.trans (HB4.out.mono (by omega))).size)⟩
    rw [show decide (LL.length ≤ 65536) = true by simpa using l4]
    have m4 : decide ((65536 : Int) < (LL.length : Int)) = false := by simp; omega
    go_enter Tryd.func28, Tryd.ntmps28
    go_wp2_with (first
      | ((with_reducible refine wpList_load_midg (op := ⟨some 4, _, _, _, _, _⟩) ?_ 44 (.tmp 1) rfl w.heap.size 0 ?_ L _ HR0.out Tryd.underlying44 rfl HI.out ?_); kernel_rfl; rfl)
      | (go_at_call 50; refine (HJ.out _).mono ?_; rintro e w2 ⟨rfl, hb⟩; have HB2 : Hid (Below (w.heap.size + 1) (w.alloc (.cells L.toArray 44)) w2) := Lib.hid (hb.mono (by simp)); obtain ⟨b0, b1, b2, b3, b4, b5, r0, r6⟩ := HBX.out w2 HB2.out; have HR6 := Lib.hid r6; clear hb r0 r6 b0 b1 b2 b3 b5)
      | ((with_reducible refine wpList_load_midg (op := ⟨some 19, _, _, _, _, _⟩) ?_ 23 (.tmp 18) rfl w.heap.size 6 ?_ CL _ HR6.out Tryd.underlying23 rfl HIC.out ?_); kernel_rfl; rfl)
      | (go_at_call 27; refine (HS.out _).mono ?_; rintro e w3 ⟨rfl, hb⟩; have HB3 : Hid (Below (w.heap.size + 1) (w.alloc (.cells L.toArray 44)) w3) := Lib.hid (HB2.out.trans (hb.mono (by have := HB2.out.size; simpa using this))); have HB4 : Hid (Below (w.heap.size + 1) (w.alloc (.cells L.toArray 44)) (w3.alloc (.cells #[.int .i64 op, .string (str nm), .string (str dt)] 41))) := Lib.hid (HB3.out.alloc (by have := HB3.out.size; simpa using this) _); clear b4; obtain ⟨_, b1, b2, b3, _, _, _, _⟩ := HBX.out w3 HB3.out; obtain ⟨d0, d1, d2, d3, d4, d5, t0, t6⟩ := HBX.out (w3.alloc (.cells #[.int .i64 op, .string (str nm), .string (str dt)] 41)) HB4.out; have HT0 := Lib.hid t0; clear t0 t6 hb)
      | (go_at_call 51; refine (word13 _ _).mono ?_; rintro e w5 ⟨rfl, rfl⟩)
      | (go_at_call 52; refine (HN.out _).mono ?_; rintro e w5 ⟨rfl, rfl⟩)
      | ((with_reducible refine wpList_load_midg (op := ⟨some 72, _, _, _, _, _⟩) ?_ 44 (.tmp 1) rfl w.heap.size 0 ?_ L _ HT0.out Tryd.underlying44 rfl HI.out ?_); kernel_rfl; rfl)
      | (go_at_call 31; refine (HL.out _ (HB0.out.trans (HB4.out.mono (by omega))) HJK.out.1 HJK.out.2.1 HJK.out.2.2).mono ?_; rintro e w6 ⟨rfl, hb6⟩))
    go_ret
    exact ⟨rfl, (HB0.out.trans (HB4.out.mono (by omega))).trans (hb6.mono (HB0.out.trans (HB4.out.mono (by omega))).size)⟩
  have hn : decide (op = 1 ∨ op = 5 ∨ op = 6) = false := by simpa using hn0
  have HN : Hid (∀ w, Calls Tryd.prog 52 #[.int .i64 op] w fun e w' => e = .returned (.bool false) ∧ w' = w) := Lib.hid (fun w => by rw [← hn]; exact named25 op w)
  rw [hn]
  simp only [Bool.false_or]
  clear hn hn0
  by_cases hm : nm = []
  case neg =>
    have em := str_ne _ hm
    rw [show decide (nm = []) = false by simpa using hm]
    simp only [Bool.false_and]
    clear hm
    go_enter Tryd.func28, Tryd.ntmps28
    go_wp2_with (first
      | ((with_reducible refine wpList_load_midg (op := ⟨some 4, _, _, _, _, _⟩) ?_ 44 (.tmp 1) rfl w.heap.size 0 ?_ L _ HR0.out Tryd.underlying44 rfl HI.out ?_); kernel_rfl; rfl)
      | (go_at_call 50; refine (HJ.out _).mono ?_; rintro e w2 ⟨rfl, hb⟩; have HB2 : Hid (Below (w.heap.size + 1) (w.alloc (.cells L.toArray 44)) w2) := Lib.hid (hb.mono (by simp)); obtain ⟨b0, b1, b2, b3, b4, b5, r0, r6⟩ := HBX.out w2 HB2.out; have HR6 := Lib.hid r6; clear hb r0 r6 b0 b1 b2 b3 b5)
      | ((with_reducible refine wpList_load_midg (op := ⟨some 19, _, _, _, _, _⟩) ?_ 23 (.tmp 18) rfl w.heap.size 6 ?_ CL _ HR6.out Tryd.underlying23 rfl HIC.out ?_); kernel_rfl; rfl)
      | (go_at_call 27; refine (HS.out _).mono ?_; rintro e w3 ⟨rfl, hb⟩; have HB3 : Hid (Below (w.heap.size + 1) (w.alloc (.cells L.toArray 44)) w3) := Lib.hid (HB2.out.trans (hb.mono (by have := HB2.out.size; simpa using this))); have HB4 : Hid (Below (w.heap.size + 1) (w.alloc (.cells L.toArray 44)) (w3.alloc (.cells #[.int .i64 op, .string (str nm), .string (str dt)] 41))) := Lib.hid (HB3.out.alloc (by have := HB3.out.size; simpa using this) _); clear b4; obtain ⟨_, b1, b2, b3, _, _, _, _⟩ := HBX.out w3 HB3.out; obtain ⟨d0, d1, d2, d3, d4, d5, t0, t6⟩ := HBX.out (w3.alloc (.cells #[.int .i64 op, .string (str nm), .string (str dt)] 41)) HB4.out; have HT0 := Lib.hid t0; clear t0 t6 hb)
      | (go_at_call 51; refine (word13 _ _).mono ?_; rintro e w5 ⟨rfl, rfl⟩)
      | (go_at_call 52; refine (HN.out _).mono ?_; rintro e w5 ⟨rfl, rfl⟩))
    go_ret
    exact ⟨rfl, HB0.out.trans (HB4.out.mono (by omega))⟩
  have em : (str nm).toList.isEmpty = true := by rw [hm, str_toList]; rfl
  rw [show decide (nm = []) = true by simpa using hm]
  simp only [Bool.true_and]
  clear hm
  by_cases ho2 : op = 2
  case pos =>
    have ho : (op != 2) = false := by simp [ho2]
    rw [show decide (op = 2) = true by simpa using ho2]
    simp only [Bool.true_or, Bool.true_and]
    clear ho2
    by_cases l1 : nm.length ≤ 65536
    case neg =>
      rw [show decide (nm.length ≤ 65536) = false by simpa using l1]
      simp only [Bool.false_and]
      have m1 : decide ((65536 : Int) < (nm.length : Int)) = true := by simp; omega
      clear l1
      go_enter Tryd.func28, Tryd.ntmps28
      go_wp2_with (first
        | ((with_reducible refine wpList_load_midg (op := ⟨some 4, _, _, _, _, _⟩) ?_ 44 (.tmp 1) rfl w.heap.size 0 ?_ L _ HR0.out Tryd.underlying44 rfl HI.out ?_); kernel_rfl; rfl)
        | (go_at_call 50; refine (HJ.out _).mono ?_; rintro e w2 ⟨rfl, hb⟩; have HB2 : Hid (Below (w.heap.size + 1) (w.alloc (.cells L.toArray 44)) w2) := Lib.hid (hb.mono (by simp)); obtain ⟨b0, b1, b2, b3, b4, b5, r0, r6⟩ := HBX.out w2 HB2.out; have HR6 := Lib.hid r6; clear hb r0 r6 b0 b1 b2 b3 b5)
        | ((with_reducible refine wpList_load_midg (op := ⟨some 19, _, _, _, _, _⟩) ?_ 23 (.tmp 18) rfl w.heap.size 6 ?_ CL _ HR6.out Tryd.underlying23 rfl HIC.out ?_); kernel_rfl; rfl)
        | (go_at_call 27; refine (HS.out _).mono ?_; rintro e w3 ⟨rfl, hb⟩; have HB3 : Hid (Below (w.heap.size + 1) (w.alloc (.cells L.toArray 44)) w3) := Lib.hid (HB2.out.trans (hb.mono (by have := HB2.out.size; simpa using this))); have HB4 : Hid (Below (w.heap.size + 1) (w.alloc (.cells L.toArray 44)) (w3.alloc (.cells #[.int .i64 op, .string (str nm), .string (str dt)] 41))) := Lib.hid (HB3.out.alloc (by have := HB3.out.size; simpa using this) _); clear b4; obtain ⟨_, b1, b2, b3, _, _, _, _⟩ := HBX.out w3 HB3.out; obtain ⟨d0, d1, d2, d3, d4, d5, t0, t6⟩ := HBX.out (w3.alloc (.cells #[.int .i64 op, .string (str nm), .string (str dt)] 41)) HB4.out; have HT0 := Lib.hid t0; clear t0 t6 hb)
        | (go_at_call 51; refine (word13 _ _).mono ?_; rintro e w5 ⟨rfl, rfl⟩)
        | (go_at_call 52; refine (HN.out _).mono ?_; rintro e w5 ⟨rfl, rfl⟩))
      go_ret
      exact ⟨rfl, HB0.out.trans (HB4.out.mono (by omega))⟩
    rw [show decide (nm.length ≤ 65536) = true by simpa using l1]
    have ml1 : decide ((65536 : Int) < (nm.length : Int)) = false := by simp; omega
    clear l1
    by_cases l2 : dt.length ≤ 65536
    case neg =>
      rw [show decide (dt.length ≤ 65536) = false by simpa using l2]
      simp only [Bool.false_and, Bool.and_false]
      have m1 : decide ((65536 : Int) < (dt.length : Int)) = true := by simp; omega
      clear l2
      go_enter Tryd.func28, Tryd.ntmps28
      go_wp2_with (first
        | ((with_reducible refine wpList_load_midg (op := ⟨some 4, _, _, _, _, _⟩) ?_ 44 (.tmp 1) rfl w.heap.size 0 ?_ L _ HR0.out Tryd.underlying44 rfl HI.out ?_); kernel_rfl; rfl)
        | (go_at_call 50; refine (HJ.out _).mono ?_; rintro e w2 ⟨rfl, hb⟩; have HB2 : Hid (Below (w.heap.size + 1) (w.alloc (.cells L.toArray 44)) w2) := Lib.hid (hb.mono (by simp)); obtain ⟨b0, b1, b2, b3, b4, b5, r0, r6⟩ := HBX.out w2 HB2.out; have HR6 := Lib.hid r6; clear hb r0 r6 b0 b1 b2 b3 b5)
        | ((with_reducible refine wpList_load_midg (op := ⟨some 19, _, _, _, _, _⟩) ?_ 23 (.tmp 18) rfl w.heap.size 6 ?_ CL _ HR6.out Tryd.underlying23 rfl HIC.out ?_); kernel_rfl; rfl)
        | (go_at_call 27; refine (HS.out _).mono ?_; rintro e w3 ⟨rfl, hb⟩; have HB3 : Hid (Below (w.heap.size + 1) (w.alloc (.cells L.toArray 44)) w3) := Lib.hid (HB2.out.trans (hb.mono (by have := HB2.out.size; simpa using this))); have HB4 : Hid (Below (w.heap.size + 1) (w.alloc (.cells L.toArray 44)) (w3.alloc (.cells #[.int .i64 op, .string (str nm), .string (str dt)] 41))) := Lib.hid (HB3.out.alloc (by have := HB3.out.size; simpa using this) _); clear b4; obtain ⟨_, b1, b2, b3, _, _, _, _⟩ := HBX.out w3 HB3.out; obtain ⟨d0, d1, d2, d3, d4, d5, t0, t6⟩ := HBX.out (w3.alloc (.cells #[.int .i64 op, .string (str nm), .string (str dt)] 41)) HB4.out; have HT0 := Lib.hid t0; clear t0 t6 hb)
        | (go_at_call 51; refine (word13 _ _).mono ?_; rintro e w5 ⟨rfl, rfl⟩)
        | (go_at_call 52; refine (HN.out _).mono ?_; rintro e w5 ⟨rfl, rfl⟩))
      go_ret
      exact ⟨rfl, HB0.out.trans (HB4.out.mono (by omega))⟩
    rw [show decide (dt.length ≤ 65536) = true by simpa using l2]
    have ml2 : decide ((65536 : Int) < (dt.length : Int)) = false := by simp; omega
    clear l2
    by_cases l3 : kp.length ≤ 65536
    case neg =>
      rw [show decide (kp.length ≤ 65536) = false by simpa using l3]
      simp only [Bool.false_and, Bool.and_false]
      have m1 : decide ((65536 : Int) < (kp.length : Int)) = true := by simp; omega
      clear l3
      go_enter Tryd.func28, Tryd.ntmps28
      go_wp2_with (first
        | ((with_reducible refine wpList_load_midg (op := ⟨some 4, _, _, _, _, _⟩) ?_ 44 (.tmp 1) rfl w.heap.size 0 ?_ L _ HR0.out Tryd.underlying44 rfl HI.out ?_); kernel_rfl; rfl)
        | (go_at_call 50; refine (HJ.out _).mono ?_; rintro e w2 ⟨rfl, hb⟩; have HB2 : Hid (Below (w.heap.size + 1) (w.alloc (.cells L.toArray 44)) w2) := Lib.hid (hb.mono (by simp)); obtain ⟨b0, b1, b2, b3, b4, b5, r0, r6⟩ := HBX.out w2 HB2.out; have HR6 := Lib.hid r6; clear hb r0 r6 b0 b1 b2 b3 b5)
        | ((with_reducible refine wpList_load_midg (op := ⟨some 19, _, _, _, _, _⟩) ?_ 23 (.tmp 18) rfl w.heap.size 6 ?_ CL _ HR6.out Tryd.underlying23 rfl HIC.out ?_); kernel_rfl; rfl)
        | (go_at_call 27; refine (HS.out _).mono ?_; rintro e w3 ⟨rfl, hb⟩; have HB3 : Hid (Below (w.heap.size + 1) (w.alloc (.cells L.toArray 44)) w3) := Lib.hid (HB2.out.trans (hb.mono (by have := HB2.out.size; simpa using this))); have HB4 : Hid (Below (w.heap.size + 1) (w.alloc (.cells L.toArray 44)) (w3.alloc (.cells #[.int .i64 op, .string (str nm), .string (str dt)] 41))) := Lib.hid (HB3.out.alloc (by have := HB3.out.size; simpa using this) _); clear b4; obtain ⟨_, b1, b2, b3, _, _, _, _⟩ := HBX.out w3 HB3.out; obtain ⟨d0, d1, d2, d3, d4, d5, t0, t6⟩ := HBX.out (w3.alloc (.cells #[.int .i64 op, .string (str nm), .string (str dt)] 41)) HB4.out; have HT0 := Lib.hid t0; clear t0 t6 hb)
        | (go_at_call 51; refine (word13 _ _).mono ?_; rintro e w5 ⟨rfl, rfl⟩)
        | (go_at_call 52; refine (HN.out _).mono ?_; rintro e w5 ⟨rfl, rfl⟩))
      go_ret
      exact ⟨rfl, HB0.out.trans (HB4.out.mono (by omega))⟩
    rw [show decide (kp.length ≤ 65536) = true by simpa using l3]
    have ml3 : decide ((65536 : Int) < (kp.length : Int)) = false := by simp; omega
    clear l3
    by_cases l4 : LL.length ≤ 65536
    case neg =>
      rw [show decide (LL.length ≤ 65536) = false by simpa using l4]
      simp only [Bool.and_false]
      have m1 : decide ((65536 : Int) < (LL.length : Int)) = true := by simp; omega
      clear l4
      go_enter Tryd.func28, Tryd.ntmps28
      go_wp2_with (first
        | ((with_reducible refine wpList_load_midg (op := ⟨some 4, _, _, _, _, _⟩) ?_ 44 (.tmp 1) rfl w.heap.size 0 ?_ L _ HR0.out Tryd.underlying44 rfl HI.out ?_); kernel_rfl; rfl)
        | (go_at_call 50; refine (HJ.out _).mono ?_; rintro e w2 ⟨rfl, hb⟩; have HB2 : Hid (Below (w.heap.size + 1) (w.alloc (.cells L.toArray 44)) w2) := Lib.hid (hb.mono (by simp)); obtain ⟨b0, b1, b2, b3, b4, b5, r0, r6⟩ := HBX.out w2 HB2.out; have HR6 := Lib.hid r6; clear hb r0 r6 b0 b1 b2 b3 b5)
        | ((with_reducible refine wpList_load_midg (op := ⟨some 19, _, _, _, _, _⟩) ?_ 23 (.tmp 18) rfl w.heap.size 6 ?_ CL _ HR6.out Tryd.underlying23 rfl HIC.out ?_); kernel_rfl; rfl)
        | (go_at_call 27; refine (HS.out _).mono ?_; rintro e w3 ⟨rfl, hb⟩; have HB3 : Hid (Below (w.heap.size + 1) (w.alloc (.cells L.toArray 44)) w3) := Lib.hid (HB2.out.trans (hb.mono (by have := HB2.out.size; simpa using this))); have HB4 : Hid (Below (w.heap.size + 1) (w.alloc (.cells L.toArray 44)) (w3.alloc (.cells #[.int .i64 op, .string (str nm), .string (str dt)] 41))) := Lib.hid (HB3.out.alloc (by have := HB3.out.size; simpa using this) _); clear b4; obtain ⟨_, b1, b2, b3, _, _, _, _⟩ := HBX.out w3 HB3.out; obtain ⟨d0, d1, d2, d3, d4, d5, t0, t6⟩ := HBX.out (w3.alloc (.cells #[.int .i64 op, .string (str nm), .string (str dt)] 41)) HB4.out; have HT0 := Lib.hid t0; clear t0 t6 hb)
        | (go_at_call 51; refine (word13 _ _).mono ?_; rintro e w5 ⟨rfl, rfl⟩)
        | (go_at_call 52; refine (HN.out _).mono ?_; rintro e w5 ⟨rfl, rfl⟩)
        | ((with_reducible refine wpList_load_midg (op := ⟨some 72, _, _, _, _, _⟩) ?_ 44 (.tmp 1) rfl w.heap.size 0 ?_ L _ HT0.out Tryd.underlying44 rfl HI.out ?_); kernel_rfl; rfl)
        | (go_at_call 31; refine (HL.out _ (HB0.out.trans (HB4.out.mono (by omega))) HJK.out.1 HJK.out.2.1 HJK.out.2.2).mono ?_; rintro e w6 ⟨rfl, hb6⟩))
      go_ret
      exact ⟨rfl, (HB0.out.trans (HB4.out.mono (by omega))).trans (hb6.mono (HB0.out.trans (HB4.out.mono (by omega))).size)⟩
    rw [show decide (LL.length ≤ 65536) = true by simpa using l4]
    have m4 : decide ((65536 : Int) < (LL.length : Int)) = false := by simp; omega
    go_enter Tryd.func28, Tryd.ntmps28
    go_wp2_with (first
      | ((with_reducible refine wpList_load_midg (op := ⟨some 4, _, _, _, _, _⟩) ?_ 44 (.tmp 1) rfl w.heap.size 0 ?_ L _ HR0.out Tryd.underlying44 rfl HI.out ?_); kernel_rfl; rfl)
      | (go_at_call 50; refine (HJ.out _).mono ?_; rintro e w2 ⟨rfl, hb⟩; have HB2 : Hid (Below (w.heap.size + 1) (w.alloc (.cells L.toArray 44)) w2) := Lib.hid (hb.mono (by simp)); obtain ⟨b0, b1, b2, b3, b4, b5, r0, r6⟩ := HBX.out w2 HB2.out; have HR6 := Lib.hid r6; clear hb r0 r6 b0 b1 b2 b3 b5)
      | ((with_reducible refine wpList_load_midg (op := ⟨some 19, _, _, _, _, _⟩) ?_ 23 (.tmp 18) rfl w.heap.size 6 ?_ CL _ HR6.out Tryd.underlying23 rfl HIC.out ?_); kernel_rfl; rfl)
      | (go_at_call 27; refine (HS.out _).mono ?_; rintro e w3 ⟨rfl, hb⟩; have HB3 : Hid (Below (w.heap.size + 1) (w.alloc (.cells L.toArray 44)) w3) := Lib.hid (HB2.out.trans (hb.mono (by have := HB2.out.size; simpa using this))); have HB4 : Hid (Below (w.heap.size + 1) (w.alloc (.cells L.toArray 44)) (w3.alloc (.cells #[.int .i64 op, .string (str nm), .string (str dt)] 41))) := Lib.hid (HB3.out.alloc (by have := HB3.out.size; simpa using this) _); clear b4; obtain ⟨_, b1, b2, b3, _, _, _, _⟩ := HBX.out w3 HB3.out; obtain ⟨d0, d1, d2, d3, d4, d5, t0, t6⟩ := HBX.out (w3.alloc (.cells #[.int .i64 op, .string (str nm), .string (str dt)] 41)) HB4.out; have HT0 := Lib.hid t0; clear t0 t6 hb)
      | (go_at_call 51; refine (word13 _ _).mono ?_; rintro e w5 ⟨rfl, rfl⟩)
      | (go_at_call 52; refine (HN.out _).mono ?_; rintro e w5 ⟨rfl, rfl⟩)
      | ((with_reducible refine wpList_load_midg (op := ⟨some 72, _, _, _, _, _⟩) ?_ 44 (.tmp 1) rfl w.heap.size 0 ?_ L _ HT0.out Tryd.underlying44 rfl HI.out ?_); kernel_rfl; rfl)
      | (go_at_call 31; refine (HL.out _ (HB0.out.trans (HB4.out.mono (by omega))) HJK.out.1 HJK.out.2.1 HJK.out.2.2).mono ?_; rintro e w6 ⟨rfl, hb6⟩))
    go_ret
    exact ⟨rfl, (HB0.out.trans (HB4.out.mono (by omega))).trans (hb6.mono (HB0.out.trans (HB4.out.mono (by omega))).size)⟩
  have ho : (op != 2) = true := by simpa using ho2
  rw [show decide (op = 2) = false by simpa using ho2]
  simp only [Bool.false_or]
  clear ho2
  by_cases hd : dt = []
  case neg =>
    have ed := str_ne _ hd
    rw [show decide (dt = []) = false by simpa using hd]
    simp only [Bool.false_and]
    clear hd
    go_enter Tryd.func28, Tryd.ntmps28
    go_wp2_with (first
      | ((with_reducible refine wpList_load_midg (op := ⟨some 4, _, _, _, _, _⟩) ?_ 44 (.tmp 1) rfl w.heap.size 0 ?_ L _ HR0.out Tryd.underlying44 rfl HI.out ?_); kernel_rfl; rfl)
      | (go_at_call 50; refine (HJ.out _).mono ?_; rintro e w2 ⟨rfl, hb⟩; have HB2 : Hid (Below (w.heap.size + 1) (w.alloc (.cells L.toArray 44)) w2) := Lib.hid (hb.mono (by simp)); obtain ⟨b0, b1, b2, b3, b4, b5, r0, r6⟩ := HBX.out w2 HB2.out; have HR6 := Lib.hid r6; clear hb r0 r6 b0 b1 b2 b3 b5)
      | ((with_reducible refine wpList_load_midg (op := ⟨some 19, _, _, _, _, _⟩) ?_ 23 (.tmp 18) rfl w.heap.size 6 ?_ CL _ HR6.out Tryd.underlying23 rfl HIC.out ?_); kernel_rfl; rfl)
      | (go_at_call 27; refine (HS.out _).mono ?_; rintro e w3 ⟨rfl, hb⟩; have HB3 : Hid (Below (w.heap.size + 1) (w.alloc (.cells L.toArray 44)) w3) := Lib.hid (HB2.out.trans (hb.mono (by have := HB2.out.size; simpa using this))); have HB4 : Hid (Below (w.heap.size + 1) (w.alloc (.cells L.toArray 44)) (w3.alloc (.cells #[.int .i64 op, .string (str nm), .string (str dt)] 41))) := Lib.hid (HB3.out.alloc (by have := HB3.out.size; simpa using this) _); clear b4; obtain ⟨_, b1, b2, b3, _, _, _, _⟩ := HBX.out w3 HB3.out; obtain ⟨d0, d1, d2, d3, d4, d5, t0, t6⟩ := HBX.out (w3.alloc (.cells #[.int .i64 op, .string (str nm), .string (str dt)] 41)) HB4.out; have HT0 := Lib.hid t0; clear t0 t6 hb)
      | (go_at_call 51; refine (word13 _ _).mono ?_; rintro e w5 ⟨rfl, rfl⟩)
      | (go_at_call 52; refine (HN.out _).mono ?_; rintro e w5 ⟨rfl, rfl⟩))
    go_ret
    exact ⟨rfl, HB0.out.trans (HB4.out.mono (by omega))⟩
  have ed : (str dt).toList.isEmpty = true := by rw [hd, str_toList]; rfl
  rw [show decide (dt = []) = true by simpa using hd]
  simp only [Bool.true_and]
  clear hd
  by_cases l1 : nm.length ≤ 65536
  case neg =>
    rw [show decide (nm.length ≤ 65536) = false by simpa using l1]
    simp only [Bool.false_and]
    have m1 : decide ((65536 : Int) < (nm.length : Int)) = true := by simp; omega
    clear l1
    go_enter Tryd.func28, Tryd.ntmps28
    go_wp2_with (first
      | ((with_reducible refine wpList_load_midg (op := ⟨some 4, _, _, _, _, _⟩) ?_ 44 (.tmp 1) rfl w.heap.size 0 ?_ L _ HR0.out Tryd.underlying44 rfl HI.out ?_); kernel_rfl; rfl)
      | (go_at_call 50; refine (HJ.out _).mono ?_; rintro e w2 ⟨rfl, hb⟩; have HB2 : Hid (Below (w.heap.size + 1) (w.alloc (.cells L.toArray 44)) w2) := Lib.hid (hb.mono (by simp)); obtain ⟨b0, b1, b2, b3, b4, b5, r0, r6⟩ := HBX.out w2 HB2.out; have HR6 := Lib.hid r6; clear hb r0 r6 b0 b1 b2 b3 b5)
      | ((with_reducible refine wpList_load_midg (op := ⟨some 19, _, _, _, _, _⟩) ?_ 23 (.tmp 18) rfl w.heap.size 6 ?_ CL _ HR6.out Tryd.underlying23 rfl HIC.out ?_); kernel_rfl; rfl)
      | (go_at_call 27; refine (HS.out _).mono ?_; rintro e w3 ⟨rfl, hb⟩; have HB3 : Hid (Below (w.heap.size + 1) (w.alloc (.cells L.toArray 44)) w3) := Lib.hid (HB2.out.trans (hb.mono (by have := HB2.out.size; simpa using this))); have HB4 : Hid (Below (w.heap.size + 1) (w.alloc (.cells L.toArray 44)) (w3.alloc (.cells #[.int .i64 op, .string (str nm), .string (str dt)] 41))) := Lib.hid (HB3.out.alloc (by have := HB3.out.size; simpa using this) _); clear b4; obtain ⟨_, b1, b2, b3, _, _, _, _⟩ := HBX.out w3 HB3.out; obtain ⟨d0, d1, d2, d3, d4, d5, t0, t6⟩ := HBX.out (w3.alloc (.cells #[.int .i64 op, .string (str nm), .string (str dt)] 41)) HB4.out; have HT0 := Lib.hid t0; clear t0 t6 hb)
      | (go_at_call 51; refine (word13 _ _).mono ?_; rintro e w5 ⟨rfl, rfl⟩)
      | (go_at_call 52; refine (HN.out _).mono ?_; rintro e w5 ⟨rfl, rfl⟩))
    go_ret
    exact ⟨rfl, HB0.out.trans (HB4.out.mono (by omega))⟩
  rw [show decide (nm.length ≤ 65536) = true by simpa using l1]
  have ml1 : decide ((65536 : Int) < (nm.length : Int)) = false := by simp; omega
  clear l1
  by_cases l2 : dt.length ≤ 65536
  case neg =>
    rw [show decide (dt.length ≤ 65536) = false by simpa using l2]
    simp only [Bool.false_and, Bool.and_false]
    have m1 : decide ((65536 : Int) < (dt.length : Int)) = true := by simp; omega
    clear l2
    go_enter Tryd.func28, Tryd.ntmps28
    go_wp2_with (first
      | ((with_reducible refine wpList_load_midg (op := ⟨some 4, _, _, _, _, _⟩) ?_ 44 (.tmp 1) rfl w.heap.size 0 ?_ L _ HR0.out Tryd.underlying44 rfl HI.out ?_); kernel_rfl; rfl)
      | (go_at_call 50; refine (HJ.out _).mono ?_; rintro e w2 ⟨rfl, hb⟩; have HB2 : Hid (Below (w.heap.size + 1) (w.alloc (.cells L.toArray 44)) w2) := Lib.hid (hb.mono (by simp)); obtain ⟨b0, b1, b2, b3, b4, b5, r0, r6⟩ := HBX.out w2 HB2.out; have HR6 := Lib.hid r6; clear hb r0 r6 b0 b1 b2 b3 b5)
      | ((with_reducible refine wpList_load_midg (op := ⟨some 19, _, _, _, _, _⟩) ?_ 23 (.tmp 18) rfl w.heap.size 6 ?_ CL _ HR6.out Tryd.underlying23 rfl HIC.out ?_); kernel_rfl; rfl)
      | (go_at_call 27; refine (HS.out _).mono ?_; rintro e w3 ⟨rfl, hb⟩; have HB3 : Hid (Below (w.heap.size + 1) (w.alloc (.cells L.toArray 44)) w3) := Lib.hid (HB2.out.trans (hb.mono (by have := HB2.out.size; simpa using this))); have HB4 : Hid (Below (w.heap.size + 1) (w.alloc (.cells L.toArray 44)) (w3.alloc (.cells #[.int .i64 op, .string (str nm), .string (str dt)] 41))) := Lib.hid (HB3.out.alloc (by have := HB3.out.size; simpa using this) _); clear b4; obtain ⟨_, b1, b2, b3, _, _, _, _⟩ := HBX.out w3 HB3.out; obtain ⟨d0, d1, d2, d3, d4, d5, t0, t6⟩ := HBX.out (w3.alloc (.cells #[.int .i64 op, .string (str nm), .string (str dt)] 41)) HB4.out; have HT0 := Lib.hid t0; clear t0 t6 hb)
      | (go_at_call 51; refine (word13 _ _).mono ?_; rintro e w5 ⟨rfl, rfl⟩)
      | (go_at_call 52; refine (HN.out _).mono ?_; rintro e w5 ⟨rfl, rfl⟩))
    go_ret
    exact ⟨rfl, HB0.out.trans (HB4.out.mono (by omega))⟩
  rw [show decide (dt.length ≤ 65536) = true by simpa using l2]
  have ml2 : decide ((65536 : Int) < (dt.length : Int)) = false := by simp; omega
  clear l2
  by_cases l3 : kp.length ≤ 65536
  case neg =>
    rw [show decide (kp.length ≤ 65536) = false by simpa using l3]
    simp only [Bool.false_and, Bool.and_false]
    have m1 : decide ((65536 : Int) < (kp.length : Int)) = true := by simp; omega
    clear l3
    go_enter Tryd.func28, Tryd.ntmps28
    go_wp2_with (first
      | ((with_reducible refine wpList_load_midg (op := ⟨some 4, _, _, _, _, _⟩) ?_ 44 (.tmp 1) rfl w.heap.size 0 ?_ L _ HR0.out Tryd.underlying44 rfl HI.out ?_); kernel_rfl; rfl)
      | (go_at_call 50; refine (HJ.out _).mono ?_; rintro e w2 ⟨rfl, hb⟩; have HB2 : Hid (Below (w.heap.size + 1) (w.alloc (.cells L.toArray 44)) w2) := Lib.hid (hb.mono (by simp)); obtain ⟨b0, b1, b2, b3, b4, b5, r0, r6⟩ := HBX.out w2 HB2.out; have HR6 := Lib.hid r6; clear hb r0 r6 b0 b1 b2 b3 b5)
      | ((with_reducible refine wpList_load_midg (op := ⟨some 19, _, _, _, _, _⟩) ?_ 23 (.tmp 18) rfl w.heap.size 6 ?_ CL _ HR6.out Tryd.underlying23 rfl HIC.out ?_); kernel_rfl; rfl)
      | (go_at_call 27; refine (HS.out _).mono ?_; rintro e w3 ⟨rfl, hb⟩; have HB3 : Hid (Below (w.heap.size + 1) (w.alloc (.cells L.toArray 44)) w3) := Lib.hid (HB2.out.trans (hb.mono (by have := HB2.out.size; simpa using this))); have HB4 : Hid (Below (w.heap.size + 1) (w.alloc (.cells L.toArray 44)) (w3.alloc (.cells #[.int .i64 op, .string (str nm), .string (str dt)] 41))) := Lib.hid (HB3.out.alloc (by have := HB3.out.size; simpa using this) _); clear b4; obtain ⟨_, b1, b2, b3, _, _, _, _⟩ := HBX.out w3 HB3.out; obtain ⟨d0, d1, d2, d3, d4, d5, t0, t6⟩ := HBX.out (w3.alloc (.cells #[.int .i64 op, .string (str nm), .string (str dt)] 41)) HB4.out; have HT0 := Lib.hid t0; clear t0 t6 hb)
      | (go_at_call 51; refine (word13 _ _).mono ?_; rintro e w5 ⟨rfl, rfl⟩)
      | (go_at_call 52; refine (HN.out _).mono ?_; rintro e w5 ⟨rfl, rfl⟩))
    go_ret
    exact ⟨rfl, HB0.out.trans (HB4.out.mono (by omega))⟩
  rw [show decide (kp.length ≤ 65536) = true by simpa using l3]
  have ml3 : decide ((65536 : Int) < (kp.length : Int)) = false := by simp; omega
  clear l3
  by_cases l4 : LL.length ≤ 65536
  case neg =>
    rw [show decide (LL.length ≤ 65536) = false by simpa using l4]
    simp only [Bool.and_false]
    have m1 : decide ((65536 : Int) < (LL.length : Int)) = true := by simp; omega
    clear l4
    go_enter Tryd.func28, Tryd.ntmps28
    go_wp2_with (first
      | ((with_reducible refine wpList_load_midg (op := ⟨some 4, _, _, _, _, _⟩) ?_ 44 (.tmp 1) rfl w.heap.size 0 ?_ L _ HR0.out Tryd.underlying44 rfl HI.out ?_); kernel_rfl; rfl)
      | (go_at_call 50; refine (HJ.out _).mono ?_; rintro e w2 ⟨rfl, hb⟩; have HB2 : Hid (Below (w.heap.size + 1) (w.alloc (.cells L.toArray 44)) w2) := Lib.hid (hb.mono (by simp)); obtain ⟨b0, b1, b2, b3, b4, b5, r0, r6⟩ := HBX.out w2 HB2.out; have HR6 := Lib.hid r6; clear hb r0 r6 b0 b1 b2 b3 b5)
      | ((with_reducible refine wpList_load_midg (op := ⟨some 19, _, _, _, _, _⟩) ?_ 23 (.tmp 18) rfl w.heap.size 6 ?_ CL _ HR6.out Tryd.underlying23 rfl HIC.out ?_); kernel_rfl; rfl)
      | (go_at_call 27; refine (HS.out _).mono ?_; rintro e w3 ⟨rfl, hb⟩; have HB3 : Hid (Below (w.heap.size + 1) (w.alloc (.cells L.toArray 44)) w3) := Lib.hid (HB2.out.trans (hb.mono (by have := HB2.out.size; simpa using this))); have HB4 : Hid (Below (w.heap.size + 1) (w.alloc (.cells L.toArray 44)) (w3.alloc (.cells #[.int .i64 op, .string (str nm), .string (str dt)] 41))) := Lib.hid (HB3.out.alloc (by have := HB3.out.size; simpa using this) _); clear b4; obtain ⟨_, b1, b2, b3, _, _, _, _⟩ := HBX.out w3 HB3.out; obtain ⟨d0, d1, d2, d3, d4, d5, t0, t6⟩ := HBX.out (w3.alloc (.cells #[.int .i64 op, .string (str nm), .string (str dt)] 41)) HB4.out; have HT0 := Lib.hid t0; clear t0 t6 hb)
      | (go_at_call 51; refine (word13 _ _).mono ?_; rintro e w5 ⟨rfl, rfl⟩)
      | (go_at_call 52; refine (HN.out _).mono ?_; rintro e w5 ⟨rfl, rfl⟩)
      | ((with_reducible refine wpList_load_midg (op := ⟨some 72, _, _, _, _, _⟩) ?_ 44 (.tmp 1) rfl w.heap.size 0 ?_ L _ HT0.out Tryd.underlying44 rfl HI.out ?_); kernel_rfl; rfl)
      | (go_at_call 31; refine (HL.out _ (HB0.out.trans (HB4.out.mono (by omega))) HJK.out.1 HJK.out.2.1 HJK.out.2.2).mono ?_; rintro e w6 ⟨rfl, hb6⟩))
    go_ret
    exact ⟨rfl, (HB0.out.trans (HB4.out.mono (by omega))).trans (hb6.mono (HB0.out.trans (HB4.out.mono (by omega))).size)⟩
  rw [show decide (LL.length ≤ 65536) = true by simpa using l4]
  have m4 : decide ((65536 : Int) < (LL.length : Int)) = false := by simp; omega
  go_enter Tryd.func28, Tryd.ntmps28
  go_wp2_with (first
    | ((with_reducible refine wpList_load_midg (op := ⟨some 4, _, _, _, _, _⟩) ?_ 44 (.tmp 1) rfl w.heap.size 0 ?_ L _ HR0.out Tryd.underlying44 rfl HI.out ?_); kernel_rfl; rfl)
    | (go_at_call 50; refine (HJ.out _).mono ?_; rintro e w2 ⟨rfl, hb⟩; have HB2 : Hid (Below (w.heap.size + 1) (w.alloc (.cells L.toArray 44)) w2) := Lib.hid (hb.mono (by simp)); obtain ⟨b0, b1, b2, b3, b4, b5, r0, r6⟩ := HBX.out w2 HB2.out; have HR6 := Lib.hid r6; clear hb r0 r6 b0 b1 b2 b3 b5)
    | ((with_reducible refine wpList_load_midg (op := ⟨some 19, _, _, _, _, _⟩) ?_ 23 (.tmp 18) rfl w.heap.size 6 ?_ CL _ HR6.out Tryd.underlying23 rfl HIC.out ?_); kernel_rfl; rfl)
    | (go_at_call 27; refine (HS.out _).mono ?_; rintro e w3 ⟨rfl, hb⟩; have HB3 : Hid (Below (w.heap.size + 1) (w.alloc (.cells L.toArray 44)) w3) := Lib.hid (HB2.out.trans (hb.mono (by have := HB2.out.size; simpa using this))); have HB4 : Hid (Below (w.heap.size + 1) (w.alloc (.cells L.toArray 44)) (w3.alloc (.cells #[.int .i64 op, .string (str nm), .string (str dt)] 41))) := Lib.hid (HB3.out.alloc (by have := HB3.out.size; simpa using this) _); clear b4; obtain ⟨_, b1, b2, b3, _, _, _, _⟩ := HBX.out w3 HB3.out; obtain ⟨d0, d1, d2, d3, d4, d5, t0, t6⟩ := HBX.out (w3.alloc (.cells #[.int .i64 op, .string (str nm), .string (str dt)] 41)) HB4.out; have HT0 := Lib.hid t0; clear t0 t6 hb)
    | (go_at_call 51; refine (word13 _ _).mono ?_; rintro e w5 ⟨rfl, rfl⟩)
    | (go_at_call 52; refine (HN.out _).mono ?_; rintro e w5 ⟨rfl, rfl⟩)
    | ((with_reducible refine wpList_load_midg (op := ⟨some 72, _, _, _, _, _⟩) ?_ 44 (.tmp 1) rfl w.heap.size 0 ?_ L _ HT0.out Tryd.underlying44 rfl HI.out ?_); kernel_rfl; rfl)
    | (go_at_call 31; refine (HL.out _ (HB0.out.trans (HB4.out.mono (by omega))) HJK.out.1 HJK.out.2.1 HJK.out.2.2).mono ?_; rintro e w6 ⟨rfl, hb6⟩))
  go_ret
  exact ⟨rfl, (HB0.out.trans (HB4.out.mono (by omega))).trans (hb6.mono (HB0.out.trans (HB4.out.mono (by omega))).size)⟩
end Go.Proofs.YtjakkmioofbcaaaDoor
