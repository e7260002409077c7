/- The walk over the reference's May. -/
import Derived.Test.YtocfhldmnbmapaaGreatDoorA3
namespace Go.Proofs.YtocfhldmnbmapaaGreatDoor
open Go.RowKit
set_option maxHeartbeats 8000000 in
theorem rmay12 (k : Int) (id : Nat) (nm : List UInt8) (a : Int) (w : World) (h4 : a < 4294967296) : Calls Tryz.prog 12 #[.agg (fdV ⟨k, id, nm, a⟩)] w fun e w' => e = .returned (.bool (decide (mayP ⟨k, id, nm, a⟩))) ∧ Below w.heap.size w w' := by
  unfold fdV
  simp only
  have HB : Hid (Below w.heap.size w (w.alloc (.cells #[.int .i64 k, .int .u32 (id : Nat), .string (str nm), .int .i64 a] 25))) := Lib.hid ((Below.refl _ _).alloc (Nat.le_refl _) _)
  have HC := Lib.hid (parts35 k (w.alloc (.cells #[.int .i64 k, .int .u32 (id : Nat), .string (str nm), .int .i64 a] 25)))
  have hsz := str_size nm
  by_cases h1 : 1 ≤ k
  · by_cases h2 : k ≤ 17
    · have h1' : ¬ k < 1 := by omega
      have h2' : ¬ 17 < k := by omega
      unfold has3 at HC
      have HM : mayP ⟨k, id, nm, a⟩ ↔ ((hasT k).1 = decide (id ≠ 0) ∧ (hasT k).2.1 = decide (nm ≠ []) ∧ nm.length ≤ 48 ∧ 0 ≤ a ∧ ((hasT k).2.2 = false → a = 0)) := ⟨fun q => ⟨q.2.2.2.2.1, q.2.2.2.2.2.1, q.2.2.2.1, q.2.2.1, q.2.2.2.2.2.2⟩, fun q => ⟨h1, h2, q.2.2.2.1, q.2.2.1, q.1, q.2.1, q.2.2.2.2⟩⟩
      rw [decide_congr HM]
      clear HM
      generalize hasT k = T at *
      obtain ⟨x, y, z⟩ := T
      simp only at HC ⊢
      obtain ⟨u, hu⟩ : ∃ u, u = decide (id ≠ 0) := ⟨_, rfl⟩
      obtain ⟨v, hv⟩ : ∃ v, v = decide (nm ≠ []) := ⟨_, rfl⟩
      obtain ⟨p, hp⟩ : ∃ p, p = decide (a = 0) := ⟨_, rfl⟩
      obtain ⟨l, hll⟩ : ∃ l, l = decide (nm.length ≤ 48) := ⟨_, rfl⟩
      obtain ⟨g, hg⟩ : ∃ g, g = decide (0 ≤ a) := ⟨_, rfl⟩
      have hG : decide (x = decide (id ≠ 0) ∧ y = decide (nm ≠ []) ∧ nm.length ≤ 48 ∧ 0 ≤ a ∧ (z = false → a = 0)) = ((x == u) && ((y == v) && (l && (g && (z || p))))) := by
        rw [← hu, ← hv]
        cases x <;> cases u <;> cases y <;> cases v <;> cases z <;> simp [hp, hll, hg]
      rw [hG]
      clear hG
      obtain ⟨R, hR⟩ : ∃ R, R = ((x == u) && ((y == v) && (l && (g && (z || p))))) := ⟨_, rfl⟩
      rw [← hR]
      have HR := Lib.hid hR
      clear hR
      have iu : decide (0 < id) = u := by
        rw [hu]
        exact decide_congr (by omega)
      have ip : (a == 0) = p := by
        rw [hp]
        by_cases q : a = 0
        · subst q; rfl
        · rw [decide_eq_false q, beq_eq_false_iff_ne]; exact q
      have iv : decide (0 < nm.length) = v := by
        rw [hv]
        cases nm with
        | nil => rfl
        | cons c r => exact decide_congr ⟨fun _ => by simp, fun _ => by simp only [List.length_cons]; omega⟩
      have il : decide ((48 : Int) < (nm.length : Int)) = !l := by
        rw [hll]
        by_cases q : nm.length ≤ 48
        · rw [decide_eq_true q]; exact decide_eq_false (by omega)
        · rw [decide_eq_false q]; exact decide_eq_true (by omega)
      have ig : decide (a < 0) = !g := by
        rw [hg]
        by_cases q : 0 ≤ a
        · rw [decide_eq_true q]; exact decide_eq_false (by omega)
        · rw [decide_eq_false q]; exact decide_eq_true (by omega)
      clear hu hv hp hll hg
      go_enter Tryz.func12, Tryz.ntmps12
      go_wp2_with fail
      refine Calls.mono HC.out ?_
      rintro _ W2 ⟨rfl, rfl⟩
      go_upto_region 4 with fail
      by_cases e1 : x = u
      · subst e1
        by_cases e2 : y = v
        · subst e2
          cases l
          · have RR : R = false := by rw [HR.out]; simp
            go_wp2_with fail
            go_ret
            exact ⟨by rw [RR]; rfl, HB.out⟩
          · cases g
            · have RR : R = false := by rw [HR.out]; simp
              go_wp2_with fail
              go_ret
              exact ⟨by rw [RR]; rfl, HB.out⟩
            · cases z
              · cases p
                · have RR : R = false := by rw [HR.out]; simp
                  have ip' : (a != 0) = true := by rw [bne, ip]; rfl
                  go_wp2_with fail
                  go_ret
                  exact ⟨by rw [RR]; rfl, HB.out⟩
                · have RR : R = true := by rw [HR.out]; simp
                  have ip' : (a != 0) = false := by rw [bne, ip]; rfl
                  go_wp2_with fail
                  go_ret
                  exact ⟨by rw [RR]; rfl, HB.out⟩
              · have RR : R = true := by rw [HR.out]; simp
                go_wp2_with fail
                go_ret
                exact ⟨by rw [RR]; rfl, HB.out⟩
        · have RR : R = false := by rw [HR.out, beq_eq_false_iff_ne.2 e2]; simp
          have e3 : (y != v) = true := by rw [bne_iff_ne]; exact e2
          go_wp2_with fail
          go_ret
          exact ⟨by rw [RR]; rfl, HB.out⟩
      · have RR : R = false := by rw [HR.out, beq_eq_false_iff_ne.2 e1]; rfl
        have e3 : (x != u) = true := by rw [bne_iff_ne]; exact e1
        go_wp2_with fail
        go_ret
        exact ⟨by rw [RR]; rfl, HB.out⟩
    · have h1' : ¬ k < 1 := by omega
      have h2' : 17 < k := by omega
      rw [show decide (mayP ⟨k, id, nm, a⟩) = false from decide_eq_false (fun q => h2 q.2.1)]
      go_enter Tryz.func12, Tryz.ntmps12
      go_wp2_with fail
      go_ret
      exact ⟨rfl, HB.out⟩
  · have h1' : k < 1 := by omega
    rw [show decide (mayP ⟨k, id, nm, a⟩) = false from decide_eq_false (fun q => h1 q.1)]
    go_enter Tryz.func12, Tryz.ntmps12
    go_wp2_with fail
    go_ret
    exact ⟨rfl, HB.out⟩
end Go.Proofs.YtocfhldmnbmapaaGreatDoor
