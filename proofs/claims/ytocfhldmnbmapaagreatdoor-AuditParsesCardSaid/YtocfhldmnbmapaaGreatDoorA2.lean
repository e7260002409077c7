/- The walks over has, Grave, Parts, may, May. -/
import Derived.Test.YtocfhldmnbmapaaGreatDoorA1
import Derived.Test.YtocfhldmnbmapaaGreatDoorRows
import Derived.WalkKit
import Derived.WalkSpells
import Derived.WalkLawsBesides
import Derived.Deep.MidRow
import Derived.Deep.QuietTactic
import Derived.BigQuiet
import Derived.Lib.Hide
import Derived.Deep.AppendLies
import Derived.Deep.Draws
import Derived.Deep.WholeRow
import Derived.Stop.BytesEq
import Derived.Maps.AppendAt
import Derived.Deep.RegionHeld3
import Derived.Deep.LoopGhost
import Derived.Laws.Tables
import Derived.Laws.BytesArg
import Derived.Deep.Cut
namespace Go.Proofs.YtocfhldmnbmapaaGreatDoor
open Go.RowKit
theorem below_drewN {B : Nat} {a w : World} (h : Below B a w) (n : Nat) : Below B a (w.drewN n) := ⟨h.os, h.tape, h.output, h.size, h.block⟩
theorem below_drew {B : Nat} {a w : World} (h : Below B a w) : Below B a w.drew := ⟨h.os, h.tape, h.output, h.size, h.block⟩
theorem str_size (l : List UInt8) : (str l).size = l.length := by simp [str, ByteArray.size]
theorem str_toList (l : List UInt8) : (str l).toList = l := by rw [ByteArray.toList_eq]; rfl
theorem str_ne (l : List UInt8) (h : l ≠ []) : (str l).toList.isEmpty = false := by rw [str_toList]; cases l <;> simp_all
theorem str_e : (str []).toList.isEmpty = true := by rw [str_toList]; rfl
def has3 (k : Int) : Value := .tuple #[.bool (hasT k).1, .bool (hasT k).2.1, .bool (hasT k).2.2]
theorem kinds_or (k : Int) : (k = 5 ∨ k = 6 ∨ k = 7 ∨ k = 8 ∨ k = 9 ∨ k = 10 ∨ k = 11 ∨ k = 12 ∨ k = 13 ∨ k = 14 ∨ k = 15 ∨ k = 16 ∨ k = 17) ∨ (k ≠ 5 ∧ k ≠ 6 ∧ k ≠ 7 ∧ k ≠ 8 ∧ k ≠ 9 ∧ k ≠ 10 ∧ k ≠ 11 ∧ k ≠ 12 ∧ k ≠ 13 ∧ k ≠ 14 ∧ k ≠ 15 ∧ k ≠ 16 ∧ k ≠ 17) := by omega
theorem hasT_none {k : Int} (h : k ≠ 5 ∧ k ≠ 6 ∧ k ≠ 7 ∧ k ≠ 8 ∧ k ≠ 9 ∧ k ≠ 10 ∧ k ≠ 11 ∧ k ≠ 12 ∧ k ≠ 13 ∧ k ≠ 14 ∧ k ≠ 15 ∧ k ≠ 16 ∧ k ≠ 17) : has3 k = .tuple #[.bool false, .bool false, .bool false] := by
  unfold has3 hasT
  rw [if_neg (by omega), if_neg (by omega), if_neg (by omega), if_neg (by omega)]
theorem has30 (k : Int) (w : World) : Calls Tryz.prog 30 #[.int .i64 k] w fun e w' => e = .returned (has3 k) ∧ w' = w := by
  rcases kinds_or k with (rfl | rfl | rfl | rfl | rfl | rfl | rfl | rfl | rfl | rfl | rfl | rfl | rfl) | h
  all_goals try
    go_enter Tryz.func30, Tryz.ntmps30
    go_wp2_with fail
    exact bodyPost_ret (results_tmp3 rfl _ _ _) rfl ⟨rfl, rfl⟩
  rw [hasT_none h]
  obtain ⟨h1, h2, h3, h4, h5, h6, h7, h8, h9, h10, h11, h12, h13⟩ := h
  go_enter Tryz.func30, Tryz.ntmps30
  go_wp2_with fail
  exact bodyPost_ret (results_tmp3 rfl _ _ _) rfl ⟨rfl, rfl⟩
theorem parts35 (k : Int) (w : World) : Calls Tryz.prog 35 #[.int .i64 k] w fun e w' => e = .returned (has3 k) ∧ w' = w := by
  rcases kinds_or k with (rfl | rfl | rfl | rfl | rfl | rfl | rfl | rfl | rfl | rfl | rfl | rfl | rfl) | h
  all_goals try
    go_enter Tryz.func35, Tryz.ntmps35
    go_wp2_with fail
    exact bodyPost_ret (results_tmp3 rfl _ _ _) rfl ⟨rfl, rfl⟩
  rw [hasT_none h]
  have b6 : (k == 6) = false := by rw [beq_eq_false_iff_ne]; omega
  have b8 : (k == 8) = false := by rw [beq_eq_false_iff_ne]; omega
  have b9 : (k == 9) = false := by rw [beq_eq_false_iff_ne]; omega
  have b10 : (k == 10) = false := by rw [beq_eq_false_iff_ne]; omega
  have b11 : (k == 11) = false := by rw [beq_eq_false_iff_ne]; omega
  have b12 : (k == 12) = false := by rw [beq_eq_false_iff_ne]; omega
  have b16 : (k == 16) = false := by rw [beq_eq_false_iff_ne]; omega
  have b17 : (k == 17) = false := by rw [beq_eq_false_iff_ne]; omega
  by_cases q : 5 ≤ k
  · have q2 : ¬ k ≤ 17 := by omega
    go_enter Tryz.func35, Tryz.ntmps35
    go_wp2_with fail
    exact bodyPost_ret (results_tmp3 rfl _ _ _) rfl ⟨rfl, rfl⟩
  · go_enter Tryz.func35, Tryz.ntmps35
    go_wp2_with fail
    exact bodyPost_ret (results_tmp3 rfl _ _ _) rfl ⟨rfl, rfl⟩
theorem grave10 (k : Int) (w : World) : Calls Tryz.prog 10 #[.int .i64 k] w fun e w' => e = .returned (.bool (decide (1 ≤ k ∧ k ≤ 14))) ∧ w' = w := by
  by_cases h1 : 1 ≤ k
  · by_cases h2 : k ≤ 14
    · rw [show decide (1 ≤ k ∧ k ≤ 14) = true from decide_eq_true ⟨h1, h2⟩]
      go_enter Tryz.func10, Tryz.ntmps10
      go_wp2_with fail
      go_ret
      exact ⟨rfl, rfl⟩
    · rw [show decide (1 ≤ k ∧ k ≤ 14) = false from decide_eq_false (fun q => h2 q.2)]
      go_enter Tryz.func10, Tryz.ntmps10
      go_wp2_with fail
      go_ret
      exact ⟨rfl, rfl⟩
  · rw [show decide (1 ≤ k ∧ k ≤ 14) = false from decide_eq_false (fun q => h1 q.1)]
    go_enter Tryz.func10, Tryz.ntmps10
    go_wp2_with fail
    go_ret
    exact ⟨rfl, rfl⟩
theorem grave11 (k : Int) (w : World) : Calls Tryz.prog 11 #[.int .i64 k] w fun e w' => e = .returned (.bool (decide (1 ≤ k ∧ k ≤ 14))) ∧ w' = w := by
  by_cases h1 : 1 ≤ k
  · by_cases h2 : k ≤ 14
    · rw [show decide (1 ≤ k ∧ k ≤ 14) = true from decide_eq_true ⟨h1, h2⟩]
      go_enter Tryz.func11, Tryz.ntmps11
      go_wp2_with fail
      go_ret
      exact ⟨rfl, rfl⟩
    · rw [show decide (1 ≤ k ∧ k ≤ 14) = false from decide_eq_false (fun q => h2 q.2)]
      go_enter Tryz.func11, Tryz.ntmps11
      go_wp2_with fail
      go_ret
      exact ⟨rfl, rfl⟩
  · rw [show decide (1 ≤ k ∧ k ≤ 14) = false from decide_eq_false (fun q => h1 q.1)]
    go_enter Tryz.func11, Tryz.ntmps11
    go_wp2_with fail
    go_ret
    exact ⟨rfl, rfl⟩
def fdV (f : Fd) : Array Value := #[.int .i64 f.k, .int .u32 f.id, .string (str f.nm), .int .i64 f.at_]
theorem decide_congr {p q : Prop} [Decidable p] [Decidable q] (h : p ↔ q) : decide p = decide q := by simp [h]
set_option maxHeartbeats 4000000 in
theorem may29 (k : Int) (id : Nat) (nm : List UInt8) (a : Int) (w : World) : Calls Tryz.prog 29 #[.agg (fdV ⟨k, id, nm, a⟩)] w fun e w' => e = .returned (.bool (decide (mayP ⟨k, id, nm, a⟩))) ∧ Below w.heap.size w w' := by
  unfold fdV
  simp only
  have HB : Hid (Below w.heap.size w (w.alloc (.cells #[.int .i64 k, .int .u32 (id : Nat), .string (str nm), .int .i64 a] 25))) := Lib.hid ((Below.refl _ _).alloc (Nat.le_refl _) _)
  have HC := Lib.hid (has30 k (w.alloc (.cells #[.int .i64 k, .int .u32 (id : Nat), .string (str nm), .int .i64 a] 25)))
  have hsz := str_size nm
  by_cases h1 : 1 ≤ k
  · by_cases h2 : k ≤ 17
    · by_cases h3 : 0 ≤ a
      · by_cases h4 : nm.length ≤ 48
        · have h1' : ¬ k < 1 := by omega
          have h2' : ¬ 17 < k := by omega
          have h3' : ¬ a < 0 := by omega
          have h4' : ¬ 48 < (nm.length : Int) := by omega
          unfold has3 at HC
          have HM : mayP ⟨k, id, nm, a⟩ ↔ ((hasT k).1 = decide (id ≠ 0) ∧ (hasT k).2.1 = decide (nm ≠ []) ∧ ((hasT k).2.2 = false → a = 0)) := ⟨fun q => q.2.2.2.2, fun q => ⟨h1, h2, h3, h4, q⟩⟩
          rw [decide_congr HM]
          clear HM
          generalize hasT k = T at *
          obtain ⟨x, y, z⟩ := T
          simp only at HC ⊢
          obtain ⟨u, hu⟩ : ∃ u, u = decide (id ≠ 0) := ⟨_, rfl⟩
          obtain ⟨v, hv⟩ : ∃ v, v = decide (nm ≠ []) := ⟨_, rfl⟩
          obtain ⟨p, hp⟩ : ∃ p, p = decide (a = 0) := ⟨_, rfl⟩
          have hG : decide (x = decide (id ≠ 0) ∧ y = decide (nm ≠ []) ∧ (z = false → a = 0)) = ((x == u) && ((y == v) && (z || p))) := by
            rw [← hu, ← hv]
            cases x <;> cases u <;> cases y <;> cases v <;> cases z <;> simp [hp]
          rw [hG]
          clear hG
          have iu : ((id : Int) != 0) = u := by
            rw [hu]
            by_cases q : id = 0
            · subst q; rfl
            · rw [decide_eq_true q, bne_iff_ne]; omega
          have ip : (a == 0) = p := by
            rw [hp]
            by_cases q : a = 0
            · subst q; rfl
            · rw [decide_eq_false q, beq_eq_false_iff_ne]; exact q
          have iv : (!(str nm).toList.isEmpty) = v := by
            rw [hv, str_toList]
            cases nm <;> rfl
          clear hu hv hp
          go_enter Tryz.func29, Tryz.ntmps29
          go_wp2_with fail
          refine Calls.mono HC.out ?_
          rintro _ W2 ⟨rfl, rfl⟩
          go_upto_region 4 with fail
          cases x <;> cases u
          all_goals try
            go_wp2_with fail
            go_ret
            exact ⟨rfl, HB.out⟩
          all_goals cases y
          all_goals cases v
          all_goals try
            go_wp2_with fail
            go_ret
            exact ⟨rfl, HB.out⟩
          all_goals cases z
          all_goals cases p
          all_goals
            go_wp2_with fail
            go_ret
            exact ⟨rfl, HB.out⟩
        · have h1' : ¬ k < 1 := by omega
          have h2' : ¬ 17 < k := by omega
          have h3' : ¬ a < 0 := by omega
          have h4' : 48 < (nm.length : Int) := by omega
          rw [show decide (mayP ⟨k, id, nm, a⟩) = false from decide_eq_false (fun q => h4 q.2.2.2.1)]
          unfold has3 at HC
          go_enter Tryz.func29, Tryz.ntmps29
          go_wp2_with fail
          refine Calls.mono HC.out ?_
          rintro _ W2 ⟨rfl, rfl⟩
          go_wp2_with fail
          go_ret
          exact ⟨rfl, HB.out⟩
      · have h1' : ¬ k < 1 := by omega
        have h2' : ¬ 17 < k := by omega
        have h3' : a < 0 := by omega
        rw [show decide (mayP ⟨k, id, nm, a⟩) = false from decide_eq_false (fun q => h3 q.2.2.1)]
        unfold has3 at HC
        go_enter Tryz.func29, Tryz.ntmps29
        go_wp2_with fail
        refine Calls.mono HC.out ?_
        rintro _ W2 ⟨rfl, rfl⟩
        go_wp2_with fail
        go_ret
        exact ⟨rfl, HB.out⟩
    · have h1' : ¬ k < 1 := by omega
      have h2' : 17 < k := by omega
      rw [show decide (mayP ⟨k, id, nm, a⟩) = false from decide_eq_false (fun q => h2 q.2.1)]
      unfold has3 at HC
      go_enter Tryz.func29, Tryz.ntmps29
      go_wp2_with fail
      refine Calls.mono HC.out ?_
      rintro _ W2 ⟨rfl, rfl⟩
      go_wp2_with fail
      go_ret
      exact ⟨rfl, HB.out⟩
  · have h1' : k < 1 := by omega
    rw [show decide (mayP ⟨k, id, nm, a⟩) = false from decide_eq_false (fun q => h1 q.1)]
    unfold has3 at HC
    go_enter Tryz.func29, Tryz.ntmps29
    go_wp2_with fail
    refine Calls.mono HC.out ?_
    rintro _ W2 ⟨rfl, rfl⟩
    go_wp2_with fail
    go_ret
    exact ⟨rfl, HB.out⟩
end Go.Proofs.YtocfhldmnbmapaaGreatDoor
