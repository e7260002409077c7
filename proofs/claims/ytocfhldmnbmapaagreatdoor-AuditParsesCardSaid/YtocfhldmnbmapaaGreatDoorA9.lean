/- The walk over the reference's number. -/
import Derived.Test.YtocfhldmnbmapaaGreatDoorA7
namespace Go.Proofs.YtocfhldmnbmapaaGreatDoor
open Go.RowKit
theorem own_one (W : World) (c : UInt8) : (W.alloc (.cells #[.int .u8 (c.toNat : Int)] 5)).ownsRow W.heap.size 5 1 (.slice (some ⟨W.heap.size, 0, none⟩) 1 1) 1 (bytesV [c]) :=
  ⟨rfl, .inr ⟨W.heap.size, 1, #[.int .u8 (c.toNat : Int)], rfl, Nat.le_refl _, heap_alloc_new _ _, Nat.le_refl _, by simp [maxLen], rfl, rfl⟩⟩
set_option maxRecDepth 100000 in
set_option maxHeartbeats 1000000 in
theorem rnumber42 : ∀ (n : Nat), n < 4294967296 → ∀ w, Calls Tryz.prog 42 #[.int .i64 (n : Nat)] w fun e w' => e = .returned (.string (str (Lib.decDigits n))) ∧ Below w.heap.size w w' := by
  intro n
  induction n using Nat.strongRecOn with
  | _ n ih =>
    intro hn w
    obtain ⟨c, hc⟩ : ∃ c : UInt8, c = UInt8.ofNat (48 + n % 10) := ⟨_, rfl⟩
    have hcv : (c.toNat : Int) = 48 + (n : Int) % 10 := by
      rw [hc, UInt8.toNat_ofNat']
      have : (48 + n % 10) % 2 ^ 8 = 48 + n % 10 := Nat.mod_eq_of_lt (by omega)
      omega
    have w0 : IntKind.u8.wrap (c.toNat : Int) = (c.toNat : Int) := by rw [IntKind.wrap_u8]; omega
    by_cases h : n < 10
    · have hi : (n : Int) < 10 := by omega
      have w1 : IntKind.i64.wrap (48 + (n : Int)) = (c.toNat : Int) := by rw [IntWalk.i64_in _ (by omega)]; omega
      have HC := Lib.hid (conv_own (own_one w c))
      have HE : Hid (Lib.decDigits n = [c]) := Lib.hid (by rw [Lib.decDigits_one h, hc, Nat.mod_eq_of_lt h])
      have HB : Hid (Below w.heap.size w (w.alloc (.cells #[.int .u8 (c.toNat : Int)] 5))) := Lib.hid ((Below.refl _ _).alloc (Nat.le_refl _) _)
      have hcq := HC.out
      rw [HE.out]
      clear hc hcv ih
      go_enter Tryz.func42, Tryz.ntmps42
      go_wp2_with fail
      go_ret
      exact ⟨rfl, HB.out⟩
    · have hi : ¬ (n : Int) < 10 := by omega
      have w2 : IntKind.i64.wrap (Int.tdiv (n : Int) 10) = ((n / 10 : Nat) : Int) := by rw [Int.tdiv_eq_ediv_of_nonneg (by omega), IntWalk.i64_in _ (by omega)]; omega
      have w2' : IntKind.i64.wrap ((n : Int) / 10) = ((n / 10 : Nat) : Int) := by rw [IntWalk.i64_in _ (by omega)]; omega
      have w3 : IntKind.i64.wrap (48 + Int.tmod (n : Int) 10) = (c.toNat : Int) := by rw [Int.tmod_eq_emod_of_nonneg (by omega), IntWalk.i64_in _ (by omega)]; omega
      have w3' : IntKind.i64.wrap (48 + (n : Int) % 10) = (c.toNat : Int) := by rw [IntWalk.i64_in _ (by omega)]; omega
      have HE : Hid (Lib.decDigits n = Lib.decDigits (n / 10) ++ [c]) := Lib.hid (by rw [hc]; conv => lhs; rw [Lib.decDigits, dif_neg h])
      have HIH := Lib.hid (fun W => ih (n / 10) (by omega) (by omega) W)
      have hdl : (Lib.decDigits (n / 10)).length ≤ 10 := by
        rw [Lib.decDigits_length]
        have key : ∀ (k u : Nat), u < 10 ^ k → 1 ≤ k → Lib.nDigits u ≤ k := by
          intro k
          induction k with
          | zero => intro u _ h; omega
          | succ k ih =>
            intro u hu _
            by_cases q : u < 10
            · rw [Lib.nDigits_small q]; omega
            · rw [Lib.nDigits_big q]
              rw [Nat.pow_succ] at hu
              have hk : 1 ≤ k := by
                cases k with
                | zero => simp at hu; omega
                | succ k => omega
              have := ih (u / 10) (by omega) hk
              omega
        exact key 10 _ (by omega) (by omega)
      rw [HE.out]
      generalize Lib.decDigits (n / 10) = D at *
      have n1 : ¬ 9223372036854775807 < (str D).size + (str [c]).size := by rw [str_size, str_size]; simp; omega
      have e1 : str D ++ str [c] = str (D ++ [c]) := str_app _ _
      generalize n / 10 = m at *
      clear hc hcv ih hn h
      have hcg : ∀ W : World, (convert 74 9 (.slice (some ⟨W.heap.size, 0, none⟩) 1 1)).run Tryz.prog (W.alloc (.cells #[.int .u8 (c.toNat : Int)] 5)) = .ok (.string (str [c])) (W.alloc (.cells #[.int .u8 (c.toNat : Int)] 5)) := fun W => conv_own (own_one W c)
      have hcd : (convert 74 9 (.slice (some ⟨w.heap.size, 0, none⟩) 1 1)).run Tryz.prog (w.alloc (.cells #[.int .u8 (c.toNat : Int)] 5)).drew = .ok (.string (str [c])) (w.alloc (.cells #[.int .u8 (c.toNat : Int)] 5)).drew := conv_own (w := (w.alloc (.cells #[.int .u8 (c.toNat : Int)] 5)).drew) (own_one w c)
      have HBD : Hid (Below w.heap.size w w.drew) := Lib.hid (below_drew (Below.refl _ _))
      have HBA : Hid (Below w.heap.size w (w.drew.alloc (.cells #[.int .u8 (c.toNat : Int)] 5))) := Lib.hid (HBD.out.alloc (Nat.le_refl _) _)
      go_enter Tryz.func42, Tryz.ntmps42
      go_wp2_with fail
      go_region_with (go_at_call 42; refine Calls.mono (HIH.out _) ?_; rintro e w1 ⟨rfl, hb1⟩; try (have hk : (convert 74 9 (.slice (some ⟨w.heap.size, 0, none⟩) 1 1)).run Tryz.prog w1 = .ok (.string (str [c])) w1 := conv_own (own_below (w := (w.alloc (.cells #[.int .u8 (c.toNat : Int)] 5)).drew) (own_one w c) hb1)))
      all_goals
        go_wp2_with fail
        go_ret
      all_goals first
        | exact ⟨rfl, (HBD.out.trans (hb1.mono HBD.out.size)).alloc (HBD.out.trans (hb1.mono HBD.out.size)).size _⟩
        | exact ⟨rfl, HBA.out.trans (hb1.mono HBA.out.size)⟩
end Go.Proofs.YtocfhldmnbmapaaGreatDoor
