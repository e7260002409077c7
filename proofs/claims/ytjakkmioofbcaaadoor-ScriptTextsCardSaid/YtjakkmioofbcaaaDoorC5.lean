/- The walks over the reference's line, Line. -/
import Derived.Test.YtjakkmioofbcaaaDoorC4
namespace Go.Proofs.YtjakkmioofbcaaaDoor
open Go.RowKit
set_option maxRecDepth 100000 in
set_option maxHeartbeats 4000000 in
theorem rline21 (s : St) (A : Option Addr) (cap : Nat) (w : World) (hk : Kp w (.slice A s.kp.length cap) s.kp) (hf : Fits s) (h1 : 1 ≤ s.k ∧ s.k ≤ 4) (h2 : s.k = 2 → 0 ≤ s.n ∧ s.n ≤ 2147483647) (h4 : s.k = 4 → ∀ i, 0 ≤ s.c i ∧ s.c i ≤ 2147483647) :
    Calls Tryd.prog 37 #[.agg (s.A (.slice A s.kp.length cap))] w fun e w' => e = .returned (.string (str (lineL s))) ∧ Below w.heap.size w w' := by
  obtain ⟨k, op, nm, dt, n, kp, c⟩ := s
  simp only [St.A, Fits] at *
  rw [stA_eq]
  obtain ⟨f1, f2, f3⟩ := hf
  have HB0 : Hid (Below w.heap.size w (w.alloc (.cells (stL k op nm dt n (.slice A kp.length cap) c).toArray 44))) := Lib.hid ((Below.refl _ _).alloc (Nat.le_refl _) _)
  have HBX : Hid (∀ w', Below (w.heap.size + 1) (w.alloc (.cells (stL k op nm dt n (.slice A kp.length cap) c).toArray 44)) w' → BoxAt w' w.heap.size k op nm dt n (.slice A kp.length cap) (stL k op nm dt n (.slice A kp.length cap) c) (cfL c)) := Lib.hid (fun w' hb => boxAt_of ((hb.block w.heap.size (by omega)).trans (heap_alloc_new w _)))
  have HIC : Hid ((Tryd.prog.info? 23).map (·.size) = some (cfL c).length) := Lib.hid info28
  have HKP : Hid (∀ w', Below w.heap.size w w' → Kp w' (.slice A kp.length cap) kp) := Lib.hid (fun w' hb => hk.below hb)
  have HNM : Hid (∀ w, Calls Tryd.prog 35 #[.agg (cfL c).toArray] w fun e w' => ∃ v, e = .returned v ∧ Is w' v (cfI c) ∧ Below w.heap.size w w') := Lib.hid (fun w => rnumbers29 c w)
  clear hk
  generalize stL k op nm dt n (.slice A kp.length cap) c = L at *
  generalize cfL c = CL at *
  obtain ⟨b0, b1, b2, b3, b4, b5, r0, r6⟩ := HBX.out (w.alloc (.cells L.toArray 44)) (Below.refl _ _)
  have HR6 := Lib.hid r6
  clear r0 r6
  have HW := Lib.hid (rword14 op (w.alloc (.cells L.toArray 44)))
  have hc : k = 1 ∨ k = 2 ∨ k = 3 ∨ k = 4 := by omega
  clear h1
  rcases hc with rfl | rfl | rfl | rfl
  · have e0 : lineL ⟨1, op, nm, dt, n, kp, c⟩ = callL op nm dt := rfl
    rw [e0]
    clear e0 h2 h4
    by_cases o1 : op = 1 ∨ op = 5 ∨ op = 6
    · have HCL : Hid (wordL op ++ 32 :: dig nm = callL op nm dt) := Lib.hid (by rw [callL, if_neg (by omega), if_pos o1])
      have hn : decide (op = 1 ∨ op = 5 ∨ op = 6) = true := by simpa using o1
      have HN : Hid (∀ w, Calls Tryd.prog 60 #[.int .i64 op] w fun e w' => e = .returned (.bool true) ∧ w' = w) := Lib.hid (fun w => by rw [← hn]; exact rnamed39 op w)
      clear hn o1
      have hs1 := size_ok (wordL op) [32] (by have := wordL_len op; simp; omega)
      have hs2 := size_ok (wordL op ++ [32]) (dig nm) (by have := dig_len nm; have := wordL_len op; simp; omega)
      have q1 : str (wordL op) ++ (⟨#[32]⟩ : ByteArray) = str (wordL op ++ [32]) := str_append (wordL op) [32]
      go_enter Tryd.func37, Tryd.ntmps37
      go_wp2_with (first
        | (go_at_call 59; refine HW.out.mono ?_; rintro e w2 ⟨rfl, hb⟩; have HB2 : Hid (Below (w.heap.size + 1) (w.alloc (.cells L.toArray 44)) w2) := Lib.hid (hb.mono (by simp)); obtain ⟨c0, c1, c2, c3, c4, c5, _, _⟩ := HBX.out w2 HB2.out; clear hb)
        | (go_at_call 60; refine (HN.out _).mono ?_; rintro e w3 ⟨rfl, rfl⟩)
        | (go_at_call 61; refine (rdigits40 nm (by omega) _).mono ?_; rintro e w4 ⟨rfl, hb4⟩))
      go_ret
      exact ⟨by rw [← HCL.out, cat2]; simp, (HB0.out.trans (HB2.out.mono (by omega))).trans (hb4.mono (HB0.out.trans (HB2.out.mono (by omega))).size)⟩
    · have hn : decide (op = 1 ∨ op = 5 ∨ op = 6) = false := by simpa using o1
      have HN : Hid (∀ w, Calls Tryd.prog 60 #[.int .i64 op] w fun e w' => e = .returned (.bool false) ∧ w' = w) := Lib.hid (fun w => by rw [← hn]; exact rnamed39 op w)
      clear hn
      by_cases o2 : op = 2
      · have HCL : Hid (wordL op ++ 32 :: dig dt = callL op nm dt) := Lib.hid (by rw [callL, if_pos o2])
        have e2 : (op == 2) = true := by simpa using o2
        clear o1 o2
        have hs1 := size_ok (wordL op) [32] (by have := wordL_len op; simp; omega)
        have hs2 := size_ok (wordL op ++ [32]) (dig dt) (by have := dig_len dt; have := wordL_len op; simp; omega)
        have q1 : str (wordL op) ++ (⟨#[32]⟩ : ByteArray) = str (wordL op ++ [32]) := str_append (wordL op) [32]
        go_enter Tryd.func37, Tryd.ntmps37
        go_wp2_with (first
          | (go_at_call 59; refine HW.out.mono ?_; rintro e w2 ⟨rfl, hb⟩; have HB2 : Hid (Below (w.heap.size + 1) (w.alloc (.cells L.toArray 44)) w2) := Lib.hid (hb.mono (by simp)); obtain ⟨c0, c1, c2, c3, c4, c5, _, _⟩ := HBX.out w2 HB2.out; clear hb)
          | (go_at_call 60; refine (HN.out _).mono ?_; rintro e w3 ⟨rfl, rfl⟩)
          | (go_at_call 61; refine (rdigits40 dt (by omega) _).mono ?_; rintro e w4 ⟨rfl, hb4⟩))
        go_ret
        exact ⟨by rw [← HCL.out, cat2]; simp, (HB0.out.trans (HB2.out.mono (by omega))).trans (hb4.mono (HB0.out.trans (HB2.out.mono (by omega))).size)⟩
      · have HCL : Hid (wordL op = callL op nm dt) := Lib.hid (by rw [callL, if_neg o2, if_neg o1, List.append_nil])
        have e2 : (op == 2) = false := by simpa using o2
        clear o1 o2
        go_enter Tryd.func37, Tryd.ntmps37
        go_wp2_with (first
          | (go_at_call 59; refine HW.out.mono ?_; rintro e w2 ⟨rfl, hb⟩; have HB2 : Hid (Below (w.heap.size + 1) (w.alloc (.cells L.toArray 44)) w2) := Lib.hid (hb.mono (by simp)); obtain ⟨c0, c1, c2, c3, c4, c5, _, _⟩ := HBX.out w2 HB2.out; clear hb)
          | (go_at_call 60; refine (HN.out _).mono ?_; rintro e w3 ⟨rfl, rfl⟩))
        go_ret
        exact ⟨by rw [← HCL.out]; rfl, HB0.out.trans (HB2.out.mono (by omega))⟩
  · obtain ⟨n0, n1⟩ := h2 rfl
    clear h4
    have HN := Lib.hid (rnumber41i n n0 n1)
    clear h2
    have hs1 := size_ok (fuseW ++ [32]) (digs n.toNat) (by have := digs_len10 n.toNat (by omega); simp [fuseW]; omega)
    go_enter Tryd.func37, Tryd.ntmps37
    go_wp2_with (first
      | (go_at_call 62; refine (HN.out _).mono ?_; rintro e w2 ⟨rfl, hb⟩))
    go_ret
    exact ⟨by rw [show (⟨#[102, 117, 115, 101, 32]⟩ : ByteArray) = str (fuseW ++ [32]) from rfl, cat2]; simp [lineL], HB0.out.trans (hb.mono HB0.out.size)⟩
  · clear h2 h4
    have hs1 := size_ok (powerW ++ [32]) (tru kp) (by have := tru_len kp; simp [powerW]; omega)
    have HT := Lib.hid (rtruths42 _ kp (by omega) _ (HKP.out _ HB0.out))
    go_enter Tryd.func37, Tryd.ntmps37
    go_wp2_with (first
      | (go_at_call 63; refine HT.out.mono ?_; rintro e w2 ⟨rfl, hb⟩))
    go_ret
    exact ⟨by rw [show (⟨#[112, 111, 119, 101, 114, 32]⟩ : ByteArray) = str (powerW ++ [32]) from rfl, cat2]; simp [lineL], HB0.out.trans (hb.mono HB0.out.size)⟩
  · have h4' := h4 rfl
    clear h2 h4
    have HF : Hid (∀ x ∈ cfI c, 0 ≤ x ∧ x ≤ 2147483647) := Lib.hid (fun x hx => by rw [cfI_eq] at hx; obtain ⟨i, _, rfl⟩ := List.mem_map.1 hx; exact h4' i)
    have hs1 := size_ok confW (32 :: joinL (setL c)) (by have := setL_small c h4'; simp [confW]; omega)
    have q1 : str (allL (cfI c)) = str (32 :: joinL (setL c)) := by rw [all_set]
    have HAL : Hid (∀ w v, Is w v (cfI c) → Calls Tryd.prog 45 #[v] w fun e w' => e = .returned (.string (str (32 :: joinL (setL c)))) ∧ Below w.heap.size w w') := Lib.hid (fun w v h => by rw [← all_set]; exact rall43 v (cfI c) (by simp [cfI]) HF.out w h)
    clear q1 h4'
    have hs3 : ¬ 9223372036854775807 < (⟨#[99, 111, 110, 102]⟩ : ByteArray).size + (str (32 :: joinL (setL c))).size := hs1
    go_enter Tryd.func37, Tryd.ntmps37
    go_wp2_with (first
      | ((with_reducible refine wpList_load_midg (op := ⟨some 48, _, _, _, _, _⟩) ?_ 23 (.tmp 47) rfl w.heap.size 6 ?_ CL _ HR6.out Tryd.underlying23 rfl HIC.out ?_); kernel_rfl; rfl)
      | (go_at_call 35; refine (HNM.out _).mono ?_; rintro e w2 ⟨v, rfl, hi, hb⟩; have HIS := Lib.hid hi; have HB2 := Lib.hid hb; clear hi hb)
      | (go_at_call 45; refine (HAL.out _ _ HIS.out).mono ?_; rintro e w3 ⟨rfl, hb3⟩))
    go_ret
    exact ⟨by rw [show (⟨#[99, 111, 110, 102]⟩ : ByteArray) = str confW from rfl, cat2]; simp [lineL], (HB0.out.trans (HB2.out.mono HB0.out.size)).trans (hb3.mono (HB0.out.trans (HB2.out.mono HB0.out.size)).size)⟩
end Go.Proofs.YtjakkmioofbcaaaDoor
