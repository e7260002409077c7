/- The walk over the reference's Parse. -/
import Derived.Test.YtjakkmioofbcaaaDoorE4
namespace Go.Proofs.YtjakkmioofbcaaaDoor
open Go.RowKit
def rparseP (l : List UInt8) : Option St := if mayR (guessP (splitL 32 l)) = true ∧ lineL (guessP (splitL 32 l)) = l then some (guessP (splitL 32 l)) else none
theorem mayR_ok {s : St} (h : mayR s = true) : (1 ≤ s.k ∧ s.k ≤ 4) ∧ (s.k = 2 → 0 ≤ s.n ∧ s.n ≤ 2147483647) ∧ (s.k = 4 → ∀ i, 0 ≤ s.c i ∧ s.c i ≤ 2147483647) := by
  unfold mayR at h
  split at h
  · rename_i hk; exact ⟨by omega, fun e => by omega, fun e => by omega⟩
  · split at h
    · rename_i _ hk
      simp only [Bool.and_eq_true, decide_eq_true_eq] at h
      exact ⟨by omega, fun _ => ⟨h.1.2, by have := h.2; omega⟩, fun e => by omega⟩
    · split at h
      · exact ⟨by omega, fun e => by omega, fun e => by omega⟩
      · split at h
        · simp only [Bool.and_eq_true] at h
          rw [fit_small] at h
          exact ⟨by omega, fun e => by omega, fun _ => small_spec h.2⟩
        · cases h
set_option maxRecDepth 100000 in
set_option maxHeartbeats 2000000 in
theorem rparse8 (l : List UInt8) (hl : l.length ≤ 100000) (w : World) : Calls Tryd.prog 24 #[.string (str l)] w fun e w' => GiveSt w.heap.size ((rparseP l).getD zSt) e w' (.bool (rparseP l).isSome) ∧ Below w.heap.size w w' := by
  have HIZ : Hid ((Tryd.prog.info? 44).map (·.size) = some (stL 0 0 [] [] 0 (.slice none 0 0) c0).toArray.size) := Lib.hid info30
  have HOZ : Hid ((stL 0 0 [] [] 0 (.slice none 0 0) c0).toArray.all (·.oneCell') = true) := Lib.hid (stL_one _ _ _ _ _ _ _ _ _)
  have HG1 : Hid ((w.alloc (.cells #[.int .i64 0, .int .i64 0, .string ⟨#[]⟩, .string ⟨#[]⟩, .int .i64 0, .slice none 0 0, .int .i64 0, .int .i64 0, .int .i64 0, .int .i64 0, .int .i64 0, .int .i64 0, .int .i64 0, .int .i64 0, .int .i64 0, .int .i64 0, .int .i64 0, .int .i64 0, .int .i64 0] 44)).heap[w.heap.size]? = some (.cells #[.int .i64 0, .int .i64 0, .string ⟨#[]⟩, .string ⟨#[]⟩, .int .i64 0, .slice none 0 0, .int .i64 0, .int .i64 0, .int .i64 0, .int .i64 0, .int .i64 0, .int .i64 0, .int .i64 0, .int .i64 0, .int .i64 0, .int .i64 0, .int .i64 0, .int .i64 0, .int .i64 0] 44 (0, 0))) := Lib.hid (heap_alloc_new w _)
  have HB1 : Hid (Below w.heap.size w (w.alloc (.cells #[.int .i64 0, .int .i64 0, .string ⟨#[]⟩, .string ⟨#[]⟩, .int .i64 0, .slice none 0 0, .int .i64 0, .int .i64 0, .int .i64 0, .int .i64 0, .int .i64 0, .int .i64 0, .int .i64 0, .int .i64 0, .int .i64 0, .int .i64 0, .int .i64 0, .int .i64 0, .int .i64 0] 44))) := Lib.hid ((Below.refl _ _).alloc (Nat.le_refl _) _)
  have HSZ1 : Hid ((w.alloc (.cells #[.int .i64 0, .int .i64 0, .string ⟨#[]⟩, .string ⟨#[]⟩, .int .i64 0, .slice none 0 0, .int .i64 0, .int .i64 0, .int .i64 0, .int .i64 0, .int .i64 0, .int .i64 0, .int .i64 0, .int .i64 0, .int .i64 0, .int .i64 0, .int .i64 0, .int .i64 0, .int .i64 0] 44)).heap.size = w.heap.size + 1) := Lib.hid (World.size_alloc _ _)
  have HW : Hid (Calls Tryd.prog 20 #[.string (str l), .int .u8 32] (w.alloc (.cells #[.int .i64 0, .int .i64 0, .string ⟨#[]⟩, .string ⟨#[]⟩, .int .i64 0, .slice none 0 0, .int .i64 0, .int .i64 0, .int .i64 0, .int .i64 0, .int .i64 0, .int .i64 0, .int .i64 0, .int .i64 0, .int .i64 0, .int .i64 0, .int .i64 0, .int .i64 0, .int .i64 0] 44)) fun e w' => ∃ v, e = .returned v ∧ w'.ownsRow (w.alloc (.cells #[.int .i64 0, .int .i64 0, .string ⟨#[]⟩, .string ⟨#[]⟩, .int .i64 0, .slice none 0 0, .int .i64 0, .int .i64 0, .int .i64 0, .int .i64 0, .int .i64 0, .int .i64 0, .int .i64 0, .int .i64 0, .int .i64 0, .int .i64 0, .int .i64 0, .int .i64 0, .int .i64 0] 44)).heap.size 9 1 v (splitL 32 l).length (strsV (splitL 32 l)) ∧ Below (w.alloc (.cells #[.int .i64 0, .int .i64 0, .string ⟨#[]⟩, .string ⟨#[]⟩, .int .i64 0, .slice none 0 0, .int .i64 0, .int .i64 0, .int .i64 0, .int .i64 0, .int .i64 0, .int .i64 0, .int .i64 0, .int .i64 0, .int .i64 0, .int .i64 0, .int .i64 0, .int .i64 0, .int .i64 0] 44)).heap.size (w.alloc (.cells #[.int .i64 0, .int .i64 0, .string ⟨#[]⟩, .string ⟨#[]⟩, .int .i64 0, .slice none 0 0, .int .i64 0, .int .i64 0, .int .i64 0, .int .i64 0, .int .i64 0, .int .i64 0, .int .i64 0, .int .i64 0, .int .i64 0, .int .i64 0, .int .i64 0, .int .i64 0, .int .i64 0] 44)) w') := Lib.hid (rsplit20 l 32 (by omega) _)
  have HWX := Lib.hid (splitL_sum 32 l)
  have HWN := Lib.hid (splitL_ne 32 l)
  have HLL := Lib.hid hl
  obtain ⟨s, hs⟩ : ∃ s, guessP (splitL 32 l) = s := ⟨_, rfl⟩
  have HSE := Lib.hid hs
  have HRP : Hid (rparseP l = if mayR s = true ∧ lineL s = l then some s else none) := Lib.hid (by rw [rparseP, hs])
  generalize rparseP l = RP at *
  clear hs
  go_enter Tryd.func24, Tryd.ntmps24
  go_wp2_with fail
  refine Calls.mono HW.out ?_
  rintro e w2 ⟨v, rfl, hown, hb2⟩
  have HWS := Lib.hid (Ws.of_own hown)
  have HB2 := Lib.hid hb2
  clear hown hb2
  go_wp2_with fail
  refine Calls.mono (rguess19 v (splitL 32 l) w2 HWS.out HWN.out (fun x hx => Nat.le_trans (HWX.out x hx) HLL.out)) ?_
  rw [HSE.out]
  rintro e w3 ⟨⟨A, cap, hkp, hfr, hfits, rfl⟩, hb3⟩
  have HKP := Lib.hid hkp
  have HFR : Hid (∀ a, A = some a → w.heap.size ≤ a.block) := Lib.hid (fun a ha => by have := hfr a ha; have := HB2.out.size; rw [HSZ1.out] at this; omega)
  clear hfr
  have HF := Lib.hid hfits
  have HB3 : Hid (Below (w.heap.size + 1) (w.alloc (.cells #[.int .i64 0, .int .i64 0, .string ⟨#[]⟩, .string ⟨#[]⟩, .int .i64 0, .slice none 0 0, .int .i64 0, .int .i64 0, .int .i64 0, .int .i64 0, .int .i64 0, .int .i64 0, .int .i64 0, .int .i64 0, .int .i64 0, .int .i64 0, .int .i64 0, .int .i64 0, .int .i64 0] 44)) w3) := Lib.hid ((HB2.out.mono (by simp)).trans (hb3.mono (by have := HB2.out.size; rw [HSZ1.out] at this; exact this)))
  have HLT3 : Hid (w.heap.size < w3.heap.size) := Lib.hid (by have := HB3.out.size; rw [HSZ1.out] at this; omega)
  have HMY : Hid (∀ w', Below w3.heap.size w3 w' → Calls Tryd.prog 36 #[.agg (s.L (.slice A s.kp.length cap)).toArray] w' fun e w'' => e = .returned (.bool (mayR s)) ∧ Below w'.heap.size w' w'') := Lib.hid (fun w' hb => rmay15 s A cap w' (hkp.below hb) hfits)
  have HLN : Hid (mayR s = true → ∀ w', Below w3.heap.size w3 w' → Calls Tryd.prog 37 #[.agg (s.L (.slice A s.kp.length cap)).toArray] w' fun e w'' => e = .returned (.string (str (lineL s))) ∧ Below w'.heap.size w' w'') := Lib.hid (fun hm w' hb => rline21 s A cap w' (hkp.below hb) hfits (mayR_ok hm).1 (mayR_ok hm).2.1 (mayR_ok hm).2.2)
  obtain ⟨L, hL⟩ : ∃ L, s.L (.slice A s.kp.length cap) = L := ⟨_, rfl⟩
  have HLE := Lib.hid hL
  have HIL : Hid ((Tryd.prog.info? 44).map (·.size) = some L.length) := Lib.hid (by rw [← hL]; exact info30)
  have HIL2 : Hid ((Tryd.prog.info? 44).map (·.size) = some L.toArray.size) := Lib.hid (by rw [← hL]; exact info30)
  have HOS : Hid ((#[.int .i64 0, .int .i64 0, .string ⟨#[]⟩, .string ⟨#[]⟩, .int .i64 0, .slice none 0 0, .int .i64 0, .int .i64 0, .int .i64 0, .int .i64 0, .int .i64 0, .int .i64 0, .int .i64 0, .int .i64 0, .int .i64 0, .int .i64 0, .int .i64 0, .int .i64 0, .int .i64 0] : Array Value).size = L.toArray.size) := Lib.hid (by rw [← hL]; rfl)
  have HOL : Hid (L.toArray.all (·.oneCell') = true) := Lib.hid (by rw [← hL]; exact stL_one _ _ _ _ _ _ _ _ _)
  have HB4 : Hid (Below w3.heap.size w3 (w3.alloc (.cells L.toArray 44))) := Lib.hid ((Below.refl _ _).alloc (Nat.le_refl _) _)
  have HRW : Hid (∀ W, Below (w3.heap.size + 1) (w3.alloc (.cells L.toArray 44)) W → W.rangeAt w3.heap.size 0 L) := Lib.hid (fun W hb => range_of_row ((hb.block w3.heap.size (by omega)).trans (heap_alloc_new w3 (.cells L.toArray 44))))
  have HRL := Lib.hid (HRW.out _ (Below.refl _ (w3.alloc (.cells L.toArray 44))))
  have HGW : Hid (∀ W, Below (w3.heap.size + 1) (w3.alloc (.cells L.toArray 44)) W → W.heap[w.heap.size]? = some (.cells #[.int .i64 0, .int .i64 0, .string ⟨#[]⟩, .string ⟨#[]⟩, .int .i64 0, .slice none 0 0, .int .i64 0, .int .i64 0, .int .i64 0, .int .i64 0, .int .i64 0, .int .i64 0, .int .i64 0, .int .i64 0, .int .i64 0, .int .i64 0, .int .i64 0, .int .i64 0, .int .i64 0] 44 (0, 0)) ∧ Below w.heap.size w W) := Lib.hid (fun W hb => ⟨(hb.block w.heap.size (by have := HLT3.out; omega)).trans ((Below.heap_alloc w3 _ _ HLT3.out).trans ((HB3.out.block w.heap.size (by omega)).trans HG1.out)), ((HB1.out.trans (HB3.out.mono (by omega))).alloc (Nat.le_of_lt HLT3.out) _).trans (hb.mono (by have := HLT3.out; omega))⟩)
  rw [hL] at HMY HLN ⊢
  clear hkp hfits hb3 hL
  cases hm : mayR s
  case false =>
    have HRQ : Hid (RP = none) := Lib.hid (by rw [HRP.out, if_neg (fun q => by rw [hm] at q; cases q.1)])
    have HMX : Hid (∀ w', Below w3.heap.size w3 w' → Calls Tryd.prog 36 #[.agg L.toArray] w' fun e w'' => e = .returned (.bool false) ∧ Below w'.heap.size w' w'') := Lib.hid (by have := HMY.out; rw [hm] at this; exact this)
    clear hm
    go_wp2_with (first
      | ((with_reducible refine wpList_store_new (op := ⟨none, _, _, _, _, _⟩) rfl 44 (.tmp 4) (.tmp 7) rfl w3.heap.size _ L.toArray rfl ?_ ?_ HIL2.out HOS.out HOL.out ?_); rfl; rfl)
      | ((with_reducible refine wpList_load_midg (op := ⟨some 8, _, _, _, _, _⟩) ?_ 44 (.tmp 4) rfl w3.heap.size 0 ?_ L _ HRL.out Tryd.underlying44 rfl HIL.out ?_); kernel_rfl; rfl)
      | (go_at_call 36; (with_reducible refine (HMX.out _ HB4.out).mono ?_); rintro e w5 ⟨rfl, hb5⟩; have HB5 : Hid (Below (w3.heap.size + 1) (w3.alloc (.cells L.toArray 44)) w5) := Lib.hid (hb5.mono (by simp)); have HR5 := Lib.hid (HRW.out _ HB5.out); have HG5 := Lib.hid (HGW.out _ HB5.out).1; have HBW5 := Lib.hid (HGW.out _ HB5.out).2; clear hb5)
      | ((with_reducible refine wpList_store_row (o := ⟨none, _, _, _, _, _⟩) rfl 44 (.tmp 2) (.tmp 17) rfl w.heap.size (stL 0 0 [] [] 0 (.slice none 0 0) c0).toArray ?_ ?_ 44 _ HG5.out HIZ.out rfl HOZ.out ?_); rfl; rfl))
    rw [HRQ.out]
    exact bodyPost_ret (results_row2 rfl _ _ w.heap.size 44 (stL 0 0 [] [] 0 (.slice none 0 0) c0).toArray (0, 0) _ rfl (setRow_heap _ _ _ _ _ _ HG5.out) Tryd.underlying44 rfl HIZ.out) rfl ⟨⟨none, 0, Kp.nil _, noA, ⟨by simp [zSt], by simp [zSt], by simp [zSt]⟩, rfl⟩, below_setRow HBW5.out (Nat.le_refl _) _⟩
  have HMX : Hid (∀ w', Below w3.heap.size w3 w' → Calls Tryd.prog 36 #[.agg L.toArray] w' fun e w'' => e = .returned (.bool true) ∧ Below w'.heap.size w' w'') := Lib.hid (by have := HMY.out; rw [hm] at this; exact this)
  have HLX := Lib.hid (HLN.out hm)
  by_cases hq : lineL s = l
  case neg =>
    have HRQ : Hid (RP = none) := Lib.hid (by rw [HRP.out, if_neg (fun q => hq q.2)])
    have hne : ((str (lineL s)).toList == (str l).toList) = false := by rw [str_beq]; simpa using hq
    clear hm hq
    generalize lineL s = ll at *
    go_wp2_with (first
      | ((with_reducible refine wpList_store_new (op := ⟨none, _, _, _, _, _⟩) rfl 44 (.tmp 4) (.tmp 7) rfl w3.heap.size _ L.toArray rfl ?_ ?_ HIL2.out HOS.out HOL.out ?_); rfl; rfl)
      | ((with_reducible refine wpList_load_midg (op := ⟨some 8, _, _, _, _, _⟩) ?_ 44 (.tmp 4) rfl w3.heap.size 0 ?_ L _ HRL.out Tryd.underlying44 rfl HIL.out ?_); kernel_rfl; rfl)
      | (go_at_call 36; (with_reducible refine (HMX.out _ HB4.out).mono ?_); rintro e w5 ⟨rfl, hb5⟩; have HB5 : Hid (Below (w3.heap.size + 1) (w3.alloc (.cells L.toArray 44)) w5) := Lib.hid (hb5.mono (by simp)); have HR5 := Lib.hid (HRW.out _ HB5.out); have HG5 := Lib.hid (HGW.out _ HB5.out).1; have HBW5 := Lib.hid (HGW.out _ HB5.out).2; clear hb5)
      | ((with_reducible refine wpList_load_midg (op := ⟨some 12, _, _, _, _, _⟩) ?_ 44 (.tmp 4) rfl w3.heap.size 0 ?_ L _ HR5.out Tryd.underlying44 rfl HIL.out ?_); kernel_rfl; rfl)
      | (go_at_call 37; (with_reducible refine (HLX.out _ (HB4.out.trans (HB5.out.mono (by omega)))).mono ?_); rintro e w6 ⟨rfl, hb6⟩; have HB6 : Hid (Below (w3.heap.size + 1) (w3.alloc (.cells L.toArray 44)) w6) := Lib.hid (HB5.out.trans (hb6.mono (by have := HB5.out.size; simpa using this))); have HR6 := Lib.hid (HRW.out _ HB6.out); have HG6 := Lib.hid (HGW.out _ HB6.out).1; have HBW6 := Lib.hid (HGW.out _ HB6.out).2; clear hb6)
      | ((with_reducible refine wpList_store_row (o := ⟨none, _, _, _, _, _⟩) rfl 44 (.tmp 2) (.tmp 17) rfl w.heap.size (stL 0 0 [] [] 0 (.slice none 0 0) c0).toArray ?_ ?_ 44 _ HG6.out HIZ.out rfl HOZ.out ?_); rfl; rfl))
    rw [HRQ.out]
    exact bodyPost_ret (results_row2 rfl _ _ w.heap.size 44 (stL 0 0 [] [] 0 (.slice none 0 0) c0).toArray (0, 0) _ rfl (setRow_heap _ _ _ _ _ _ HG6.out) Tryd.underlying44 rfl HIZ.out) rfl ⟨⟨none, 0, Kp.nil _, noA, ⟨by simp [zSt], by simp [zSt], by simp [zSt]⟩, rfl⟩, below_setRow HBW6.out (Nat.le_refl _) _⟩
  have HRQ : Hid (RP = some s) := Lib.hid (by rw [HRP.out, if_pos ⟨hm, hq⟩])
  have hne : ((str (lineL s)).toList == (str l).toList) = true := by rw [str_beq]; simpa using hq
  clear hm hq
  generalize lineL s = ll at *
  go_wp2_with (first
    | ((with_reducible refine wpList_store_new (op := ⟨none, _, _, _, _, _⟩) rfl 44 (.tmp 4) (.tmp 7) rfl w3.heap.size _ L.toArray rfl ?_ ?_ HIL2.out HOS.out HOL.out ?_); rfl; rfl)
    | ((with_reducible refine wpList_load_midg (op := ⟨some 8, _, _, _, _, _⟩) ?_ 44 (.tmp 4) rfl w3.heap.size 0 ?_ L _ HRL.out Tryd.underlying44 rfl HIL.out ?_); kernel_rfl; rfl)
    | (go_at_call 36; (with_reducible refine (HMX.out _ HB4.out).mono ?_); rintro e w5 ⟨rfl, hb5⟩; have HB5 : Hid (Below (w3.heap.size + 1) (w3.alloc (.cells L.toArray 44)) w5) := Lib.hid (hb5.mono (by simp)); have HR5 := Lib.hid (HRW.out _ HB5.out); have HG5 := Lib.hid (HGW.out _ HB5.out).1; have HBW5 := Lib.hid (HGW.out _ HB5.out).2; clear hb5)
    | ((with_reducible refine wpList_load_midg (op := ⟨some 12, _, _, _, _, _⟩) ?_ 44 (.tmp 4) rfl w3.heap.size 0 ?_ L _ HR5.out Tryd.underlying44 rfl HIL.out ?_); kernel_rfl; rfl)
    | (go_at_call 37; (with_reducible refine (HLX.out _ (HB4.out.trans (HB5.out.mono (by omega)))).mono ?_); rintro e w6 ⟨rfl, hb6⟩; have HB6 : Hid (Below (w3.heap.size + 1) (w3.alloc (.cells L.toArray 44)) w6) := Lib.hid (HB5.out.trans (hb6.mono (by have := HB5.out.size; simpa using this))); have HR6 := Lib.hid (HRW.out _ HB6.out); have HG6 := Lib.hid (HGW.out _ HB6.out).1; have HBW6 := Lib.hid (HGW.out _ HB6.out).2; clear hb6)
    | ((with_reducible refine wpList_load_midg (op := ⟨some 18, _, _, _, _, _⟩) ?_ 44 (.tmp 4) rfl w3.heap.size 0 ?_ L _ HR6.out Tryd.underlying44 rfl HIL.out ?_); kernel_rfl; rfl)
    | ((with_reducible refine wpList_store_row (o := ⟨none, _, _, _, _, _⟩) rfl 44 (.tmp 2) (.tmp 18) rfl w.heap.size L.toArray ?_ ?_ 44 _ HG6.out HIL2.out HOS.out HOL.out ?_); rfl; rfl))
  rw [HRQ.out]
  exact bodyPost_ret (results_row2 rfl _ _ w.heap.size 44 L.toArray (0, 0) _ rfl (setRow_heap _ _ _ _ _ _ HG6.out) Tryd.underlying44 rfl HIL2.out) rfl ⟨⟨A, cap, Kp.setRow (HKP.out.below (HB4.out.trans (HB6.out.mono (by omega)))) (zero_nobool HG6.out), HFR.out, HF.out, by rw [← HLE.out]; rfl⟩, below_setRow HBW6.out (Nat.le_refl _) _⟩
end Go.Proofs.YtjakkmioofbcaaaDoor
