/- The walk over awake. -/
import Derived.Test.YtnpgfhoagpeelaaBE
namespace Go.Proofs.Ytnpgfhoagpeelaa
open Go.RowKit
open Go.Maps
def h7 : Fp := 7 :: List.replicate 31 0
theorem h7_is : IsFp h7 := ⟨by simp [h7], fun b hb => by
  unfold h7 at hb
  rcases List.mem_cons.1 hb with rfl | hb
  · omega
  · rw [List.mem_replicate] at hb; omega⟩
set_option maxRecDepth 100000 in
theorem set_h7 : setF [h7] = [h7] := by rfl
set_option maxRecDepth 100000 in
theorem r1 : putsA 2 10 [] 1 [h7] = [(h7, [1])] := by rfl
set_option maxRecDepth 100000 in
theorem r2 : putsA 2 10 [(h7, [1])] 2 [h7] = [(h7, [2, 1])] := by decide +kernel
set_option maxRecDepth 100000 in
theorem r3 : putsA 2 10 [(h7, [2, 1])] 3 [h7] = [(h7, [3, 2])] := by decide +kernel
set_option maxRecDepth 100000 in
theorem r4 : peekA [(h7, [3, 2])] h7 = [3, 2] ∧ lookA [(h7, [3, 2])] h7 = [(h7, [3, 2])] := by decide +kernel
set_option maxRecDepth 100000 in
theorem r5 : dropA [(h7, [3, 2])] 3 = [(h7, [2])] := by decide +kernel
set_option maxRecDepth 100000 in
set_option maxHeartbeats 8000000 in
theorem awake8 (W : World) : Calls Try.prog 8 #[] W fun r W' => r = .returned (.bool true) ∧ Below W.heap.size W W' := by
  have HN := Lib.hid (new6 W 2 10 (by decide) (by decide))
  have HIX := Lib.hid (info29f h7_is)
  have HI2 : Hid ((Try.prog.info? 47).map (·.size) = some (fpL h7).toArray.size) := Lib.hid (by rw [List.size_toArray]; exact HIX.out)
  have HON : Hid ((fpL h7).toArray.all (·.oneCell') = true) := Lib.hid (all_oneCell_toArray fpL_one)
  have HFX : Hid ((fpL h7).length = 32) := Lib.hid (fpL_length h7_is)
  have HS2 : Hid ((#[Value.int .u8 0, Value.int .u8 0, Value.int .u8 0, Value.int .u8 0, Value.int .u8 0, Value.int .u8 0, Value.int .u8 0, Value.int .u8 0, Value.int .u8 0, Value.int .u8 0, Value.int .u8 0, Value.int .u8 0, Value.int .u8 0, Value.int .u8 0, Value.int .u8 0, Value.int .u8 0, Value.int .u8 0, Value.int .u8 0, Value.int .u8 0, Value.int .u8 0, Value.int .u8 0, Value.int .u8 0, Value.int .u8 0, Value.int .u8 0, Value.int .u8 0, Value.int .u8 0, Value.int .u8 0, Value.int .u8 0, Value.int .u8 0, Value.int .u8 0, Value.int .u8 0, Value.int .u8 0] : Array Value).size = (fpL h7).toArray.size) := Lib.hid (by rw [show (fpL h7).toArray.size = 32 by rw [List.size_toArray, HFX.out]]; rfl)
  have HAF : Hid (AllFp [h7]) := Lib.hid (fun f hf => by rw [List.mem_singleton] at hf; subst hf; exact h7_is)
  have HF := Lib.hid h7_is
  have HSET := Lib.hid set_h7
  have HR1 := Lib.hid r1
  have HR2 := Lib.hid r2
  have HR3 := Lib.hid r3
  have HR4 := Lib.hid r4
  have HR5 := Lib.hid r5
  have hh : (#[Value.int .u8 7, Value.int .u8 0, Value.int .u8 0, Value.int .u8 0, Value.int .u8 0, Value.int .u8 0, Value.int .u8 0, Value.int .u8 0, Value.int .u8 0, Value.int .u8 0, Value.int .u8 0, Value.int .u8 0, Value.int .u8 0, Value.int .u8 0, Value.int .u8 0, Value.int .u8 0, Value.int .u8 0, Value.int .u8 0, Value.int .u8 0, Value.int .u8 0, Value.int .u8 0, Value.int .u8 0, Value.int .u8 0, Value.int .u8 0, Value.int .u8 0, Value.int .u8 0, Value.int .u8 0, Value.int .u8 0, Value.int .u8 0, Value.int .u8 0, Value.int .u8 0, Value.int .u8 0] : Array Value) = (fpL h7).toArray := by rfl
  have HH := Lib.hid hh
  clear hh
  go_enter Try.func8, Try.ntmps8
  go_wp2_with fail
  refine Calls.mono HN.out ?_
  rintro _ W1 ⟨xb, rfl, hx⟩
  have HX := Lib.hid hx
  clear hx HN
  go_upto_region 5 with ((with_reducible refine wpList_store_new (op := ⟨none, .store _ _ _, _, _, _, _⟩) rfl 47 (.tmp 3) (.tmp 15) rfl _ (fpL h7).toArray ?_ ?_ HI2.out HS2.out HON.out ?_); rfl; rfl)
  have HB0 : Hid (Below W1.heap.size W1 (W1.alloc (.cells (fpL h7).toArray 47))) := Lib.hid ((Below.refl _ _).alloc (Nat.le_refl _) _)
  obtain ⟨TX, hx0, hTX, hback⟩ := HX.out.own2 HB0.out
  have HBK := Lib.hid hback
  have HX0 := Lib.hid hx0
  obtain ⟨b3, hb3⟩ : ∃ b3, b3 = W1.heap.size := ⟨_, rfl⟩
  have HBX : Hid (∀ W', Tn TX (W1.alloc (.cells (fpL h7).toArray 47)) W' → W'.heap[b3]? = some (.cells (fpL h7).toArray 47 (0, 0))) := Lib.hid (fun W' ht => by
    rw [ht.block b3 (by rw [hb3, World.size_alloc]; omega) (fun q => by have := (hTX b3 q).1; omega), hb3]
    exact heap_alloc_new _ _)
  have HAB0 : Hid (abE [] = []) := Lib.hid rfl
  rw [← hb3]
  clear hback hx0 hTX hb3 HX HB0
  generalize W1.alloc (.cells (fpL h7).toArray 47) = V0 at *
  have HRB1 := Lib.hid (box_range (HBX.out _ HX0.out.tn))
  have HBS1 : Hid (Below V0.heap.size V0 (V0.alloc (.cells (fpL h7).toArray 47))) := Lib.hid ((Below.refl _ _).alloc (Nat.le_refl _) _)
  have HFS1 : Hid (Fps (V0.alloc (.cells (fpL h7).toArray 47)) (some ⟨V0.heap.size, 0, none⟩) [h7]) := Lib.hid (fun _ => ⟨_, 0, rfl, by rw [World.size_alloc]; omega, by have := box_range (heap_alloc_new V0 (.cells (fpL h7).toArray 47)); simpa [fsL] using this⟩)
  have HC1 := Lib.hid (put12 (c := 1) (man := 1) (HX0.out.below HBS1.out) HFS1.out HAF.out (.inl (.inr ⟨_, _, rfl⟩)) (by simp) (by decide))
  go_wp2_with (first
    | ((with_reducible refine wpList_load_mid (op := ⟨some 17, _, _, _, _, _⟩) rfl 47 (.tmp 3) rfl b3 0 ?_ (fpL h7) _ HRB1.out Try.underlying47 rfl HIX.out ?_); rfl)
    | ((with_reducible refine wpList_build_one (op := ⟨some 18, _, _, _, _, _⟩) rfl 34 (.tmp 17) ?_ 47 32 _ (fpL h7) ?_ Try.underlying34 Try.sizeOf47 Try.zeroValue47 ?_ ?_ HFX.out ?_); rfl; rfl; decide; decide))
  refine Calls.mono HC1.out ?_
  rintro _ V1 ⟨rfl, E1, hx1, hab1⟩
  have HX1 := Lib.hid hx1
  rw [HSET.out, HAB0.out] at hab1
  have HAB1 : Hid (abE E1 = [(h7, [1])]) := Lib.hid (hab1.trans HR1.out)
  clear hx1 hab1 HRB1 HBS1 HFS1 HC1
  have HRB2 := Lib.hid (box_range (HBX.out _ HX1.out.tn))
  have HBS2 : Hid (Below V1.heap.size V1 (V1.alloc (.cells (fpL h7).toArray 47))) := Lib.hid ((Below.refl _ _).alloc (Nat.le_refl _) _)
  have HFS2 : Hid (Fps (V1.alloc (.cells (fpL h7).toArray 47)) (some ⟨V1.heap.size, 0, none⟩) [h7]) := Lib.hid (fun _ => ⟨_, 0, rfl, by rw [World.size_alloc]; omega, by have := box_range (heap_alloc_new V1 (.cells (fpL h7).toArray 47)); simpa [fsL] using this⟩)
  have HC2 := Lib.hid (put12 (c := 1) (man := 2) (HX1.out.below HBS2.out) HFS2.out HAF.out (.inl (.inr ⟨_, _, rfl⟩)) (by simp) (by decide))
  go_wp2_with (first
    | ((with_reducible refine wpList_load_mid (op := ⟨some 21, _, _, _, _, _⟩) rfl 47 (.tmp 3) rfl b3 0 ?_ (fpL h7) _ HRB2.out Try.underlying47 rfl HIX.out ?_); rfl)
    | ((with_reducible refine wpList_build_one (op := ⟨some 22, _, _, _, _, _⟩) rfl 34 (.tmp 21) ?_ 47 32 _ (fpL h7) ?_ Try.underlying34 Try.sizeOf47 Try.zeroValue47 ?_ ?_ HFX.out ?_); rfl; rfl; decide; decide))
  refine Calls.mono HC2.out ?_
  rintro _ V2 ⟨rfl, E2, hx2, hab2⟩
  have HX2 := Lib.hid hx2
  rw [HSET.out, HAB1.out] at hab2
  have HAB2 : Hid (abE E2 = [(h7, [2, 1])]) := Lib.hid (hab2.trans HR2.out)
  clear hx2 hab2 HRB2 HBS2 HFS2 HC2
  have HRB3 := Lib.hid (box_range (HBX.out _ HX2.out.tn))
  have HBS3 : Hid (Below V2.heap.size V2 (V2.alloc (.cells (fpL h7).toArray 47))) := Lib.hid ((Below.refl _ _).alloc (Nat.le_refl _) _)
  have HFS3 : Hid (Fps (V2.alloc (.cells (fpL h7).toArray 47)) (some ⟨V2.heap.size, 0, none⟩) [h7]) := Lib.hid (fun _ => ⟨_, 0, rfl, by rw [World.size_alloc]; omega, by have := box_range (heap_alloc_new V2 (.cells (fpL h7).toArray 47)); simpa [fsL] using this⟩)
  have HC3 := Lib.hid (put12 (c := 1) (man := 3) (HX2.out.below HBS3.out) HFS3.out HAF.out (.inl (.inr ⟨_, _, rfl⟩)) (by simp) (by decide))
  go_wp2_with (first
    | ((with_reducible refine wpList_load_mid (op := ⟨some 25, _, _, _, _, _⟩) rfl 47 (.tmp 3) rfl b3 0 ?_ (fpL h7) _ HRB3.out Try.underlying47 rfl HIX.out ?_); rfl)
    | ((with_reducible refine wpList_build_one (op := ⟨some 26, _, _, _, _, _⟩) rfl 34 (.tmp 25) ?_ 47 32 _ (fpL h7) ?_ Try.underlying34 Try.sizeOf47 Try.zeroValue47 ?_ ?_ HFX.out ?_); rfl; rfl; decide; decide))
  refine Calls.mono HC3.out ?_
  rintro _ V3 ⟨rfl, E3, hx3, hab3⟩
  have HX3 := Lib.hid hx3
  rw [HSET.out, HAB2.out] at hab3
  have HAB3 : Hid (abE E3 = [(h7, [3, 2])]) := Lib.hid (hab3.trans HR3.out)
  clear hx3 hab3 HRB3 HBS3 HFS3 HC3
  have hc := look15 HX3.out HF.out (by decide)
  unfold LookPost at hc
  rw [HAB3.out, HR4.out.1, HR4.out.2] at hc
  have HC15 := Lib.hid hc
  have HRB4 := Lib.hid (box_range (HBX.out _ HX3.out.tn))
  clear hc
  go_wp2_with ((with_reducible refine wpList_load_mid (op := ⟨some 29, _, _, _, _, _⟩) rfl 47 (.tmp 3) rfl b3 0 ?_ (fpL h7) _ HRB4.out Try.underlying47 rfl HIX.out ?_); rfl)
  refine Calls.mono HC15.out ?_
  rintro _ V4 ⟨B, d, E4, rfl, ho, hx4, hab4⟩
  have HX4 := Lib.hid hx4
  have HAB4 := Lib.hid hab4
  obtain ⟨g, cap, e1, _⟩ := own_some ho (fun q => by injection q with _ q _; cases q)
  injection e1 with e1 _ e3
  subst e1; subst e3
  have c0 : V4.cell? ⟨g, 0, none⟩ = some (.int .u32 3) := by have := World.ownsRow.cellAt ho 0 (by decide); rw [this]; rfl
  have c1 : V4.cell? ⟨g, 1, none⟩ = some (.int .u32 2) := by have := World.ownsRow.cellAt ho 1 (by decide); rw [this]; rfl
  have h11 := len11 hx4
  rw [hab4, show ((lnA [(h7, [3, 2])] : Nat) : Int) = 2 from rfl] at h11
  have HC11 := Lib.hid h11
  have h16 := drop16 (man := 3) hx4 (by decide)
  rw [hab4, HR5.out, show ((lnA [(h7, [3, 2])] : Nat) : Int) - ((lnA [(h7, [2])] : Nat) : Int) = 1 from rfl] at h16
  have HC16 := Lib.hid h16
  have hl2 : ([3, 2] : List Id).length = 2 := rfl
  rw [hl2]
  clear ho hx4 hab4 h11 h16 HC15 hl2 HRB4
  go_wp2_with fail
  refine Calls.mono HC11.out ?_
  rintro _ _ ⟨rfl, rfl⟩
  go_wp2_with fail
  refine Calls.mono HC16.out ?_
  rintro _ V5 ⟨rfl, E5, hx5, hab5⟩
  have HX5 := Lib.hid hx5
  have hl5 : (E5.map (·.h)).length = 1 := by have := congrArg List.length hab5; simpa [abE] using this
  have h17 := hooks17 hx5 (by decide)
  unfold HookPost at h17
  rw [hl5] at h17
  have HC17 := Lib.hid h17
  clear h17 hx5 hab5 hl5 c0 c1
  go_wp2_with fail
  refine Calls.mono HC17.out ?_
  rintro _ V6 ⟨B6, d6, rfl, _, hb6⟩
  have hb5 : Below W.heap.size W V5 := (HBK.out _ _ _ HX5.out).tn.below (fun x q => q.elim) (Nat.le_refl _)
  have HB6 := Lib.hid (hb5.trans (hb6.mono hb5.size))
  clear hb5 hb6
  go_wp2_with fail
  go_ret
  exact ⟨rfl, HB6.out⟩
end Go.Proofs.Ytnpgfhoagpeelaa
