/- The walks over the two Cut functions and few. -/
import Derived.Test.YtkmhjfcjplnjdaaW1
namespace Go.Proofs.Ytkmhjfcjplnjdaa
open Go.RowKit
set_option maxHeartbeats 400000 in
theorem refMay (x : CfX) (w : World) :
    Calls Try.prog 10 #[.agg x.A] w fun e w' => e = .returned (.bool (may x.c)) ∧ w' = w.alloc (.cells x.A 24) := by
  go_enter Try.func10, Try.ntmps10
  by_cases h1 : 1 ≤ x.c.mn
  · by_cases h2 : x.c.mn ≤ x.c.mx
    · by_cases h3 : x.c.mx ≤ 256
      · by_cases h4 : 1 ≤ x.c.dv
        · by_cases h5 : x.c.dv ≤ 1048576
          all_goals
            go_wp2
            go_ret
            refine ⟨?_, rfl⟩
            simp [may, h1, h2, h3, h4, h5]
        · go_wp2
          go_ret
          refine ⟨?_, rfl⟩
          simp [may]; omega
      · go_wp2
        go_ret
        refine ⟨?_, rfl⟩
        simp [may]; omega
    · go_wp2
      go_ret
      refine ⟨?_, rfl⟩
      simp [may]; omega
  · go_wp2
    go_ret
    refine ⟨?_, rfl⟩
    simp [may]; omega
set_option maxHeartbeats 1000000 in
theorem segCut (x : CfX) (A : Option Addr) (n c : Nat) (fs : List Fp) (w : World) (hl : Fps w w.heap.size A n fs) (hn : n ≤ 1000000) :
    Calls Try.prog 11 #[.slice A n c, .agg x.A] w fun e w' => e = .returned (.int .i64 (cutN x.c fs)) ∧ Below w.heap.size w w' := by
  have hM := segMay x
  by_cases hc : may x.c = true
  · rw [hc] at hM
    have HM := Lib.hid hM
    clear hM
    rw [cutN, if_pos hc]
    have HL := Lib.hid hl
    clear hl
    have Hc := Lib.hid hc
    clear hc
    go_enter Try.func11, Try.ntmps11
    go_wp2_with (first
      | (go_at_call 9; refine (HM.out _).mono ?_; rintro e w1 ⟨rfl, rfl⟩)
      | (go_at_call 23; refine (ender x _).mono ?_; rintro e w2 ⟨rfl, rfl⟩))
    go_loopw [6, 7, 15] (fun _ _ i wr => ∃ k : Nat, k ≤ n ∧ i = .int .i64 k ∧ Below w.heap.size w wr ∧ wr.heap[w.heap.size + 1 + 1]? = some (.cells x.A 24) ∧ cutF x.c 0 fs = cutF x.c k (fs.drop k)) (fun _ _ i _ => n - (intOf i).toNat)
    case atStart => exact ⟨0, Nat.zero_le _, rfl, (((Below.refl _ _).alloc (Nat.le_refl _) _).alloc (by simp) _).alloc (by simp; omega) _, by rw [← World.size_alloc w (.cells x.A 24), ← World.size_alloc (w.alloc (.cells x.A 24)) (.cells x.A 24)]; exact heap_alloc_new _ _, rfl⟩
    case round =>
      obtain ⟨k, hk, rfl, hbw, hcf, hcut⟩ := hrel
      have HC := Lib.hid hcut
      have HF := Lib.hid hcf
      clear hcut hcf
      by_cases hlt : k < n
      · obtain ⟨b, o, rfl, hbb, hr⟩ := HL.out.2.2 (by omega)
        obtain ⟨f, hf⟩ : ∃ f, fs[k]? = some f := ⟨fs[k]'(by rw [HL.out.1]; exact hlt), by simp⟩
        have hfp := HL.out.2.1 f (List.mem_of_getElem? hf)
        have hrk := hr k f hf
        have HR : Hid (wr.rangeAt b (o + k * 32) (fpL f)) := fun j v hv => (hbw.cell (p := ⟨b, o + k * 32 + j, none⟩) hbb).trans (hrk j v hv)
        have HFF := Lib.hid hf
        have hi37 : (Try.prog.info? 37).map (·.size) = some (fpL f).length := by rw [info37, fpL_length hfp]
        have HI := Lib.hid hi37
        have HI2 : Hid ((Try.prog.info? 37).map (·.size) = some (fpA f).size) := by rw [fpA_size hfp]; exact info37
        have HO : Hid ((fpA f).all (·.oneCell') = true) := all_oneCell_toArray fpL_one
        have HF2 : Hid ((wr.alloc (.cells (fpA f) 37)).heap[w.heap.size + 1 + 1]? = some (.cells x.A 24)) := by
          have := HF.out
          show _ = _
          exact (Below.heap_alloc _ _ _ (Array.getElem?_eq_some_iff.1 this).1).trans this
        clear hf hrk hr hi37
        go_wp2_with (first
          | ((with_reducible refine wpList_load_mid (op := ⟨some 19, _, _, _, _, _⟩) rfl 37 (.tmp 18) rfl b (o + k * 32) ?_ (fpL f) _ HR.out Try.underlying37 rfl HI.out ?_); rfl)
          | ((with_reducible refine wpList_store_new (op := ⟨none, _, _, _, _, _⟩) rfl 37 (.tmp 7) (.tmp 19) rfl _ (fpA f) ?_ ?_ HI2.out ?_ HO.out ?_); rfl; rfl; rw [fpA_size hfp]; rfl)
          | ((with_reducible refine wpList_load_new (op := ⟨some 22, _, _, _, _, _⟩) rfl 37 (.tmp 7) rfl (fpA f) 32 5 ?_ Try.underlying37 HI2.out ?_); rfl)
          | (go_at_call 25; refine (enderB x Hc.out k (by omega) f hfp _ _ (HF2.out)).mono ?_; rintro e w1 ⟨rfl, hb1⟩))
        · have he : endB x.c k f = true := by assumption
          have hv : (cutF x.c 0 fs : Int) = (k : Int) + 1 := by rw [HC.out, cutF_hit x.c fs k f HFF.out he]; rfl
          rw [hv]
          go_ret
          exact ⟨rfl, (hbw.alloc hbw.size _).trans (hb1.mono (by have := hbw.size; simp; omega))⟩
        · have he : endB x.c k f = false := by assumption
          have hb2 : Below w.heap.size w w1 := (hbw.alloc hbw.size _).trans (hb1.mono (by have := hbw.size; simp; omega))
          have hb3 : w1.heap[w.heap.size + 1 + 1]? = some (.cells x.A 24) := (hb1.block _ (Array.getElem?_eq_some_iff.1 HF2.out).1).trans HF2.out
          have hv : cutF x.c 0 fs = cutF x.c (k + 1) (fs.drop (k + 1)) := by rw [HC.out, cutF_miss x.c fs k f HFF.out he]
          go_roundw
          case rel => exact ⟨k + 1, by omega, by go_num, hb2, hb3, hv⟩
          case measure => simp [intOf]; omega
      · obtain rfl : k = n := by omega
        have hv : cutF x.c 0 fs = 0 := by rw [HC.out, cutF_end x.c fs k (by rw [HL.out.1]; exact Nat.le_refl _)]
        go_wp2
        go_ret
        rw [hv]
        exact ⟨rfl, hbw⟩
  · have hc' : may x.c = false := by simpa using hc
    rw [hc'] at hM
    have HM := Lib.hid hM
    rw [cutN, if_neg hc]
    clear hM hc hc' hl
    go_enter Try.func11, Try.ntmps11
    go_wp2_with (first
      | (go_at_call 9; refine (HM.out _).mono ?_; rintro e w1 ⟨rfl, rfl⟩))
    go_ret
    exact ⟨rfl, ((Below.refl _ _).alloc (Nat.le_refl _) _).alloc (by simp) _⟩

set_option maxRecDepth 100000 in
set_option maxHeartbeats 1000000 in
theorem refCut (x : CfX) (A : Option Addr) (n c : Nat) (fs : List Fp) (w : World) (hl : Fps w w.heap.size A n fs) (hn : n ≤ 1000000) :
    Calls Try.prog 12 #[.slice A n c, .agg x.A] w fun e w' => e = .returned (.int .i64 (cutN x.c fs)) ∧ Below w.heap.size w w' := by
  have hM := refMay x
  by_cases hc : may x.c = true
  · rw [hc] at hM
    have HM := Lib.hid hM
    clear hM
    rw [cutN, if_pos hc]
    have HL := Lib.hid hl
    clear hl
    have hm := (may_iff x.c).1 hc
    have Hc := Lib.hid hc
    clear hc
    obtain ⟨m, hmn⟩ : ∃ m : Nat, x.c.mn = (m : Int) + 1 := ⟨(x.c.mn - 1).toNat, by omega⟩
    have hsk : cutF x.c 0 fs = cutF x.c m (fs.drop m) := cutF_skip x.c Hc.out fs m (by omega)
    have HMN := Lib.hid hmn
    have hm1 : (m : Int) + 1 ≤ 256 := by omega
    have HSK := Lib.hid hsk
    clear hmn hsk
    go_enter Try.func12, Try.ntmps12
    go_wp2_with (first
      | (go_at_call 10; refine (HM.out _).mono ?_; rintro e w1 ⟨rfl, rfl⟩))
    go_loopw [5] (fun i wr => ∃ k : Nat, m ≤ k ∧ k ≤ 2000000 ∧ (k ≤ n ∨ k = m) ∧ i = .int .i64 ((k : Int) + 1) ∧ Below (w.heap.size + 1 + 1) ((w.alloc (.cells x.A 24)).alloc (.cells x.A 24)) wr ∧ cutF x.c m (fs.drop m) = cutF x.c k (fs.drop k)) (fun i _ => n + 1 - (intOf i).toNat)
    case atStart => exact ⟨m, Nat.le_refl _, by omega, .inr rfl, by rw [HMN.out], Below.refl _ _, rfl⟩
    case round =>
      obtain ⟨k, hmk, hkb, hkn, rfl, hbw, hcut⟩ := hrel
      have HC := Lib.hid hcut
      clear hcut
      have hb0 : Below w.heap.size w wr := (((Below.refl _ _).alloc (Nat.le_refl _) _).alloc (by simp) _).trans (hbw.mono (by omega))
      by_cases hlt : k < n
      · obtain ⟨b, o, rfl, hbb, hr⟩ := HL.out.2.2 (by omega)
        obtain ⟨f, hf⟩ : ∃ f, fs[k]? = some f := ⟨fs[k]'(by rw [HL.out.1]; exact hlt), by simp⟩
        have hfp := HL.out.2.1 f (List.mem_of_getElem? hf)
        have hrk := hr k f hf
        have HR : Hid (wr.rangeAt b (o + k * 32) (fpL f)) := fun j v hv => (hb0.cell (p := ⟨b, o + k * 32 + j, none⟩) hbb).trans (hrk j v hv)
        have HFF := Lib.hid hf
        have hu37 := Try.underlying37
        have hi37 : (Try.prog.info? 37).map (·.size) = some (fpL f).length := by rw [info37, fpL_length hfp]
        have c5 : wr.cell? ⟨w.heap.size, 5, none⟩ = some (.int .i64 x.c.mx) := (hbw.cell (p := ⟨w.heap.size, 5, none⟩) (by simp; omega)).trans (by rw [World.cell?_alloc_lt _ _ _ (by simp)]; exact World.cell?_alloc_new _ _ _ _)
        have c6 : wr.cell? ⟨w.heap.size, 6, none⟩ = some (.int .i64 x.c.dv) := (hbw.cell (p := ⟨w.heap.size, 6, none⟩) (by simp; omega)).trans (by rw [World.cell?_alloc_lt _ _ _ (by simp)]; exact World.cell?_alloc_new _ _ _ _)
        have hsz := hbw.size
        have hn := num_bd hfp
        have hwk : IntKind.i64.wrap ((k : Int) + 1 - 1) = (k : Int) := by rw [IntWalk.i64_in _ (by omega)]; omega
        have hwk2 : IntKind.i64.wrap (k : Int) = (k : Int) := IntWalk.i64_in _ (by omega)
        have hk0 : (0 : Int) ≤ (k : Int) := by omega
        have hk1 : (k : Int) < (n : Int) := by omega
        have hk2 : (k : Int) + 1 ≤ (n : Int) := by omega
        clear hf hrk hr
        by_cases h1 : (k : Int) + 1 = x.c.mx
        · have hd : ((k : Int) + 1 == x.c.mx) = true := by simpa using h1
          have hv : (cutF x.c 0 fs : Int) = (k : Int) + 1 := by rw [HSK.out, HC.out, cutF_hit x.c fs k f HFF.out (endB_1 h1)]; rfl
          have HV := Lib.hid hv
          clear hv h1
          go_wp2
          go_quiet (fail)
          go_wp2
          go_ret
          rw [HV.out]
          exact ⟨rfl, hb0.drewN _⟩
        · have hd : ((k : Int) + 1 == x.c.mx) = false := by simpa using h1
          have HE : Hid (endB x.c k f = ((num f).tmod x.c.dv == 0)) := endB_3 h1 (by have := HMN.out; omega) hn.1
          have H1 := Lib.hid h1
          clear h1
          have hdz : (x.c.dv == 0) = false := by simp; omega
          have hdz2 : ¬ x.c.dv = 0 := by omega
          have hwn : IntKind.i64.wrap (num f) = num f := IntWalk.i64_in _ (by omega)
          have hS0 : Hid (wr.drew.cell? ⟨w.heap.size, 5, none⟩ = some (.int .i64 x.c.mx) ∧ wr.drew.cell? ⟨w.heap.size, 6, none⟩ = some (.int .i64 x.c.dv) ∧ wr.drew.rangeAt b (o + k * 32) (fpL f)) := ⟨c5, c6, HR.out⟩
          go_wp2
          go_region_held3 (fun w' => w'.cell? ⟨w.heap.size, 5, none⟩ = some (.int .i64 x.c.mx) ∧ w'.cell? ⟨w.heap.size, 6, none⟩ = some (.int .i64 x.c.dv) ∧ w'.rangeAt b (o + k * 32) (fpL f)) (first | exact hS0.out | exact HS1.out)
            (first | (go_at_call 24; refine (refNum f hfp _).mono ?_; rintro e w1 ⟨rfl, hb1⟩; have HS1 : Hid (w1.cell? ⟨w.heap.size, 5, none⟩ = some (.int .i64 x.c.mx) ∧ w1.cell? ⟨w.heap.size, 6, none⟩ = some (.int .i64 x.c.dv) ∧ w1.rangeAt b (o + k * 32) (fpL f)) := ⟨(hb1.cell (p := ⟨w.heap.size, 5, none⟩) (by simp at hsz ⊢; omega)).trans hS0.out.1, (hb1.cell (p := ⟨w.heap.size, 6, none⟩) (by simp at hsz ⊢; omega)).trans hS0.out.2.1, fun j v hv => (hb1.cell (p := ⟨b, o + k * 32 + j, none⟩) (by simp at hsz ⊢; omega)).trans (hS0.out.2.2 j v hv)⟩))
          have hb2 : Below w.heap.size w w1 := (hb0.drew).trans (hb1.mono (by simp at hsz ⊢; omega))
          have hb3 : Below (w.heap.size + 1 + 1) ((w.alloc (.cells x.A 24)).alloc (.cells x.A 24)) w1 := (hbw.drew).trans (hb1.mono (by simp at hsz ⊢; omega))
          rw [← HE.out]
          go_wp2
          · have he : endB x.c k f = true := by assumption
            have hv : (cutF x.c 0 fs : Int) = (k : Int) + 1 := by rw [HSK.out, HC.out, cutF_hit x.c fs k f HFF.out he]; rfl
            go_ret
            rw [hv]
            exact ⟨rfl, hb2⟩
          · have he : endB x.c k f = false := by assumption
            have hv : cutF x.c m (fs.drop m) = cutF x.c (k + 1) (fs.drop (k + 1)) := by rw [HC.out, cutF_miss x.c fs k f HFF.out he]
            go_roundw
            case rel => exact ⟨k + 1, by omega, by omega, by omega, by go_num, hb3, hv⟩
            case measure => simp [intOf]; omega
      · go_wp2
        go_ret
        rw [HSK.out, HC.out, cutF_end x.c fs k (by rw [HL.out.1]; omega)]
        exact ⟨rfl, hb0⟩
  · have hc' : may x.c = false := by simpa using hc
    rw [hc'] at hM
    have HM := Lib.hid hM
    rw [cutN, if_neg hc]
    clear hM hc hc' hl
    go_enter Try.func12, Try.ntmps12
    go_wp2_with (first
      | (go_at_call 10; refine (HM.out _).mono ?_; rintro e w1 ⟨rfl, rfl⟩))
    go_ret
    exact ⟨rfl, ((Below.refl _ _).alloc (Nat.le_refl _) _).alloc (by simp) _⟩
end Go.Proofs.Ytkmhjfcjplnjdaa
