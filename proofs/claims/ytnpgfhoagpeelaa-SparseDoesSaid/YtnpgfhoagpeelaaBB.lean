/- The walks over Len, Peek, Look, New. -/
import Derived.Test.YtnpgfhoagpeelaaBA
namespace Go.Proofs.Ytnpgfhoagpeelaa
open Go.RowKit
open Go.Maps
theorem len11_nil (W : World) : Calls Try.prog 11 #[.pointer none] W fun r W' => r = .returned (.int .i64 0) ∧ W' = W := by
  go_enter Try.func11, Try.ntmps11
  go_wp2_with fail
  go_ret
  exact ⟨rfl, rfl⟩
theorem len11 {T : Nat → Prop} {W0 W : World} {base xb ph mo N : Nat} {E : List En} (h : Xs T W0 W base xb ph mo N E) :
    Calls Try.prog 11 #[.pointer (some ⟨xb, 0, none⟩)] W fun r W' => r = .returned (.int .i64 (lnA (abE E) : Nat)) ∧ W' = W := by
  rw [ln_ab]
  have c3 : W.cell? ⟨xb, 3, none⟩ = some (.int .i64 (lnN E : Nat)) := by obtain ⟨mb, now, n', fm, h1, h2⟩ := h; exact h1.mem.c.2.2.2.1
  clear h
  go_enter Try.func11, Try.ntmps11
  go_wp2_with fail
  go_ret
  exact ⟨rfl, rfl⟩
theorem peek14_nil {f : Fp} (W : World) : Calls Try.prog 14 #[.pointer none, .agg (fpL f).toArray] W fun r W' => r = .returned (.slice none 0 0) ∧ Below W.heap.size W W' := by
  have HB : Hid (Below W.heap.size W (W.alloc (.cells (fpL f).toArray 47))) := Lib.hid ((Below.refl _ _).alloc (Nat.le_refl _) _)
  go_enter Try.func14, Try.ntmps14
  go_wp2_with fail
  go_quiet (fail)
  go_wp2_with fail
  go_ret
  exact ⟨rfl, below_drewN HB.out nq⟩
def PeekPost (W : World) (l : List Id) (r : Ending) (W' : World) : Prop := ∃ B d, r = .returned (.slice B l.length d) ∧ OwnI W' W.heap.size (.slice B l.length d) l ∧ Below W.heap.size W W'
set_option maxRecDepth 100000 in
set_option maxHeartbeats 4000000 in
theorem peek14 {T : Nat → Prop} {W0 W : World} {base xb ph mo N : Nat} {E : List En} {f : Fp} (h : Xs T W0 W base xb ph mo N E) (hf : IsFp f) :
    Calls Try.prog 14 #[.pointer (some ⟨xb, 0, none⟩), .agg (fpL f).toArray] W (PeekPost W (peekA (abE E) f)) := by
  obtain ⟨mb, now, n, fm, h1, hfm, hok, _⟩ := h
  obtain ⟨b0, hb0⟩ : ∃ b0, b0 = W.heap.size := ⟨_, rfl⟩
  have HA := Lib.hid (h1.alloc (.cells (fpL f).toArray 47))
  have HB0 : Hid (Below W.heap.size W (W.alloc (.cells (fpL f).toArray 47))) := Lib.hid ((Below.refl _ _).alloc (Nat.le_refl _) _)
  have HR0 : Hid ((W.alloc (.cells (fpL f).toArray 47)).rangeAt b0 0 (fpL f)) := Lib.hid (box_range (by rw [hb0]; exact heap_alloc_new _ _))
  have HLT : Hid (b0 < (W.alloc (.cells (fpL f).toArray 47)).heap.size) := Lib.hid (by rw [World.size_alloc]; omega)
  have HF := Lib.hid hf
  have HIX := Lib.hid (info29f hf)
  have HFX := Lib.hid (hfm f hf)
  have HHK := Lib.hid hok.hk
  have HEL : Hid (∀ e ∈ E, e.l.length ≤ 64 ∧ e.l ≠ []) := Lib.hid (fun e he => ⟨Nat.le_trans (hok.len e he) hok.phm, (hok.full e he).1⟩)
  clear h1 hfm hok
  rcases split_hook E f with hno | ⟨P, e, S, rfl, rfl⟩
  · have HE : Hid (peekA (abE E) f = []) := Lib.hid (by rw [peek_ab, list_other hno])
    have hfn : fm f = none := by rw [HFX.out, fmE, find_other hno]; rfl
    rw [HE.out]
    clear hf hno
    go_enter Try.func14, Try.ntmps14
    go_wp2_with fail
    rw [← hb0]
    clear hb0
    generalize W.alloc (.cells (fpL f).toArray 47) = W1 at *
    have HR1 : Hid (∀ m, (W1.drewN m).rangeAt b0 0 (fpL f)) := Lib.hid (fun m j v hv => HR0.out j v hv)
    have c2 := HA.out.mem.c.2.2.1
    have hlk : ∀ m, _ := fun m => HA.out.look HF.out m
    rw [hfn] at hlk
    simp only [ptrV] at hlk
    refine wp_region_quiet_lit (by kernel_rfl) (by kernel_rfl) ?_
    repeat (first
      | ((with_reducible refine wpQuiet_load_mid (op := ⟨some 12, _, _, _, _, _⟩) ?_ 47 (.tmp 3) rfl b0 (0) ?_ _ _ ?_ Try.underlying47 rfl HIX.out ?_); rfl; rfl; (rintro w2 ⟨q2, rfl⟩; exact HR1.out _); go_simp)
      | go_big_quiet_step (fail))
    refine wpQuiet_nil ?_
    intro nq
    go_wp2_with fail
    go_ret
    exact ⟨none, 0, rfl, World.ownsRow_nil _ _ _ _, below_drewN HB0.out nq⟩
  · have HE : Hid (peekA (abE (P ++ e :: S)) e.h = e.l) := Lib.hid (by rw [peek_ab, list_mid HHK.out])
    have hfn : fm e.h = some e.p := by rw [HFX.out, fm_mem HHK.out (mem_mid P S e)]
    rw [HE.out]
    have HEN := Lib.hid (HA.out.mem.ens e (mem_mid P S e))
    have hll := (HEL.out e (mem_mid P S e)).1
    have hne := (HEL.out e (mem_mid P S e)).2
    clear hf
    obtain ⟨eh, p, A, c, l, u⟩ := e
    simp only at *
    go_enter Try.func14, Try.ntmps14
    go_wp2_with fail
    rw [← hb0]
    clear hb0
    generalize W.alloc (.cells (fpL eh).toArray 47) = W1 at *
    have HR1 : Hid (∀ m, (W1.drewN m).rangeAt b0 0 (fpL eh)) := Lib.hid (fun m j v hv => HR0.out j v hv)
    have c2 := HA.out.mem.c.2.2.1
    have hlk : ∀ m, _ := fun m => HA.out.look HF.out m
    rw [hfn] at hlk
    simp only [ptrV] at hlk
    refine wp_region_quiet_lit (by kernel_rfl) (by kernel_rfl) ?_
    repeat (first
      | ((with_reducible refine wpQuiet_load_mid (op := ⟨some 12, _, _, _, _, _⟩) ?_ 47 (.tmp 3) rfl b0 (0) ?_ _ _ ?_ Try.underlying47 rfl HIX.out ?_); rfl; rfl; (rintro w2 ⟨q2, rfl⟩; exact HR1.out _); go_simp)
      | go_big_quiet_step (fail))
    refine wpQuiet_nil ?_
    intro nq
    have HB2 : Hid (Below W1.heap.size W1 (W1.drewN (nq + 1))) := Lib.hid (below_drewN (Below.refl _ _) _)
    have HS : Hid (∀ W, Below W1.heap.size W1 W → W.cell? ⟨xb, 2, none⟩ = some (.map (some mb)) ∧ W.rangeAt b0 0 (fpL eh) ∧ (Instr.lookup 52 (.map (some mb)) (.agg (fpL eh).toArray) false).run Try.prog W = .ok (.pointer (some ⟨p, 0, none⟩)) W ∧ W.cell? ⟨p, 0, none⟩ = some (.slice A l.length c)) := Lib.hid (fun W hW =>
      ⟨(HA.out.below hW).mem.c.2.2.1, range_below HR0.out hW HLT.out, by have := lookup_run HF.out (HA.out.below hW).mem.mp; rwa [hfn] at this, ((HA.out.below hW).mem.ens _ (mem_mid P S _)).c.1⟩)
    have HAO : Hid (AOk A l.length) := Lib.hid (by
      obtain ⟨g, cap, e1, _⟩ := own_some HEN.out.own (fun q => by
        have := List.length_pos_iff.2 hne
        injection q with _ q _
        simp only at q
        omega)
      injection e1 with e1 _ _
      exact .inr ⟨g, 0, e1⟩)
    have HC31 := Lib.hid (clone31 (A := A) (l := l) (c := c) ((row_own HEN.out.own).below HB2.out) HAO.out (by omega))
    clear hlk c2 HR1 HEL
    go_wp2_with fail
    refine wp_region_held_drew (S := (fun W => W.cell? ⟨xb, 2, none⟩ = some (.map (some mb)) ∧ W.rangeAt b0 0 (fpL eh) ∧ (Instr.lookup 52 (.map (some mb)) (.agg (fpL eh).toArray) false).run Try.prog W = .ok (.pointer (some ⟨p, 0, none⟩)) W ∧ W.cell? ⟨p, 0, none⟩ = some (.slice A l.length c))) (by kernel_rfl) ?_ (fun hSx => ?_)
    · exact HS.out _ HB2.out
    refine wpAnyH_take (i := 0) (oi := ⟨some 16, _, _, _, _, none⟩) (v := ?_) rfl (by kernel_rfl) (by kernel_rfl) (by kernel_rfl) (fun _ _ _ h => h) (Or.inl ⟨by kernel_rfl, ?_⟩) hSx ?_
    rotate_left 1
    focus (intro wx hSw; obtain ⟨s0, s1, s2, s3⟩ := hSw; go_simp; first | done | with_reducible rfl)
    try simp only [Act.put, List.setIfInBounds_toArray, List.set_cons_zero, List.set_cons_succ]
    refine wpAnyH_take (i := 1) (oi := ⟨some 17, _, _, _, _, none⟩) (v := ?_) rfl (by kernel_rfl) (by kernel_rfl) (by kernel_rfl) (fun _ _ _ h => h) (Or.inl ⟨by kernel_rfl, ?_⟩) hSx ?_
    rotate_left 1
    focus (intro wx hSw; obtain ⟨s0, s1, s2, s3⟩ := hSw; go_simp; first | done | with_reducible rfl)
    try simp only [Act.put, List.setIfInBounds_toArray, List.set_cons_zero, List.set_cons_succ]
    refine wpAnyH_take (i := 2) (oi := ⟨some 18, _, _, _, _, none⟩) (v := ?_) rfl (by kernel_rfl) (by kernel_rfl) (by kernel_rfl) (fun _ _ _ h => h) (Or.inl ⟨by kernel_rfl, ?_⟩) hSx ?_
    rotate_left 1
    focus (intro wx hSw; obtain ⟨s0, s1, s2, s3⟩ := hSw; go_simp; first | done | with_reducible rfl)
    try simp only [Act.put, List.setIfInBounds_toArray, List.set_cons_zero, List.set_cons_succ]
    refine wpAnyH_take (i := 3) (oi := ⟨some 19, _, _, _, _, none⟩) (v := ?_) rfl (by kernel_rfl) (by kernel_rfl) (by kernel_rfl) (fun _ _ _ h => h) (Or.inl ⟨by kernel_rfl, ?_⟩) hSx ?_
    rotate_left 1
    focus (intro wx hSw; obtain ⟨s0, s1, s2, s3⟩ := hSw; go_simp; first | done | with_reducible rfl)
    try simp only [Act.put, List.setIfInBounds_toArray, List.set_cons_zero, List.set_cons_succ]
    refine wpAnyH_take (i := 4) (oi := ⟨some 20, _, _, _, _, none⟩) (v := .agg (fpL eh).toArray) rfl (by kernel_rfl) (by kernel_rfl) (by kernel_rfl) (fun _ _ _ h => h) (yieldsIf_load_mid (by kernel_rfl) 47 (.tmp 3) rfl (b0) (0) rfl (fpL eh) _ (fun _ h => h.2.1) Try.underlying47 rfl HIX.out) hSx ?_
    try simp only [Act.put, List.setIfInBounds_toArray, List.set_cons_zero, List.set_cons_succ]
    refine wpAnyH_take (i := 5) (oi := ⟨some 21, _, _, _, _, none⟩) (v := ?_) rfl (by kernel_rfl) (by kernel_rfl) (by kernel_rfl) (fun _ _ _ h => h) (Or.inl ⟨by kernel_rfl, ?_⟩) hSx ?_
    rotate_left 1
    focus (intro wx hSw; obtain ⟨s0, s1, s2, s3⟩ := hSw; go_simp; first | done | with_reducible rfl)
    try simp only [Act.put, List.setIfInBounds_toArray, List.set_cons_zero, List.set_cons_succ]
    refine wpAnyH_take (i := 6) (oi := ⟨some 22, _, _, _, _, none⟩) (v := ?_) rfl (by kernel_rfl) (by kernel_rfl) (by kernel_rfl) (fun _ _ _ h => h) (Or.inl ⟨by kernel_rfl, ?_⟩) hSx ?_
    rotate_left 1
    focus (intro wx hSw; obtain ⟨s0, s1, s2, s3⟩ := hSw; go_simp; first | done | with_reducible rfl)
    try simp only [Act.put, List.setIfInBounds_toArray, List.set_cons_zero, List.set_cons_succ]
    refine wpAnyH_take (i := 7) (oi := ⟨some 23, _, _, _, _, none⟩) (v := ?_) rfl (by kernel_rfl) (by kernel_rfl) (by kernel_rfl) (fun _ _ _ h => h) (Or.inl ⟨by kernel_rfl, ?_⟩) hSx ?_
    rotate_left 1
    focus (intro wx hSw; obtain ⟨s0, s1, s2, s3⟩ := hSw; go_simp; first | done | with_reducible rfl)
    try simp only [Act.put, List.setIfInBounds_toArray, List.set_cons_zero, List.set_cons_succ]
    refine wpAnyH_take (i := 8) (oi := ⟨some 24, _, _, _, _, none⟩) (v := ?_) rfl (by kernel_rfl) (by kernel_rfl) (by kernel_rfl) (fun _ _ _ h => h) (Or.inl ⟨by kernel_rfl, ?_⟩) hSx ?_
    rotate_left 1
    focus (intro wx hSw; obtain ⟨s0, s1, s2, s3⟩ := hSw; go_simp; first | done | with_reducible rfl)
    try simp only [Act.put, List.setIfInBounds_toArray, List.set_cons_zero, List.set_cons_succ]
    refine wpAnyH_ready (rs := [9]) (by kernel_rfl) (by simp) ?_
    refine AllReadyH.cons (o := ⟨some 25, _, _, _, _, none⟩) rfl (fun KK hKK => ?_) AllReadyH.nil
    go_simp
    with_reducible refine Calls.mono HC31.out ?_
    rintro e z1 ⟨B, d, rfl, hq1, hq2⟩
    have HQ1 := Lib.hid hq1
    have HQ2 := Lib.hid hq2
    have HZB : Hid (Below W1.heap.size W1 z1) := Lib.hid (HB2.out.trans (hq2.mono HB2.out.size))
    clear hq1 hq2
    refine hKK.out _ _ (HS.out _ HZB.out) (fun hSy => ?_)
    clear hKK hSx
    have hSx := hSy
    clear hSy KK
    try simp only [Act.put, List.setIfInBounds_toArray, List.set_cons_zero, List.set_cons_succ]
    refine wpAnyH_take (i := 10) (oi := ⟨some 4, _, _, _, _, none⟩) (v := ?_) rfl (by kernel_rfl) (by kernel_rfl) (by kernel_rfl) (fun _ _ _ h => h) (Or.inl ⟨by kernel_rfl, ?_⟩) hSx ?_
    rotate_left 1
    focus (intro wx hSw; obtain ⟨s0, s1, s2, s3⟩ := hSw; go_simp; first | done | with_reducible rfl)
    try simp only [Act.put, List.setIfInBounds_toArray, List.set_cons_zero, List.set_cons_succ]
    refine wpAnyH_done (by kernel_rfl) ?_ _
    go_wp2_with fail
    go_ret
    exact ⟨B, d, rfl, own_mono HQ1.out (Nat.le_trans HB0.out.size HB2.out.size), HB0.out.trans (HZB.out.mono HB0.out.size)⟩
end Go.Proofs.Ytnpgfhoagpeelaa
