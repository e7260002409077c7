/- An act, done to the index and to the reference. -/
import Derived.Test.YtnpgfhoagpeelaaBR
namespace Go.Proofs.Ytnpgfhoagpeelaa
open Go.RowKit
open Go.Maps
def actA (ph mo : Nat) (R : List Rw) (kind : Int) (man : Id) (hs : List Fp) : List Rw :=
  if kind = 1 then lookA R (headF hs) else if kind = 2 then R else if kind = 3 then dropA R man else putsA ph mo R man (setF hs)
def CellsAct (b0 : Nat) (kind : Int) (man : Id) (A : Option Addr) (n c : Nat) (W : World) : Prop := W.cell? ⟨b0, 0, none⟩ = some (.int .i64 kind) ∧ W.cell? ⟨b0, 1, none⟩ = some (.int .u32 man) ∧ W.cell? ⟨b0, 2, none⟩ = some (.slice A n c)
theorem cellsAct_new (W : World) (kind : Int) (man : Id) (A : Option Addr) (n c : Nat) : CellsAct W.heap.size kind man A n c (W.alloc (.cells #[.int .i64 kind, .int .u32 man, .slice A n c] 36)) :=
  ⟨cell_of_row _ W.heap.size 0 _ 36 (0, 0) (heap_alloc_new _ _), cell_of_row _ W.heap.size 1 _ 36 (0, 0) (heap_alloc_new _ _), cell_of_row _ W.heap.size 2 _ 36 (0, 0) (heap_alloc_new _ _)⟩
theorem cell_tn {T : Nat → Prop} {W W' : World} {b o : Nat} {v : Value} (h : W.cell? ⟨b, o, none⟩ = some v) (ht : Tn T W W') (hb : b < W.heap.size) (hT : ¬ T b) : W'.cell? ⟨b, o, none⟩ = some v := by
  have h2 := ht.block b hb hT
  unfold World.cell? at *
  simp only at *
  rw [h2]
  exact h
theorem CellsAct.tn {T : Nat → Prop} {b0 : Nat} {kind : Int} {man : Id} {A : Option Addr} {n c : Nat} {W W' : World} (h : CellsAct b0 kind man A n c W) (ht : Tn T W W') (hb : b0 < W.heap.size) (hT : ¬ T b0) : CellsAct b0 kind man A n c W' :=
  ⟨cell_tn h.1 ht hb hT, cell_tn h.2.1 ht hb hT, cell_tn h.2.2 ht hb hT⟩
theorem CellsAct.grown {b0 wb : Nat} {kind : Int} {man : Id} {A : Option Addr} {n c : Nat} {W W' : World} (h : CellsAct b0 kind man A n c W) (hg : W.grownBy W' (some wb)) (hT : wb ≠ b0) : CellsAct b0 kind man A n c W' :=
  ⟨hg.cell h.1 (fun q => by injection q with q; exact hT q.symm), hg.cell h.2.1 (fun q => by injection q with q; exact hT q.symm), hg.cell h.2.2 (fun q => by injection q with q; exact hT q.symm)⟩
theorem CellsAct.below {b0 : Nat} {kind : Int} {man : Id} {A : Option Addr} {n c : Nat} {W W' : World} (h : CellsAct b0 kind man A n c W) (hb : Below W.heap.size W W') (hl : b0 < W.heap.size) : CellsAct b0 kind man A n c W' :=
  ⟨(hb.cell (p := ⟨b0, 0, none⟩) hl).trans h.1, (hb.cell (p := ⟨b0, 1, none⟩) hl).trans h.2.1, (hb.cell (p := ⟨b0, 2, none⟩) hl).trans h.2.2⟩
theorem own_wb {W W' : World} {base e size n wb : Nat} {v : Value} {xs : List Value} (h : W.ownsRow base e size v n xs) (hg : W.grownBy W' (some wb)) (hw : wb < base) : W'.ownsRow base e size v n xs :=
  h.kept hg (.inr (fun q => by have := (h.lt wb q).1; omega))
theorem rput23 {T : Nat → Prop} {W : World} {wb ph mo c : Nat} {A B : Option Addr} {rs : List Rr} {d : Nat} {hs : List Fp} {man : Id} (h : Ref T W wb ph mo A c rs) (hg : Rg ph mo (abR rs)) (hf : Fps W B hs) (ha : AllFp hs) (hn : hs.length ≤ 1000) :
    Calls Try.prog 23 #[.pointer (some ⟨wb, 0, none⟩), .int .u32 man, .slice B hs.length d] W fun r W' => r = .returned (.tuple #[]) ∧ (∃ A' c' rs', Ref T W' wb ph mo A' c' rs' ∧ abR rs' = putsA ph mo (abR rs) man (setF hs)) ∧ W.grownBy W' (some wb) := by
  by_cases hz : 1 ≤ ph ∧ 1 ≤ mo
  · exact rput23_one h hg hf ha hn hz.1 hz.2
  · exact rput23_zero h hf ha hn hz
def DoesPost (W0 : World) (xb wb ph mo N : Nat) (R : List Rw) (r : Ending) (W' : World) : Prop := r = .returned (.bool true) ∧ Jt W0 W' xb wb ph mo N R
theorem Jt.drewN' {W0 W W' : World} {xb wb ph mo N q : Nat} {R : List Rw} (h : Jt W0 W xb wb ph mo N R) (e : W' = W.drewN q) : Jt W0 W' xb wb ph mo N R := by
  subst e
  obtain ⟨T, E, RA, rc, rs, hx, hr, hE, hR, hT, hwb, hb0⟩ := h
  have hb : Below W.heap.size W (W.drewN q) := below_drewN (Below.refl _ _) q
  obtain ⟨T2, h2, h3, h4⟩ := xs_next hr (hx.below hb)
  exact ⟨T2, E, RA, rc, rs, h2, h3, hE, hR, h4, hwb, hb0.trans (hb.mono hb0.size)⟩
theorem Ref.gw {T : Nat → Prop} {W : World} {wb ph mo c : Nat} {A : Option Addr} {rs : List Rr} (h : Ref T W wb ph mo A c rs) : ¬ T wb ∧ wb < W.heap.size := ⟨h.wbT, lt_of_block h.hd⟩
/-- behind both -/
theorem jt_close {T : Nat → Prop} {W0 W W' : World} {xb wb ph mo N c N' : Nat} {E : List En} {rs rs' : List Rr} {A : Option Addr} {R : List Rw} (hx : Xs T W W W0.heap.size xb ph mo N E) (hr : Ref T W wb ph mo A c rs) (hT : ∀ b, T b → W0.heap.size ≤ b) (hw : W0.heap.size ≤ wb) (hb : Below W0.heap.size W0 W) (hg : W.grownBy W' (some wb)) {A' : Option Addr} {c' : Nat} (hr' : Ref T W' wb ph mo A' c' rs') (hE : abE E = R) (hR : abR rs' = R) (hN : N ≤ N') : Jt W0 W' xb wb ph mo N' R :=
  ⟨T, E, A', c', rs', (hx.grown_wb hg hr.gw.1 hr.gw.2).mono hN, hr', hE, hR, hT, hw, below_wb hb hg hw⟩
/-- what the index may turn stays, where the world only grows -/
theorem Xs.rebase {T : Nat → Prop} {W W' : World} {base xb ph mo N : Nat} {E : List En} (h : Xs T W W base xb ph mo N E) (hb : Below W.heap.size W W') (_hT : ∀ b, T b → b < W.heap.size) : Xs T W' W' base xb ph mo N E := by
  obtain ⟨mb, now, n, fm, h1, h2⟩ := h
  refine ⟨mb, now, n, fm, ⟨(h1.below hb).mem, fun b q => ?_, Tn.refl _ _⟩, h2⟩
  rcases h1.inz b q with q2 | q2
  · exact .inl q2
  · have := (h1.mem.lt q).1
    omega
set_option maxRecDepth 100000 in
set_option maxHeartbeats 8000000 in
theorem does9_look {W0 W : World} {xb wb ph mo N c : Nat} {R : List Rw} {kind : Int} {man : Id} {A : Option Addr} {hs : List Fp} (h : Jt W0 W xb wb ph mo N R) (hf : Fps W0 A hs) (ha : AllFp hs) (hN : N ≤ 100000) (hk : kind = 1) :
    Calls Try.prog 9 #[.pointer (some ⟨xb, 0, none⟩), .pointer (some ⟨wb, 0, none⟩), .agg #[.int .i64 kind, .int .u32 man, .slice A hs.length c]] W (DoesPost W0 xb wb ph mo (N + 20) (lookA R (headF hs))) := by
  obtain ⟨T, E, RA, rc, rs, hx, hr, hE, hR, hT, hwb, hb0⟩ := h
  have HX := Lib.hid hx
  have HR := Lib.hid hr
  have HT := Lib.hid hT
  have HWB := Lib.hid hwb
  have HB0 := Lib.hid hb0
  have HEQ : Hid (abE E = abR rs) := Lib.hid (hE.trans hR.symm)
  have HRR := Lib.hid hR
  have HRG : Hid (Rg ph mo (abR rs)) := Lib.hid (by rw [hR, ← hE]; exact hx.rg)
  have HA := Lib.hid ha
  have HF := Lib.hid hf
  have HC0 := Lib.hid (cellsAct_new W kind man A hs.length c)
  have HBX : Hid (Below W.heap.size W (W.alloc (.cells #[.int .i64 kind, .int .u32 man, .slice A hs.length c] 36))) := Lib.hid ((Below.refl _ _).alloc (Nat.le_refl _) _)
  have HLT : Hid (W.heap.size < (W.alloc (.cells #[.int .i64 kind, .int .u32 man, .slice A hs.length c] 36)).heap.size) := Lib.hid (by rw [World.size_alloc]; omega)
  have HNT : Hid (¬ T W.heap.size ∧ wb ≠ W.heap.size) := Lib.hid ⟨fun q => by have := hr.lt _ q; omega, fun q => by have := hr.gw.2; omega⟩
  have HHF := Lib.hid (headF_is ha)
  clear hx hr hE hR hT hwb hb0 ha hf
  subst hk
  have HPL : Hid ((peekA (abR rs) (headF hs)).length ≤ 100) := Lib.hid (by
    rcases at_cases rs (headF hs) with ⟨hno, _⟩ | ⟨q, r, hq, he, _, hn2⟩
    · rw [peekR_none hno]; exact Nat.zero_le _
    · rw [peekR_hit hq he hn2]; exact (HR.out.ok r (List.mem_of_getElem? hq)).len)
  go_enter Try.func9, Try.ntmps9
  go_upto_region 1 with fail
  obtain ⟨b0, hb0⟩ : ∃ b0, b0 = W.heap.size := ⟨_, rfl⟩
  rw [← hb0] at HC0 HLT HNT ⊢
  have HX1 : Hid (Xs T (W.alloc (.cells #[.int .i64 1, .int .u32 man, .slice A hs.length c] 36)) (W.alloc (.cells #[.int .i64 1, .int .u32 man, .slice A hs.length c] 36)) W0.heap.size xb ph mo N E) := Lib.hid (HX.out.rebase HBX.out HR.out.lt)
  have HR1 := Lib.hid (HR.out.below HBX.out)
  have HB1 : Hid (Below W0.heap.size W0 (W.alloc (.cells #[.int .i64 1, .int .u32 man, .slice A hs.length c] 36))) := Lib.hid (HB0.out.trans (HBX.out.mono HB0.out.size))
  clear HX HR HB0 HBX hb0
  generalize W.alloc (.cells #[.int .i64 1, .int .u32 man, .slice A hs.length c] 36) = V at *
  have c0 := HC0.out.1
  go_wp2_with fail
  refine wp_region_held_drew (S := (CellsAct b0 1 man A hs.length c)) (by kernel_rfl) ?_ (fun hSx => ?_)
  · exact (HC0.out.below (below_drew (Below.refl _ _)) HLT.out)
  refine wpAnyH_take (i := 0) (oi := ⟨some 11, _, _, _, _, none⟩) (v := ?_) rfl (by kernel_rfl) (by kernel_rfl) (by kernel_rfl) (fun _ _ _ h => h) (Or.inl ⟨by kernel_rfl, ?_⟩) hSx ?_
  rotate_left 1
  focus (intro wx hSw; obtain ⟨s0, s1, s2⟩ := hSw; go_simp; first | done | with_reducible rfl)
  try simp only [Act.put, List.setIfInBounds_toArray, List.set_cons_zero, List.set_cons_succ]
  refine wpAnyH_take (i := 1) (oi := ⟨some 12, _, _, _, _, none⟩) (v := ?_) rfl (by kernel_rfl) (by kernel_rfl) (by kernel_rfl) (fun _ _ _ h => h) (Or.inl ⟨by kernel_rfl, ?_⟩) hSx ?_
  rotate_left 1
  focus (intro wx hSw; obtain ⟨s0, s1, s2⟩ := hSw; go_simp; first | done | with_reducible rfl)
  try simp only [Act.put, List.setIfInBounds_toArray, List.set_cons_zero, List.set_cons_succ]
  refine wpAnyH_take (i := 4) (oi := ⟨some 15, _, _, _, _, none⟩) (v := ?_) rfl (by kernel_rfl) (by kernel_rfl) (by kernel_rfl) (fun _ _ _ h => h) (Or.inl ⟨by kernel_rfl, ?_⟩) hSx ?_
  rotate_left 1
  focus (intro wx hSw; obtain ⟨s0, s1, s2⟩ := hSw; go_simp; first | done | with_reducible rfl)
  try simp only [Act.put, List.setIfInBounds_toArray, List.set_cons_zero, List.set_cons_succ]
  refine wpAnyH_take (i := 5) (oi := ⟨some 16, _, _, _, _, none⟩) (v := ?_) rfl (by kernel_rfl) (by kernel_rfl) (by kernel_rfl) (fun _ _ _ h => h) (Or.inl ⟨by kernel_rfl, ?_⟩) hSx ?_
  rotate_left 1
  focus (intro wx hSw; obtain ⟨s0, s1, s2⟩ := hSw; go_simp; first | done | with_reducible rfl)
  try simp only [Act.put, List.setIfInBounds_toArray, List.set_cons_zero, List.set_cons_succ]
  refine wpAnyH_ready (rs := [2]) (by kernel_rfl) (by simp) ?_
  refine AllReadyH.cons (o := ⟨some 13, _, _, _, _, none⟩) rfl (fun KK hKK => ?_) AllReadyH.nil
  go_simp
  have HV0 : Hid (Below V.heap.size V V.drew) := Lib.hid (below_drew (Below.refl _ _))
  have HC19 := Lib.hid (first19 (kind := 1) (man := man) (c := c) (HF.out.below (HB1.out.trans (HV0.out.mono HB1.out.size))) HA.out)
  with_reducible refine Calls.mono HC19.out ?_
  rintro e z1 ⟨rfl, hb1⟩
  have HV1 : Hid (Below V.heap.size V z1) := Lib.hid (HV0.out.trans (hb1.mono HV0.out.size))
  clear hb1 HC19
  refine hKK.out _ _ (HC0.out.below HV1.out HLT.out) (fun hSy => ?_)
  clear hKK hSx
  have hSx := hSy
  clear hSy KK
  try simp only [Act.put, List.setIfInBounds_toArray, List.set_cons_zero, List.set_cons_succ]
  refine wpAnyH_ready (rs := [3]) (by kernel_rfl) (by simp) ?_
  refine AllReadyH.cons (o := ⟨some 14, _, _, _, _, none⟩) rfl (fun KK hKK => ?_) AllReadyH.nil
  go_simp
  have HXZ := Lib.hid (HX1.out.rebase HV1.out HR1.out.lt)
  have HRZ := Lib.hid (HR1.out.below HV1.out)
  have HC15 := Lib.hid (look15 HXZ.out HHF.out (by omega))
  unfold LookPost at HC15
  rw [HEQ.out] at HC15
  with_reducible refine Calls.mono HC15.out ?_
  rintro e z2 ⟨B1, d1, E2, rfl, ho1, hx2, hab2⟩
  have HCZ := Lib.hid ((HC0.out.below HV1.out HLT.out).tn hx2.tn (Nat.lt_of_lt_of_le HLT.out HV1.out.size) (fun q => HNT.out.1 q))
  obtain ⟨T2, hx3, hr3, hT3⟩ := xs_next HRZ.out hx2
  have HX3 := Lib.hid hx3
  have HR3 := Lib.hid hr3
  have HT3 := Lib.hid hT3
  have HO1 := Lib.hid ho1
  have HAB2 : Hid (abE E2 = lookA (abR rs) (headF hs)) := Lib.hid hab2
  have HB2 : Hid (Below W0.heap.size W0 z2) := Lib.hid (below_tn (HB1.out.trans (HV1.out.mono HB1.out.size)) hx2.tn HT.out)
  have HLT2 : Hid (b0 < z2.heap.size) := Lib.hid (Nat.lt_of_lt_of_le HLT.out (Nat.le_trans HV1.out.size hx2.tn.size))
  have HW2 : Hid (wb < z1.heap.size) := Lib.hid HRZ.out.gw.2
  clear ho1 hx2 hab2 hx3 hr3 hT3 HC15
  refine hKK.out _ _ (HCZ.out) (fun hSy => ?_)
  clear hKK hSx
  have hSx := hSy
  clear hSy KK
  try simp only [Act.put, List.setIfInBounds_toArray, List.set_cons_zero, List.set_cons_succ]
  refine wpAnyH_ready (rs := [6]) (by kernel_rfl) (by simp) ?_
  refine AllReadyH.cons (o := ⟨some 17, _, _, _, _, none⟩) rfl (fun KK hKK => ?_) AllReadyH.nil
  go_simp
  have HC19 := Lib.hid (first19 (kind := 1) (man := man) (c := c) (HF.out.below HB2.out) HA.out)
  with_reducible refine Calls.mono HC19.out ?_
  rintro e z3 ⟨rfl, hb3⟩
  have HV3 := Lib.hid hb3
  clear hb3 HC19
  refine hKK.out _ _ (HCZ.out.below HV3.out HLT2.out) (fun hSy => ?_)
  clear hKK hSx
  have hSx := hSy
  clear hSy KK
  try simp only [Act.put, List.setIfInBounds_toArray, List.set_cons_zero, List.set_cons_succ]
  refine wpAnyH_ready (rs := [7]) (by kernel_rfl) (by simp) ?_
  refine AllReadyH.cons (o := ⟨some 18, _, _, _, _, none⟩) rfl (fun KK hKK => ?_) AllReadyH.nil
  go_simp
  have HXW := Lib.hid (HX3.out.rebase HV3.out HR3.out.lt)
  have HRW := Lib.hid (HR3.out.below HV3.out)
  have HBW : Hid (Below W0.heap.size W0 z3) := Lib.hid (HB2.out.trans (HV3.out.mono HB2.out.size))
  have HC20 := Lib.hid (rlook20 HRW.out HHF.out (Nat.le_trans HRG.out.rows (by omega)) HRG.out.nd HRG.out.ner)
  with_reducible refine Calls.mono HC20.out ?_
  rintro e z4 ⟨B2, d2, A4, c4, rs4, rfl, hi4, hr4, hab4, _, hg4⟩
  have HCZ4 := Lib.hid ((HCZ.out.below HV3.out HLT2.out).grown hg4 HNT.out.2)
  have HJ : Hid (Jt W0 z4 xb wb ph mo (N + 20) (lookA (abR rs) (headF hs))) := Lib.hid (jt_close HXW.out HRW.out HT3.out HWB.out HBW.out hg4 hr4 HAB2.out hab4 (by omega))
  have HO4 := Lib.hid (own_wb (own_below HO1.out HV3.out) hg4 HW2.out)
  have HI4 := Lib.hid hi4
  clear hi4 hr4 hab4 hg4 HC20
  refine hKK.out _ _ (HCZ4.out) (fun hSy => ?_)
  clear hKK hSx
  have hSx := hSy
  clear hSy KK
  try simp only [Act.put, List.setIfInBounds_toArray, List.set_cons_zero, List.set_cons_succ]
  refine wpAnyH_ready (rs := [8]) (by kernel_rfl) (by simp) ?_
  refine AllReadyH.cons (o := ⟨some 19, _, _, _, _, none⟩) rfl (fun KK hKK => ?_) AllReadyH.nil
  go_simp
  have HC18 := Lib.hid (same20 (c := d1) (d := d2) (row_own HO4.out) HI4.out.ids (by have := HPL.out; omega))
  simp only [decide_true] at HC18
  with_reducible refine Calls.mono HC18.out ?_
  rintro e z5 ⟨rfl, q5, hz5⟩
  have HZ5 := Lib.hid hz5
  clear hz5 HC18
  have HCZ5 : Hid (CellsAct b0 1 man A hs.length c z5) := Lib.hid (by rw [HZ5.out]; exact HCZ4.out)
  refine hKK.out _ _ (HCZ5.out) (fun hSy => ?_)
  clear hKK hSx
  have hSx := hSy
  clear hSy KK
  try simp only [Act.put, List.setIfInBounds_toArray, List.set_cons_zero, List.set_cons_succ]
  refine wpAnyH_take (i := 9) (oi := ⟨some 6, _, _, _, _, none⟩) (v := ?_) rfl (by kernel_rfl) (by kernel_rfl) (by kernel_rfl) (fun _ _ _ h => h) (Or.inl ⟨by kernel_rfl, ?_⟩) hSx ?_
  rotate_left 1
  focus (intro wx hSw; obtain ⟨s0, s1, s2⟩ := hSw; go_simp; first | done | with_reducible rfl)
  try simp only [Act.put, List.setIfInBounds_toArray, List.set_cons_zero, List.set_cons_succ]
  refine wpAnyH_done (by kernel_rfl) ?_ _
  clear hSx
  go_wp2_with fail
  go_ret
  exact ⟨rfl, by rw [← HRR.out]; exact HJ.out.drewN' HZ5.out⟩
set_option maxRecDepth 100000 in
set_option maxHeartbeats 8000000 in
theorem does9_peek {W0 W : World} {xb wb ph mo N c : Nat} {R : List Rw} {kind : Int} {man : Id} {A : Option Addr} {hs : List Fp} (h : Jt W0 W xb wb ph mo N R) (hf : Fps W0 A hs) (ha : AllFp hs) (hk : kind = 2) :
    Calls Try.prog 9 #[.pointer (some ⟨xb, 0, none⟩), .pointer (some ⟨wb, 0, none⟩), .agg #[.int .i64 kind, .int .u32 man, .slice A hs.length c]] W (DoesPost W0 xb wb ph mo (N + 20) (R)) := by
  obtain ⟨T, E, RA, rc, rs, hx, hr, hE, hR, hT, hwb, hb0⟩ := h
  have HX := Lib.hid hx
  have HR := Lib.hid hr
  have HT := Lib.hid hT
  have HWB := Lib.hid hwb
  have HB0 := Lib.hid hb0
  have HEQ : Hid (abE E = abR rs) := Lib.hid (hE.trans hR.symm)
  have HRR := Lib.hid hR
  have HRG : Hid (Rg ph mo (abR rs)) := Lib.hid (by rw [hR, ← hE]; exact hx.rg)
  have HA := Lib.hid ha
  have HF := Lib.hid hf
  have HC0 := Lib.hid (cellsAct_new W kind man A hs.length c)
  have HBX : Hid (Below W.heap.size W (W.alloc (.cells #[.int .i64 kind, .int .u32 man, .slice A hs.length c] 36))) := Lib.hid ((Below.refl _ _).alloc (Nat.le_refl _) _)
  have HLT : Hid (W.heap.size < (W.alloc (.cells #[.int .i64 kind, .int .u32 man, .slice A hs.length c] 36)).heap.size) := Lib.hid (by rw [World.size_alloc]; omega)
  have HNT : Hid (¬ T W.heap.size ∧ wb ≠ W.heap.size) := Lib.hid ⟨fun q => by have := hr.lt _ q; omega, fun q => by have := hr.gw.2; omega⟩
  have HHF := Lib.hid (headF_is ha)
  clear hx hr hE hR hT hwb hb0 ha hf
  subst hk
  have HPL : Hid ((peekA (abR rs) (headF hs)).length ≤ 100) := Lib.hid (by
    rcases at_cases rs (headF hs) with ⟨hno, _⟩ | ⟨q, r, hq, he, _, hn2⟩
    · rw [peekR_none hno]; exact Nat.zero_le _
    · rw [peekR_hit hq he hn2]; exact (HR.out.ok r (List.mem_of_getElem? hq)).len)
  go_enter Try.func9, Try.ntmps9
  go_upto_region 1 with fail
  obtain ⟨b0, hb0⟩ : ∃ b0, b0 = W.heap.size := ⟨_, rfl⟩
  rw [← hb0] at HC0 HLT HNT ⊢
  have HX1 : Hid (Xs T (W.alloc (.cells #[.int .i64 2, .int .u32 man, .slice A hs.length c] 36)) (W.alloc (.cells #[.int .i64 2, .int .u32 man, .slice A hs.length c] 36)) W0.heap.size xb ph mo N E) := Lib.hid (HX.out.rebase HBX.out HR.out.lt)
  have HR1 := Lib.hid (HR.out.below HBX.out)
  have HB1 : Hid (Below W0.heap.size W0 (W.alloc (.cells #[.int .i64 2, .int .u32 man, .slice A hs.length c] 36))) := Lib.hid (HB0.out.trans (HBX.out.mono HB0.out.size))
  clear HX HR HB0 HBX hb0
  generalize W.alloc (.cells #[.int .i64 2, .int .u32 man, .slice A hs.length c] 36) = V at *
  have c0 := HC0.out.1
  go_wp2_with fail
  refine wp_region_held_drew (S := (CellsAct b0 2 man A hs.length c)) (by kernel_rfl) ?_ (fun hSx => ?_)
  · exact (HC0.out.below (below_drew (Below.refl _ _)) HLT.out)
  refine wpAnyH_take (i := 0) (oi := ⟨some 22, _, _, _, _, none⟩) (v := ?_) rfl (by kernel_rfl) (by kernel_rfl) (by kernel_rfl) (fun _ _ _ h => h) (Or.inl ⟨by kernel_rfl, ?_⟩) hSx ?_
  rotate_left 1
  focus (intro wx hSw; obtain ⟨s0, s1, s2⟩ := hSw; go_simp; first | done | with_reducible rfl)
  try simp only [Act.put, List.setIfInBounds_toArray, List.set_cons_zero, List.set_cons_succ]
  refine wpAnyH_take (i := 1) (oi := ⟨some 23, _, _, _, _, none⟩) (v := ?_) rfl (by kernel_rfl) (by kernel_rfl) (by kernel_rfl) (fun _ _ _ h => h) (Or.inl ⟨by kernel_rfl, ?_⟩) hSx ?_
  rotate_left 1
  focus (intro wx hSw; obtain ⟨s0, s1, s2⟩ := hSw; go_simp; first | done | with_reducible rfl)
  try simp only [Act.put, List.setIfInBounds_toArray, List.set_cons_zero, List.set_cons_succ]
  refine wpAnyH_take (i := 4) (oi := ⟨some 26, _, _, _, _, none⟩) (v := ?_) rfl (by kernel_rfl) (by kernel_rfl) (by kernel_rfl) (fun _ _ _ h => h) (Or.inl ⟨by kernel_rfl, ?_⟩) hSx ?_
  rotate_left 1
  focus (intro wx hSw; obtain ⟨s0, s1, s2⟩ := hSw; go_simp; first | done | with_reducible rfl)
  try simp only [Act.put, List.setIfInBounds_toArray, List.set_cons_zero, List.set_cons_succ]
  refine wpAnyH_take (i := 5) (oi := ⟨some 27, _, _, _, _, none⟩) (v := ?_) rfl (by kernel_rfl) (by kernel_rfl) (by kernel_rfl) (fun _ _ _ h => h) (Or.inl ⟨by kernel_rfl, ?_⟩) hSx ?_
  rotate_left 1
  focus (intro wx hSw; obtain ⟨s0, s1, s2⟩ := hSw; go_simp; first | done | with_reducible rfl)
  try simp only [Act.put, List.setIfInBounds_toArray, List.set_cons_zero, List.set_cons_succ]
  refine wpAnyH_ready (rs := [2]) (by kernel_rfl) (by simp) ?_
  refine AllReadyH.cons (o := ⟨some 24, _, _, _, _, none⟩) rfl (fun KK hKK => ?_) AllReadyH.nil
  go_simp
  have HV0 : Hid (Below V.heap.size V V.drew) := Lib.hid (below_drew (Below.refl _ _))
  have HC19 := Lib.hid (first19 (kind := 2) (man := man) (c := c) (HF.out.below (HB1.out.trans (HV0.out.mono HB1.out.size))) HA.out)
  with_reducible refine Calls.mono HC19.out ?_
  rintro e z1 ⟨rfl, hb1⟩
  have HV1 : Hid (Below V.heap.size V z1) := Lib.hid (HV0.out.trans (hb1.mono HV0.out.size))
  clear hb1 HC19
  refine hKK.out _ _ (HC0.out.below HV1.out HLT.out) (fun hSy => ?_)
  clear hKK hSx
  have hSx := hSy
  clear hSy KK
  try simp only [Act.put, List.setIfInBounds_toArray, List.set_cons_zero, List.set_cons_succ]
  refine wpAnyH_ready (rs := [3]) (by kernel_rfl) (by simp) ?_
  refine AllReadyH.cons (o := ⟨some 25, _, _, _, _, none⟩) rfl (fun KK hKK => ?_) AllReadyH.nil
  go_simp
  have HXZ := Lib.hid (HX1.out.rebase HV1.out HR1.out.lt)
  have HRZ := Lib.hid (HR1.out.below HV1.out)
  have HC14 := Lib.hid (peek14 HXZ.out HHF.out)
  rw [HEQ.out] at HC14
  with_reducible refine Calls.mono HC14.out ?_
  rintro e z2 ⟨B1, d1, rfl, ho1, hb2⟩
  have HV2 : Hid (Below V.heap.size V z2) := Lib.hid (HV1.out.trans (hb2.mono HV1.out.size))
  have HO1 := Lib.hid ho1
  clear ho1 hb2 HC14
  refine hKK.out _ _ (HC0.out.below HV2.out HLT.out) (fun hSy => ?_)
  clear hKK hSx
  have hSx := hSy
  clear hSy KK
  try simp only [Act.put, List.setIfInBounds_toArray, List.set_cons_zero, List.set_cons_succ]
  refine wpAnyH_ready (rs := [6]) (by kernel_rfl) (by simp) ?_
  refine AllReadyH.cons (o := ⟨some 28, _, _, _, _, none⟩) rfl (fun KK hKK => ?_) AllReadyH.nil
  go_simp
  have HC19 := Lib.hid (first19 (kind := 2) (man := man) (c := c) (HF.out.below (HB1.out.trans (HV2.out.mono HB1.out.size))) HA.out)
  with_reducible refine Calls.mono HC19.out ?_
  rintro e z3 ⟨rfl, hb3⟩
  have HV3 : Hid (Below V.heap.size V z3) := Lib.hid (HV2.out.trans (hb3.mono HV2.out.size))
  have HO3 := Lib.hid (own_below HO1.out hb3)
  clear hb3 HC19
  refine hKK.out _ _ (HC0.out.below HV3.out HLT.out) (fun hSy => ?_)
  clear hKK hSx
  have hSx := hSy
  clear hSy KK
  try simp only [Act.put, List.setIfInBounds_toArray, List.set_cons_zero, List.set_cons_succ]
  refine wpAnyH_ready (rs := [7]) (by kernel_rfl) (by simp) ?_
  refine AllReadyH.cons (o := ⟨some 29, _, _, _, _, none⟩) rfl (fun KK hKK => ?_) AllReadyH.nil
  go_simp
  have HRW := Lib.hid (HR1.out.below HV3.out)
  have HC21 := Lib.hid (peek21 HRW.out HHF.out)
  with_reducible refine Calls.mono HC21.out ?_
  rintro e z4 ⟨B2, d2, rfl, hi4, _, hb4, _⟩
  have HV4 : Hid (Below V.heap.size V z4) := Lib.hid (HV3.out.trans (hb4.mono HV3.out.size))
  have HO4 := Lib.hid (own_below HO3.out hb4)
  have HI4 := Lib.hid hi4
  have HJ : Hid (Jt W0 z4 xb wb ph mo (N + 20) (abR rs)) := Lib.hid ⟨T, E, RA, rc, rs, (HX1.out.rebase HV4.out HR1.out.lt).mono (by omega), HR1.out.below HV4.out, HEQ.out, rfl, HT.out, HWB.out, HB1.out.trans (HV4.out.mono HB1.out.size)⟩
  clear hi4 hb4 HC21
  refine hKK.out _ _ (HC0.out.below HV4.out HLT.out) (fun hSy => ?_)
  clear hKK hSx
  have hSx := hSy
  clear hSy KK
  try simp only [Act.put, List.setIfInBounds_toArray, List.set_cons_zero, List.set_cons_succ]
  refine wpAnyH_ready (rs := [8]) (by kernel_rfl) (by simp) ?_
  refine AllReadyH.cons (o := ⟨some 30, _, _, _, _, none⟩) rfl (fun KK hKK => ?_) AllReadyH.nil
  go_simp
  have HC18 := Lib.hid (same20 (c := d1) (d := d2) (row_own HO4.out) HI4.out.ids (by have := HPL.out; omega))
  simp only [decide_true] at HC18
  with_reducible refine Calls.mono HC18.out ?_
  rintro e z5 ⟨rfl, q5, hz5⟩
  have HZ5 := Lib.hid hz5
  clear hz5 HC18
  have HCZ5 : Hid (CellsAct b0 2 man A hs.length c z5) := Lib.hid (by rw [HZ5.out]; exact HC0.out.below (below_drewN HV4.out q5) HLT.out)
  refine hKK.out _ _ (HCZ5.out) (fun hSy => ?_)
  clear hKK hSx
  have hSx := hSy
  clear hSy KK
  try simp only [Act.put, List.setIfInBounds_toArray, List.set_cons_zero, List.set_cons_succ]
  refine wpAnyH_take (i := 9) (oi := ⟨some 6, _, _, _, _, none⟩) (v := ?_) rfl (by kernel_rfl) (by kernel_rfl) (by kernel_rfl) (fun _ _ _ h => h) (Or.inl ⟨by kernel_rfl, ?_⟩) hSx ?_
  rotate_left 1
  focus (intro wx hSw; obtain ⟨s0, s1, s2⟩ := hSw; go_simp; first | done | with_reducible rfl)
  try simp only [Act.put, List.setIfInBounds_toArray, List.set_cons_zero, List.set_cons_succ]
  refine wpAnyH_done (by kernel_rfl) ?_ _
  clear hSx
  go_wp2_with fail
  go_ret
  exact ⟨rfl, by rw [← HRR.out]; exact HJ.out.drewN' HZ5.out⟩
set_option maxRecDepth 100000 in
set_option maxHeartbeats 8000000 in
theorem does9_drop {W0 W : World} {xb wb ph mo N c : Nat} {R : List Rw} {kind : Int} {man : Id} {A : Option Addr} {hs : List Fp} (h : Jt W0 W xb wb ph mo N R) (hf : Fps W0 A hs) (ha : AllFp hs) (hN : N ≤ 100000) (hk : kind = 3) :
    Calls Try.prog 9 #[.pointer (some ⟨xb, 0, none⟩), .pointer (some ⟨wb, 0, none⟩), .agg #[.int .i64 kind, .int .u32 man, .slice A hs.length c]] W (DoesPost W0 xb wb ph mo (N + 20) (dropA R man)) := by
  obtain ⟨T, E, RA, rc, rs, hx, hr, hE, hR, hT, hwb, hb0⟩ := h
  have HX := Lib.hid hx
  have HR := Lib.hid hr
  have HT := Lib.hid hT
  have HWB := Lib.hid hwb
  have HB0 := Lib.hid hb0
  have HEQ : Hid (abE E = abR rs) := Lib.hid (hE.trans hR.symm)
  have HRR := Lib.hid hR
  have HRG : Hid (Rg ph mo (abR rs)) := Lib.hid (by rw [hR, ← hE]; exact hx.rg)
  have HA := Lib.hid ha
  have HF := Lib.hid hf
  have HC0 := Lib.hid (cellsAct_new W kind man A hs.length c)
  have HBX : Hid (Below W.heap.size W (W.alloc (.cells #[.int .i64 kind, .int .u32 man, .slice A hs.length c] 36))) := Lib.hid ((Below.refl _ _).alloc (Nat.le_refl _) _)
  have HLT : Hid (W.heap.size < (W.alloc (.cells #[.int .i64 kind, .int .u32 man, .slice A hs.length c] 36)).heap.size) := Lib.hid (by rw [World.size_alloc]; omega)
  have HNT : Hid (¬ T W.heap.size ∧ wb ≠ W.heap.size) := Lib.hid ⟨fun q => by have := hr.lt _ q; omega, fun q => by have := hr.gw.2; omega⟩
  have HHF := Lib.hid (headF_is ha)
  clear hx hr hE hR hT hwb hb0 ha hf
  subst hk
  go_enter Try.func9, Try.ntmps9
  go_upto_region 1 with fail
  obtain ⟨b0, hb0⟩ : ∃ b0, b0 = W.heap.size := ⟨_, rfl⟩
  rw [← hb0] at HC0 HLT HNT ⊢
  have HX1 : Hid (Xs T (W.alloc (.cells #[.int .i64 3, .int .u32 man, .slice A hs.length c] 36)) (W.alloc (.cells #[.int .i64 3, .int .u32 man, .slice A hs.length c] 36)) W0.heap.size xb ph mo N E) := Lib.hid (HX.out.rebase HBX.out HR.out.lt)
  have HR1 := Lib.hid (HR.out.below HBX.out)
  have HB1 : Hid (Below W0.heap.size W0 (W.alloc (.cells #[.int .i64 3, .int .u32 man, .slice A hs.length c] 36))) := Lib.hid (HB0.out.trans (HBX.out.mono HB0.out.size))
  clear HX HR HB0 HBX hb0
  generalize W.alloc (.cells #[.int .i64 3, .int .u32 man, .slice A hs.length c] 36) = V at *
  have c0 := HC0.out.1
  go_wp2_with fail
  refine wp_region_held_drew (S := (CellsAct b0 3 man A hs.length c)) (by kernel_rfl) ?_ (fun hSx => ?_)
  · exact (HC0.out.below (below_drew (Below.refl _ _)) HLT.out)
  refine wpAnyH_take (i := 0) (oi := ⟨some 33, _, _, _, _, none⟩) (v := ?_) rfl (by kernel_rfl) (by kernel_rfl) (by kernel_rfl) (fun _ _ _ h => h) (Or.inl ⟨by kernel_rfl, ?_⟩) hSx ?_
  rotate_left 1
  focus (intro wx hSw; obtain ⟨s0, s1, s2⟩ := hSw; go_simp; first | done | with_reducible rfl)
  try simp only [Act.put, List.setIfInBounds_toArray, List.set_cons_zero, List.set_cons_succ]
  refine wpAnyH_take (i := 1) (oi := ⟨some 34, _, _, _, _, none⟩) (v := ?_) rfl (by kernel_rfl) (by kernel_rfl) (by kernel_rfl) (fun _ _ _ h => h) (Or.inl ⟨by kernel_rfl, ?_⟩) hSx ?_
  rotate_left 1
  focus (intro wx hSw; obtain ⟨s0, s1, s2⟩ := hSw; go_simp; first | done | with_reducible rfl)
  try simp only [Act.put, List.setIfInBounds_toArray, List.set_cons_zero, List.set_cons_succ]
  refine wpAnyH_take (i := 2) (oi := ⟨some 35, _, _, _, _, none⟩) (v := ?_) rfl (by kernel_rfl) (by kernel_rfl) (by kernel_rfl) (fun _ _ _ h => h) (Or.inl ⟨by kernel_rfl, ?_⟩) hSx ?_
  rotate_left 1
  focus (intro wx hSw; obtain ⟨s0, s1, s2⟩ := hSw; go_simp; first | done | with_reducible rfl)
  try simp only [Act.put, List.setIfInBounds_toArray, List.set_cons_zero, List.set_cons_succ]
  refine wpAnyH_take (i := 4) (oi := ⟨some 37, _, _, _, _, none⟩) (v := ?_) rfl (by kernel_rfl) (by kernel_rfl) (by kernel_rfl) (fun _ _ _ h => h) (Or.inl ⟨by kernel_rfl, ?_⟩) hSx ?_
  rotate_left 1
  focus (intro wx hSw; obtain ⟨s0, s1, s2⟩ := hSw; go_simp; first | done | with_reducible rfl)
  try simp only [Act.put, List.setIfInBounds_toArray, List.set_cons_zero, List.set_cons_succ]
  refine wpAnyH_take (i := 5) (oi := ⟨some 38, _, _, _, _, none⟩) (v := ?_) rfl (by kernel_rfl) (by kernel_rfl) (by kernel_rfl) (fun _ _ _ h => h) (Or.inl ⟨by kernel_rfl, ?_⟩) hSx ?_
  rotate_left 1
  focus (intro wx hSw; obtain ⟨s0, s1, s2⟩ := hSw; go_simp; first | done | with_reducible rfl)
  try simp only [Act.put, List.setIfInBounds_toArray, List.set_cons_zero, List.set_cons_succ]
  refine wpAnyH_take (i := 6) (oi := ⟨some 39, _, _, _, _, none⟩) (v := ?_) rfl (by kernel_rfl) (by kernel_rfl) (by kernel_rfl) (fun _ _ _ h => h) (Or.inl ⟨by kernel_rfl, ?_⟩) hSx ?_
  rotate_left 1
  focus (intro wx hSw; obtain ⟨s0, s1, s2⟩ := hSw; go_simp; first | done | with_reducible rfl)
  try simp only [Act.put, List.setIfInBounds_toArray, List.set_cons_zero, List.set_cons_succ]
  refine wpAnyH_ready (rs := [3]) (by kernel_rfl) (by simp) ?_
  refine AllReadyH.cons (o := ⟨some 36, _, _, _, _, none⟩) rfl (fun KK hKK => ?_) AllReadyH.nil
  go_simp
  have HV0 : Hid (Below V.heap.size V V.drew) := Lib.hid (below_drew (Below.refl _ _))
  have HXZ := Lib.hid (HX1.out.rebase HV0.out HR1.out.lt)
  have HRZ := Lib.hid (HR1.out.below HV0.out)
  have HC16 := Lib.hid (drop16 (man := man) HXZ.out (by omega))
  rw [HEQ.out] at HC16
  with_reducible refine Calls.mono HC16.out ?_
  rintro e z2 ⟨rfl, E2, hx2, hab2⟩
  have HCZ := Lib.hid ((HC0.out.below HV0.out HLT.out).tn hx2.tn (Nat.lt_of_lt_of_le HLT.out HV0.out.size) (fun q => HNT.out.1 q))
  obtain ⟨T2, hx3, hr3, hT3⟩ := xs_next HRZ.out hx2
  have HX3 := Lib.hid hx3
  have HR3 := Lib.hid hr3
  have HT3 := Lib.hid hT3
  have HAB2 := Lib.hid hab2
  have HB2 : Hid (Below W0.heap.size W0 z2) := Lib.hid (below_tn (HB1.out.trans (HV0.out.mono HB1.out.size)) hx2.tn HT.out)
  clear hx2 hab2 hx3 hr3 hT3 HC16
  refine hKK.out _ _ (HCZ.out) (fun hSy => ?_)
  clear hKK hSx
  have hSx := hSy
  clear hSy KK
  try simp only [Act.put, List.setIfInBounds_toArray, List.set_cons_zero, List.set_cons_succ]
  refine wpAnyH_ready (rs := [7]) (by kernel_rfl) (by simp) ?_
  refine AllReadyH.cons (o := ⟨some 40, _, _, _, _, none⟩) rfl (fun KK hKK => ?_) AllReadyH.nil
  go_simp
  have HC22 := Lib.hid (drop22 (man := man) HR3.out)
  with_reducible refine Calls.mono HC22.out ?_
  rintro e z4 ⟨rfl, ⟨A4, c4, rs4, hr4, hab4⟩, hg4⟩
  have HCZ4 := Lib.hid (HCZ.out.grown hg4 HNT.out.2)
  have HJ : Hid (Jt W0 z4 xb wb ph mo (N + 20) (dropA (abR rs) man)) := Lib.hid (jt_close HX3.out HR3.out HT3.out HWB.out HB2.out hg4 hr4 HAB2.out hab4 (by omega))
  clear hr4 hab4 hg4 HC22
  refine hKK.out _ _ (HCZ4.out) (fun hSy => ?_)
  clear hKK hSx
  have hSx := hSy
  clear hSy KK
  try simp only [Act.put, List.setIfInBounds_toArray, List.set_cons_zero, List.set_cons_succ]
  refine wpAnyH_take (i := 8) (oi := ⟨some 41, _, _, _, _, none⟩) (v := ?_) rfl (by kernel_rfl) (by kernel_rfl) (by kernel_rfl) (fun _ _ _ h => h) (Or.inl ⟨by kernel_rfl, ?_⟩) hSx ?_
  rotate_left 1
  focus (intro wx hSw; obtain ⟨s0, s1, s2⟩ := hSw; go_simp; first | done | with_reducible rfl)
  try simp only [Act.put, List.setIfInBounds_toArray, List.set_cons_zero, List.set_cons_succ]
  refine wpAnyH_take (i := 9) (oi := ⟨some 6, _, _, _, _, none⟩) (v := ?_) rfl (by kernel_rfl) (by kernel_rfl) (by kernel_rfl) (fun _ _ _ h => h) (Or.inl ⟨by kernel_rfl, ?_⟩) hSx ?_
  rotate_left 1
  focus (intro wx hSw; obtain ⟨s0, s1, s2⟩ := hSw; go_simp; first | done | with_reducible rfl)
  try simp only [Act.put, List.setIfInBounds_toArray, List.set_cons_zero, List.set_cons_succ]
  refine wpAnyH_done (by kernel_rfl) ?_ _
  clear hSx
  go_wp2_with fail
  go_ret
  exact ⟨rfl, by rw [← HRR.out]; exact HJ.out⟩
set_option maxRecDepth 100000 in
set_option maxHeartbeats 8000000 in
theorem does9_put {W0 W : World} {xb wb ph mo N c : Nat} {R : List Rw} {kind : Int} {man : Id} {A : Option Addr} {hs : List Fp} (h : Jt W0 W xb wb ph mo N R) (hf : Fps W0 A hs) (ha : AllFp hs) (hA : AOz A hs.length) (hl : hs.length ≤ 20) (hN : N ≤ 100000) (hk1 : kind ≠ 1) (hk2 : kind ≠ 2) (hk3 : kind ≠ 3) :
    Calls Try.prog 9 #[.pointer (some ⟨xb, 0, none⟩), .pointer (some ⟨wb, 0, none⟩), .agg #[.int .i64 kind, .int .u32 man, .slice A hs.length c]] W (DoesPost W0 xb wb ph mo (N + 20) (putsA ph mo R man (setF hs))) := by
  obtain ⟨T, E, RA, rc, rs, hx, hr, hE, hR, hT, hwb, hb0⟩ := h
  have HX := Lib.hid hx
  have HR := Lib.hid hr
  have HT := Lib.hid hT
  have HWB := Lib.hid hwb
  have HB0 := Lib.hid hb0
  have HEQ : Hid (abE E = abR rs) := Lib.hid (hE.trans hR.symm)
  have HRR := Lib.hid hR
  have HRG : Hid (Rg ph mo (abR rs)) := Lib.hid (by rw [hR, ← hE]; exact hx.rg)
  have HA := Lib.hid ha
  have HF := Lib.hid hf
  have HC0 := Lib.hid (cellsAct_new W kind man A hs.length c)
  have HBX : Hid (Below W.heap.size W (W.alloc (.cells #[.int .i64 kind, .int .u32 man, .slice A hs.length c] 36))) := Lib.hid ((Below.refl _ _).alloc (Nat.le_refl _) _)
  have HLT : Hid (W.heap.size < (W.alloc (.cells #[.int .i64 kind, .int .u32 man, .slice A hs.length c] 36)).heap.size) := Lib.hid (by rw [World.size_alloc]; omega)
  have HNT : Hid (¬ T W.heap.size ∧ wb ≠ W.heap.size) := Lib.hid ⟨fun q => by have := hr.lt _ q; omega, fun q => by have := hr.gw.2; omega⟩
  have HHF := Lib.hid (headF_is ha)
  clear hx hr hE hR hT hwb hb0 ha hf
  go_enter Try.func9, Try.ntmps9
  go_upto_region 1 with fail
  obtain ⟨b0, hb0⟩ : ∃ b0, b0 = W.heap.size := ⟨_, rfl⟩
  rw [← hb0] at HC0 HLT HNT ⊢
  have HX1 : Hid (Xs T (W.alloc (.cells #[.int .i64 kind, .int .u32 man, .slice A hs.length c] 36)) (W.alloc (.cells #[.int .i64 kind, .int .u32 man, .slice A hs.length c] 36)) W0.heap.size xb ph mo N E) := Lib.hid (HX.out.rebase HBX.out HR.out.lt)
  have HR1 := Lib.hid (HR.out.below HBX.out)
  have HB1 : Hid (Below W0.heap.size W0 (W.alloc (.cells #[.int .i64 kind, .int .u32 man, .slice A hs.length c] 36))) := Lib.hid (HB0.out.trans (HBX.out.mono HB0.out.size))
  clear HX HR HB0 HBX hb0
  generalize W.alloc (.cells #[.int .i64 kind, .int .u32 man, .slice A hs.length c] 36) = V at *
  have c0 := HC0.out.1
  have hk1' : (kind == 1) = false := by rw [beq_eq_false_iff_ne]; exact hk1
  have hk2' : (kind == 2) = false := by rw [beq_eq_false_iff_ne]; exact hk2
  have hk3' : (kind == 3) = false := by rw [beq_eq_false_iff_ne]; exact hk3
  have c1 := HC0.out.2.1
  have c2 := HC0.out.2.2
  have HC12 := Lib.hid (put12 (c := c) (man := man) HX1.out (HF.out.below HB1.out) HA.out hA (by omega) (by omega))
  rw [HEQ.out] at HC12
  go_wp2_with fail
  refine Calls.mono HC12.out ?_
  rintro _ z2 ⟨rfl, E2, hx2, hab2⟩
  have HCZ := Lib.hid (HC0.out.tn hx2.tn HLT.out (fun q => HNT.out.1 q))
  obtain ⟨T2, hx3, hr3, hT3⟩ := xs_next HR1.out hx2
  have HX3 := Lib.hid hx3
  have HR3 := Lib.hid hr3
  have HT3 := Lib.hid hT3
  have HAB2 := Lib.hid hab2
  have HB2 : Hid (Below W0.heap.size W0 z2) := Lib.hid (below_tn HB1.out hx2.tn HT.out)
  clear hx2 hab2 hx3 hr3 hT3 HC12 c0 c1 c2
  have c1 := HCZ.out.2.1
  have c2 := HCZ.out.2.2
  have HC23 := Lib.hid (rput23 (d := c) (man := man) HR3.out HRG.out (HF.out.below HB2.out) HA.out (by omega))
  go_wp2_with fail
  refine Calls.mono HC23.out ?_
  rintro _ z4 ⟨rfl, ⟨A4, c4, rs4, hr4, hab4⟩, hg4⟩
  have HJ : Hid (Jt W0 z4 xb wb ph mo (N + 20) (putsA ph mo (abR rs) man (setF hs))) := Lib.hid (jt_close HX3.out HR3.out HT3.out HWB.out HB2.out hg4 hr4 HAB2.out hab4 (by omega))
  clear hr4 hab4 hg4 HC23 c1 c2
  go_wp2_with fail
  go_ret
  exact ⟨rfl, by rw [← HRR.out]; exact HJ.out⟩
theorem does9 {W0 W : World} {xb wb ph mo N c : Nat} {R : List Rw} {kind : Int} {man : Id} {A : Option Addr} {hs : List Fp} (h : Jt W0 W xb wb ph mo N R) (hf : Fps W0 A hs) (ha : AllFp hs) (hA : AOz A hs.length) (hl : hs.length ≤ 20) (hN : N ≤ 100000) :
    Calls Try.prog 9 #[.pointer (some ⟨xb, 0, none⟩), .pointer (some ⟨wb, 0, none⟩), .agg #[.int .i64 kind, .int .u32 man, .slice A hs.length c]] W (DoesPost W0 xb wb ph mo (N + 20) (actA ph mo R kind man hs)) := by
  unfold actA
  by_cases h1 : kind = 1
  · rw [if_pos h1]; exact does9_look h hf ha hN h1
  · rw [if_neg h1]
    by_cases h2 : kind = 2
    · rw [if_pos h2]; exact does9_peek h hf ha h2
    · rw [if_neg h2]
      by_cases h3 : kind = 3
      · rw [if_pos h3]; exact does9_drop h hf ha hN h3
      · rw [if_neg h3]; exact does9_put h hf ha hA hl hN h1 h2 h3
end Go.Proofs.Ytnpgfhoagpeelaa
