/- The walk over put. -/
import Derived.Test.YtnpgfhoagpeelaaB8
namespace Go.Proofs.Ytnpgfhoagpeelaa
open Go.RowKit
open Go.Maps
def evE (mo : Nat) : List En → List En
  | [] => []
  | e :: S => if mo < lnN (e :: S) then evE mo S else e :: S
def newL (ph : Nat) (old : List Id) (man : Id) : List Id := (man :: old).take ph
theorem evE_suffix (mo : Nat) : ∀ E : List En, ∃ D, E = D ++ evE mo E
  | [] => ⟨[], rfl⟩
  | e :: S => by
    unfold evE
    split
    · obtain ⟨D, hD⟩ := evE_suffix mo S
      exact ⟨e :: D, by rw [List.cons_append, ← hD]⟩
    · exact ⟨[], rfl⟩
theorem evE_sub (mo : Nat) (E : List En) : (evE mo E).Sublist E := by
  obtain ⟨D, h⟩ := evE_suffix mo E
  conv => rhs; rw [h]
  exact List.sublist_append_right _ _
theorem evE_le (mo : Nat) : ∀ E : List En, lnN (evE mo E) ≤ mo
  | [] => Nat.zero_le _
  | e :: S => by
    unfold evE
    split
    · exact evE_le mo S
    · omega
theorem evE_stop {mo : Nat} {E : List En} (h : ¬ mo < lnN E) : evE mo E = E := by
  cases E with
  | nil => rfl
  | cons e S => unfold evE; rw [if_neg h]
theorem own_head {W : World} {base : Nat} {A : Option Addr} {c : Nat} {l : List Id} (h : OwnI W base (.slice A l.length c) l) (m : Nat) : OwnI W base (.slice A (l.take m).length c) (l.take m) := by
  by_cases h0 : l = []
  · subst h0
    rw [List.take_nil]
    exact h
  · have hpos := List.length_pos_iff.2 h0
    obtain ⟨g, cap, e1, _⟩ := own_some h (fun e => by injection e with _ e _; omega)
    injection e1 with e1 _ e3
    subst e1; subst e3
    obtain ⟨hb, hnc, hcm, hil, cur, hg, hs, hx⟩ := own_cells h
    have hl : (l.take m).length ≤ l.length := by rw [List.length_take]; omega
    refine own_of_block hb hg hs (by omega) hcm (by rw [idL_len]) (fun j hj => ?_)
    rw [hx j (by omega)]
    unfold idL
    rw [List.getElem?_map, List.getElem?_map, List.getElem?_take_of_lt (by rw [List.length_take] at hj; omega)]
theorem lnN_sub {E' E : List En} (h : E'.Sublist E) : lnN E' ≤ lnN E := by
  induction h with
  | slnil => exact Nat.le_refl _
  | cons a _ ih => simp only [lnN, List.map_cons, List.sum_cons] at *; omega
  | cons_cons a _ ih => simp only [lnN, List.map_cons, List.sum_cons] at *; omega
theorem Mem.hp {W : World} {base xb mb ph mo now n : Nat} {pairs : Int} {fm : Fp → Option Nat} {E : List En} (h : Mem W base xb mb ph mo pairs now n fm E) : base ≤ W.heap.size := Nat.le_of_lt (Nat.lt_of_le_of_lt h.bx (lt_of_block h.hd))
def PutPost (T : Nat → Prop) (W0 : World) (base xb mb ph mo now n : Nat) (E : List En) (f : Fp) (man : Id) (r : Ending) (W' : World) : Prop :=
  ∃ fm' n' e5, r = .returned (.tuple #[]) ∧ n' ≤ n + 1 ∧ e5.h = f ∧ e5.l = newL ph (listE (takeE E f man) f) man ∧ e5.u = now + 1 ∧ At T W0 W' base xb mb ph mo (lnN (evE mo ((takeE E f man).filter (fun x => decide (x.h ≠ f)) ++ [e5])) : Nat) (now + 1) n' fm' (evE mo ((takeE E f man).filter (fun x => decide (x.h ≠ f)) ++ [e5])) ∧ FmOk fm' (evE mo ((takeE E f man).filter (fun x => decide (x.h ≠ f)) ++ [e5]))
theorem filter_mid {P S : List En} {e : En} (hk : HkE (P ++ e :: S)) : (P ++ e :: S).filter (fun x => decide (x.h ≠ e.h)) = P ++ S := by
  have hne := hk_ne hk
  rw [List.filter_append, List.filter_cons_of_neg (by simp), ← List.filter_append]
  exact List.filter_eq_self.2 (fun x hx => decide_eq_true (hne x hx))
theorem filter_none {E : List En} {f : Fp} (h : ∀ x ∈ E, x.h ≠ f) : E.filter (fun x => decide (x.h ≠ f)) = E := List.filter_eq_self.2 (fun x hx => decide_eq_true (h x hx))
set_option maxRecDepth 100000 in
set_option maxHeartbeats 8000000 in
theorem put28_old {T : Nat → Prop} {W0 W : World} {base xb mb ph mo now n : Nat} {fm : Fp → Option Nat} {E : List En} {f : Fp} {man : Id} (h : At T W0 W base xb mb ph mo (lnN E : Nat) now n fm E) (hf : IsFp f) (hfm : FmOk fm E) (hk : HkE E) (hg : Full E) (hl : lnN E ≤ 100000) (hs : E.Pairwise (fun a b => a.u < b.u)) (hu : ∀ x ∈ E, x.u ≤ now) (hn : now < 100000000) (_hnn : n < 100000000) (hph : 1 ≤ ph) (hll : ∀ x ∈ E, x.l.length ≤ ph) (hpm : ph ≤ 1000) (hex : ∃ x ∈ takeE E f man, x.h = f) :
    Calls Try.prog 28 #[.pointer (some ⟨xb, 0, none⟩), .int .u32 man, .agg (fpL f).toArray] W (PutPost T W0 base xb mb ph mo now n E f man) := by
  obtain ⟨b0, hb0⟩ : ∃ b0, b0 = W.heap.size := ⟨_, rfl⟩
  have HT := Lib.hid (h.boxed (.cells (fpL f).toArray 47))
  have HBX : Hid (∀ W', Tn (XB xb mb E) (W.alloc (.cells (fpL f).toArray 47)) W' → W'.rangeAt b0 0 (fpL f)) := Lib.hid (fun W' ht => box_range (h.box_stays _ hb0 ht))
  have HUB : Hid (∀ W' n' now' pairs' fm' E', At (XB xb mb E) (W.alloc (.cells (fpL f).toArray 47)) W' base xb mb ph mo pairs' now' n' fm' E' → At T W0 W' base xb mb ph mo pairs' now' n' fm' E') := Lib.hid (fun _ _ _ _ _ _ k => h.unbox _ k)
  have HF := Lib.hid hf
  have HIX := Lib.hid (info29f hf)
  have HRF := Lib.hid (HBX.out _ HT.out.tn)
  have HC33 := Lib.hid (take33 (man := man) HT.out hf hfm hk hg (by omega))
  have HTF := Lib.hid (take_full (f := f) (man := man) hg)
  have HTH := Lib.hid (take_hk (f := f) (man := man) hk)
  have HTS := Lib.hid (take_srt (f := f) (man := man) hs)
  have hlt := ln_take (f := f) (man := man) hk hg
  have hlt1 : lnN (takeE E f man) ≤ 100000 := by omega
  have HTU : Hid (∀ x ∈ takeE E f man, x.u ≤ now ∧ x.l.length ≤ ph) := Lib.hid (fun x hx => by
    obtain ⟨y, hy, _, e, e2⟩ := take_mem hx
    exact ⟨by rw [e]; exact hu y hy, Nat.le_trans e2.length_le (hll y hy)⟩)
  clear h hf hfm hk hg hs hu hll hl hlt
  generalize hE1 : takeE E f man = E1 at *
  unfold TakePost at HC33
  rw [hE1] at HC33
  have HE1 := Lib.hid hE1
  clear hE1
  obtain ⟨x, hx, rfl⟩ := hex
  obtain ⟨P, S, rfl⟩ := List.append_of_mem hx
  have HFL := Lib.hid (filter_mid HTH.out)
  have HLI := Lib.hid (list_mid HTH.out)
  have HFX : Hid (∀ fm', FmOk fm' (P ++ x :: S) → fm' x.h = some x.p) := Lib.hid (fun fm' q => by rw [q _ HF.out, fm_mem HTH.out (mem_mid P S x)])
  have HZ : Hid (x.l = [] → x.A = none ∧ x.c = 0) := Lib.hid (fun q => absurd q (HTF.out x (mem_mid P S x)).1)
  have HLL : Hid (x.l.length ≤ 1000) := Lib.hid (by have := (HTU.out x (mem_mid P S x)).2; omega)
  have HPHL : Hid (x.l.length ≤ ph) := Lib.hid (HTU.out x (mem_mid P S x)).2
  have HPS : Hid ((P ++ S).Pairwise (fun a b => a.u < b.u)) := Lib.hid (HTS.out.sublist (List.Sublist.append_left (List.sublist_cons_self _ _) P))
  have HPU : Hid (∀ y ∈ P ++ S, y.u ≤ now) := Lib.hid (fun y hy => (HTU.out y (by rcases List.mem_append.1 hy with h | h <;> simp [h])).1)
  have HL1 := Lib.hid (lnN_mid P S x)
  generalize lnN (P ++ x :: S) = L1 at *
  clear hx
  obtain ⟨f, p, A, c, l, u⟩ := x
  simp only at *
  go_enter Try.func28, Try.ntmps28
  go_upto_region 1 with fail
  rw [← hb0]
  clear hb0
  generalize W.alloc (.cells (fpL f).toArray 47) = W1 at *
  go_wp2_with ((with_reducible refine wpList_load_mid (op := ⟨some 8, _, _, _, _, _⟩) rfl 47 (.tmp 5) rfl b0 0 ?_ (fpL f) _ HRF.out Try.underlying47 rfl HIX.out ?_); rfl)
  refine Calls.mono HC33.out ?_
  rintro _ W2 ⟨fm1, rfl, h2, hfm1⟩
  have H2 := Lib.hid h2
  have HFM := Lib.hid hfm1
  clear h2 hfm1 HC33
  have HRF2 : Hid (∀ m, (W2.drewN m).rangeAt b0 0 (fpL f)) := Lib.hid (fun m => HBX.out _ (H2.out.drewN m).tn)
  have c2 := H2.out.mem.c.2.2.1
  have hlk : ∀ m, _ := fun m => H2.out.look HF.out m
  rw [HFX.out _ HFM.out] at hlk
  simp only [ptrV] at hlk
  go_wp2_with fail
  refine wp_region_quiet_lit (by kernel_rfl) (by kernel_rfl) ?_
  repeat (first
    | ((with_reducible refine wpQuiet_load_mid (op := ⟨some 15, _, _, _, _, _⟩) ?_ 47 (.tmp 5) rfl b0 (0) ?_ _ _ ?_ Try.underlying47 rfl HIX.out ?_); rfl; rfl; (rintro w2 ⟨q2, rfl⟩; exact HRF2.out _); go_simp)
    | go_big_quiet_step (fail))
  refine wpQuiet_nil ?_
  intro nq
  have H3 := Lib.hid (H2.out.drewN nq)
  clear hlk c2 H2 HRF2 HT HRF
  generalize W2.drewN nq = W3 at *
  have HFMX := HFM
  clear HFM
  have HEN := Lib.hid (H3.out.mem.ens _ (mem_mid P S _))
  have ce : W3.cell? ⟨p, 0, none⟩ = some (.slice A l.length c) := HEN.out.c.1
  have ceA : (W3.alloc (.cells #[.int .u32 man] 33)).cell? ⟨p, 0, none⟩ = some (.slice A l.length c) := ((H3.out.alloc (.cells #[.int .u32 man] 33)).mem.ens _ (mem_mid P S _)).c.1
  have HENA := Lib.hid ((H3.out.alloc (.cells #[.int .u32 man] 33)).mem.ens _ (mem_mid P S _))
  have HC42 : Hid (Calls Try.prog 42 #[.slice A l.length c, .int .i64 0, .slice (some ⟨W3.heap.size, 0, none⟩) 1 1] (W3.alloc (.cells #[.int .u32 man] 33)) (InsPost (W3.alloc (.cells #[.int .u32 man] 33)) base A c l man)) :=
    Lib.hid (insert42 (vcur := #[.int .u32 man]) HENA.out.own HZ.out (H3.out.alloc (.cells #[.int .u32 man] 33)).mem.hp (by have := HLL.out; omega) (fun q => by have := (HEN.out.own.lt _ q).2; omega) (heap_alloc_new _ _) (by rw [cell_of_row _ _ _ _ 33 (0, 0) (heap_alloc_new W3 (.cells #[.int .u32 man] 33))]; rfl))
  go_wp2_with fail
  refine Calls.mono HC42.out ?_
  rintro _ W4 ⟨A4, c4, rfl, hown, hgr, hat⟩
  have HA := Lib.hid (H3.out.alloc (.cells #[.int .u32 man] 33))
  have H4 := Lib.hid (HA.out.relist hgr hown hat)
  have HOWN := Lib.hid (ownsRow_setCell_other hown (fun q => by
    have hp1 := (HA.out.row_cell hgr).1
    obtain ⟨cur, hcur⟩ := own_typed hown q
    have h5 := (hgr.block p (lt_of_block HENA.out.cells) (fun q2 => (own_other HENA.out.own HENA.out.cells (fun cur => by intro q3; injection q3 with _ q3 _; cases q3)) q2.symm)).trans HENA.out.cells
    rw [hcur] at h5
    injection h5 with h5
    injection h5 with _ h5 _
    cases h5) (.slice A4 (man :: l).length c4) (a := ⟨p, 0, none⟩))
  obtain ⟨cp, fp⟩ := HA.out.row_cell hgr
  simp only [En.v] at cp fp H4
  clear hown hgr hat ce ceA HC42 HA HENA HEN H3
  go_upto_region 7 with fail
  generalize W4.setCell ⟨p, 0, none⟩ (.slice A4 (man :: l).length c4) = W5 at *
  clear cp fp
  have c3 := H4.out.mem.c.2.2.2.1
  have f3 := H4.out.mem.f 3
  have hpw : IntKind.i64.wrap (((L1 : Nat) : Int) + 1) = ((L1 : Nat) : Int) + 1 := IntWalk.i64_in _ (by omega)
  have H5 := Lib.hid (H4.out.pairsSet (((L1 : Nat) : Int) + 1))
  have HOWN2 : Hid (OwnI (W5.setCell ⟨xb, 3, none⟩ (.int .i64 (((L1 : Nat) : Int) + 1))) base (.slice A4 (man :: l).length c4) (man :: l)) := Lib.hid (H5.out.mem.ens _ (mem_mid P S _)).own
  go_upto_region 8 with fail
  generalize W5.setCell ⟨xb, 3, none⟩ (.int .i64 (((L1 : Nat) : Int) + 1)) = W6 at *
  generalize hq : ((L1 : Nat) : Int) + 1 = q at *
  have HQ := Lib.hid hq
  have hq1 : 1 ≤ q ∧ q ≤ 1000000 := by omega
  clear hq
  clear c3 f3 HOWN H4
  have ce : W6.cell? ⟨p, 0, none⟩ = some (.slice A4 (man :: l).length c4) := (H5.out.mem.ens _ (mem_mid P S _)).c.1
  have c0 := H5.out.mem.c.1
  obtain ⟨ln, hln⟩ : ∃ ln, (man :: l).length = ln := ⟨_, rfl⟩
  have HLN := Lib.hid hln
  have hlnp : ln = l.length + 1 := by rw [← hln]; rfl
  have hc4 : ln ≤ c4 := by have := own_cap HOWN2.out; omega
  have hll := HLL.out
  rw [hln] at ce
  clear hln
  by_cases hcut : ph < ln
  · have hcuti : ((ph : Nat) : Int) < (ln : Int) := by omega
    have HTK : Hid ((man :: l).take ph = newL ph l man) := Lib.hid rfl
    have HTL : Hid ((newL ph l man).length = ph) := Lib.hid (by unfold newL; rw [List.length_take, HLN.out]; omega)
    go_wp2_with fail
    go_quiet (fail)
    have H7 := Lib.hid (H5.out.drewN nq)
    have HO7 := Lib.hid (own_head (H7.out.mem.ens _ (mem_mid P S _)).own ph)
    clear ce c0 H5 HOWN2
    generalize W6.drewN nq = W7 at *
    rw [HTK.out] at HO7
    have hsame : (Value.slice A4 (newL ph l man).length c4).ownBlock = (Value.slice A4 (man :: l).length c4).ownBlock := own_same _ _ _ _
    have H8 := Lib.hid (H7.out.drew.relist (World.grownBy.refl _ _) HO7.out (fun b q => .inl (by rw [← q, hsame]; rfl)))
    simp only at H8
    rw [HTL.out] at H8
    have ce : W7.cell? ⟨p, 0, none⟩ = some (.slice A4 ln c4) := by have := (H7.out.mem.ens _ (mem_mid P S _)).c.1; rw [← HLN.out]; exact this
    have fe : W7.frozen? ⟨p, 0, none⟩ = false := (H7.out.mem.ens _ (mem_mid P S _)).f 0
    have HS9 : Hid (W7.drew.cell? ⟨xb, 0, none⟩ = some (.int .i64 (ph : Nat)) ∧ W7.drew.cell? ⟨xb, 1, none⟩ = some (.int .i64 (mo : Nat))) := Lib.hid ⟨H7.out.drew.mem.c.1, H7.out.drew.mem.c.2.1⟩
    have HS9b : Hid ((W7.drew.setCell ⟨p, 0, none⟩ (.slice A4 ph c4)).cell? ⟨xb, 0, none⟩ = some (.int .i64 (ph : Nat)) ∧ (W7.drew.setCell ⟨p, 0, none⟩ (.slice A4 ph c4)).cell? ⟨xb, 1, none⟩ = some (.int .i64 (mo : Nat))) := Lib.hid ⟨H8.out.mem.c.1, H8.out.mem.c.2.1⟩
    have hph0 : (0 : Int) ≤ ((ph : Nat) : Int) := by omega
    have hph1 : ph ≤ c4 := by omega
    clear hsame
    go_wp2_with fail
    refine wp_region_held_drew (S := (fun W => W.cell? ⟨xb, 0, none⟩ = some (.int .i64 (ph : Nat)) ∧ W.cell? ⟨xb, 1, none⟩ = some (.int .i64 (mo : Nat)))) (by kernel_rfl) ?_ (fun hSx => ?_)
    · exact HS9.out
    refine wpAnyH_take (i := 0) (oi := ⟨some 54, _, _, _, _, none⟩) (v := ?_) rfl (by kernel_rfl) (by kernel_rfl) (by kernel_rfl) (fun _ _ _ h => h) (Or.inl ⟨by kernel_rfl, ?_⟩) hSx ?_
    rotate_left 1
    focus (intro wx hSw; obtain ⟨s0, s1⟩ := hSw; go_simp; first | done | with_reducible rfl)
    try simp only [Act.put, List.setIfInBounds_toArray, List.set_cons_zero, List.set_cons_succ]
    refine wpAnyH_take (i := 1) (oi := ⟨some 55, _, _, _, _, none⟩) (v := ?_) rfl (by kernel_rfl) (by kernel_rfl) (by kernel_rfl) (fun _ _ _ h => h) (Or.inl ⟨by kernel_rfl, ?_⟩) hSx ?_
    rotate_left 1
    focus (intro wx hSw; obtain ⟨s0, s1⟩ := hSw; go_simp; first | done | with_reducible rfl)
    try simp only [Act.put, List.setIfInBounds_toArray, List.set_cons_zero, List.set_cons_succ]
    refine wpAnyH_take (i := 2) (oi := ⟨some 56, _, _, _, _, none⟩) (v := ?_) rfl (by kernel_rfl) (by kernel_rfl) (by kernel_rfl) (fun _ _ _ h => h) (Or.inl ⟨by kernel_rfl, ?_⟩) hSx ?_
    rotate_left 1
    focus (intro wx hSw; obtain ⟨s0, s1⟩ := hSw; go_simp; first | done | with_reducible rfl)
    try simp only [Act.put, List.setIfInBounds_toArray, List.set_cons_zero, List.set_cons_succ]
    refine wpAnyH_take (i := 3) (oi := ⟨some 57, _, _, _, _, none⟩) (v := ?_) rfl (by kernel_rfl) (by kernel_rfl) (by kernel_rfl) (fun _ _ _ h => h) (Or.inl ⟨by kernel_rfl, ?_⟩) hSx ?_
    rotate_left 1
    focus (intro wx hSw; obtain ⟨s0, s1⟩ := hSw; go_simp; first | done | with_reducible rfl)
    try simp only [Act.put, List.setIfInBounds_toArray, List.set_cons_zero, List.set_cons_succ]
    refine wpAnyH_take (i := 5) (oi := ⟨some 59, _, _, _, _, none⟩) (v := ?_) rfl (by kernel_rfl) (by kernel_rfl) (by kernel_rfl) (fun _ _ _ h => h) (Or.inl ⟨by kernel_rfl, ?_⟩) hSx ?_
    rotate_left 1
    focus (intro wx hSw; obtain ⟨s0, s1⟩ := hSw; go_simp; first | done | with_reducible rfl)
    try simp only [Act.put, List.setIfInBounds_toArray, List.set_cons_zero, List.set_cons_succ]
    refine wpAnyH_take (i := 6) (oi := ⟨some 60, _, _, _, _, none⟩) (v := ?_) rfl (by kernel_rfl) (by kernel_rfl) (by kernel_rfl) (fun _ _ _ h => h) (Or.inl ⟨by kernel_rfl, ?_⟩) hSx ?_
    rotate_left 1
    focus (intro wx hSw; obtain ⟨s0, s1⟩ := hSw; go_simp; first | done | with_reducible rfl)
    try simp only [Act.put, List.setIfInBounds_toArray, List.set_cons_zero, List.set_cons_succ]
    refine wpAnyH_take (i := 7) (oi := ⟨some 61, _, _, _, _, none⟩) (v := ?_) rfl (by kernel_rfl) (by kernel_rfl) (by kernel_rfl) (fun _ _ _ h => h) (Or.inl ⟨by kernel_rfl, ?_⟩) hSx ?_
    rotate_left 1
    focus (intro wx hSw; obtain ⟨s0, s1⟩ := hSw; go_simp; first | done | with_reducible rfl)
    try simp only [Act.put, List.setIfInBounds_toArray, List.set_cons_zero, List.set_cons_succ]
    refine wpAnyH_take (i := 8) (oi := ⟨some 62, _, _, _, _, none⟩) (v := ?_) rfl (by kernel_rfl) (by kernel_rfl) (by kernel_rfl) (fun _ _ _ h => h) (Or.inl ⟨by kernel_rfl, ?_⟩) hSx ?_
    rotate_left 1
    focus (intro wx hSw; obtain ⟨s0, s1⟩ := hSw; go_simp; first | done | with_reducible rfl)
    try simp only [Act.put, List.setIfInBounds_toArray, List.set_cons_zero, List.set_cons_succ]
    refine wpAnyH_ready (rs := [4]) (by kernel_rfl) (by simp) ?_
    refine AllReadyH.cons (o := ⟨some 58, _, _, _, _, none⟩) rfl (fun KK hKK => ?_) AllReadyH.nil
    go_simp
    
    refine hKK.out _ _ (HS9.out) (fun hSy => ?_)
    clear hKK hSx
    have hSx := hSy
    clear hSy KK
    try simp only [Act.put, List.setIfInBounds_toArray, List.set_cons_zero, List.set_cons_succ]
    refine wpAnyH_take (i := 9) (oi := ⟨some 63, _, _, _, _, none⟩) (v := ?_) rfl (by kernel_rfl) (by kernel_rfl) (by kernel_rfl) (fun _ _ _ h => h) (Or.inl ⟨by kernel_rfl, ?_⟩) hSx ?_
    rotate_left 1
    focus (intro wx hSw; obtain ⟨s0, s1⟩ := hSw; go_simp; first | done | with_reducible rfl)
    try simp only [Act.put, List.setIfInBounds_toArray, List.set_cons_zero, List.set_cons_succ]
    refine wpAnyH_take (i := 10) (oi := ⟨some 64, _, _, _, _, none⟩) (v := ?_) rfl (by kernel_rfl) (by kernel_rfl) (by kernel_rfl) (fun _ _ _ h => h) (Or.inl ⟨by kernel_rfl, ?_⟩) hSx ?_
    rotate_left 1
    focus (intro wx hSw; obtain ⟨s0, s1⟩ := hSw; go_simp; first | done | with_reducible rfl)
    try simp only [Act.put, List.setIfInBounds_toArray, List.set_cons_zero, List.set_cons_succ]
    refine wpAnyH_take (i := 11) (oi := ⟨some 65, _, _, _, _, none⟩) (v := ?_) rfl (by kernel_rfl) (by kernel_rfl) (by kernel_rfl) (fun _ _ _ h => h) (Or.inl ⟨by kernel_rfl, ?_⟩) hSx ?_
    rotate_left 1
    focus (intro wx hSw; obtain ⟨s0, s1⟩ := hSw; go_simp; first | done | with_reducible rfl)
    try simp only [Act.put, List.setIfInBounds_toArray, List.set_cons_zero, List.set_cons_succ]
    refine wpAnyH_ready (rs := [12]) (by kernel_rfl) (by simp) ?_
    refine AllReadyH.cons (o := ⟨none, _, _, _, _, none⟩) rfl (fun KK hKK => ?_) AllReadyH.nil
    go_simp
    
    refine hKK.out _ _ (HS9b.out) (fun hSy => ?_)
    clear hKK hSx
    have hSx := hSy
    clear hSy KK
    try simp only [Act.put, List.setIfInBounds_toArray, List.set_cons_zero, List.set_cons_succ]
    refine wpAnyH_done (by kernel_rfl) ?_ _
    go_upto_region 10 with fail
    have H8b := Lib.hid ((H7.out.relist (World.grownBy.refl _ _) HO7.out (fun b q => .inl (by rw [← q]; exact own_same _ _ _ _))).drew)
    simp only at H8b
    rw [HTL.out] at H8b
    clear HS9 HS9b H8 ce fe H7 HO7 hcuti
    generalize (W7.setCell ⟨p, 0, none⟩ (.slice A4 ph c4)).drew = W8 at *
    have c3 := H8b.out.mem.c.2.2.2.1
    have f3 := H8b.out.mem.f 3
    have hpw2 : IntKind.i64.wrap (q - 1) = q - 1 := IntWalk.i64_in _ (by omega)
    have HZ0 := Lib.hid (H8b.out.pairsSet (q - 1))
    have HPQ : Hid (q - 1 = ((lnN (P ++ ⟨f, p, A4, c4, newL ph l man, u⟩ :: S) : Nat) : Int)) := Lib.hid (by rw [lnN_mid]; simp only [HTL.out]; have := HPHL.out; have := HQ.out; have := HL1.out; omega)
    clear H8b
    go_wp2_with fail
    generalize W8.setCell ⟨xb, 3, none⟩ (.int .i64 (q - 1)) = WZ at *
    rw [HPQ.out] at HZ0
    clear c3 f3 HPQ
    have hu32 := use32 (P := P) (S := S) (e := ⟨f, p, A4, c4, newL ph l man, u⟩) HZ0.out (Nat.lt_of_lt_of_le hn (by decide))
    simp only at hu32
    refine Calls.mono hu32 ?_
    clear hu32
    rintro _ WA ⟨rfl, hA⟩
    have hperm : (P ++ (⟨f, p, A4, c4, newL ph l man, now + 1⟩ : En) :: S).Perm ((P ++ S) ++ [⟨f, p, A4, c4, newL ph l man, now + 1⟩]) := by
      rw [List.append_assoc]
      exact List.Perm.append_left P (List.perm_append_singleton _ S).symm
    have hA2 := hA.perm hperm
    rw [show lnN (P ++ (⟨f, p, A4, c4, newL ph l man, u⟩ : En) :: S) = lnN ((P ++ S) ++ [⟨f, p, A4, c4, newL ph l man, now + 1⟩]) by rw [← lnN_perm hperm, lnN_mid, lnN_mid]] at hA2
    have hkz : HkE (P ++ (⟨f, p, A4, c4, newL ph l man, now + 1⟩ : En) :: S) := HTH.out.mid rfl
    have HK6 := Lib.hid (hkz.perm hperm)
    have HFM6 : Hid (FmOk fm1 ((P ++ S) ++ [⟨f, p, A4, c4, newL ph l man, now + 1⟩])) := Lib.hid (fun g hg => by
      rw [fm_perm hkz hperm, HFMX.out g hg]
      exact (fm_other (e := ⟨f, p, A, c, l, u⟩) (e' := ⟨f, p, A4, c4, newL ph l man, now + 1⟩) rfl rfl HTH.out g).symm)
    have HS6 : Hid (((P ++ S) ++ [(⟨f, p, A4, c4, newL ph l man, now + 1⟩ : En)]).Pairwise (fun a b => a.u < b.u)) := Lib.hid (List.pairwise_append.2 ⟨HPS.out, by simp, fun x hx y hy => by
      rw [List.mem_singleton] at hy
      subst hy
      have := HPU.out x hx
      show x.u < now + 1
      omega⟩)
    have HU6 : Hid (∀ x ∈ (P ++ S) ++ [(⟨f, p, A4, c4, newL ph l man, now + 1⟩ : En)], x.u ≤ now + 1) := Lib.hid (fun x hx => by
      rcases List.mem_append.1 hx with hx | hx
      · have := HPU.out x hx
        omega
      · rw [List.mem_singleton] at hx
        subst hx
        exact Nat.le_refl _)
    have HL6 : Hid (lnN ((P ++ S) ++ [(⟨f, p, A4, c4, newL ph l man, now + 1⟩ : En)]) ≤ 1000000) := Lib.hid (by
      rw [← lnN_perm hperm, lnN_mid]
      have h1 := HL1.out
      have h2 : (newL ph l man).length ≤ ph := by unfold newL; rw [List.length_take]; omega
      simp only
      omega)
    have HPOST : Hid (∀ W' fm', At T W0 W' base xb mb ph mo (lnN (evE mo ((P ++ S) ++ [⟨f, p, A4, c4, newL ph l man, now + 1⟩])) : Nat) (now + 1) n fm' (evE mo ((P ++ S) ++ [⟨f, p, A4, c4, newL ph l man, now + 1⟩])) → FmOk fm' (evE mo ((P ++ S) ++ [⟨f, p, A4, c4, newL ph l man, now + 1⟩])) → PutPost T W0 base xb mb ph mo now n E f man (.returned (.tuple #[])) W') := Lib.hid (fun W' fm' q1 q2 => by
      unfold PutPost
      rw [HE1.out, HFL.out, HLI.out]
      exact ⟨fm', n, ⟨f, p, A4, c4, newL ph l man, now + 1⟩, rfl, by omega, rfl, rfl, rfl, q1, q2⟩)
    have HB6 := Lib.hid hA2
    clear hA hA2 hkz hperm HZ0 HTH HPS HPU HFMX
    generalize (P ++ S) ++ [(⟨f, p, A4, c4, newL ph l man, now + 1⟩ : En)] = E6 at *
    go_wp2_with fail
    go_loopg [] E6.length (fun gk wr => ∃ (fm' : Fp → Option Nat) (E' : List En), gk = E'.length ∧ At (XB xb mb E) W1 wr base xb mb ph mo (lnN E' : Nat) (now + 1) n fm' E' ∧ FmOk fm' E' ∧ evE mo E6 = evE mo E' ∧ E'.Sublist E6)
    case atStart => exact ⟨_, E6, rfl, HB6.out, HFM6.out, rfl, List.Sublist.refl _⟩
    case round =>
      obtain ⟨fm', E', hgk, hat, hfm', hev, hsub⟩ := hrel
      have HGK := Lib.hid hgk
      have HAT := Lib.hid hat
      have HFMR := Lib.hid hfm'
      have HEV := Lib.hid hev
      have HSUB := Lib.hid hsub
      have c3 := hat.mem.c.2.2.2.1
      have c1 := hat.mem.c.2.1
      clear hgk hat hfm' hev hsub HB6 HFM6
      by_cases hmo : mo < lnN E'
      · cases E' with
        | nil => exact absurd hmo (Nat.not_lt_zero _)
        | cons e S' =>
          have hmoi : ((mo : Nat) : Int) < ((lnN (e :: S') : Nat) : Int) := by omega
          have HEV2 : Hid (evE mo E6 = evE mo S') := Lib.hid (by rw [HEV.out]; conv => lhs; unfold evE; rw [if_pos hmo])
          have hls : lnN (e :: S') = e.l.length + lnN S' := by simp [lnN]
          have hl6 : lnN (e :: S') ≤ 1000000 := by
            have : lnN (e :: S') ≤ lnN E6 := by
              exact lnN_sub HSUB.out
            have := HL6.out
            omega
          have HLS := Lib.hid hls
          have hk' := HK6.out.sub HSUB.out
          have HC43 : Hid (∀ m, Calls Try.prog 43 #[.pointer (some ⟨xb, 0, none⟩)] (wr.drewN m) fun r W' => r = .returned (.tuple #[]) ∧ At (XB xb mb E) W1 W' base xb mb ph mo (((lnN (e :: S') : Nat) : Int) - (e.l.length : Int)) (now + 1) n (setFm fm' e.h none) S') := Lib.hid (fun m => evict43 (HAT.out.drewN m) HFMR.out hk' (HS6.out.sublist HSUB.out) (fun x hx => HU6.out x (HSUB.out.subset hx)) (by omega) (by omega) (by omega))
          have HFM2 : Hid (FmOk (setFm fm' e.h none) S') := Lib.hid (fun g hg => by
            have := fm_gone (P := []) (S := S') (e := e) hk' g
            rw [List.nil_append, List.nil_append] at this
            rw [this, setFm, HFMR.out g hg])
          clear hk' hls hl6
          generalize lnN (e :: S') = LE at *
          go_wp2_with fail
          go_quiet (fail)
          go_wp2_with fail
          refine Calls.mono (HC43.out nq) ?_
          rintro _ WB ⟨rfl, hB⟩
          rw [show ((LE : Nat) : Int) - (e.l.length : Int) = ((lnN S' : Nat) : Int) by have := HLS.out; omega] at hB
          have HB := Lib.hid hB
          clear hB
          go_wp2_with fail
          go_roundg S'.length
          case measure => rw [HGK.out]; exact Nat.lt_succ_self _
          case rel => exact ⟨_, S', rfl, HB.out, HFM2.out, HEV2.out, (List.sublist_cons_self _ _).trans HSUB.out⟩
      · have hmoi : ¬ ((mo : Nat) : Int) < ((lnN E' : Nat) : Int) := by omega
        have hE' : evE mo E6 = E' := by rw [HEV.out, evE_stop hmo]
        have HEE := Lib.hid hE'
        clear hE' hmo
        generalize hLE : lnN E' = LE at *
        have HLE := Lib.hid hLE
        clear hLE
        go_wp2_with fail
        go_quiet (fail)
        have HAN := Lib.hid (HAT.out.drewN nq)
        go_wp2_with fail
        go_end0
        refine HPOST.out _ fm' ?_ ?_
        · rw [HEE.out, HLE.out]; exact HUB.out _ _ _ _ _ _ HAN.out
        · rw [HEE.out]; exact HFMR.out
  · have hcuti : ¬ ((ph : Nat) : Int) < (ln : Int) := by omega
    have hnl : newL ph l man = man :: l := List.take_of_length_le (by rw [HLN.out]; omega)
    have HPQ : Hid (q = ((lnN (P ++ ⟨f, p, A4, c4, man :: l, u⟩ :: S) : Nat) : Int)) := Lib.hid (by rw [lnN_mid]; simp only [List.length_cons]; have := HQ.out; have := HL1.out; omega)
    go_wp2_with fail
    go_quiet (fail)
    have HZ0 := Lib.hid (H5.out.drewN nq)
    clear ce c0 H5 HOWN2
    generalize W6.drewN nq = WZ at *
    rw [HPQ.out, ← hnl] at HZ0
    clear hnl HPQ
    go_wp2_with fail
    have hu32 := use32 (P := P) (S := S) (e := ⟨f, p, A4, c4, newL ph l man, u⟩) HZ0.out (Nat.lt_of_lt_of_le hn (by decide))
    simp only at hu32
    refine Calls.mono hu32 ?_
    clear hu32
    rintro _ WA ⟨rfl, hA⟩
    have hperm : (P ++ (⟨f, p, A4, c4, newL ph l man, now + 1⟩ : En) :: S).Perm ((P ++ S) ++ [⟨f, p, A4, c4, newL ph l man, now + 1⟩]) := by
      rw [List.append_assoc]
      exact List.Perm.append_left P (List.perm_append_singleton _ S).symm
    have hA2 := hA.perm hperm
    rw [show lnN (P ++ (⟨f, p, A4, c4, newL ph l man, u⟩ : En) :: S) = lnN ((P ++ S) ++ [⟨f, p, A4, c4, newL ph l man, now + 1⟩]) by rw [← lnN_perm hperm, lnN_mid, lnN_mid]] at hA2
    have hkz : HkE (P ++ (⟨f, p, A4, c4, newL ph l man, now + 1⟩ : En) :: S) := HTH.out.mid rfl
    have HK6 := Lib.hid (hkz.perm hperm)
    have HFM6 : Hid (FmOk fm1 ((P ++ S) ++ [⟨f, p, A4, c4, newL ph l man, now + 1⟩])) := Lib.hid (fun g hg => by
      rw [fm_perm hkz hperm, HFMX.out g hg]
      exact (fm_other (e := ⟨f, p, A, c, l, u⟩) (e' := ⟨f, p, A4, c4, newL ph l man, now + 1⟩) rfl rfl HTH.out g).symm)
    have HS6 : Hid (((P ++ S) ++ [(⟨f, p, A4, c4, newL ph l man, now + 1⟩ : En)]).Pairwise (fun a b => a.u < b.u)) := Lib.hid (List.pairwise_append.2 ⟨HPS.out, by simp, fun x hx y hy => by
      rw [List.mem_singleton] at hy
      subst hy
      have := HPU.out x hx
      show x.u < now + 1
      omega⟩)
    have HU6 : Hid (∀ x ∈ (P ++ S) ++ [(⟨f, p, A4, c4, newL ph l man, now + 1⟩ : En)], x.u ≤ now + 1) := Lib.hid (fun x hx => by
      rcases List.mem_append.1 hx with hx | hx
      · have := HPU.out x hx
        omega
      · rw [List.mem_singleton] at hx
        subst hx
        exact Nat.le_refl _)
    have HL6 : Hid (lnN ((P ++ S) ++ [(⟨f, p, A4, c4, newL ph l man, now + 1⟩ : En)]) ≤ 1000000) := Lib.hid (by
      rw [← lnN_perm hperm, lnN_mid]
      have h1 := HL1.out
      have h2 : (newL ph l man).length ≤ ph := by unfold newL; rw [List.length_take]; omega
      simp only
      omega)
    have HPOST : Hid (∀ W' fm', At T W0 W' base xb mb ph mo (lnN (evE mo ((P ++ S) ++ [⟨f, p, A4, c4, newL ph l man, now + 1⟩])) : Nat) (now + 1) n fm' (evE mo ((P ++ S) ++ [⟨f, p, A4, c4, newL ph l man, now + 1⟩])) → FmOk fm' (evE mo ((P ++ S) ++ [⟨f, p, A4, c4, newL ph l man, now + 1⟩])) → PutPost T W0 base xb mb ph mo now n E f man (.returned (.tuple #[])) W') := Lib.hid (fun W' fm' q1 q2 => by
      unfold PutPost
      rw [HE1.out, HFL.out, HLI.out]
      exact ⟨fm', n, ⟨f, p, A4, c4, newL ph l man, now + 1⟩, rfl, by omega, rfl, rfl, rfl, q1, q2⟩)
    have HB6 := Lib.hid hA2
    clear hA hA2 hkz hperm HZ0 HTH HPS HPU HFMX
    generalize (P ++ S) ++ [(⟨f, p, A4, c4, newL ph l man, now + 1⟩ : En)] = E6 at *
    go_wp2_with fail
    go_loopg [] E6.length (fun gk wr => ∃ (fm' : Fp → Option Nat) (E' : List En), gk = E'.length ∧ At (XB xb mb E) W1 wr base xb mb ph mo (lnN E' : Nat) (now + 1) n fm' E' ∧ FmOk fm' E' ∧ evE mo E6 = evE mo E' ∧ E'.Sublist E6)
    case atStart => exact ⟨_, E6, rfl, HB6.out, HFM6.out, rfl, List.Sublist.refl _⟩
    case round =>
      obtain ⟨fm', E', hgk, hat, hfm', hev, hsub⟩ := hrel
      have HGK := Lib.hid hgk
      have HAT := Lib.hid hat
      have HFMR := Lib.hid hfm'
      have HEV := Lib.hid hev
      have HSUB := Lib.hid hsub
      have c3 := hat.mem.c.2.2.2.1
      have c1 := hat.mem.c.2.1
      clear hgk hat hfm' hev hsub HB6 HFM6
      by_cases hmo : mo < lnN E'
      · cases E' with
        | nil => exact absurd hmo (Nat.not_lt_zero _)
        | cons e S' =>
          have hmoi : ((mo : Nat) : Int) < ((lnN (e :: S') : Nat) : Int) := by omega
          have HEV2 : Hid (evE mo E6 = evE mo S') := Lib.hid (by rw [HEV.out]; conv => lhs; unfold evE; rw [if_pos hmo])
          have hls : lnN (e :: S') = e.l.length + lnN S' := by simp [lnN]
          have hl6 : lnN (e :: S') ≤ 1000000 := by
            have : lnN (e :: S') ≤ lnN E6 := by
              exact lnN_sub HSUB.out
            have := HL6.out
            omega
          have HLS := Lib.hid hls
          have hk' := HK6.out.sub HSUB.out
          have HC43 : Hid (∀ m, Calls Try.prog 43 #[.pointer (some ⟨xb, 0, none⟩)] (wr.drewN m) fun r W' => r = .returned (.tuple #[]) ∧ At (XB xb mb E) W1 W' base xb mb ph mo (((lnN (e :: S') : Nat) : Int) - (e.l.length : Int)) (now + 1) n (setFm fm' e.h none) S') := Lib.hid (fun m => evict43 (HAT.out.drewN m) HFMR.out hk' (HS6.out.sublist HSUB.out) (fun x hx => HU6.out x (HSUB.out.subset hx)) (by omega) (by omega) (by omega))
          have HFM2 : Hid (FmOk (setFm fm' e.h none) S') := Lib.hid (fun g hg => by
            have := fm_gone (P := []) (S := S') (e := e) hk' g
            rw [List.nil_append, List.nil_append] at this
            rw [this, setFm, HFMR.out g hg])
          clear hk' hls hl6
          generalize lnN (e :: S') = LE at *
          go_wp2_with fail
          go_quiet (fail)
          go_wp2_with fail
          refine Calls.mono (HC43.out nq) ?_
          rintro _ WB ⟨rfl, hB⟩
          rw [show ((LE : Nat) : Int) - (e.l.length : Int) = ((lnN S' : Nat) : Int) by have := HLS.out; omega] at hB
          have HB := Lib.hid hB
          clear hB
          go_wp2_with fail
          go_roundg S'.length
          case measure => rw [HGK.out]; exact Nat.lt_succ_self _
          case rel => exact ⟨_, S', rfl, HB.out, HFM2.out, HEV2.out, (List.sublist_cons_self _ _).trans HSUB.out⟩
      · have hmoi : ¬ ((mo : Nat) : Int) < ((lnN E' : Nat) : Int) := by omega
        have hE' : evE mo E6 = E' := by rw [HEV.out, evE_stop hmo]
        have HEE := Lib.hid hE'
        clear hE' hmo
        generalize hLE : lnN E' = LE at *
        have HLE := Lib.hid hLE
        clear hLE
        go_wp2_with fail
        go_quiet (fail)
        have HAN := Lib.hid (HAT.out.drewN nq)
        go_wp2_with fail
        go_end0
        refine HPOST.out _ fm' ?_ ?_
        · rw [HEE.out, HLE.out]; exact HUB.out _ _ _ _ _ _ HAN.out
        · rw [HEE.out]; exact HFMR.out
set_option maxRecDepth 100000 in
set_option maxHeartbeats 8000000 in
theorem put28_new {T : Nat → Prop} {W0 W : World} {base xb mb ph mo now n : Nat} {fm : Fp → Option Nat} {E : List En} {f : Fp} {man : Id} (h : At T W0 W base xb mb ph mo (lnN E : Nat) now n fm E) (hf : IsFp f) (hfm : FmOk fm E) (hk : HkE E) (hg : Full E) (hl : lnN E ≤ 100000) (hs : E.Pairwise (fun a b => a.u < b.u)) (hu : ∀ x ∈ E, x.u ≤ now) (hn : now < 100000000) (hnn : n < 100000000) (hph : 1 ≤ ph) (hll : ∀ x ∈ E, x.l.length ≤ ph) (hpm : ph ≤ 1000) (hno : ∀ x ∈ takeE E f man, x.h ≠ f) :
    Calls Try.prog 28 #[.pointer (some ⟨xb, 0, none⟩), .int .u32 man, .agg (fpL f).toArray] W (PutPost T W0 base xb mb ph mo now n E f man) := by
  obtain ⟨b0, hb0⟩ : ∃ b0, b0 = W.heap.size := ⟨_, rfl⟩
  have HT := Lib.hid (h.boxed (.cells (fpL f).toArray 47))
  have HBX : Hid (∀ W', Tn (XB xb mb E) (W.alloc (.cells (fpL f).toArray 47)) W' → W'.rangeAt b0 0 (fpL f)) := Lib.hid (fun W' ht => box_range (h.box_stays _ hb0 ht))
  have HUB : Hid (∀ W' n' now' pairs' fm' E', At (XB xb mb E) (W.alloc (.cells (fpL f).toArray 47)) W' base xb mb ph mo pairs' now' n' fm' E' → At T W0 W' base xb mb ph mo pairs' now' n' fm' E') := Lib.hid (fun _ _ _ _ _ _ k => h.unbox _ k)
  have HF := Lib.hid hf
  have HIX := Lib.hid (info29f hf)
  have HRF := Lib.hid (HBX.out _ HT.out.tn)
  have HC33 := Lib.hid (take33 (man := man) HT.out hf hfm hk hg (by omega))
  have HTF := Lib.hid (take_full (f := f) (man := man) hg)
  have HTH := Lib.hid (take_hk (f := f) (man := man) hk)
  have HTS := Lib.hid (take_srt (f := f) (man := man) hs)
  have hlt := ln_take (f := f) (man := man) hk hg
  have hlt1 : lnN (takeE E f man) ≤ 100000 := by omega
  have HTU : Hid (∀ x ∈ takeE E f man, x.u ≤ now ∧ x.l.length ≤ ph) := Lib.hid (fun x hx => by
    obtain ⟨y, hy, _, e, e2⟩ := take_mem hx
    exact ⟨by rw [e]; exact hu y hy, Nat.le_trans e2.length_le (hll y hy)⟩)
  clear h hf hfm hk hg hs hu hll hl hlt
  generalize hE1 : takeE E f man = E1 at *
  unfold TakePost at HC33
  rw [hE1] at HC33
  have HE1 := Lib.hid hE1
  clear hE1
  have HFX : Hid (∀ fm', FmOk fm' E1 → fm' f = none) := Lib.hid (fun fm' q => by rw [q _ HF.out, fmE, find_other hno]; rfl)
  have HNO := Lib.hid hno
  clear hno
  go_enter Try.func28, Try.ntmps28
  go_upto_region 1 with fail
  rw [← hb0]
  clear hb0
  generalize W.alloc (.cells (fpL f).toArray 47) = W1 at *
  go_wp2_with ((with_reducible refine wpList_load_mid (op := ⟨some 8, _, _, _, _, _⟩) rfl 47 (.tmp 5) rfl b0 0 ?_ (fpL f) _ HRF.out Try.underlying47 rfl HIX.out ?_); rfl)
  refine Calls.mono HC33.out ?_
  rintro _ W2 ⟨fm1, rfl, h2, hfm1⟩
  have H2 := Lib.hid h2
  have HFM := Lib.hid hfm1
  clear h2 hfm1 HC33
  have HRF2 : Hid (∀ m, (W2.drewN m).rangeAt b0 0 (fpL f)) := Lib.hid (fun m => HBX.out _ (H2.out.drewN m).tn)
  have c2 := H2.out.mem.c.2.2.1
  have hlk : ∀ m, _ := fun m => H2.out.look HF.out m
  rw [HFX.out _ HFM.out] at hlk
  simp only [ptrV] at hlk
  go_wp2_with fail
  refine wp_region_quiet_lit (by kernel_rfl) (by kernel_rfl) ?_
  repeat (first
    | ((with_reducible refine wpQuiet_load_mid (op := ⟨some 15, _, _, _, _, _⟩) ?_ 47 (.tmp 5) rfl b0 (0) ?_ _ _ ?_ Try.underlying47 rfl HIX.out ?_); rfl; rfl; (rintro w2 ⟨q2, rfl⟩; exact HRF2.out _); go_simp)
    | go_big_quiet_step (fail))
  refine wpQuiet_nil ?_
  intro nq
  have H2n := Lib.hid (H2.out.drewN nq)
  clear hlk c2 H2 HRF2 HT HRF
  generalize W2.drewN nq = W2n at *
  go_wp2_with fail
  have H2p := Lib.hid (H2n.out.push f)
  have HPS0 := Lib.hid HTS.out
  generalize W2n.alloc (.cells #[.slice none 0 0, .int .u64 0] 67) = W2p at *
  generalize W2n.heap.size = p at *
  obtain ⟨W3, hrun, h3⟩ := H2p.out.drew.store HF.out (by omega) p
  have H30 := Lib.hid h3
  clear h3
  refine wp_region_held_drew (S := (fun W => W.cell? ⟨xb, 2, none⟩ = some (.map (some mb)) ∧ W.rangeAt b0 0 (fpL f))) (by kernel_rfl) ?_ (fun hSx => ?_)
  · exact ⟨H2p.out.drew.mem.c.2.2.1, HBX.out _ H2p.out.drew.tn⟩
  refine wpAnyH_take (i := 0) (oi := ⟨some 21, _, _, _, _, none⟩) (v := ?_) rfl (by kernel_rfl) (by kernel_rfl) (by kernel_rfl) (fun _ _ _ h => h) (Or.inl ⟨by kernel_rfl, ?_⟩) hSx ?_
  rotate_left 1
  focus (intro wx hSw; obtain ⟨s0, s1⟩ := hSw; go_simp; first | done | with_reducible rfl)
  try simp only [Act.put, List.setIfInBounds_toArray, List.set_cons_zero, List.set_cons_succ]
  refine wpAnyH_take (i := 1) (oi := ⟨some 22, _, _, _, _, none⟩) (v := ?_) rfl (by kernel_rfl) (by kernel_rfl) (by kernel_rfl) (fun _ _ _ h => h) (Or.inl ⟨by kernel_rfl, ?_⟩) hSx ?_
  rotate_left 1
  focus (intro wx hSw; obtain ⟨s0, s1⟩ := hSw; go_simp; first | done | with_reducible rfl)
  try simp only [Act.put, List.setIfInBounds_toArray, List.set_cons_zero, List.set_cons_succ]
  refine wpAnyH_take (i := 2) (oi := ⟨some 23, _, _, _, _, none⟩) (v := ?_) rfl (by kernel_rfl) (by kernel_rfl) (by kernel_rfl) (fun _ _ _ h => h) (Or.inl ⟨by kernel_rfl, ?_⟩) hSx ?_
  rotate_left 1
  focus (intro wx hSw; obtain ⟨s0, s1⟩ := hSw; go_simp; first | done | with_reducible rfl)
  try simp only [Act.put, List.setIfInBounds_toArray, List.set_cons_zero, List.set_cons_succ]
  refine wpAnyH_take (i := 3) (oi := ⟨some 24, _, _, _, _, none⟩) (v := ?_) rfl (by kernel_rfl) (by kernel_rfl) (by kernel_rfl) (fun _ _ _ h => h) (Or.inl ⟨by kernel_rfl, ?_⟩) hSx ?_
  rotate_left 1
  focus (intro wx hSw; obtain ⟨s0, s1⟩ := hSw; go_simp; first | done | with_reducible rfl)
  try simp only [Act.put, List.setIfInBounds_toArray, List.set_cons_zero, List.set_cons_succ]
  refine wpAnyH_take (i := 4) (oi := ⟨some 25, _, _, _, _, none⟩) (v := .agg (fpL f).toArray) rfl (by kernel_rfl) (by kernel_rfl) (by kernel_rfl) (fun _ _ _ h => h) (yieldsIf_load_mid (by kernel_rfl) 47 (.tmp 5) rfl (b0) (0) rfl (fpL f) _ (fun _ h => h.2) Try.underlying47 rfl HIX.out) hSx ?_
  try simp only [Act.put, List.setIfInBounds_toArray, List.set_cons_zero, List.set_cons_succ]
  refine wpAnyH_take (i := 5) (oi := ⟨some 26, _, _, _, _, none⟩) (v := ?_) rfl (by kernel_rfl) (by kernel_rfl) (by kernel_rfl) (fun _ _ _ h => h) (Or.inl ⟨by kernel_rfl, ?_⟩) hSx ?_
  rotate_left 1
  focus (intro wx hSw; obtain ⟨s0, s1⟩ := hSw; go_simp; first | done | with_reducible rfl)
  try simp only [Act.put, List.setIfInBounds_toArray, List.set_cons_zero, List.set_cons_succ]
  refine wpAnyH_ready (rs := [6]) (by kernel_rfl) (by simp) ?_
  refine AllReadyH.cons (o := ⟨none, _, _, _, _, none⟩) rfl (fun KK hKK => ?_) AllReadyH.nil
  go_simp
  
  refine hKK.out _ _ (⟨H30.out.mem.c.2.2.1, HBX.out _ H30.out.tn⟩) (fun hSy => ?_)
  clear hKK hSx
  have hSx := hSy
  clear hSy KK
  try simp only [Act.put, List.setIfInBounds_toArray, List.set_cons_zero, List.set_cons_succ]
  refine wpAnyH_done (by kernel_rfl) ?_ _
  obtain ⟨P, hP⟩ : ∃ P, P = E1 := ⟨_, rfl⟩
  obtain ⟨S, hS⟩ : ∃ S : List En, S = [] := ⟨_, rfl⟩
  obtain ⟨l, hl0⟩ : ∃ l : List Id, l = [] := ⟨_, rfl⟩
  obtain ⟨A, hA0⟩ : ∃ A : Option Addr, A = none := ⟨_, rfl⟩
  obtain ⟨c, hc0⟩ : ∃ c : Nat, c = 0 := ⟨_, rfl⟩
  obtain ⟨u, hu0⟩ : ∃ u : Nat, u = 0 := ⟨_, rfl⟩
  have H3 : Hid (At (XB xb mb E) W1 W3 base xb mb ph mo (lnN E1 : Nat) now (n + 1) (setFm fm1 f (some p)) (P ++ ⟨f, p, A, c, l, u⟩ :: S)) := Lib.hid (by rw [hP, hS, hl0, hA0, hc0, hu0]; exact H30.out)
  have HL1 : Hid (lnN E1 = lnN (P ++ S) + l.length) := Lib.hid (by rw [hP, hS, hl0, List.append_nil]; rfl)
  have HZ : Hid (l = [] → A = none ∧ c = 0) := Lib.hid (fun _ => ⟨hA0, hc0⟩)
  have HLL : Hid (l.length ≤ 1000) := Lib.hid (by rw [hl0]; exact Nat.zero_le _)
  have HPHL : Hid (l.length ≤ ph) := Lib.hid (by rw [hl0]; exact Nat.zero_le _)
  have HFL : Hid (E1.filter (fun x => decide (x.h ≠ f)) = P ++ S) := Lib.hid (by rw [filter_none HNO.out, hP, hS, List.append_nil])
  have HLI : Hid (listE E1 f = l) := Lib.hid (by rw [list_other HNO.out, hl0])
  have HPS : Hid ((P ++ S).Pairwise (fun a b => a.u < b.u)) := Lib.hid (by rw [hP, hS, List.append_nil]; exact HPS0.out)
  have HPU : Hid (∀ y ∈ P ++ S, y.u ≤ now) := Lib.hid (fun y hy => (HTU.out y (by rw [hP, hS, List.append_nil] at hy; exact hy)).1)
  have HTHn : Hid (HkE (P ++ (⟨f, p, A, c, l, u⟩ : En) :: S)) := Lib.hid (by
    rw [hP, hS]
    refine ⟨?_, fun x hx => ?_⟩
    · rw [List.map_append, List.map_cons, List.nodup_append]
      refine ⟨HTH.out.1, by simp, fun a ha b hb => ?_⟩
      obtain ⟨x, hx, rfl⟩ := List.mem_map.1 ha
      simp only [List.map_nil, List.mem_singleton] at hb
      subst hb
      exact HNO.out x hx
    · rcases List.mem_append.1 hx with hx | hx
      · exact HTH.out.2 x hx
      · rw [List.mem_singleton] at hx
        subst hx
        exact HF.out)
  have HFMX : Hid (FmOk (setFm fm1 f (some p)) (P ++ (⟨f, p, A, c, l, u⟩ : En) :: S)) := Lib.hid (fun g hg => by
    rw [hP, hS, fm_new (e := ⟨f, p, A, c, l, u⟩) HNO.out g, setFm]
    simp only
    rw [HFM.out g hg])
  clear HTH HPS0 HFM HTS HTU HTF H30 H2p H2n hP hS hl0 hA0 hc0 hu0 hrun
  have HTH := HTHn
  clear HTHn
  generalize lnN E1 = L1 at *
  have HEN := Lib.hid (H3.out.mem.ens _ (mem_mid P S _))
  have ce : W3.cell? ⟨p, 0, none⟩ = some (.slice A l.length c) := HEN.out.c.1
  have ceA : (W3.alloc (.cells #[.int .u32 man] 33)).cell? ⟨p, 0, none⟩ = some (.slice A l.length c) := ((H3.out.alloc (.cells #[.int .u32 man] 33)).mem.ens _ (mem_mid P S _)).c.1
  have HENA := Lib.hid ((H3.out.alloc (.cells #[.int .u32 man] 33)).mem.ens _ (mem_mid P S _))
  have HC42 : Hid (Calls Try.prog 42 #[.slice A l.length c, .int .i64 0, .slice (some ⟨W3.heap.size, 0, none⟩) 1 1] (W3.alloc (.cells #[.int .u32 man] 33)) (InsPost (W3.alloc (.cells #[.int .u32 man] 33)) base A c l man)) :=
    Lib.hid (insert42 (vcur := #[.int .u32 man]) HENA.out.own HZ.out (H3.out.alloc (.cells #[.int .u32 man] 33)).mem.hp (by have := HLL.out; omega) (fun q => by have := (HEN.out.own.lt _ q).2; omega) (heap_alloc_new _ _) (by rw [cell_of_row _ _ _ _ 33 (0, 0) (heap_alloc_new W3 (.cells #[.int .u32 man] 33))]; rfl))
  go_wp2_with fail
  refine Calls.mono HC42.out ?_
  rintro _ W4 ⟨A4, c4, rfl, hown, hgr, hat⟩
  have HA := Lib.hid (H3.out.alloc (.cells #[.int .u32 man] 33))
  have H4 := Lib.hid (HA.out.relist hgr hown hat)
  have HOWN := Lib.hid (ownsRow_setCell_other hown (fun q => by
    have hp1 := (HA.out.row_cell hgr).1
    obtain ⟨cur, hcur⟩ := own_typed hown q
    have h5 := (hgr.block p (lt_of_block HENA.out.cells) (fun q2 => (own_other HENA.out.own HENA.out.cells (fun cur => by intro q3; injection q3 with _ q3 _; cases q3)) q2.symm)).trans HENA.out.cells
    rw [hcur] at h5
    injection h5 with h5
    injection h5 with _ h5 _
    cases h5) (.slice A4 (man :: l).length c4) (a := ⟨p, 0, none⟩))
  obtain ⟨cp, fp⟩ := HA.out.row_cell hgr
  simp only [En.v] at cp fp H4
  clear hown hgr hat ce ceA HC42 HA HENA HEN H3
  go_upto_region 7 with fail
  generalize W4.setCell ⟨p, 0, none⟩ (.slice A4 (man :: l).length c4) = W5 at *
  clear cp fp
  have c3 := H4.out.mem.c.2.2.2.1
  have f3 := H4.out.mem.f 3
  have hpw : IntKind.i64.wrap (((L1 : Nat) : Int) + 1) = ((L1 : Nat) : Int) + 1 := IntWalk.i64_in _ (by omega)
  have H5 := Lib.hid (H4.out.pairsSet (((L1 : Nat) : Int) + 1))
  have HOWN2 : Hid (OwnI (W5.setCell ⟨xb, 3, none⟩ (.int .i64 (((L1 : Nat) : Int) + 1))) base (.slice A4 (man :: l).length c4) (man :: l)) := Lib.hid (H5.out.mem.ens _ (mem_mid P S _)).own
  go_upto_region 8 with fail
  generalize W5.setCell ⟨xb, 3, none⟩ (.int .i64 (((L1 : Nat) : Int) + 1)) = W6 at *
  generalize hq : ((L1 : Nat) : Int) + 1 = q at *
  have HQ := Lib.hid hq
  have hq1 : 1 ≤ q ∧ q ≤ 1000000 := by omega
  clear hq
  clear c3 f3 HOWN H4
  have ce : W6.cell? ⟨p, 0, none⟩ = some (.slice A4 (man :: l).length c4) := (H5.out.mem.ens _ (mem_mid P S _)).c.1
  have c0 := H5.out.mem.c.1
  obtain ⟨ln, hln⟩ : ∃ ln, (man :: l).length = ln := ⟨_, rfl⟩
  have HLN := Lib.hid hln
  have hlnp : ln = l.length + 1 := by rw [← hln]; rfl
  have hc4 : ln ≤ c4 := by have := own_cap HOWN2.out; omega
  have hll := HLL.out
  rw [hln] at ce
  clear hln
  by_cases hcut : ph < ln
  · have hcuti : ((ph : Nat) : Int) < (ln : Int) := by omega
    have HTK : Hid ((man :: l).take ph = newL ph l man) := Lib.hid rfl
    have HTL : Hid ((newL ph l man).length = ph) := Lib.hid (by unfold newL; rw [List.length_take, HLN.out]; omega)
    go_wp2_with fail
    go_quiet (fail)
    have H7 := Lib.hid (H5.out.drewN nq)
    have HO7 := Lib.hid (own_head (H7.out.mem.ens _ (mem_mid P S _)).own ph)
    clear ce c0 H5 HOWN2
    generalize W6.drewN nq = W7 at *
    rw [HTK.out] at HO7
    have hsame : (Value.slice A4 (newL ph l man).length c4).ownBlock = (Value.slice A4 (man :: l).length c4).ownBlock := own_same _ _ _ _
    have H8 := Lib.hid (H7.out.drew.relist (World.grownBy.refl _ _) HO7.out (fun b q => .inl (by rw [← q, hsame]; rfl)))
    simp only at H8
    rw [HTL.out] at H8
    have ce : W7.cell? ⟨p, 0, none⟩ = some (.slice A4 ln c4) := by have := (H7.out.mem.ens _ (mem_mid P S _)).c.1; rw [← HLN.out]; exact this
    have fe : W7.frozen? ⟨p, 0, none⟩ = false := (H7.out.mem.ens _ (mem_mid P S _)).f 0
    have HS9 : Hid (W7.drew.cell? ⟨xb, 0, none⟩ = some (.int .i64 (ph : Nat)) ∧ W7.drew.cell? ⟨xb, 1, none⟩ = some (.int .i64 (mo : Nat))) := Lib.hid ⟨H7.out.drew.mem.c.1, H7.out.drew.mem.c.2.1⟩
    have HS9b : Hid ((W7.drew.setCell ⟨p, 0, none⟩ (.slice A4 ph c4)).cell? ⟨xb, 0, none⟩ = some (.int .i64 (ph : Nat)) ∧ (W7.drew.setCell ⟨p, 0, none⟩ (.slice A4 ph c4)).cell? ⟨xb, 1, none⟩ = some (.int .i64 (mo : Nat))) := Lib.hid ⟨H8.out.mem.c.1, H8.out.mem.c.2.1⟩
    have hph0 : (0 : Int) ≤ ((ph : Nat) : Int) := by omega
    have hph1 : ph ≤ c4 := by omega
    clear hsame
    go_wp2_with fail
    refine wp_region_held_drew (S := (fun W => W.cell? ⟨xb, 0, none⟩ = some (.int .i64 (ph : Nat)) ∧ W.cell? ⟨xb, 1, none⟩ = some (.int .i64 (mo : Nat)))) (by kernel_rfl) ?_ (fun hSx => ?_)
    · exact HS9.out
    refine wpAnyH_take (i := 0) (oi := ⟨some 54, _, _, _, _, none⟩) (v := ?_) rfl (by kernel_rfl) (by kernel_rfl) (by kernel_rfl) (fun _ _ _ h => h) (Or.inl ⟨by kernel_rfl, ?_⟩) hSx ?_
    rotate_left 1
    focus (intro wx hSw; obtain ⟨s0, s1⟩ := hSw; go_simp; first | done | with_reducible rfl)
    try simp only [Act.put, List.setIfInBounds_toArray, List.set_cons_zero, List.set_cons_succ]
    refine wpAnyH_take (i := 1) (oi := ⟨some 55, _, _, _, _, none⟩) (v := ?_) rfl (by kernel_rfl) (by kernel_rfl) (by kernel_rfl) (fun _ _ _ h => h) (Or.inl ⟨by kernel_rfl, ?_⟩) hSx ?_
    rotate_left 1
    focus (intro wx hSw; obtain ⟨s0, s1⟩ := hSw; go_simp; first | done | with_reducible rfl)
    try simp only [Act.put, List.setIfInBounds_toArray, List.set_cons_zero, List.set_cons_succ]
    refine wpAnyH_take (i := 2) (oi := ⟨some 56, _, _, _, _, none⟩) (v := ?_) rfl (by kernel_rfl) (by kernel_rfl) (by kernel_rfl) (fun _ _ _ h => h) (Or.inl ⟨by kernel_rfl, ?_⟩) hSx ?_
    rotate_left 1
    focus (intro wx hSw; obtain ⟨s0, s1⟩ := hSw; go_simp; first | done | with_reducible rfl)
    try simp only [Act.put, List.setIfInBounds_toArray, List.set_cons_zero, List.set_cons_succ]
    refine wpAnyH_take (i := 3) (oi := ⟨some 57, _, _, _, _, none⟩) (v := ?_) rfl (by kernel_rfl) (by kernel_rfl) (by kernel_rfl) (fun _ _ _ h => h) (Or.inl ⟨by kernel_rfl, ?_⟩) hSx ?_
    rotate_left 1
    focus (intro wx hSw; obtain ⟨s0, s1⟩ := hSw; go_simp; first | done | with_reducible rfl)
    try simp only [Act.put, List.setIfInBounds_toArray, List.set_cons_zero, List.set_cons_succ]
    refine wpAnyH_take (i := 5) (oi := ⟨some 59, _, _, _, _, none⟩) (v := ?_) rfl (by kernel_rfl) (by kernel_rfl) (by kernel_rfl) (fun _ _ _ h => h) (Or.inl ⟨by kernel_rfl, ?_⟩) hSx ?_
    rotate_left 1
    focus (intro wx hSw; obtain ⟨s0, s1⟩ := hSw; go_simp; first | done | with_reducible rfl)
    try simp only [Act.put, List.setIfInBounds_toArray, List.set_cons_zero, List.set_cons_succ]
    refine wpAnyH_take (i := 6) (oi := ⟨some 60, _, _, _, _, none⟩) (v := ?_) rfl (by kernel_rfl) (by kernel_rfl) (by kernel_rfl) (fun _ _ _ h => h) (Or.inl ⟨by kernel_rfl, ?_⟩) hSx ?_
    rotate_left 1
    focus (intro wx hSw; obtain ⟨s0, s1⟩ := hSw; go_simp; first | done | with_reducible rfl)
    try simp only [Act.put, List.setIfInBounds_toArray, List.set_cons_zero, List.set_cons_succ]
    refine wpAnyH_take (i := 7) (oi := ⟨some 61, _, _, _, _, none⟩) (v := ?_) rfl (by kernel_rfl) (by kernel_rfl) (by kernel_rfl) (fun _ _ _ h => h) (Or.inl ⟨by kernel_rfl, ?_⟩) hSx ?_
    rotate_left 1
    focus (intro wx hSw; obtain ⟨s0, s1⟩ := hSw; go_simp; first | done | with_reducible rfl)
    try simp only [Act.put, List.setIfInBounds_toArray, List.set_cons_zero, List.set_cons_succ]
    refine wpAnyH_take (i := 8) (oi := ⟨some 62, _, _, _, _, none⟩) (v := ?_) rfl (by kernel_rfl) (by kernel_rfl) (by kernel_rfl) (fun _ _ _ h => h) (Or.inl ⟨by kernel_rfl, ?_⟩) hSx ?_
    rotate_left 1
    focus (intro wx hSw; obtain ⟨s0, s1⟩ := hSw; go_simp; first | done | with_reducible rfl)
    try simp only [Act.put, List.setIfInBounds_toArray, List.set_cons_zero, List.set_cons_succ]
    refine wpAnyH_ready (rs := [4]) (by kernel_rfl) (by simp) ?_
    refine AllReadyH.cons (o := ⟨some 58, _, _, _, _, none⟩) rfl (fun KK hKK => ?_) AllReadyH.nil
    go_simp
    
    refine hKK.out _ _ (HS9.out) (fun hSy => ?_)
    clear hKK hSx
    have hSx := hSy
    clear hSy KK
    try simp only [Act.put, List.setIfInBounds_toArray, List.set_cons_zero, List.set_cons_succ]
    refine wpAnyH_take (i := 9) (oi := ⟨some 63, _, _, _, _, none⟩) (v := ?_) rfl (by kernel_rfl) (by kernel_rfl) (by kernel_rfl) (fun _ _ _ h => h) (Or.inl ⟨by kernel_rfl, ?_⟩) hSx ?_
    rotate_left 1
    focus (intro wx hSw; obtain ⟨s0, s1⟩ := hSw; go_simp; first | done | with_reducible rfl)
    try simp only [Act.put, List.setIfInBounds_toArray, List.set_cons_zero, List.set_cons_succ]
    refine wpAnyH_take (i := 10) (oi := ⟨some 64, _, _, _, _, none⟩) (v := ?_) rfl (by kernel_rfl) (by kernel_rfl) (by kernel_rfl) (fun _ _ _ h => h) (Or.inl ⟨by kernel_rfl, ?_⟩) hSx ?_
    rotate_left 1
    focus (intro wx hSw; obtain ⟨s0, s1⟩ := hSw; go_simp; first | done | with_reducible rfl)
    try simp only [Act.put, List.setIfInBounds_toArray, List.set_cons_zero, List.set_cons_succ]
    refine wpAnyH_take (i := 11) (oi := ⟨some 65, _, _, _, _, none⟩) (v := ?_) rfl (by kernel_rfl) (by kernel_rfl) (by kernel_rfl) (fun _ _ _ h => h) (Or.inl ⟨by kernel_rfl, ?_⟩) hSx ?_
    rotate_left 1
    focus (intro wx hSw; obtain ⟨s0, s1⟩ := hSw; go_simp; first | done | with_reducible rfl)
    try simp only [Act.put, List.setIfInBounds_toArray, List.set_cons_zero, List.set_cons_succ]
    refine wpAnyH_ready (rs := [12]) (by kernel_rfl) (by simp) ?_
    refine AllReadyH.cons (o := ⟨none, _, _, _, _, none⟩) rfl (fun KK hKK => ?_) AllReadyH.nil
    go_simp
    
    refine hKK.out _ _ (HS9b.out) (fun hSy => ?_)
    clear hKK hSx
    have hSx := hSy
    clear hSy KK
    try simp only [Act.put, List.setIfInBounds_toArray, List.set_cons_zero, List.set_cons_succ]
    refine wpAnyH_done (by kernel_rfl) ?_ _
    go_upto_region 10 with fail
    have H8b := Lib.hid ((H7.out.relist (World.grownBy.refl _ _) HO7.out (fun b q => .inl (by rw [← q]; exact own_same _ _ _ _))).drew)
    simp only at H8b
    rw [HTL.out] at H8b
    clear HS9 HS9b H8 ce fe H7 HO7 hcuti
    generalize (W7.setCell ⟨p, 0, none⟩ (.slice A4 ph c4)).drew = W8 at *
    have c3 := H8b.out.mem.c.2.2.2.1
    have f3 := H8b.out.mem.f 3
    have hpw2 : IntKind.i64.wrap (q - 1) = q - 1 := IntWalk.i64_in _ (by omega)
    have HZ0 := Lib.hid (H8b.out.pairsSet (q - 1))
    have HPQ : Hid (q - 1 = ((lnN (P ++ ⟨f, p, A4, c4, newL ph l man, u⟩ :: S) : Nat) : Int)) := Lib.hid (by rw [lnN_mid]; simp only [HTL.out]; have := HPHL.out; have := HQ.out; have := HL1.out; omega)
    clear H8b
    go_wp2_with fail
    generalize W8.setCell ⟨xb, 3, none⟩ (.int .i64 (q - 1)) = WZ at *
    rw [HPQ.out] at HZ0
    clear c3 f3 HPQ
    have hu32 := use32 (P := P) (S := S) (e := ⟨f, p, A4, c4, newL ph l man, u⟩) HZ0.out (Nat.lt_of_lt_of_le hn (by decide))
    simp only at hu32
    refine Calls.mono hu32 ?_
    clear hu32
    rintro _ WA ⟨rfl, hA⟩
    have hperm : (P ++ (⟨f, p, A4, c4, newL ph l man, now + 1⟩ : En) :: S).Perm ((P ++ S) ++ [⟨f, p, A4, c4, newL ph l man, now + 1⟩]) := by
      rw [List.append_assoc]
      exact List.Perm.append_left P (List.perm_append_singleton _ S).symm
    have hA2 := hA.perm hperm
    rw [show lnN (P ++ (⟨f, p, A4, c4, newL ph l man, u⟩ : En) :: S) = lnN ((P ++ S) ++ [⟨f, p, A4, c4, newL ph l man, now + 1⟩]) by rw [← lnN_perm hperm, lnN_mid, lnN_mid]] at hA2
    have hkz : HkE (P ++ (⟨f, p, A4, c4, newL ph l man, now + 1⟩ : En) :: S) := HTH.out.mid rfl
    have HK6 := Lib.hid (hkz.perm hperm)
    have HFM6 : Hid (FmOk (setFm fm1 f (some p)) ((P ++ S) ++ [⟨f, p, A4, c4, newL ph l man, now + 1⟩])) := Lib.hid (fun g hg => by
      rw [fm_perm hkz hperm, HFMX.out g hg]
      exact (fm_other (e := ⟨f, p, A, c, l, u⟩) (e' := ⟨f, p, A4, c4, newL ph l man, now + 1⟩) rfl rfl HTH.out g).symm)
    have HS6 : Hid (((P ++ S) ++ [(⟨f, p, A4, c4, newL ph l man, now + 1⟩ : En)]).Pairwise (fun a b => a.u < b.u)) := Lib.hid (List.pairwise_append.2 ⟨HPS.out, by simp, fun x hx y hy => by
      rw [List.mem_singleton] at hy
      subst hy
      have := HPU.out x hx
      show x.u < now + 1
      omega⟩)
    have HU6 : Hid (∀ x ∈ (P ++ S) ++ [(⟨f, p, A4, c4, newL ph l man, now + 1⟩ : En)], x.u ≤ now + 1) := Lib.hid (fun x hx => by
      rcases List.mem_append.1 hx with hx | hx
      · have := HPU.out x hx
        omega
      · rw [List.mem_singleton] at hx
        subst hx
        exact Nat.le_refl _)
    have HL6 : Hid (lnN ((P ++ S) ++ [(⟨f, p, A4, c4, newL ph l man, now + 1⟩ : En)]) ≤ 1000000) := Lib.hid (by
      rw [← lnN_perm hperm, lnN_mid]
      have h1 := HL1.out
      have h2 : (newL ph l man).length ≤ ph := by unfold newL; rw [List.length_take]; omega
      simp only
      omega)
    have HPOST : Hid (∀ W' fm', At T W0 W' base xb mb ph mo (lnN (evE mo ((P ++ S) ++ [⟨f, p, A4, c4, newL ph l man, now + 1⟩])) : Nat) (now + 1) (n + 1) fm' (evE mo ((P ++ S) ++ [⟨f, p, A4, c4, newL ph l man, now + 1⟩])) → FmOk fm' (evE mo ((P ++ S) ++ [⟨f, p, A4, c4, newL ph l man, now + 1⟩])) → PutPost T W0 base xb mb ph mo now n E f man (.returned (.tuple #[])) W') := Lib.hid (fun W' fm' q1 q2 => by
      unfold PutPost
      rw [HE1.out, HFL.out, HLI.out]
      exact ⟨fm', (n + 1), ⟨f, p, A4, c4, newL ph l man, now + 1⟩, rfl, by omega, rfl, rfl, rfl, q1, q2⟩)
    have HB6 := Lib.hid hA2
    clear hA hA2 hkz hperm HZ0 HTH HPS HPU HFMX
    generalize (P ++ S) ++ [(⟨f, p, A4, c4, newL ph l man, now + 1⟩ : En)] = E6 at *
    go_wp2_with fail
    go_loopg [] E6.length (fun gk wr => ∃ (fm' : Fp → Option Nat) (E' : List En), gk = E'.length ∧ At (XB xb mb E) W1 wr base xb mb ph mo (lnN E' : Nat) (now + 1) (n + 1) fm' E' ∧ FmOk fm' E' ∧ evE mo E6 = evE mo E' ∧ E'.Sublist E6)
    case atStart => exact ⟨_, E6, rfl, HB6.out, HFM6.out, rfl, List.Sublist.refl _⟩
    case round =>
      obtain ⟨fm', E', hgk, hat, hfm', hev, hsub⟩ := hrel
      have HGK := Lib.hid hgk
      have HAT := Lib.hid hat
      have HFMR := Lib.hid hfm'
      have HEV := Lib.hid hev
      have HSUB := Lib.hid hsub
      have c3 := hat.mem.c.2.2.2.1
      have c1 := hat.mem.c.2.1
      clear hgk hat hfm' hev hsub HB6 HFM6
      by_cases hmo : mo < lnN E'
      · cases E' with
        | nil => exact absurd hmo (Nat.not_lt_zero _)
        | cons e S' =>
          have hmoi : ((mo : Nat) : Int) < ((lnN (e :: S') : Nat) : Int) := by omega
          have HEV2 : Hid (evE mo E6 = evE mo S') := Lib.hid (by rw [HEV.out]; conv => lhs; unfold evE; rw [if_pos hmo])
          have hls : lnN (e :: S') = e.l.length + lnN S' := by simp [lnN]
          have hl6 : lnN (e :: S') ≤ 1000000 := by
            have : lnN (e :: S') ≤ lnN E6 := by
              exact lnN_sub HSUB.out
            have := HL6.out
            omega
          have HLS := Lib.hid hls
          have hk' := HK6.out.sub HSUB.out
          have HC43 : Hid (∀ m, Calls Try.prog 43 #[.pointer (some ⟨xb, 0, none⟩)] (wr.drewN m) fun r W' => r = .returned (.tuple #[]) ∧ At (XB xb mb E) W1 W' base xb mb ph mo (((lnN (e :: S') : Nat) : Int) - (e.l.length : Int)) (now + 1) (n + 1) (setFm fm' e.h none) S') := Lib.hid (fun m => evict43 (HAT.out.drewN m) HFMR.out hk' (HS6.out.sublist HSUB.out) (fun x hx => HU6.out x (HSUB.out.subset hx)) (by omega) (by omega) (by omega))
          have HFM2 : Hid (FmOk (setFm fm' e.h none) S') := Lib.hid (fun g hg => by
            have := fm_gone (P := []) (S := S') (e := e) hk' g
            rw [List.nil_append, List.nil_append] at this
            rw [this, setFm, HFMR.out g hg])
          clear hk' hls hl6
          generalize lnN (e :: S') = LE at *
          go_wp2_with fail
          go_quiet (fail)
          go_wp2_with fail
          refine Calls.mono (HC43.out nq) ?_
          rintro _ WB ⟨rfl, hB⟩
          rw [show ((LE : Nat) : Int) - (e.l.length : Int) = ((lnN S' : Nat) : Int) by have := HLS.out; omega] at hB
          have HB := Lib.hid hB
          clear hB
          go_wp2_with fail
          go_roundg S'.length
          case measure => rw [HGK.out]; exact Nat.lt_succ_self _
          case rel => exact ⟨_, S', rfl, HB.out, HFM2.out, HEV2.out, (List.sublist_cons_self _ _).trans HSUB.out⟩
      · have hmoi : ¬ ((mo : Nat) : Int) < ((lnN E' : Nat) : Int) := by omega
        have hE' : evE mo E6 = E' := by rw [HEV.out, evE_stop hmo]
        have HEE := Lib.hid hE'
        clear hE' hmo
        generalize hLE : lnN E' = LE at *
        have HLE := Lib.hid hLE
        clear hLE
        go_wp2_with fail
        go_quiet (fail)
        have HAN := Lib.hid (HAT.out.drewN nq)
        go_wp2_with fail
        go_end0
        refine HPOST.out _ fm' ?_ ?_
        · rw [HEE.out, HLE.out]; exact HUB.out _ _ _ _ _ _ HAN.out
        · rw [HEE.out]; exact HFMR.out
  · have hcuti : ¬ ((ph : Nat) : Int) < (ln : Int) := by omega
    have hnl : newL ph l man = man :: l := List.take_of_length_le (by rw [HLN.out]; omega)
    have HPQ : Hid (q = ((lnN (P ++ ⟨f, p, A4, c4, man :: l, u⟩ :: S) : Nat) : Int)) := Lib.hid (by rw [lnN_mid]; simp only [List.length_cons]; have := HQ.out; have := HL1.out; omega)
    go_wp2_with fail
    go_quiet (fail)
    have HZ0 := Lib.hid (H5.out.drewN nq)
    clear ce c0 H5 HOWN2
    generalize W6.drewN nq = WZ at *
    rw [HPQ.out, ← hnl] at HZ0
    clear hnl HPQ
    go_wp2_with fail
    have hu32 := use32 (P := P) (S := S) (e := ⟨f, p, A4, c4, newL ph l man, u⟩) HZ0.out (Nat.lt_of_lt_of_le hn (by decide))
    simp only at hu32
    refine Calls.mono hu32 ?_
    clear hu32
    rintro _ WA ⟨rfl, hA⟩
    have hperm : (P ++ (⟨f, p, A4, c4, newL ph l man, now + 1⟩ : En) :: S).Perm ((P ++ S) ++ [⟨f, p, A4, c4, newL ph l man, now + 1⟩]) := by
      rw [List.append_assoc]
      exact List.Perm.append_left P (List.perm_append_singleton _ S).symm
    have hA2 := hA.perm hperm
    rw [show lnN (P ++ (⟨f, p, A4, c4, newL ph l man, u⟩ : En) :: S) = lnN ((P ++ S) ++ [⟨f, p, A4, c4, newL ph l man, now + 1⟩]) by rw [← lnN_perm hperm, lnN_mid, lnN_mid]] at hA2
    have hkz : HkE (P ++ (⟨f, p, A4, c4, newL ph l man, now + 1⟩ : En) :: S) := HTH.out.mid rfl
    have HK6 := Lib.hid (hkz.perm hperm)
    have HFM6 : Hid (FmOk (setFm fm1 f (some p)) ((P ++ S) ++ [⟨f, p, A4, c4, newL ph l man, now + 1⟩])) := Lib.hid (fun g hg => by
      rw [fm_perm hkz hperm, HFMX.out g hg]
      exact (fm_other (e := ⟨f, p, A, c, l, u⟩) (e' := ⟨f, p, A4, c4, newL ph l man, now + 1⟩) rfl rfl HTH.out g).symm)
    have HS6 : Hid (((P ++ S) ++ [(⟨f, p, A4, c4, newL ph l man, now + 1⟩ : En)]).Pairwise (fun a b => a.u < b.u)) := Lib.hid (List.pairwise_append.2 ⟨HPS.out, by simp, fun x hx y hy => by
      rw [List.mem_singleton] at hy
      subst hy
      have := HPU.out x hx
      show x.u < now + 1
      omega⟩)
    have HU6 : Hid (∀ x ∈ (P ++ S) ++ [(⟨f, p, A4, c4, newL ph l man, now + 1⟩ : En)], x.u ≤ now + 1) := Lib.hid (fun x hx => by
      rcases List.mem_append.1 hx with hx | hx
      · have := HPU.out x hx
        omega
      · rw [List.mem_singleton] at hx
        subst hx
        exact Nat.le_refl _)
    have HL6 : Hid (lnN ((P ++ S) ++ [(⟨f, p, A4, c4, newL ph l man, now + 1⟩ : En)]) ≤ 1000000) := Lib.hid (by
      rw [← lnN_perm hperm, lnN_mid]
      have h1 := HL1.out
      have h2 : (newL ph l man).length ≤ ph := by unfold newL; rw [List.length_take]; omega
      simp only
      omega)
    have HPOST : Hid (∀ W' fm', At T W0 W' base xb mb ph mo (lnN (evE mo ((P ++ S) ++ [⟨f, p, A4, c4, newL ph l man, now + 1⟩])) : Nat) (now + 1) (n + 1) fm' (evE mo ((P ++ S) ++ [⟨f, p, A4, c4, newL ph l man, now + 1⟩])) → FmOk fm' (evE mo ((P ++ S) ++ [⟨f, p, A4, c4, newL ph l man, now + 1⟩])) → PutPost T W0 base xb mb ph mo now n E f man (.returned (.tuple #[])) W') := Lib.hid (fun W' fm' q1 q2 => by
      unfold PutPost
      rw [HE1.out, HFL.out, HLI.out]
      exact ⟨fm', (n + 1), ⟨f, p, A4, c4, newL ph l man, now + 1⟩, rfl, by omega, rfl, rfl, rfl, q1, q2⟩)
    have HB6 := Lib.hid hA2
    clear hA hA2 hkz hperm HZ0 HTH HPS HPU HFMX
    generalize (P ++ S) ++ [(⟨f, p, A4, c4, newL ph l man, now + 1⟩ : En)] = E6 at *
    go_wp2_with fail
    go_loopg [] E6.length (fun gk wr => ∃ (fm' : Fp → Option Nat) (E' : List En), gk = E'.length ∧ At (XB xb mb E) W1 wr base xb mb ph mo (lnN E' : Nat) (now + 1) (n + 1) fm' E' ∧ FmOk fm' E' ∧ evE mo E6 = evE mo E' ∧ E'.Sublist E6)
    case atStart => exact ⟨_, E6, rfl, HB6.out, HFM6.out, rfl, List.Sublist.refl _⟩
    case round =>
      obtain ⟨fm', E', hgk, hat, hfm', hev, hsub⟩ := hrel
      have HGK := Lib.hid hgk
      have HAT := Lib.hid hat
      have HFMR := Lib.hid hfm'
      have HEV := Lib.hid hev
      have HSUB := Lib.hid hsub
      have c3 := hat.mem.c.2.2.2.1
      have c1 := hat.mem.c.2.1
      clear hgk hat hfm' hev hsub HB6 HFM6
      by_cases hmo : mo < lnN E'
      · cases E' with
        | nil => exact absurd hmo (Nat.not_lt_zero _)
        | cons e S' =>
          have hmoi : ((mo : Nat) : Int) < ((lnN (e :: S') : Nat) : Int) := by omega
          have HEV2 : Hid (evE mo E6 = evE mo S') := Lib.hid (by rw [HEV.out]; conv => lhs; unfold evE; rw [if_pos hmo])
          have hls : lnN (e :: S') = e.l.length + lnN S' := by simp [lnN]
          have hl6 : lnN (e :: S') ≤ 1000000 := by
            have : lnN (e :: S') ≤ lnN E6 := by
              exact lnN_sub HSUB.out
            have := HL6.out
            omega
          have HLS := Lib.hid hls
          have hk' := HK6.out.sub HSUB.out
          have HC43 : Hid (∀ m, Calls Try.prog 43 #[.pointer (some ⟨xb, 0, none⟩)] (wr.drewN m) fun r W' => r = .returned (.tuple #[]) ∧ At (XB xb mb E) W1 W' base xb mb ph mo (((lnN (e :: S') : Nat) : Int) - (e.l.length : Int)) (now + 1) (n + 1) (setFm fm' e.h none) S') := Lib.hid (fun m => evict43 (HAT.out.drewN m) HFMR.out hk' (HS6.out.sublist HSUB.out) (fun x hx => HU6.out x (HSUB.out.subset hx)) (by omega) (by omega) (by omega))
          have HFM2 : Hid (FmOk (setFm fm' e.h none) S') := Lib.hid (fun g hg => by
            have := fm_gone (P := []) (S := S') (e := e) hk' g
            rw [List.nil_append, List.nil_append] at this
            rw [this, setFm, HFMR.out g hg])
          clear hk' hls hl6
          generalize lnN (e :: S') = LE at *
          go_wp2_with fail
          go_quiet (fail)
          go_wp2_with fail
          refine Calls.mono (HC43.out nq) ?_
          rintro _ WB ⟨rfl, hB⟩
          rw [show ((LE : Nat) : Int) - (e.l.length : Int) = ((lnN S' : Nat) : Int) by have := HLS.out; omega] at hB
          have HB := Lib.hid hB
          clear hB
          go_wp2_with fail
          go_roundg S'.length
          case measure => rw [HGK.out]; exact Nat.lt_succ_self _
          case rel => exact ⟨_, S', rfl, HB.out, HFM2.out, HEV2.out, (List.sublist_cons_self _ _).trans HSUB.out⟩
      · have hmoi : ¬ ((mo : Nat) : Int) < ((lnN E' : Nat) : Int) := by omega
        have hE' : evE mo E6 = E' := by rw [HEV.out, evE_stop hmo]
        have HEE := Lib.hid hE'
        clear hE' hmo
        generalize hLE : lnN E' = LE at *
        have HLE := Lib.hid hLE
        clear hLE
        go_wp2_with fail
        go_quiet (fail)
        have HAN := Lib.hid (HAT.out.drewN nq)
        go_wp2_with fail
        go_end0
        refine HPOST.out _ fm' ?_ ?_
        · rw [HEE.out, HLE.out]; exact HUB.out _ _ _ _ _ _ HAN.out
        · rw [HEE.out]; exact HFMR.out
theorem put28 {T : Nat → Prop} {W0 W : World} {base xb mb ph mo now n : Nat} {fm : Fp → Option Nat} {E : List En} {f : Fp} {man : Id} (h : At T W0 W base xb mb ph mo (lnN E : Nat) now n fm E) (hf : IsFp f) (hfm : FmOk fm E) (hk : HkE E) (hg : Full E) (hl : lnN E ≤ 100000) (hs : E.Pairwise (fun a b => a.u < b.u)) (hu : ∀ x ∈ E, x.u ≤ now) (hn : now < 100000000) (hnn : n < 100000000) (hph : 1 ≤ ph) (hll : ∀ x ∈ E, x.l.length ≤ ph) (hpm : ph ≤ 1000) :
    Calls Try.prog 28 #[.pointer (some ⟨xb, 0, none⟩), .int .u32 man, .agg (fpL f).toArray] W (PutPost T W0 base xb mb ph mo now n E f man) := by
  by_cases hex : ∃ x ∈ takeE E f man, x.h = f
  · exact put28_old h hf hfm hk hg hl hs hu hn hnn hph hll hpm hex
  · exact put28_new h hf hfm hk hg hl hs hu hn hnn hph hll hpm (fun x hx q => hex ⟨x, hx, q⟩)
end Go.Proofs.Ytnpgfhoagpeelaa
