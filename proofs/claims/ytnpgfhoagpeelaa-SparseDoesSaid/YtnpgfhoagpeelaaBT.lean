/- Index and reference have the same. -/
import Derived.Test.YtnpgfhoagpeelaaBS
namespace Go.Proofs.Ytnpgfhoagpeelaa
open Go.RowKit
open Go.Maps
theorem hooks_eq {E : List En} {rs : List Rr} (h : abE E = abR rs) : E.map (·.h) = rs.map (·.f) := by
  have h2 := congrArg (List.map (·.1)) h
  unfold abE abR at h2
  rw [List.map_map, List.map_map] at h2
  exact h2
set_option maxRecDepth 100000 in
set_option maxHeartbeats 8000000 in
theorem same10 {W0 W : World} {xb wb ph mo N : Nat} {R : List Rw} (h : Jt W0 W xb wb ph mo N R) (hN : N ≤ 100000) :
    Calls Try.prog 10 #[.pointer (some ⟨xb, 0, none⟩), .pointer (some ⟨wb, 0, none⟩)] W (DoesPost W0 xb wb ph mo N R) := by
  obtain ⟨T, E, RA, rc, rs, hx, hr, hE, hR, hT, hwb, hb0⟩ := h
  have HX := Lib.hid hx
  have HR := Lib.hid hr
  have HT := Lib.hid hT
  have HWB := Lib.hid hwb
  have HB0 := Lib.hid hb0
  have HEQ : Hid (abE E = abR rs) := Lib.hid (hE.trans hR.symm)
  have HRR := Lib.hid hR
  have HRG : Hid (Rg ph mo (abR rs)) := Lib.hid (by rw [hR, ← hE]; exact hx.rg)
  have HHK := Lib.hid (hooks_eq (hE.trans hR.symm))
  have HAF : Hid (AllFp (rs.map (·.f))) := Lib.hid (fun f hf => by obtain ⟨r, hr2, rfl⟩ := List.mem_map.1 hf; exact (hr.ok r hr2).fp)
  have hfl : (rs.map (·.f)).length ≤ 65536 := by rw [List.length_map]; exact HRG.out.rows
  have HC24 := Lib.hid (hooks24 hr)
  have HJ : Hid (∀ V, Below W.heap.size W V → DoesPost W0 xb wb ph mo N R (.returned (.bool true)) V) := Lib.hid (fun V hV => by
    obtain ⟨T2, h2, h3, h4⟩ := xs_next hr (hx.below hV)
    exact ⟨rfl, T2, E, RA, rc, rs, h2, h3, hE, hR, h4, hwb, hb0.trans (hV.mono hb0.size)⟩)
  clear hx hr hE hR hT hwb hb0
  go_enter Try.func10, Try.ntmps10
  go_wp2_with fail
  refine Calls.mono HC24.out ?_
  rintro _ W1 ⟨HB, hd, rfl, hrow, hb1⟩
  have HB1 := Lib.hid hb1
  have HFS : Hid (Fps W1 HB (rs.map (·.f))) := Lib.hid (row_own hrow)
  have HC11 := Lib.hid (len11 (HX.out.below hb1))
  have HC25 := Lib.hid (len25 (HR.out.below hb1))
  have HC17 := Lib.hid (hooks17 (HX.out.below hb1) (by omega))
  rw [HEQ.out] at HC11
  unfold HookPost at HC17
  rw [HHK.out] at HC17
  have hln := lnA_bound (HR.out.below hb1) rs.length
  rw [List.take_length] at hln
  have HPL : Hid (∀ f, (peekA (abR rs) f).length ≤ 100) := Lib.hid (fun f => by
    rcases at_cases rs f with ⟨hno, _⟩ | ⟨q, r, hq, he, _, hn2⟩
    · rw [peekR_none hno]; exact Nat.zero_le _
    · rw [peekR_hit hq he hn2]; exact (HR.out.ok r (List.mem_of_getElem? hq)).len)
  clear hrow hb1 HC24
  generalize rs.map (·.f) = fs at *
  generalize lnA (abR rs) = LN at *
  go_wp2_with fail
  refine Calls.mono HC11.out ?_
  rintro _ W2 ⟨rfl, rfl⟩
  clear HC11
  go_wp2_with fail
  refine Calls.mono HC25.out ?_
  rintro _ W3 ⟨rfl, rfl⟩
  clear HC25
  go_wp2_with fail
  refine Calls.mono HC17.out ?_
  rintro _ W4 ⟨HB2, hd2, rfl, hrow2, hb2⟩
  have HBZ : Hid (Below W.heap.size W W4) := Lib.hid (HB1.out.trans (hb2.mono HB1.out.size))
  have HFS4 := Lib.hid (HFS.out.below hb2)
  have HC26 := Lib.hid (same23 (c := hd2) (d := hd) (row_own hrow2) (HFS.out.below hb2) HAF.out HAF.out (by omega))
  simp only [decide_true] at HC26
  clear hrow2 hb2 HC17
  go_wp2_with fail
  refine Calls.mono HC26.out ?_
  rintro _ W5 ⟨rfl, q5, hq5⟩
  have HB5 : Hid (Below W.heap.size W W5) := Lib.hid (by rw [hq5]; exact below_drewN HBZ.out q5)
  have HFS5 : Hid (Fps W5 HB fs) := Lib.hid (by rw [hq5]; exact HFS4.out.below (below_drewN (Below.refl _ _) q5))
  clear hq5 HC26
  go_wp2_with fail
  go_loopg [6] fs.length (fun gk i wr => ∃ k : Nat, k ≤ fs.length ∧ gk = fs.length - k ∧ i = .int .i64 k ∧ Below W5.heap.size W5 wr)
  case atStart => exact ⟨0, Nat.zero_le _, rfl, rfl, Below.refl _ _⟩
  case round =>
    obtain ⟨k, hk, hgk, rfl, hb⟩ := hrel
    obtain ⟨V, hV⟩ : ∃ V, V = wr := ⟨_, rfl⟩
    subst hV
    have HK := Lib.hid hgk
    have HBK := Lib.hid hb
    clear hgk hb
    have hk0 : (0 : Int) ≤ (k : Int) := by omega
    by_cases hlt : k < fs.length
    · obtain ⟨f, hf⟩ : ∃ f, fs[k]? = some f := ⟨_, List.getElem?_eq_getElem hlt⟩
      have hk1 : (k : Int) < (fs.length : Int) := by omega
      have HFF := Lib.hid (HAF.out f (List.mem_of_getElem? hf))
      have HIX := Lib.hid (info29f HFF.out)
      have HPLF := Lib.hid (HPL.out f)
      obtain ⟨sb, so, rfl, hsb, hr⟩ := Fps.get (HFS5.out.below HBK.out) HAF.out hf
      have HRW := Lib.hid hr
      have HSB := Lib.hid hsb
      clear hr hf hsb
      go_wp2_with fail
      refine wp_region_held_drew (S := (fun W => W.rangeAt sb (so + k * 32) (fpL f))) (by kernel_rfl) ?_ (fun hSx => ?_)
      · exact range_below HRW.out (below_drew (Below.refl _ _)) HSB.out
      refine wpAnyH_take (i := 0) (oi := ⟨some 27, _, _, _, _, none⟩) (v := ?_) rfl (by kernel_rfl) (by kernel_rfl) (by kernel_rfl) (fun _ _ _ h => h) (Or.inl ⟨by kernel_rfl, ?_⟩) hSx ?_
      rotate_left 1
      focus (intro wx hSw; have s0 := hSw; go_simp; first | done | with_reducible rfl)
      try simp only [Act.put, List.setIfInBounds_toArray, List.set_cons_zero, List.set_cons_succ]
      refine wpAnyH_take (i := 1) (oi := ⟨some 28, _, _, _, _, none⟩) (v := ?_) rfl (by kernel_rfl) (by kernel_rfl) (by kernel_rfl) (fun _ _ _ h => h) (Or.inl ⟨by kernel_rfl, ?_⟩) hSx ?_
      rotate_left 1
      focus (intro wx hSw; have s0 := hSw; go_simp; first | done | with_reducible rfl)
      try simp only [Act.put, List.setIfInBounds_toArray, List.set_cons_zero, List.set_cons_succ]
      refine wpAnyH_take (i := 2) (oi := ⟨some 29, _, _, _, _, none⟩) (v := ?_) rfl (by kernel_rfl) (by kernel_rfl) (by kernel_rfl) (fun _ _ _ h => h) (Or.inl ⟨by kernel_rfl, ?_⟩) hSx ?_
      rotate_left 1
      focus (intro wx hSw; have s0 := hSw; go_simp; first | done | with_reducible rfl)
      try simp only [Act.put, List.setIfInBounds_toArray, List.set_cons_zero, List.set_cons_succ]
      refine wpAnyH_take (i := 3) (oi := ⟨some 30, _, _, _, _, none⟩) (v := ?_) rfl (by kernel_rfl) (by kernel_rfl) (by kernel_rfl) (fun _ _ _ h => h) (Or.inl ⟨by kernel_rfl, ?_⟩) hSx ?_
      rotate_left 1
      focus (intro wx hSw; have s0 := hSw; go_simp; first | done | with_reducible rfl)
      try simp only [Act.put, List.setIfInBounds_toArray, List.set_cons_zero, List.set_cons_succ]
      refine wpAnyH_take (i := 4) (oi := ⟨some 31, _, _, _, _, none⟩) (v := .agg (fpL f).toArray) rfl (by kernel_rfl) (by kernel_rfl) (by kernel_rfl) (fun _ _ _ h => h) (yieldsIf_load_mid (by kernel_rfl) 47 (.tmp 30) rfl (sb) (so + k * 32) rfl (fpL f) _ (fun _ h => h) Try.underlying47 rfl HIX.out) hSx ?_
      try simp only [Act.put, List.setIfInBounds_toArray, List.set_cons_zero, List.set_cons_succ]
      refine wpAnyH_take (i := 6) (oi := ⟨some 33, _, _, _, _, none⟩) (v := ?_) rfl (by kernel_rfl) (by kernel_rfl) (by kernel_rfl) (fun _ _ _ h => h) (Or.inl ⟨by kernel_rfl, ?_⟩) hSx ?_
      rotate_left 1
      focus (intro wx hSw; have s0 := hSw; go_simp; first | done | with_reducible rfl)
      try simp only [Act.put, List.setIfInBounds_toArray, List.set_cons_zero, List.set_cons_succ]
      refine wpAnyH_take (i := 7) (oi := ⟨some 34, _, _, _, _, none⟩) (v := ?_) rfl (by kernel_rfl) (by kernel_rfl) (by kernel_rfl) (fun _ _ _ h => h) (Or.inl ⟨by kernel_rfl, ?_⟩) hSx ?_
      rotate_left 1
      focus (intro wx hSw; have s0 := hSw; go_simp; first | done | with_reducible rfl)
      try simp only [Act.put, List.setIfInBounds_toArray, List.set_cons_zero, List.set_cons_succ]
      refine wpAnyH_take (i := 8) (oi := ⟨some 35, _, _, _, _, none⟩) (v := ?_) rfl (by kernel_rfl) (by kernel_rfl) (by kernel_rfl) (fun _ _ _ h => h) (Or.inl ⟨by kernel_rfl, ?_⟩) hSx ?_
      rotate_left 1
      focus (intro wx hSw; have s0 := hSw; go_simp; first | done | with_reducible rfl)
      try simp only [Act.put, List.setIfInBounds_toArray, List.set_cons_zero, List.set_cons_succ]
      refine wpAnyH_take (i := 9) (oi := ⟨some 36, _, _, _, _, none⟩) (v := ?_) rfl (by kernel_rfl) (by kernel_rfl) (by kernel_rfl) (fun _ _ _ h => h) (Or.inl ⟨by kernel_rfl, ?_⟩) hSx ?_
      rotate_left 1
      focus (intro wx hSw; have s0 := hSw; go_simp; first | done | with_reducible rfl)
      try simp only [Act.put, List.setIfInBounds_toArray, List.set_cons_zero, List.set_cons_succ]
      refine wpAnyH_take (i := 10) (oi := ⟨some 37, _, _, _, _, none⟩) (v := .agg (fpL f).toArray) rfl (by kernel_rfl) (by kernel_rfl) (by kernel_rfl) (fun _ _ _ h => h) (yieldsIf_load_mid (by kernel_rfl) 47 (.tmp 36) rfl (sb) (so + k * 32) rfl (fpL f) _ (fun _ h => h) Try.underlying47 rfl HIX.out) hSx ?_
      try simp only [Act.put, List.setIfInBounds_toArray, List.set_cons_zero, List.set_cons_succ]
      refine wpAnyH_ready (rs := [5]) (by kernel_rfl) (by simp) ?_
      refine AllReadyH.cons (o := ⟨some 32, _, _, _, _, none⟩) rfl (fun KK hKK => ?_) AllReadyH.nil
      go_simp
      have HV0 : Hid (Below V.heap.size V V.drew) := Lib.hid (below_drew (Below.refl _ _))
      have HVW0 : Hid (Below W.heap.size W V.drew) := Lib.hid (HB5.out.trans ((HBK.out.trans (HV0.out.mono HBK.out.size)).mono HB5.out.size))
      have HC14 := Lib.hid (peek14 (HX.out.below HVW0.out) HFF.out)
      rw [HEQ.out] at HC14
      with_reducible refine Calls.mono HC14.out ?_
      rintro e z2 ⟨B1, d1, rfl, ho1, hb2⟩
      have HV2 : Hid (Below V.heap.size V z2) := Lib.hid (HV0.out.trans (hb2.mono HV0.out.size))
      have HVW2 : Hid (Below W.heap.size W z2) := Lib.hid (HVW0.out.trans (hb2.mono HVW0.out.size))
      have HO1 := Lib.hid ho1
      clear ho1 hb2 HC14
      refine hKK.out _ _ (range_below HRW.out HV2.out HSB.out) (fun hSy => ?_)
      clear hKK hSx
      have hSx := hSy
      clear hSy KK
      try simp only [Act.put, List.setIfInBounds_toArray, List.set_cons_zero, List.set_cons_succ]
      refine wpAnyH_ready (rs := [11]) (by kernel_rfl) (by simp) ?_
      refine AllReadyH.cons (o := ⟨some 38, _, _, _, _, none⟩) rfl (fun KK hKK => ?_) AllReadyH.nil
      go_simp
      have HC21 := Lib.hid (peek21 (HR.out.below HVW2.out) HFF.out)
      with_reducible refine Calls.mono HC21.out ?_
      rintro e z4 ⟨B2, d2, rfl, hi4, _, hb4, _⟩
      have HV4 : Hid (Below V.heap.size V z4) := Lib.hid (HV2.out.trans (hb4.mono HV2.out.size))
      have HO4 := Lib.hid (own_below HO1.out hb4)
      have HI4 := Lib.hid hi4
      clear hi4 hb4 HC21
      refine hKK.out _ _ (range_below HRW.out HV4.out HSB.out) (fun hSy => ?_)
      clear hKK hSx
      have hSx := hSy
      clear hSy KK
      try simp only [Act.put, List.setIfInBounds_toArray, List.set_cons_zero, List.set_cons_succ]
      refine wpAnyH_ready (rs := [12]) (by kernel_rfl) (by simp) ?_
      refine AllReadyH.cons (o := ⟨some 39, _, _, _, _, none⟩) rfl (fun KK hKK => ?_) AllReadyH.nil
      go_simp
      have HC18 := Lib.hid (same20 (c := d1) (d := d2) (row_own HO4.out) HI4.out.ids (by have := HPLF.out; omega))
      simp only [decide_true] at HC18
      with_reducible refine Calls.mono HC18.out ?_
      rintro e z5 ⟨rfl, q5, hz5⟩
      have HV5 : Hid (Below V.heap.size V z5) := Lib.hid (by rw [hz5]; exact below_drewN HV4.out q5)
      clear hz5 HC18
      refine hKK.out _ _ (range_below HRW.out HV5.out HSB.out) (fun hSy => ?_)
      clear hKK hSx
      have hSx := hSy
      clear hSy KK
      try simp only [Act.put, List.setIfInBounds_toArray, List.set_cons_zero, List.set_cons_succ]
      refine wpAnyH_take (i := 13) (oi := ⟨some 40, _, _, _, _, none⟩) (v := ?_) rfl (by kernel_rfl) (by kernel_rfl) (by kernel_rfl) (fun _ _ _ h => h) (Or.inl ⟨by kernel_rfl, ?_⟩) hSx ?_
      rotate_left 1
      focus (intro wx hSw; have s0 := hSw; go_simp; first | done | with_reducible rfl)
      try simp only [Act.put, List.setIfInBounds_toArray, List.set_cons_zero, List.set_cons_succ]
      refine wpAnyH_done (by kernel_rfl) ?_ _
      clear hSx
      go_wp2_with fail
      go_roundg (fs.length - (k + 1))
      case measure => rw [HK.out]; omega
      case rel => exact ⟨k + 1, by omega, rfl, by go_num, HBK.out.trans (HV5.out.mono HBK.out.size)⟩
    · obtain rfl : k = fs.length := by omega
      go_wp2_with fail
      go_ret
      exact HJ.out V (HB5.out.trans (HBK.out.mono HB5.out.size))
end Go.Proofs.Ytnpgfhoagpeelaa
