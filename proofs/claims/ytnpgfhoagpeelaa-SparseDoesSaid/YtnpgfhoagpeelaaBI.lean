/- The walk over SparseNewest. -/
import Derived.Test.YtnpgfhoagpeelaaBH
namespace Go.Proofs.Ytnpgfhoagpeelaa
open Go.RowKit
open Go.Maps
theorem tn_below {W W' : World} {base xb ph mo N : Nat} {E : List En} (h : Xs NoT W W' base xb ph mo N E) : Below W.heap.size W W' := h.tn.below (fun _ q => q.elim) (Nat.le_refl _)
theorem xs_hk {T : Nat → Prop} {W0 W : World} {base xb ph mo N : Nat} {E : List En} (h : Xs T W0 W base xb ph mo N E) : HkE E := by
  obtain ⟨mb, now, n, fm, _, _, h3, _⟩ := h
  exact h3.hk
set_option maxRecDepth 100000 in
set_option maxHeartbeats 8000000 in
theorem newest4 {A B : Option Addr} {c d : Nat} {xs : List Act} {hs : List Fp} {a b : Nat} {man : Id} {W : World} (h : Acts W A xs) (hf : Fps W B hs) (ha : AllFp hs) (hB : AOz B hs.length) (ha1 : a ≤ 255) (hb1 : b ≤ 65535) :
    Calls Try.prog 4 #[.int .u8 (a : Nat), .int .u16 (b : Nat), .slice A xs.length c, .int .u32 man, .slice B hs.length d] W fun r W' => r = .returned (.bool true) ∧ Below W.heap.size W W' := by
  obtain ⟨ph, hph⟩ : ∃ ph, ph = 1 + a % 64 := ⟨_, rfl⟩
  obtain ⟨mo, hmo⟩ : ∃ mo, mo = 1 + b := ⟨_, rfl⟩
  have HN := Lib.hid (new6 W ph mo (by omega) (by omega))
  have HACT := Lib.hid h
  have HFPS := Lib.hid hf
  have HAF := Lib.hid ha
  have HBA := Lib.hid hB
  have e1 : IntKind.u8.wrap (Int.tmod ((a : Nat) : Int) 64) = ((a % 64 : Nat) : Int) := by
    rw [IntKind.wrap_u8, Int.tmod_eq_emod_of_nonneg (by omega)]
    omega
  have e2 : IntKind.i64.wrap (1 + ((a % 64 : Nat) : Int)) = ((ph : Nat) : Int) := by rw [IntWalk.i64_in _ (by omega)]; omega
  have e3 : IntKind.i64.wrap ((a % 64 : Nat) : Int) = ((a % 64 : Nat) : Int) := IntWalk.i64_in _ (by omega)
  have e4 : IntKind.i64.wrap ((b : Nat) : Int) = ((b : Nat) : Int) := IntWalk.i64_in _ (by omega)
  have e5 : IntKind.i64.wrap (1 + ((b : Nat) : Int)) = ((mo : Nat) : Int) := by rw [IntWalk.i64_in _ (by omega)]; omega
  have HPH := Lib.hid hph
  have HMO := Lib.hid hmo
  clear h hf ha hB hph hmo
  go_enter Try.func4, Try.ntmps4
  go_wp2_with fail
  rw [show (1 : Int) + ((a : Nat) : Int) % 64 = ((ph : Nat) : Int) by have := HPH.out; omega]
  refine Calls.mono HN.out ?_
  rintro _ V0 ⟨xb, rfl, hx0⟩
  have HX0 := Lib.hid hx0
  clear hx0 HN
  by_cases hhs : 20 < hs.length
  · have hhi : (20 : Int) < (hs.length : Int) := by omega
    have HAW := Lib.hid (awake8 V0)
    go_wp2_with fail
    refine Calls.mono HAW.out ?_
    rintro _ V1 ⟨rfl, hb⟩
    have HB1 := Lib.hid ((tn_below HX0.out).trans (hb.mono (tn_below HX0.out).size))
    clear hb
    go_wp2_with fail
    go_ret
    exact ⟨rfl, HB1.out⟩
  · have hhi : ¬ (20 : Int) < (hs.length : Int) := by omega
    have hh20 : hs.length ≤ 20 := by omega
    go_wp2_with fail
    go_loopg [13, 14] 20 (fun gk nv i wr => ∃ (k n : Nat) (E : List En), k ≤ xs.length ∧ k ≤ 20 ∧ gk = 20 - k ∧ i = .int .i64 k ∧ nv = .int .i64 (n : Nat) ∧ n ≤ 20 * k ∧ Xs NoT W wr W.heap.size xb ph mo (20 * k) E ∧ lnA (abE E) ≤ n)
    case atStart => exact ⟨0, 0, [], Nat.zero_le _, Nat.zero_le _, rfl, rfl, rfl, Nat.le_refl _, HX0.out, Nat.le_refl _⟩
    case round =>
      obtain ⟨k, n, E, hk, hk20, hgk, rfl, rfl, hn20, hx, hln⟩ := hrel
      have HK := Lib.hid hgk
      have HXK := Lib.hid hx
      have HLN := Lib.hid hln
      have HBK := Lib.hid (tn_below hx)
      clear hgk hx hln HX0
      have hk0 : (0 : Int) ≤ (k : Int) := by omega
      by_cases hlt : k < xs.length ∧ k < 20
      · obtain ⟨x, hx⟩ : ∃ x, xs[k]? = some x := ⟨_, List.getElem?_eq_getElem hlt.1⟩
        have hk1 : (k : Int) < (xs.length : Int) := by omega
        have hk2 : (k : Int) < 20 := by omega
        obtain ⟨ab, ao, rfl, cc0, cc1, cc2⟩ := (HACT.out.below HBK.out).get hx
        have HGX : Hid (∀ W', Below W.heap.size W W' → W'.cell? ⟨ab, ao + k * 3 + 1, none⟩ = some (.int .u32 x.man) ∧ W'.cell? ⟨ab, ao + k * 3 + 2, none⟩ = some (.slice x.A x.hs.length x.c)) := Lib.hid (fun W' hW => by
          obtain ⟨b', o', e, _, q1, q2⟩ := (HACT.out.below hW).get hx
          injection e with e
          injection e with r1 r2 _
          subst r1; subst r2
          exact ⟨q1, q2⟩)
        have HXA := Lib.hid (HACT.out.2 x (List.mem_of_getElem? hx))
        clear hx cc0 cc1
        by_cases hlx : 20 < x.hs.length
        · have hlxi : (20 : Int) < (x.hs.length : Int) := by omega
          have HAW := Lib.hid (awake8 wr)
          go_wp2_with fail
          refine Calls.mono HAW.out ?_
          rintro _ V1 ⟨rfl, hb⟩
          have HB1 := Lib.hid (HBK.out.trans (hb.mono HBK.out.size))
          clear hb
          go_wp2_with fail
          go_ret
          exact ⟨rfl, HB1.out⟩
        · have hlxi : ¬ (20 : Int) < (x.hs.length : Int) := by omega
          have HBD : Hid (Below W.heap.size W wr.drew) := Lib.hid (below_drew HBK.out)
          have HC12 := Lib.hid (put12 (c := x.c) (man := x.man) (HXK.out.below (below_drew (Below.refl wr.heap.size wr))) (HXA.out.1.below HBD.out) HXA.out.2.1 HXA.out.2.2 (by omega) (by omega))
          go_wp2_with fail
          refine wp_region_held_drew (S := (fun W => W.cell? ⟨ab, ao + k * 3 + 1, none⟩ = some (.int .u32 x.man) ∧ W.cell? ⟨ab, ao + k * 3 + 2, none⟩ = some (.slice x.A x.hs.length x.c))) (by kernel_rfl) ?_ (fun hSx => ?_)
          · exact HGX.out _ HBD.out
          refine wpAnyH_take (i := 0) (oi := ⟨some 64, _, _, _, _, none⟩) (v := ?_) rfl (by kernel_rfl) (by kernel_rfl) (by kernel_rfl) (fun _ _ _ h => h) (Or.inl ⟨by kernel_rfl, ?_⟩) hSx ?_
          rotate_left 1
          focus (intro wx hSw; obtain ⟨s0, s1⟩ := hSw; go_simp; first | done | with_reducible rfl)
          try simp only [Act.put, List.setIfInBounds_toArray, List.set_cons_zero, List.set_cons_succ]
          refine wpAnyH_take (i := 1) (oi := ⟨some 65, _, _, _, _, none⟩) (v := ?_) rfl (by kernel_rfl) (by kernel_rfl) (by kernel_rfl) (fun _ _ _ h => h) (Or.inl ⟨by kernel_rfl, ?_⟩) hSx ?_
          rotate_left 1
          focus (intro wx hSw; obtain ⟨s0, s1⟩ := hSw; go_simp; first | done | with_reducible rfl)
          try simp only [Act.put, List.setIfInBounds_toArray, List.set_cons_zero, List.set_cons_succ]
          refine wpAnyH_take (i := 2) (oi := ⟨some 66, _, _, _, _, none⟩) (v := ?_) rfl (by kernel_rfl) (by kernel_rfl) (by kernel_rfl) (fun _ _ _ h => h) (Or.inl ⟨by kernel_rfl, ?_⟩) hSx ?_
          rotate_left 1
          focus (intro wx hSw; obtain ⟨s0, s1⟩ := hSw; go_simp; first | done | with_reducible rfl)
          try simp only [Act.put, List.setIfInBounds_toArray, List.set_cons_zero, List.set_cons_succ]
          refine wpAnyH_take (i := 3) (oi := ⟨some 67, _, _, _, _, none⟩) (v := ?_) rfl (by kernel_rfl) (by kernel_rfl) (by kernel_rfl) (fun _ _ _ h => h) (Or.inl ⟨by kernel_rfl, ?_⟩) hSx ?_
          rotate_left 1
          focus (intro wx hSw; obtain ⟨s0, s1⟩ := hSw; go_simp; first | done | with_reducible rfl)
          try simp only [Act.put, List.setIfInBounds_toArray, List.set_cons_zero, List.set_cons_succ]
          refine wpAnyH_take (i := 4) (oi := ⟨some 68, _, _, _, _, none⟩) (v := ?_) rfl (by kernel_rfl) (by kernel_rfl) (by kernel_rfl) (fun _ _ _ h => h) (Or.inl ⟨by kernel_rfl, ?_⟩) hSx ?_
          rotate_left 1
          focus (intro wx hSw; obtain ⟨s0, s1⟩ := hSw; go_simp; first | done | with_reducible rfl)
          try simp only [Act.put, List.setIfInBounds_toArray, List.set_cons_zero, List.set_cons_succ]
          refine wpAnyH_take (i := 5) (oi := ⟨some 69, _, _, _, _, none⟩) (v := ?_) rfl (by kernel_rfl) (by kernel_rfl) (by kernel_rfl) (fun _ _ _ h => h) (Or.inl ⟨by kernel_rfl, ?_⟩) hSx ?_
          rotate_left 1
          focus (intro wx hSw; obtain ⟨s0, s1⟩ := hSw; go_simp; first | done | with_reducible rfl)
          try simp only [Act.put, List.setIfInBounds_toArray, List.set_cons_zero, List.set_cons_succ]
          refine wpAnyH_take (i := 6) (oi := ⟨some 70, _, _, _, _, none⟩) (v := ?_) rfl (by kernel_rfl) (by kernel_rfl) (by kernel_rfl) (fun _ _ _ h => h) (Or.inl ⟨by kernel_rfl, ?_⟩) hSx ?_
          rotate_left 1
          focus (intro wx hSw; obtain ⟨s0, s1⟩ := hSw; go_simp; first | done | with_reducible rfl)
          try simp only [Act.put, List.setIfInBounds_toArray, List.set_cons_zero, List.set_cons_succ]
          refine wpAnyH_take (i := 7) (oi := ⟨some 71, _, _, _, _, none⟩) (v := ?_) rfl (by kernel_rfl) (by kernel_rfl) (by kernel_rfl) (fun _ _ _ h => h) (Or.inl ⟨by kernel_rfl, ?_⟩) hSx ?_
          rotate_left 1
          focus (intro wx hSw; obtain ⟨s0, s1⟩ := hSw; go_simp; first | done | with_reducible rfl)
          try simp only [Act.put, List.setIfInBounds_toArray, List.set_cons_zero, List.set_cons_succ]
          refine wpAnyH_take (i := 8) (oi := ⟨some 72, _, _, _, _, none⟩) (v := ?_) rfl (by kernel_rfl) (by kernel_rfl) (by kernel_rfl) (fun _ _ _ h => h) (Or.inl ⟨by kernel_rfl, ?_⟩) hSx ?_
          rotate_left 1
          focus (intro wx hSw; obtain ⟨s0, s1⟩ := hSw; go_simp; first | done | with_reducible rfl)
          try simp only [Act.put, List.setIfInBounds_toArray, List.set_cons_zero, List.set_cons_succ]
          refine wpAnyH_take (i := 9) (oi := ⟨some 73, _, _, _, _, none⟩) (v := ?_) rfl (by kernel_rfl) (by kernel_rfl) (by kernel_rfl) (fun _ _ _ h => h) (Or.inl ⟨by kernel_rfl, ?_⟩) hSx ?_
          rotate_left 1
          focus (intro wx hSw; obtain ⟨s0, s1⟩ := hSw; go_simp; first | done | with_reducible rfl)
          try simp only [Act.put, List.setIfInBounds_toArray, List.set_cons_zero, List.set_cons_succ]
          refine wpAnyH_take (i := 10) (oi := ⟨some 74, _, _, _, _, none⟩) (v := ?_) rfl (by kernel_rfl) (by kernel_rfl) (by kernel_rfl) (fun _ _ _ h => h) (Or.inl ⟨by kernel_rfl, ?_⟩) hSx ?_
          rotate_left 1
          focus (intro wx hSw; obtain ⟨s0, s1⟩ := hSw; go_simp; first | done | with_reducible rfl)
          try simp only [Act.put, List.setIfInBounds_toArray, List.set_cons_zero, List.set_cons_succ]
          refine wpAnyH_ready (rs := [11]) (by kernel_rfl) (by simp) ?_
          refine AllReadyH.cons (o := ⟨some 75, _, _, _, _, none⟩) rfl (fun KK hKK => ?_) AllReadyH.nil
          go_simp
          with_reducible refine Calls.mono HC12.out ?_
          rintro e z1 ⟨rfl, E2, hx2, hab2⟩
          have HX2 := Lib.hid hx2
          clear hx2
          refine hKK.out _ _ (HGX.out _ (tn_below HX2.out)) (fun hSy => ?_)
          clear hKK hSx
          have hSx := hSy
          clear hSy KK
          try simp only [Act.put, List.setIfInBounds_toArray, List.set_cons_zero, List.set_cons_succ]
          refine wpAnyH_done (by kernel_rfl) ?_ _
          have HLN2 : Hid (lnA (abE E2) ≤ n + x.hs.length) := Lib.hid (by
            rw [hab2]
            have := (puts_ln (ph := ph) (mo := mo) (man := x.man) (nd_ab (xs_hk HXK.out)) x.hs).2
            have := HLN.out
            omega)
          have HXN : Hid (Xs NoT W z1 W.heap.size xb ph mo (20 * (k + 1)) E2) := Lib.hid (HX2.out.mono (by omega))
          have cz := (HGX.out z1 (tn_below HX2.out)).2
          clear hab2 cc2
          go_wp2_with fail
          go_roundg (20 - (k + 1))
          case measure => rw [HK.out]; omega
          case rel => exact ⟨k + 1, n + x.hs.length, E2, by omega, by omega, rfl, by go_num, by go_num, by omega, HXN.out, HLN2.out⟩
      · by_cases hkl : k < xs.length
        · have hk1 : (k : Int) < (xs.length : Int) := by omega
          have hk2 : ¬ (k : Int) < 20 := by omega
          have hph1 : 1 ≤ ph := by have := HPH.out; omega
          have hmo1 : 1 ≤ mo := by have := HMO.out; omega
          have hmo2 : mo ≤ 65536 := by have := HMO.out; omega
          have HC12 := Lib.hid (put12 (c := d) (man := man) HXK.out (HFPS.out.below HBK.out) HAF.out HBA.out (by omega) (by omega))
          have hnew := puts_newest (man := man) hph1 hmo1 (nd_ab (xs_hk HXK.out)) hs
          have HNEW := Lib.hid hnew
          clear hnew hlt hkl
          go_wp2_with fail
          refine Calls.mono HC12.out ?_
          rintro _ W2 ⟨rfl, E2, hx2, hab2⟩
          have HX2 := Lib.hid hx2
          rw [← hab2] at HNEW
          have HB2 := Lib.hid (tn_below hx2)
          have HC13 := Lib.hid (rset24 (c := d) (HFPS.out.below HB2.out) HAF.out (by omega))
          have HSA := Lib.hid (setF_fp HAF.out)
          have hsl := setF_len hs
          clear hx2 hab2 HC12
          go_wp2_with fail
          refine Calls.mono HC13.out ?_
          rintro _ W3 ⟨SB, sd, rfl, hsf, _, _, hb3⟩
          have HSF := Lib.hid hsf
          have HX3 := Lib.hid (HX2.out.below hb3)
          have HB3 := Lib.hid (HB2.out.trans (hb3.mono HB2.out.size))
          clear hsf hb3 HC13 HX2
          generalize setF hs = S at *
          go_wp2_with fail
          go_loopg [16] S.length (fun gk i wr => ∃ j : Nat, j ≤ S.length ∧ gk = S.length - j ∧ i = .int .i64 j ∧ Below W3.heap.size W3 wr)
          case atStart => exact ⟨0, Nat.zero_le _, rfl, rfl, Below.refl _ _⟩
          case round =>
            obtain ⟨j, hj, hgj, rfl, hbj⟩ := hrel
            have HJ := Lib.hid hgj
            have HBJ := Lib.hid hbj
            clear hgj hbj
            have hj0 : (0 : Int) ≤ (j : Int) := by omega
            by_cases hlj : j < S.length
            · obtain ⟨f, hf⟩ : ∃ f, S[j]? = some f := ⟨_, List.getElem?_eq_getElem hlj⟩
              have hfm := List.mem_of_getElem? hf
              have HFF := Lib.hid (HSA.out f hfm)
              have HIX := Lib.hid (info29f HFF.out)
              obtain ⟨sb, so, rfl, _, hr⟩ := Fps.get (HSF.out.below HBJ.out) HSA.out hf
              have HRW := Lib.hid hr
              have hnw := HNEW.out f hfm
              have HC14 := Lib.hid (peek14 (HX3.out.below HBJ.out) HFF.out)
              have hji : (j : Int) < (S.length : Int) := by omega
              have w1 : IntKind.i64.wrap ((n : Int) + (hs.length : Int)) = (n : Int) + (hs.length : Int) := IntWalk.i64_in _ (by omega)
              have w2 : IntKind.i64.wrap ((S.length : Int) - 1) = (S.length : Int) - 1 := IntWalk.i64_in _ (by omega)
              have hln := HLN.out
              clear hr hf hfm
              unfold HeadA at hnw
              generalize peekA (abE E2) f = l at *
              go_wp2_with ((with_reducible refine wpList_load_mid (op := ⟨some 100, _, _, _, _, _⟩) rfl 47 (.tmp 99) rfl sb (so + j * 32) ?_ (fpL f) _ HRW.out Try.underlying47 rfl HIX.out ?_); rfl)
              refine Calls.mono HC14.out ?_
              rintro _ W4 ⟨PB, pd, rfl, ho, hb4⟩
              have HB4 := Lib.hid (HBJ.out.trans (hb4.mono HBJ.out.size))
              clear hb4 HC14
              rcases hnw with ⟨hl | ⟨l', hl⟩, hne⟩
              · have hsn : ¬ (n : Int) + (hs.length : Int) ≤ ((mo : Nat) : Int) := fun q => hne (by omega) hl
                have hl0 : ((l.length : Nat) : Int) = 0 := by rw [hl]; rfl
                clear hne hl ho hln
                generalize l.length = ll at *
                by_cases hjl : (j : Int) = (S.length : Int) - 1
                · go_wp2_with fail
                  go_roundg (S.length - (j + 1))
                  case measure => rw [HJ.out]; omega
                  case rel => exact ⟨j + 1, by omega, rfl, by go_num, HB4.out⟩
                · go_wp2_with fail
                  go_roundg (S.length - (j + 1))
                  case measure => rw [HJ.out]; omega
                  case rel => exact ⟨j + 1, by omega, rfl, by go_num, HB4.out⟩
              · subst hl
                obtain ⟨g, cap, e6, _⟩ := own_some ho (fun q => by injection q with _ q _; cases q)
                injection e6 with e6 _ e7
                subst e6; subst e7
                have cg : W4.cell? ⟨g, 0, none⟩ = some (.int .u32 man) := by have := World.ownsRow.cellAt ho 0 (by simp); rw [this]; rfl
                obtain ⟨ll, hll⟩ : ∃ ll, (man :: l').length = ll := ⟨_, rfl⟩
                have hll0 : 0 < ll := by rw [← hll]; exact Nat.succ_pos _
                have hll1 : (0 : Int) < (ll : Int) := by omega
                have hll2 : (((ll : Nat) : Int) == 0) = false := by rw [beq_eq_false_iff_ne]; omega
                have hll3 : ¬ ((ll : Nat) : Int) = 0 := by omega
                rw [hll]
                clear hne ho hll hln
                by_cases hsn : (n : Int) + (hs.length : Int) ≤ ((mo : Nat) : Int)
                · go_wp2_with fail
                  go_roundg (S.length - (j + 1))
                  case measure => rw [HJ.out]; omega
                  case rel => exact ⟨j + 1, by omega, rfl, by go_num, HB4.out⟩
                · by_cases hjl : (j : Int) = (S.length : Int) - 1
                  · go_wp2_with fail
                    go_roundg (S.length - (j + 1))
                    case measure => rw [HJ.out]; omega
                    case rel => exact ⟨j + 1, by omega, rfl, by go_num, HB4.out⟩
                  · go_wp2_with fail
                    go_roundg (S.length - (j + 1))
                    case measure => rw [HJ.out]; omega
                    case rel => exact ⟨j + 1, by omega, rfl, by go_num, HB4.out⟩
            · obtain rfl : j = S.length := by omega
              have HAW := Lib.hid (awake8 wr)
              go_wp2_with fail
              refine Calls.mono HAW.out ?_
              rintro _ V1 ⟨rfl, hb⟩
              have HB5 := Lib.hid (HBJ.out.trans (hb.mono HBJ.out.size))
              clear hb
              go_wp2_with fail
              go_ret
              exact ⟨rfl, HB3.out.trans (HB5.out.mono HB3.out.size)⟩
        · have hk1 : ¬ (k : Int) < (xs.length : Int) := by omega
          have hph1 : 1 ≤ ph := by have := HPH.out; omega
          have hmo1 : 1 ≤ mo := by have := HMO.out; omega
          have hmo2 : mo ≤ 65536 := by have := HMO.out; omega
          have HC12 := Lib.hid (put12 (c := d) (man := man) HXK.out (HFPS.out.below HBK.out) HAF.out HBA.out (by omega) (by omega))
          have hnew := puts_newest (man := man) hph1 hmo1 (nd_ab (xs_hk HXK.out)) hs
          have HNEW := Lib.hid hnew
          clear hnew hlt hkl
          go_wp2_with fail
          refine Calls.mono HC12.out ?_
          rintro _ W2 ⟨rfl, E2, hx2, hab2⟩
          have HX2 := Lib.hid hx2
          rw [← hab2] at HNEW
          have HB2 := Lib.hid (tn_below hx2)
          have HC13 := Lib.hid (rset24 (c := d) (HFPS.out.below HB2.out) HAF.out (by omega))
          have HSA := Lib.hid (setF_fp HAF.out)
          have hsl := setF_len hs
          clear hx2 hab2 HC12
          go_wp2_with fail
          refine Calls.mono HC13.out ?_
          rintro _ W3 ⟨SB, sd, rfl, hsf, _, _, hb3⟩
          have HSF := Lib.hid hsf
          have HX3 := Lib.hid (HX2.out.below hb3)
          have HB3 := Lib.hid (HB2.out.trans (hb3.mono HB2.out.size))
          clear hsf hb3 HC13 HX2
          generalize setF hs = S at *
          go_wp2_with fail
          go_loopg [16] S.length (fun gk i wr => ∃ j : Nat, j ≤ S.length ∧ gk = S.length - j ∧ i = .int .i64 j ∧ Below W3.heap.size W3 wr)
          case atStart => exact ⟨0, Nat.zero_le _, rfl, rfl, Below.refl _ _⟩
          case round =>
            obtain ⟨j, hj, hgj, rfl, hbj⟩ := hrel
            have HJ := Lib.hid hgj
            have HBJ := Lib.hid hbj
            clear hgj hbj
            have hj0 : (0 : Int) ≤ (j : Int) := by omega
            by_cases hlj : j < S.length
            · obtain ⟨f, hf⟩ : ∃ f, S[j]? = some f := ⟨_, List.getElem?_eq_getElem hlj⟩
              have hfm := List.mem_of_getElem? hf
              have HFF := Lib.hid (HSA.out f hfm)
              have HIX := Lib.hid (info29f HFF.out)
              obtain ⟨sb, so, rfl, _, hr⟩ := Fps.get (HSF.out.below HBJ.out) HSA.out hf
              have HRW := Lib.hid hr
              have hnw := HNEW.out f hfm
              have HC14 := Lib.hid (peek14 (HX3.out.below HBJ.out) HFF.out)
              have hji : (j : Int) < (S.length : Int) := by omega
              have w1 : IntKind.i64.wrap ((n : Int) + (hs.length : Int)) = (n : Int) + (hs.length : Int) := IntWalk.i64_in _ (by omega)
              have w2 : IntKind.i64.wrap ((S.length : Int) - 1) = (S.length : Int) - 1 := IntWalk.i64_in _ (by omega)
              have hln := HLN.out
              clear hr hf hfm
              unfold HeadA at hnw
              generalize peekA (abE E2) f = l at *
              go_wp2_with ((with_reducible refine wpList_load_mid (op := ⟨some 100, _, _, _, _, _⟩) rfl 47 (.tmp 99) rfl sb (so + j * 32) ?_ (fpL f) _ HRW.out Try.underlying47 rfl HIX.out ?_); rfl)
              refine Calls.mono HC14.out ?_
              rintro _ W4 ⟨PB, pd, rfl, ho, hb4⟩
              have HB4 := Lib.hid (HBJ.out.trans (hb4.mono HBJ.out.size))
              clear hb4 HC14
              rcases hnw with ⟨hl | ⟨l', hl⟩, hne⟩
              · have hsn : ¬ (n : Int) + (hs.length : Int) ≤ ((mo : Nat) : Int) := fun q => hne (by omega) hl
                have hl0 : ((l.length : Nat) : Int) = 0 := by rw [hl]; rfl
                clear hne hl ho hln
                generalize l.length = ll at *
                by_cases hjl : (j : Int) = (S.length : Int) - 1
                · go_wp2_with fail
                  go_roundg (S.length - (j + 1))
                  case measure => rw [HJ.out]; omega
                  case rel => exact ⟨j + 1, by omega, rfl, by go_num, HB4.out⟩
                · go_wp2_with fail
                  go_roundg (S.length - (j + 1))
                  case measure => rw [HJ.out]; omega
                  case rel => exact ⟨j + 1, by omega, rfl, by go_num, HB4.out⟩
              · subst hl
                obtain ⟨g, cap, e6, _⟩ := own_some ho (fun q => by injection q with _ q _; cases q)
                injection e6 with e6 _ e7
                subst e6; subst e7
                have cg : W4.cell? ⟨g, 0, none⟩ = some (.int .u32 man) := by have := World.ownsRow.cellAt ho 0 (by simp); rw [this]; rfl
                obtain ⟨ll, hll⟩ : ∃ ll, (man :: l').length = ll := ⟨_, rfl⟩
                have hll0 : 0 < ll := by rw [← hll]; exact Nat.succ_pos _
                have hll1 : (0 : Int) < (ll : Int) := by omega
                have hll2 : (((ll : Nat) : Int) == 0) = false := by rw [beq_eq_false_iff_ne]; omega
                have hll3 : ¬ ((ll : Nat) : Int) = 0 := by omega
                rw [hll]
                clear hne ho hll hln
                by_cases hsn : (n : Int) + (hs.length : Int) ≤ ((mo : Nat) : Int)
                · go_wp2_with fail
                  go_roundg (S.length - (j + 1))
                  case measure => rw [HJ.out]; omega
                  case rel => exact ⟨j + 1, by omega, rfl, by go_num, HB4.out⟩
                · by_cases hjl : (j : Int) = (S.length : Int) - 1
                  · go_wp2_with fail
                    go_roundg (S.length - (j + 1))
                    case measure => rw [HJ.out]; omega
                    case rel => exact ⟨j + 1, by omega, rfl, by go_num, HB4.out⟩
                  · go_wp2_with fail
                    go_roundg (S.length - (j + 1))
                    case measure => rw [HJ.out]; omega
                    case rel => exact ⟨j + 1, by omega, rfl, by go_num, HB4.out⟩
            · obtain rfl : j = S.length := by omega
              have HAW := Lib.hid (awake8 wr)
              go_wp2_with fail
              refine Calls.mono HAW.out ?_
              rintro _ V1 ⟨rfl, hb⟩
              have HB5 := Lib.hid (HBJ.out.trans (hb.mono HBJ.out.size))
              clear hb
              go_wp2_with fail
              go_ret
              exact ⟨rfl, HB3.out.trans (HB5.out.mono HB3.out.size)⟩
end Go.Proofs.Ytnpgfhoagpeelaa
