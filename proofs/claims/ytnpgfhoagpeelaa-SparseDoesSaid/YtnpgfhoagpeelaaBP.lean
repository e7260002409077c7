/- The reference's Put. -/
import Derived.Test.YtnpgfhoagpeelaaBO
namespace Go.Proofs.Ytnpgfhoagpeelaa
open Go.RowKit
open Go.Maps
set_option maxRecDepth 100000 in
set_option maxHeartbeats 4000000 in
theorem rput23_zero {T : Nat → Prop} {W : World} {wb ph mo c : Nat} {A B : Option Addr} {rs : List Rr} {d : Nat} {hs : List Fp} {man : Id} (h : Ref T W wb ph mo A c rs) (hf : Fps W B hs) (ha : AllFp hs) (hn : hs.length ≤ 1000) (hz : ¬ (1 ≤ ph ∧ 1 ≤ mo)) :
    Calls Try.prog 23 #[.pointer (some ⟨wb, 0, none⟩), .int .u32 man, .slice B hs.length d] W fun r W' => r = .returned (.tuple #[]) ∧ (∃ A' c' rs', Ref T W' wb ph mo A' c' rs' ∧ abR rs' = putsA ph mo (abR rs) man (setF hs)) ∧ W.grownBy W' (some wb) := by
  have HC13 := Lib.hid (rset24 (c := d) hf ha hn)
  have HH := Lib.hid h
  have HPA : Hid (putsA ph mo (abR rs) man (setF hs) = abR rs) := Lib.hid (if_neg hz)
  clear h hf ha
  go_enter Try.func23, Try.ntmps23
  go_wp2_with fail
  refine Calls.mono HC13.out ?_
  rintro _ W1 ⟨SB, sd, rfl, _, _, _, hb1⟩
  have HB1 := Lib.hid hb1
  have HH1 := Lib.hid (HH.out.below hb1)
  clear hb1 HC13
  obtain ⟨S, hS⟩ : ∃ S, S = setF hs := ⟨_, rfl⟩
  have HS := Lib.hid hS
  rw [← hS] at HPA ⊢
  clear hS
  have c0 := HH1.out.c.1
  have c1 := HH1.out.c.2.1
  have hend : (∃ A' c' rs', Ref T W1 wb ph mo A' c' rs' ∧ abR rs' = putsA ph mo (abR rs) man S) ∧ W.grownBy W1 (some wb) := ⟨⟨A, c, rs, HH1.out, HPA.out.symm⟩, grown_fresh HB1.out⟩
  have HEND := Lib.hid hend
  clear hend
  go_wp2_with fail
  go_loopg [7] 1 (fun gk i wr => gk = 1 ∧ i = .int .i64 0 ∧ wr = W1)
  case atStart => exact ⟨rfl, rfl, rfl⟩
  case round =>
    obtain ⟨hgk, rfl, rfl⟩ := hrel
    clear hgk
    by_cases hl : (0 : Int) < (S.length : Int)
    · by_cases hp : ph = 0
      · subst hp
        go_wp2_with fail
        go_end0
        exact ⟨rfl, by rw [← HS.out]; exact HEND.out⟩
      · have hpi : (0 : Int) < (ph : Int) := by omega
        have hm : mo = 0 := by omega
        subst hm
        go_wp2_with fail
        go_end0
        exact ⟨rfl, by rw [← HS.out]; exact HEND.out⟩
    · go_wp2_with fail
      go_end0
      exact ⟨rfl, by rw [← HS.out]; exact HEND.out⟩
set_option maxRecDepth 100000 in
set_option maxHeartbeats 8000000 in
theorem rput23_one {T : Nat → Prop} {W : World} {wb ph mo c : Nat} {A B : Option Addr} {rs : List Rr} {d : Nat} {hs : List Fp} {man : Id} (h : Ref T W wb ph mo A c rs) (hg : Rg ph mo (abR rs)) (hf : Fps W B hs) (ha : AllFp hs) (hn : hs.length ≤ 1000) (hph : 1 ≤ ph) (hmo : 1 ≤ mo) :
    Calls Try.prog 23 #[.pointer (some ⟨wb, 0, none⟩), .int .u32 man, .slice B hs.length d] W fun r W' => r = .returned (.tuple #[]) ∧ (∃ A' c' rs', Ref T W' wb ph mo A' c' rs' ∧ abR rs' = putsA ph mo (abR rs) man (setF hs)) ∧ W.grownBy W' (some wb) := by
  have HC13 := Lib.hid (rset24 (c := d) hf ha hn)
  have HH := Lib.hid h
  have HRG := Lib.hid hg
  have HSA := Lib.hid (setF_fp ha)
  have hsl := setF_len hs
  have HPA : Hid (putsA ph mo (abR rs) man (setF hs) = (setF hs).foldl (put1A ph mo man) (abR rs)) := Lib.hid (if_pos ⟨hph, hmo⟩)
  have hphm := hg.phm
  have hmom := hg.mom
  have hphi : (0 : Int) < (ph : Int) := by omega
  have hmoi : (0 : Int) < (mo : Int) := by omega
  obtain ⟨i0, hi, hz0, hz1, hz2⟩ := info_parts info24
  have I0 := Lib.hid hi
  have Z0 := Lib.hid hz0
  have S0 := Lib.hid hz1
  have Y0 := Lib.hid hz2
  obtain ⟨i4, hi, hz0, hz1, hz2⟩ := info_parts info74
  have I4 := Lib.hid hi
  have Z4 := Lib.hid hz0
  have S4 := Lib.hid hz1
  have Y4 := Lib.hid hz2
  clear h hg hf ha hi hz0 hz1 hz2
  go_enter Try.func23, Try.ntmps23
  go_wp2_with fail
  refine Calls.mono HC13.out ?_
  rintro _ W1 ⟨SB, sd, rfl, hsf, _, _, hb1⟩
  have HB1 := Lib.hid hb1
  have HSF := Lib.hid hsf
  have HH1 := Lib.hid (HH.out.below hb1)
  clear hb1 HC13 hsf
  obtain ⟨S, hS⟩ : ∃ S, S = setF hs := ⟨_, rfl⟩
  have HS := Lib.hid hS
  rw [← hS] at HPA HSA HSF hsl ⊢
  clear hS
  go_wp2_with fail
  go_loopg [7] S.length (fun gk i wr => ∃ (k : Nat) (A' : Option Addr) (c' : Nat) (rs' : List Rr), k ≤ S.length ∧ gk = S.length - k ∧ i = .int .i64 k ∧ Ref T wr wb ph mo A' c' rs' ∧ abR rs' = (S.take k).foldl (put1A ph mo man) (abR rs) ∧ Rg ph mo (abR rs') ∧ Fps wr SB S ∧ W1.grownBy wr (some wb))
  case atStart => exact ⟨0, A, c, rs, Nat.zero_le _, rfl, rfl, HH1.out, rfl, HRG.out, HSF.out, grown_fresh (Below.refl _ _)⟩
  case round =>
    obtain ⟨k, A', c', rs', hk, hgk, rfl, href, hab, hrg, hfp, hgr⟩ := hrel
    obtain ⟨V, hV⟩ : ∃ V, V = wr := ⟨_, rfl⟩
    subst hV
    have HK := Lib.hid hgk
    have HR := Lib.hid href
    have HAB := Lib.hid hab
    have HRGR := Lib.hid hrg
    have HFP := Lib.hid hfp
    have HGR := Lib.hid hgr
    have c0 := href.c.1
    have c1 := href.c.2.1
    clear hgk href hab hrg hfp hgr HH1 HSF
    have hk0 : (0 : Int) ≤ (k : Int) := by omega
    by_cases hlt : k < S.length
    · obtain ⟨f, hf⟩ : ∃ f, S[k]? = some f := ⟨_, List.getElem?_eq_getElem hlt⟩
      have hk1 : (k : Int) < (S.length : Int) := by omega
      have HF := Lib.hid (HSA.out f (List.mem_of_getElem? hf))
      have HIX := Lib.hid (info29f HF.out)
      obtain ⟨sb, so, rfl, hsb, hr⟩ := Fps.get HFP.out HSA.out hf
      have HGET : Hid (∀ W', Fps W' (some ⟨sb, so, none⟩) S → W'.rangeAt sb (so + k * 32) (fpL f)) := Lib.hid (fun W' q => by
        obtain ⟨b', o', e, _, hc⟩ := Fps.get q HSA.out hf
        injection e with e
        injection e with e1 e2 _
        subst e1; subst e2
        exact hc)
      have HNEXT : Hid ((S.take (k + 1)).foldl (put1A ph mo man) (abR rs) = put1A ph mo man (abR rs') f) := Lib.hid (by
        rw [List.take_add_one, hf, List.foldl_append, ← HAB.out]
        rfl)
      have HBL : Hid (Below V.heap.size V (V.alloc (.cells #[.int .u32 man] 33))) := Lib.hid ((Below.refl _ _).alloc (Nat.le_refl _) _)
      have HRW := Lib.hid (range_below hr HBL.out hsb)
      have HC21 := Lib.hid (peek21 (HR.out.below HBL.out) HF.out)
      have HOL := Lib.hid (own_lit V man)
      have hpl : (peekA (abR rs') f).length ≤ 100 := by
        rcases at_cases rs' f with ⟨hno, _⟩ | ⟨q, r, hq, he, _, hn2⟩
        · rw [peekR_none hno]; exact Nat.zero_le _
        · rw [peekR_hit hq he hn2]; exact (HR.out.ok r (List.mem_of_getElem? hq)).len
      clear hf hr hsb
      go_wp2_with ((with_reducible refine wpList_load_mid (op := ⟨some 39, _, _, _, _, _⟩) rfl 47 (.tmp 38) rfl sb (so + k * 32) ?_ (fpL f) _ HRW.out Try.underlying47 rfl HIX.out ?_); rfl)
      refine Calls.mono HC21.out ?_
      rintro _ W2 ⟨PB, pd, rfl, _, _, hb2, hids⟩
      have HB2 := Lib.hid (HBL.out.trans (hb2.mono HBL.out.size))
      have HIDS := Lib.hid (hids V A' c' HR.out)
      have HOW := Lib.hid (own_below HOL.out hb2)
      clear hb2 hids HC21 HOL
      obtain ⟨old, hold⟩ : ∃ old, old = peekA (abR rs') f := ⟨_, rfl⟩
      rw [← hold] at HIDS hpl ⊢
      have HOLD := Lib.hid hold
      clear hold
      go_wp2_with fail
      go_loopg [8, 10] old.length (fun gk nv jv w => ∃ j : Nat, j ≤ old.length ∧ gk = old.length - j ∧ jv = .int .i64 j ∧ OwnI w V.heap.size nv (newL ph (cutL (old.take j) man) man) ∧ Below V.heap.size V w)
      case atStart => exact ⟨0, Nat.zero_le _, rfl, rfl, by rw [List.take_zero, show cutL [] man = [] from rfl, new_zero hph]; exact HOW.out, HB2.out⟩
      case round =>
        obtain ⟨j, hj, hgj, rfl, hown, hbw⟩ := hrel
        obtain ⟨VA, VC, rfl⟩ := own_slice hown
        have HJ := Lib.hid hgj
        have HBW := Lib.hid hbw
        have hcl := newL_le ph (cutL (old.take j) man) man
        have HRW2 := Lib.hid (HR.out.below hbw)
        have c0 := HRW2.out.c.1
        have hj0 : (0 : Int) ≤ (j : Int) := by omega
        clear hgj hbw HOW
        by_cases hlj : j < old.length
        · obtain ⟨x, hx⟩ : ∃ x, old[j]? = some x := ⟨_, List.getElem?_eq_getElem hlj⟩
          have hj1 : (j : Int) < (old.length : Int) := by omega
          obtain ⟨pb, po, rfl, _, cx⟩ := Ids.get ((HIDS.out.ids).below HBW.out) hx
          have HSAME : Hid (x = man → newL ph (cutL (old.take (j + 1)) man) man = newL ph (cutL (old.take j) man) man) := Lib.hid (fun e => by rw [cut_same hx e])
          have HMORE : Hid (x ≠ man → (newL ph (cutL (old.take j) man) man).length < ph → newL ph (cutL (old.take (j + 1)) man) man = newL ph (cutL (old.take j) man) man ++ [x]) := Lib.hid (fun e q => by rw [cut_more hx e, new_room q])
          have HFULL : Hid (x ≠ man → ¬ (newL ph (cutL (old.take j) man) man).length < ph → newL ph (cutL (old.take (j + 1)) man) man = newL ph (cutL (old.take j) man) man) := Lib.hid (fun e q => by rw [cut_more hx e, new_full q])
          clear hx
          generalize newL ph (cutL (old.take j) man) man = cur at *
          have HROW : Hid (wr.ownsRow V.heap.size 33 1 (.slice VA cur.length VC) cur.length (idL cur)) := Lib.hid hown
          clear hown
          by_cases hxm : x = man
          · have HE := Lib.hid (HSAME.out hxm)
            clear HSAME HMORE HFULL
            go_wp2_with fail
            go_roundg (old.length - (j + 1))
            case measure => rw [HJ.out]; omega
            case rel => exact ⟨j + 1, by omega, rfl, by go_num, by rw [HE.out]; exact HROW.out, HBW.out⟩
          · have hx1 : (x != man) = true := by rw [bne_iff_ne]; exact hxm
            by_cases hfull : cur.length < ph
            · have HE := Lib.hid (HMORE.out hxm hfull)
              have hfi : (cur.length : Int) < (ph : Int) := by omega
              clear HSAME HMORE HFULL
              go_wp2_with (at_builtin; refine wpList_append_own _ rfl (.tmp 62) (.tmp 67) _ rfl V.heap.size 33 i0 _ 1 4 Try.underlying44 I0.out Z0.out S0.out Y0.out rfl (by decide) _ cur.length _ rfl (HROW.out.alloc _) _ 1 1 [.int .u32 x] rfl rfl (newL2 _ [.int .u32 x] _ _ rfl) (idL_one [x]) (by unfold maxLen; omega) (by omega) (by have := HBW.out.size; simp; omega) ?_)
              intro v3 w3 hown3 hg3 _
              have HB3 : Hid (Below V.heap.size V w3) := Lib.hid ((HBW.out.alloc HBW.out.size _).grown hg3 (by have := HBW.out.size; simp; omega) (fun j q => (HROW.out.lt j q).1))
              have HOWN3 : Hid (OwnI w3 V.heap.size v3 (newL ph (cutL (old.take (j + 1)) man) man)) := Lib.hid (by
                rw [HE.out]
                unfold OwnI
                rw [List.length_append, show idL (cur ++ [x]) = idL cur ++ [.int .u32 x] from List.map_append ..]
                exact hown3)
              clear hown3 hg3
              go_wp2_with fail
              go_roundg (old.length - (j + 1))
              case measure => rw [HJ.out]; omega
              case rel => exact ⟨j + 1, by omega, rfl, by go_num, HOWN3.out, HB3.out⟩
            · have HE := Lib.hid (HFULL.out hxm hfull)
              have hfi : ¬ (cur.length : Int) < (ph : Int) := by omega
              clear HSAME HMORE HFULL
              go_wp2_with fail
              go_roundg (old.length - (j + 1))
              case measure => rw [HJ.out]; omega
              case rel => exact ⟨j + 1, by omega, rfl, by go_num, by rw [HE.out]; exact HROW.out, HBW.out⟩
        · obtain rfl : j = old.length := by omega
          have HNEW : Hid (newL ph (cutL (old.take old.length) man) man = newL ph (cutL (peekA (abR rs') f) man) man) := Lib.hid (by rw [List.take_length, ← HOLD.out])
          generalize newL ph (cutL (old.take old.length) man) man = cur at *
          have HOWN := Lib.hid hown
          clear hown
          have HNI := Lib.hid (own_ids HOWN.out HR.out.lt)
          have HB74 := Lib.hid (built74 (r := ⟨f, VA, VC, cur⟩) HF.out)
          have HFPW := Lib.hid (HFP.out.below HBW.out)
          have HBD : Hid (Below wr.heap.size wr wr.drew) := Lib.hid (below_drew (Below.refl _ _))
          have HC36 := Lib.hid (at36 (HRW2.out.below HBD.out) HF.out)
          have hoc := own_cap HOWN.out
          go_wp2_with fail
          refine wp_region_held_drew (S := (fun W => W.rangeAt sb (so + k * 32) (fpL f))) (by kernel_rfl) ?_ (fun hSx => ?_)
          · exact HGET.out _ (HFPW.out.below HBD.out)
          refine wpAnyH_take (i := 0) (oi := ⟨some 69, _, _, _, _, none⟩) (v := ?_) rfl (by kernel_rfl) (by kernel_rfl) (by kernel_rfl) (fun _ _ _ h => h) (Or.inl ⟨by kernel_rfl, ?_⟩) hSx ?_
          rotate_left 1
          focus (intro wx hSw; have s0 := hSw; go_simp; first | done | with_reducible rfl)
          try simp only [Act.put, List.setIfInBounds_toArray, List.set_cons_zero, List.set_cons_succ]
          refine wpAnyH_take (i := 1) (oi := ⟨some 70, _, _, _, _, none⟩) (v := ?_) rfl (by kernel_rfl) (by kernel_rfl) (by kernel_rfl) (fun _ _ _ h => h) (Or.inl ⟨by kernel_rfl, ?_⟩) hSx ?_
          rotate_left 1
          focus (intro wx hSw; have s0 := hSw; go_simp; first | done | with_reducible rfl)
          try simp only [Act.put, List.setIfInBounds_toArray, List.set_cons_zero, List.set_cons_succ]
          refine wpAnyH_take (i := 2) (oi := ⟨some 71, _, _, _, _, none⟩) (v := ?_) rfl (by kernel_rfl) (by kernel_rfl) (by kernel_rfl) (fun _ _ _ h => h) (Or.inl ⟨by kernel_rfl, ?_⟩) hSx ?_
          rotate_left 1
          focus (intro wx hSw; have s0 := hSw; go_simp; first | done | with_reducible rfl)
          try simp only [Act.put, List.setIfInBounds_toArray, List.set_cons_zero, List.set_cons_succ]
          refine wpAnyH_take (i := 3) (oi := ⟨some 72, _, _, _, _, none⟩) (v := ?_) rfl (by kernel_rfl) (by kernel_rfl) (by kernel_rfl) (fun _ _ _ h => h) (Or.inl ⟨by kernel_rfl, ?_⟩) hSx ?_
          rotate_left 1
          focus (intro wx hSw; have s0 := hSw; go_simp; first | done | with_reducible rfl)
          try simp only [Act.put, List.setIfInBounds_toArray, List.set_cons_zero, List.set_cons_succ]
          refine wpAnyH_take (i := 4) (oi := ⟨some 73, _, _, _, _, none⟩) (v := ?_) rfl (by kernel_rfl) (by kernel_rfl) (by kernel_rfl) (fun _ _ _ h => h) (Or.inl ⟨by kernel_rfl, ?_⟩) hSx ?_
          rotate_left 1
          focus (intro wx hSw; have s0 := hSw; go_simp; first | done | with_reducible rfl)
          try simp only [Act.put, List.setIfInBounds_toArray, List.set_cons_zero, List.set_cons_succ]
          refine wpAnyH_take (i := 5) (oi := ⟨some 74, _, _, _, _, none⟩) (v := .agg (fpL f).toArray) rfl (by kernel_rfl) (by kernel_rfl) (by kernel_rfl) (fun _ _ _ h => h) (yieldsIf_load_mid (by kernel_rfl) 47 (.tmp 73) rfl (sb) (so + k * 32) rfl (fpL f) _ (fun _ h => h) Try.underlying47 rfl HIX.out) hSx ?_
          try simp only [Act.put, List.setIfInBounds_toArray, List.set_cons_zero, List.set_cons_succ]
          refine wpAnyH_take (i := 7) (oi := ⟨some 76, _, _, _, _, none⟩) (v := ?_) rfl (by kernel_rfl) (by kernel_rfl) (by kernel_rfl) (fun _ _ _ h => h) (Or.inl ⟨by kernel_rfl, ?_⟩) hSx ?_
          rotate_left 1
          focus (intro wx hSw; have s0 := hSw; go_simp; first | done | with_reducible rfl)
          try simp only [Act.put, List.setIfInBounds_toArray, List.set_cons_zero, List.set_cons_succ]
          refine wpAnyH_take (i := 8) (oi := ⟨some 77, _, _, _, _, none⟩) (v := ?_) rfl (by kernel_rfl) (by kernel_rfl) (by kernel_rfl) (fun _ _ _ h => h) (Or.inl ⟨by kernel_rfl, ?_⟩) hSx ?_
          rotate_left 1
          focus (intro wx hSw; have s0 := hSw; go_simp; first | done | with_reducible rfl)
          try simp only [Act.put, List.setIfInBounds_toArray, List.set_cons_zero, List.set_cons_succ]
          refine wpAnyH_take (i := 9) (oi := ⟨some 78, _, _, _, _, none⟩) (v := ?_) rfl (by kernel_rfl) (by kernel_rfl) (by kernel_rfl) (fun _ _ _ h => h) (Or.inl ⟨by kernel_rfl, ?_⟩) hSx ?_
          rotate_left 1
          focus (intro wx hSw; have s0 := hSw; go_simp; first | done | with_reducible rfl)
          try simp only [Act.put, List.setIfInBounds_toArray, List.set_cons_zero, List.set_cons_succ]
          refine wpAnyH_take (i := 10) (oi := ⟨some 79, _, _, _, _, none⟩) (v := .agg (fpL f).toArray) rfl (by kernel_rfl) (by kernel_rfl) (by kernel_rfl) (fun _ _ _ h => h) (yieldsIf_load_mid (by kernel_rfl) 47 (.tmp 78) rfl (sb) (so + k * 32) rfl (fpL f) _ (fun _ h => h) Try.underlying47 rfl HIX.out) hSx ?_
          try simp only [Act.put, List.setIfInBounds_toArray, List.set_cons_zero, List.set_cons_succ]
          refine wpAnyH_take (i := 11) (oi := ⟨some 80, _, _, _, _, none⟩) (v := ?_) rfl (by kernel_rfl) (by kernel_rfl) (by kernel_rfl) (fun _ _ _ h => h) (Or.inl ⟨by kernel_rfl, ?_⟩) hSx ?_
          rotate_left 1
          focus (intro wx hSw; have s0 := hSw; go_simp; first | done | with_reducible rfl)
          try simp only [Act.put, List.setIfInBounds_toArray, List.set_cons_zero, List.set_cons_succ]
          refine wpAnyH_take (i := 12) (oi := ⟨some 81, _, _, _, _, none⟩) (v := .agg (rrL ⟨f, VA, VC, cur⟩).toArray) rfl (by kernel_rfl) (by kernel_rfl) (by kernel_rfl) (fun _ _ _ h => h) (yieldsIf_build (by kernel_rfl) 74 #[(0, .tmp 79), (1, .tmp 80)] rfl [(0, .agg (fpL f).toArray), (1, .slice VA cur.length VC)] _ rfl HB74.out) hSx ?_
          try simp only [Act.put, List.setIfInBounds_toArray, List.set_cons_zero, List.set_cons_succ]
          refine wpAnyH_ready (rs := [6]) (by kernel_rfl) (by simp) ?_
          refine AllReadyH.cons (o := ⟨some 75, _, _, _, _, none⟩) rfl (fun KK hKK => ?_) AllReadyH.nil
          go_simp
          with_reducible refine Calls.mono HC36.out ?_
          rintro e z1 ⟨rfl, hbz⟩
          have HBZ := Lib.hid (HBD.out.trans (hbz.mono HBD.out.size))
          have HBZ2 := Lib.hid (HBW.out.trans (HBZ.out.mono HBW.out.size))
          have HFPZ := Lib.hid (HFPW.out.below HBZ.out)
          have HRZ := Lib.hid (HRW2.out.below HBZ.out)
          have HC37 := Lib.hid (last37 (i := atI rs' f) HRZ.out (r0 := ⟨f, VA, VC, cur⟩) ⟨HF.out, HNI.out.below HBZ.out, hoc, by simp only; omega⟩ (Nat.le_trans HRGR.out.rows (by omega)))
          clear hbz HC36
          refine hKK.out _ _ (HGET.out _ HFPZ.out) (fun hSy => ?_)
          clear hKK hSx
          have hSx := hSy
          clear hSy KK
          try simp only [Act.put, List.setIfInBounds_toArray, List.set_cons_zero, List.set_cons_succ]
          refine wpAnyH_ready (rs := [13]) (by kernel_rfl) (by simp) ?_
          refine AllReadyH.cons (o := ⟨some 82, _, _, _, _, none⟩) rfl (fun KK hKK => ?_) AllReadyH.nil
          go_simp
          with_reducible refine Calls.mono HC37.out ?_
          rintro e z2 ⟨rfl, ⟨A4, c4, hr4⟩, hg4⟩
          have HREF4 := Lib.hid hr4
          have HG37 := Lib.hid hg4
          have HFPZ2 := Lib.hid (HFPZ.out.grown_wb HRZ.out HSA.out hg4)
          clear hr4 hg4 HC37
          refine hKK.out _ _ (HGET.out _ HFPZ2.out) (fun hSy => ?_)
          clear hKK hSx
          have hSx := hSy
          clear hSy KK
          try simp only [Act.put, List.setIfInBounds_toArray, List.set_cons_zero, List.set_cons_succ]
          refine wpAnyH_done (by kernel_rfl) ?_ _
          have HAB4 : Hid (evA mo (abR (skipT rs' (atI rs' f) rs'.length ++ [⟨f, VA, VC, cur⟩])) = put1A ph mo man (abR rs') f) := Lib.hid (by
            have e1 : abR (skipT rs' (atI rs' f) rs'.length ++ [⟨f, VA, VC, cur⟩]) = abR (skipT rs' (atI rs' f) rs'.length) ++ [(f, cur)] := by
              unfold abR; rw [List.map_append]; rfl
            rw [e1, skip_rest HRGR.out.nd, HNEW.out]
            rfl)
          have HRG4 : Hid (Rg ph mo (put1A ph mo man (abR rs') f)) := Lib.hid (HRGR.out.put1 hph HF.out)
          generalize skipT rs' (atI rs' f) rs'.length ++ [⟨f, VA, VC, cur⟩] = rs4 at *
          clear hSx c0 c1
          go_wp2_with fail
          go_loopg [] rs4.length (fun gk w5 => ∃ (A5 : Option Addr) (c5 : Nat) (rs5 : List Rr), gk = rs5.length ∧ Ref T w5 wb ph mo A5 c5 rs5 ∧ evA mo (abR rs5) = evA mo (abR rs4) ∧ z2.grownBy w5 (some wb) ∧ Fps w5 (some ⟨sb, so, none⟩) S)
          case atStart => exact ⟨A4, c4, rs4, rfl, HREF4.out, rfl, grown_fresh (Below.refl _ _), HFPZ2.out⟩
          case round =>
            obtain ⟨A5, c5, rs5, hgk5, href5, hev5, hg5, hfp5⟩ := hrel
            have HG5 := Lib.hid hgk5
            have HEV5 := Lib.hid hev5
            have HGR5 := Lib.hid hg5
            have HFP5 := Lib.hid hfp5
            have HBD5 : Hid (Below wr.heap.size wr wr.drew) := Lib.hid (below_drew (Below.refl _ _))
            have HR5 := Lib.hid (href5.below HBD5.out)
            have HC25 := Lib.hid (len25 HR5.out)
            have cm := HR5.out.c.2.1
            clear hgk5 hev5 hg5 hfp5 href5 HREF4 HFPZ2
            go_wp2_with fail
            refine wp_region_held_drew (S := (fun W => W.cell? ⟨wb, 1, none⟩ = some (.int .i64 (mo : Nat)))) (by kernel_rfl) ?_ (fun hSx => ?_)
            · exact cm
            refine wpAnyH_take (i := 0) (oi := ⟨some 83, _, _, _, _, none⟩) (v := ?_) rfl (by kernel_rfl) (by kernel_rfl) (by kernel_rfl) (fun _ _ _ h => h) (Or.inl ⟨by kernel_rfl, ?_⟩) hSx ?_
            rotate_left 1
            focus (intro wx hSw; have s0 := hSw; go_simp; first | done | with_reducible rfl)
            try simp only [Act.put, List.setIfInBounds_toArray, List.set_cons_zero, List.set_cons_succ]
            refine wpAnyH_take (i := 2) (oi := ⟨some 85, _, _, _, _, none⟩) (v := ?_) rfl (by kernel_rfl) (by kernel_rfl) (by kernel_rfl) (fun _ _ _ h => h) (Or.inl ⟨by kernel_rfl, ?_⟩) hSx ?_
            rotate_left 1
            focus (intro wx hSw; have s0 := hSw; go_simp; first | done | with_reducible rfl)
            try simp only [Act.put, List.setIfInBounds_toArray, List.set_cons_zero, List.set_cons_succ]
            refine wpAnyH_take (i := 3) (oi := ⟨some 86, _, _, _, _, none⟩) (v := ?_) rfl (by kernel_rfl) (by kernel_rfl) (by kernel_rfl) (fun _ _ _ h => h) (Or.inl ⟨by kernel_rfl, ?_⟩) hSx ?_
            rotate_left 1
            focus (intro wx hSw; have s0 := hSw; go_simp; first | done | with_reducible rfl)
            try simp only [Act.put, List.setIfInBounds_toArray, List.set_cons_zero, List.set_cons_succ]
            refine wpAnyH_take (i := 4) (oi := ⟨some 87, _, _, _, _, none⟩) (v := ?_) rfl (by kernel_rfl) (by kernel_rfl) (by kernel_rfl) (fun _ _ _ h => h) (Or.inl ⟨by kernel_rfl, ?_⟩) hSx ?_
            rotate_left 1
            focus (intro wx hSw; have s0 := hSw; go_simp; first | done | with_reducible rfl)
            try simp only [Act.put, List.setIfInBounds_toArray, List.set_cons_zero, List.set_cons_succ]
            refine wpAnyH_take (i := 5) (oi := ⟨some 88, _, _, _, _, none⟩) (v := ?_) rfl (by kernel_rfl) (by kernel_rfl) (by kernel_rfl) (fun _ _ _ h => h) (Or.inl ⟨by kernel_rfl, ?_⟩) hSx ?_
            rotate_left 1
            focus (intro wx hSw; have s0 := hSw; go_simp; first | done | with_reducible rfl)
            try simp only [Act.put, List.setIfInBounds_toArray, List.set_cons_zero, List.set_cons_succ]
            refine wpAnyH_ready (rs := [1]) (by kernel_rfl) (by simp) ?_
            refine AllReadyH.cons (o := ⟨some 84, _, _, _, _, none⟩) rfl (fun KK hKK => ?_) AllReadyH.nil
            go_simp
            with_reducible refine Calls.mono HC25.out ?_
            rintro e z3 ⟨rfl, rfl⟩
            refine hKK.out _ _ (cm) (fun hSy => ?_)
            clear hKK hSx
            have hSx := hSy
            clear hSy KK
            try simp only [Act.put, List.setIfInBounds_toArray, List.set_cons_zero, List.set_cons_succ]
            refine wpAnyH_take (i := 6) (oi := ⟨some 89, _, _, _, _, none⟩) (v := ?_) rfl (by kernel_rfl) (by kernel_rfl) (by kernel_rfl) (fun _ _ _ h => h) (Or.inl ⟨by kernel_rfl, ?_⟩) hSx ?_
            rotate_left 1
            focus (intro wx hSw; have s0 := hSw; go_simp; first | done | with_reducible rfl)
            try simp only [Act.put, List.setIfInBounds_toArray, List.set_cons_zero, List.set_cons_succ]
            refine wpAnyH_done (by kernel_rfl) ?_ _
            clear hSx
            generalize wr.drew = w6 at *
            by_cases hgt : mo < lnA (abR rs5)
            · have hgti : ((mo : Nat) : Int) < ((lnA (abR rs5) : Nat) : Int) := by omega
              cases rs5 with
              | nil => exact absurd hgt (Nat.not_lt_zero _)
              | cons r6 rs6 =>
                obtain ⟨ab, ao, rfl, hab5, hrow5⟩ := HR5.out.rows (by simp)
                have c2 := (HR5.out.below ((Below.refl _ _).alloc (Nat.le_refl _) (.cells #[] 74))).c.2.2
                have hc5 := HR5.out.cap
                have hn5 := HR5.out.num
                have HEV6 : Hid (evA mo (abR rs6) = evA mo (abR rs4)) := Lib.hid (by
                  rw [← HEV5.out]
                  show _ = evA mo ((r6.f, r6.l) :: abR rs6)
                  conv => rhs; unfold evA
                  exact (if_pos hgt).symm)
                have HL6 : Hid ((rs6.flatMap rrL).length = rs6.length * 33) := Lib.hid (flat_len (fun r hr => rrL_len (HR5.out.ok r (List.mem_cons_of_mem _ hr))))
                have HOK6 : Hid (∀ r ∈ rs6, RrOk T w6 r) := Lib.hid (fun r hr => HR5.out.ok r (List.mem_cons_of_mem _ hr))
                have HBA : Hid (Below w6.heap.size w6 (w6.alloc (.cells #[] 74))) := Lib.hid ((Below.refl _ _).alloc (Nat.le_refl _) _)
                have HEO := Lib.hid (empty_own w6 74 33)
                have HNW : Hid (∀ j u, (rs6.flatMap rrL)[j]? = some u → (w6.alloc (.cells #[] 74)).cell? ((⟨ab, ao + 33, none⟩ : Addr).add j) = some u) := Lib.hid (fun j u hj => by
                  have h0 := range_below hrow5.2 HBA.out hab5 (33 + j) u (by
                    rw [List.flatMap_cons, List.getElem?_append_right (by rw [rrL_len (HR5.out.ok r6 (List.mem_cons_self ..))]; omega), rrL_len (HR5.out.ok r6 (List.mem_cons_self ..)), Nat.add_sub_cancel_left]
                    exact hj)
                  rw [← Nat.add_assoc] at h0
                  rw [Addr.add_lit]
                  exact h0)
                have HG6 : Hid (gk = rs6.length + 1) := Lib.hid HG5.out
                clear hrow5 hab5 HEV5 hgt
                obtain ⟨n5, hn⟩ : ∃ n, n = (r6 :: rs6).length := ⟨_, rfl⟩
                have hn6 : n5 = rs6.length + 1 := hn
                rw [← hn] at c2 hc5 hn5
                have hn51 : (1 : Int) ≤ (n5 : Int) := by omega
                have hc51 : (n5 : Int) ≤ (c5 : Int) := by omega
                have hc52 : (1 : Int) ≤ (c5 : Int) := by omega
                have e7 : n5 - 1 = rs6.length := by omega
                have HREM : Hid (∀ w3 V3 C3 n xs, Below w6.heap.size w6 w3 → w3.ownsRow w6.heap.size 74 33 (.slice V3 n C3) n xs → n = rs6.length → xs = rs6.flatMap rrL → Ref T (w3.setCell ⟨wb, 2, none⟩ (.slice V3 n C3)) wb ph mo V3 C3 rs6 ∧ w6.grownBy (w3.setCell ⟨wb, 2, none⟩ (.slice V3 n C3)) (some wb)) := Lib.hid (fun w3 V3 C3 n xs hb3 ho3 q1 q2 => by
                  subst q1; subst q2
                  exact HR5.out.remade hb3 ho3 (fun r hr => (HOK6.out r hr).below hb3) (by omega))
                have hlt5 : rs6.length ≤ 100000 := by omega
                have HE7 := Lib.hid e7
                clear hn hn6 e7
                by_cases hcc : c5 = 1
                · have hl0 : rs6.length = 0 := by have := HE7.out; omega
                  have HNIL : Hid (rs6.flatMap rrL = []) := Lib.hid (by rw [List.length_eq_zero_iff.1 hl0]; rfl)
                  have HL0 : Hid (n5 - 1 = 0) := Lib.hid (by have := HE7.out; omega)
                  clear hl0
                  go_wp2_with (at_builtin; refine wpList_append_own _ rfl (.tmp 91) (.tmp 96) _ rfl w6.heap.size 74 i4 _ 33 56 Try.underlying30 I4.out Z4.out S4.out Y4.out (by simp [Value.cells]) (by decide) _ 0 [] rfl HEO.out _ 0 _ [] (by first | rfl | (rw [HL0.out]; rfl)) rfl (fun j u hj => by cases hj) (fun u hu => by cases hu) (by unfold maxLen; omega) (by omega) HBA.out.size ?_)
                  intro v3 w3 hown3 hg3 _
                  have HB3 : Hid (Below w6.heap.size w6 w3) := Lib.hid (HBA.out.grown hg3 HBA.out.size (fun j q => (HEO.out.lt j q).1))
                  obtain ⟨V3, C3, rfl⟩ := own_slice hown3
                  have hfin := HREM.out w3 V3 C3 _ _ HB3.out hown3 (by have := HE7.out; first | omega | (simp; omega)) (by first | (rw [HNIL.out]; done) | (rw [HNIL.out]; simp))
                  have HFIN := Lib.hid hfin
                  have HR53 := HR5.out.below HB3.out
                  have cz := HR53.c.2.2
                  have fz : w3.frozen? ⟨wb, 2, none⟩ = false := frozen_of_row w3 wb 2 _ 32 HR53.hd
                  have HFP3 := Lib.hid (((HFP5.out.below HBD5.out)).grown_wb HR5.out HSA.out hfin.2)
                  have HG3 := Lib.hid ((HGR5.out.andThen (grown_fresh HBD5.out) (fun j q => .inr q)).andThen hfin.2 (fun j q => .inr q))
                  clear hown3 hg3 hfin HR53 c2
                  go_wp2_with fail
                  go_roundg rs6.length
                  case measure => rw [HG6.out]; omega
                  case rel => exact ⟨V3, C3, rs6, rfl, HFIN.out.1, HEV6.out, HG3.out, HFP3.out⟩
                · have hcci : (1 : Int) < (c5 : Int) := by omega
                  go_wp2_with (at_builtin; go_loud (refine wpList_append_own _ rfl (.tmp 91) (.tmp 96) _ rfl w6.heap.size 74 i4 _ 33 56 Try.underlying30 I4.out Z4.out S4.out Y4.out (by simp [Value.cells]) (by decide) _ 0 [] rfl HEO.out ⟨ab, ao + 33, none⟩ (n5 - 1) (c5 - 1) (rs6.flatMap rrL) rfl (by rw [HL6.out, HE7.out]) HNW.out (fun u hu => by obtain ⟨r, _, hv⟩ := List.mem_flatMap.1 hu; exact rrL_one u hv) (by unfold maxLen; omega) (by omega) HBA.out.size ?_))
                  intro v3 w3 hown3 hg3 _
                  have HB3 : Hid (Below w6.heap.size w6 w3) := Lib.hid (HBA.out.grown hg3 HBA.out.size (fun j q => (HEO.out.lt j q).1))
                  obtain ⟨V3, C3, rfl⟩ := own_slice hown3
                  have hfin := HREM.out w3 V3 C3 _ _ HB3.out hown3 (by have := HE7.out; omega) (by simp)
                  have HFIN := Lib.hid hfin
                  have HR53 := HR5.out.below HB3.out
                  have cz := HR53.c.2.2
                  have fz : w3.frozen? ⟨wb, 2, none⟩ = false := frozen_of_row w3 wb 2 _ 32 HR53.hd
                  have HFP3 := Lib.hid (((HFP5.out.below HBD5.out)).grown_wb HR5.out HSA.out hfin.2)
                  have HG3 := Lib.hid ((HGR5.out.andThen (grown_fresh HBD5.out) (fun j q => .inr q)).andThen hfin.2 (fun j q => .inr q))
                  clear hown3 hg3 hfin HR53 c2
                  go_wp2_with fail
                  go_roundg rs6.length
                  case measure => rw [HG6.out]; omega
                  case rel => exact ⟨V3, C3, rs6, rfl, HFIN.out.1, HEV6.out, HG3.out, HFP3.out⟩
            · have hgti : ¬ ((mo : Nat) : Int) < ((lnA (abR rs5) : Nat) : Int) := by omega
              have HFIN : Hid (abR rs5 = (S.take (k + 1)).foldl (put1A ph mo man) (abR rs)) := Lib.hid (by rw [HNEXT.out, ← HAB4.out, ← HEV5.out, evA_stop hgt])
              have HRGF : Hid (Rg ph mo (abR rs5)) := Lib.hid (by rw [HFIN.out, HNEXT.out]; exact HRG4.out)
              have HGRF : Hid (W1.grownBy w6 (some wb)) := Lib.hid (((HGR.out.andThen (grown_fresh HBZ2.out) (fun j q => .inr q)).andThen (HG37.out.andThen HGR5.out (fun j q => .inr q)) (fun j q => .inr q)).andThen (grown_fresh HBD5.out) (fun j q => .inr q))
              have HFPF := Lib.hid (HFP5.out.below HBD5.out)
              go_wp2_with fail
              go_roundg (S.length - (k + 1))
              case measure => rw [HK.out]; omega
              case rel => exact ⟨k + 1, A5, c5, rs5, by omega, rfl, by go_num, HR5.out, HFIN.out, HRGF.out, HFPF.out, HGRF.out⟩
    · obtain rfl : k = S.length := by omega
      have HE : Hid (abR rs' = putsA ph mo (abR rs) man S) := Lib.hid (by rw [HPA.out, HAB.out, List.take_length])
      have HGRF : Hid (W.grownBy V (some wb)) := Lib.hid ((grown_fresh HB1.out).andThen HGR.out (fun j q => .inr q))
      go_wp2_with fail
      go_end0
      exact ⟨rfl, ⟨A', c', rs', HR.out, by rw [← HS.out]; exact HE.out⟩, HGRF.out⟩
end Go.Proofs.Ytnpgfhoagpeelaa
