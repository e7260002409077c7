/- The reference's Drop. -/
import Derived.Test.YtnpgfhoagpeelaaBP
namespace Go.Proofs.Ytnpgfhoagpeelaa
open Go.RowKit
open Go.Maps
/-- a row that a call has made anew -/
structure NewR (base : Nat) (w : World) (r : Rr) : Prop where
  fp : IsFp r.f
  own : OwnI w base (.slice r.A r.l.length r.c) r.l
  len : r.l.length ≤ 100
theorem NewR.ok {T : Nat → Prop} {W w : World} {r : Rr} (h : NewR W.heap.size w r) (hT : ∀ b, T b → b < W.heap.size) : RrOk T w r := ⟨h.fp, own_ids h.own hT, own_cap h.own, h.len⟩
theorem cut_le (l : List Id) (man : Id) : (cutL l man).length ≤ l.length := by unfold cutL; exact List.length_filter_le _ _
theorem drop_step {rs : List Rr} {k : Nat} {r : Rr} (man : Id) (h : rs[k]? = some r) : dropA (abR (rs.take (k + 1))) man = dropA (abR (rs.take k)) man ++ (if cutL r.l man = [] then [] else [(r.f, cutL r.l man)]) := by
  rw [List.take_add_one, h]
  unfold dropA abR
  simp only [Option.toList_some, List.map_append, List.filter_append, List.map_cons, List.map_nil]
  congr 1
  by_cases q : cutL r.l man = []
  · rw [if_pos q, List.filter_cons_of_neg (by simp [q])]; rfl
  · rw [if_neg q, List.filter_cons_of_pos (by simp [q])]; rfl
theorem ab_snoc (rs : List Rr) (r : Rr) : abR (rs ++ [r]) = abR rs ++ [(r.f, r.l)] := by unfold abR; rw [List.map_append]; rfl
theorem drop_len (R : List Rw) (man : Id) : (dropA R man).length ≤ R.length := by
  unfold dropA
  refine Nat.le_trans (List.length_filter_le _ _) ?_
  rw [List.length_map]
  exact Nat.le_refl _
theorem ab_len (rs : List Rr) : (abR rs).length = rs.length := by unfold abR; rw [List.length_map]
set_option maxRecDepth 100000 in
set_option maxHeartbeats 8000000 in
theorem drop22 {T : Nat → Prop} {W : World} {wb ph mo c : Nat} {A : Option Addr} {rs : List Rr} {man : Id} (h : Ref T W wb ph mo A c rs) :
    Calls Try.prog 22 #[.pointer (some ⟨wb, 0, none⟩), .int .u32 man] W fun r W' => r = .returned (.int .i64 (((lnA (abR rs) : Nat) : Int) - (lnA (dropA (abR rs) man) : Nat))) ∧ (∃ A' c' rs', Ref T W' wb ph mo A' c' rs' ∧ abR rs' = dropA (abR rs) man) ∧ W.grownBy W' (some wb) := by
  have HC25 := Lib.hid (len25 h)
  have HH := Lib.hid h
  have hnum := h.num
  have hln0 := lnA_bound h rs.length
  rw [List.take_length] at hln0
  obtain ⟨N1, hN1⟩ : ∃ N, N = lnA (abR rs) := ⟨_, rfl⟩
  obtain ⟨N2, hN2⟩ : ∃ N, N = lnA (dropA (abR rs) man) := ⟨_, rfl⟩
  rw [← hN1, ← hN2]
  rw [← hN1] at hln0 HC25
  have HN2 := Lib.hid hN2
  clear hN1 hN2
  obtain ⟨i0, hi, hz0, hz1, hz2⟩ := info_parts info24
  have I0 := Lib.hid hi
  have Z0 := Lib.hid hz0
  have S0 := Lib.hid hz1
  have Y0 := Lib.hid hz2
  obtain ⟨i4, hi, hz0, hz1, hz2⟩ := info_parts info74
  have I4 := Lib.hid hi
  have Z4 := Lib.hid hz0
  have S4 := Lib.hid hz1
  have Y4 := Lib.hid hz2
  clear h hi hz0 hz1 hz2
  go_enter Try.func22, Try.ntmps22
  go_wp2_with fail
  refine Calls.mono HC25.out ?_
  rintro _ W1 ⟨rfl, rfl⟩
  clear HC25
  go_wp2_with fail
  go_loopg [6, 7] rs.length (fun gk ov iv wr => ∃ (k : Nat) (rs2 : List Rr), k ≤ rs.length ∧ gk = rs.length - k ∧ iv = .int .i64 k ∧ wr.ownsRow W1.heap.size 74 33 ov rs2.length (rs2.flatMap rrL) ∧ (∀ r ∈ rs2, NewR W1.heap.size wr r) ∧ abR rs2 = dropA (abR (rs.take k)) man ∧ Below W1.heap.size W1 wr)
  case atStart => exact ⟨0, [], Nat.zero_le _, rfl, rfl, World.ownsRow_nil _ _ _ _, (fun r hr => by cases hr), rfl, Below.refl _ _⟩
  case round =>
    obtain ⟨k, rs2, hk, hgk, rfl, hrow, hnew, hab, hb⟩ := hrel
    obtain ⟨VA0, VC0, rfl⟩ := own_slice hrow
    obtain ⟨V, hV⟩ : ∃ V, V = wr := ⟨_, rfl⟩
    subst hV
    have HK := Lib.hid hgk
    have HROW := Lib.hid hrow
    have HNEW := Lib.hid hnew
    have HAB := Lib.hid hab
    have HB := Lib.hid hb
    have HHW := Lib.hid (HH.out.below hb)
    have hl2 : rs2.length ≤ k := by
      have h1 := drop_len (abR (rs.take k)) man
      rw [← hab, ab_len, ab_len, List.length_take] at h1
      omega
    clear hgk hrow hnew hab hb
    have c2 := HHW.out.c.2.2
    have hk0 : (0 : Int) ≤ (k : Int) := by omega
    by_cases hlt : k < rs.length
    · obtain ⟨⟨f, RA, rc, l⟩, hr⟩ : ∃ r, rs[k]? = some r := ⟨_, List.getElem?_eq_getElem hlt⟩
      obtain ⟨ab, ao, rfl, hab2, hrg, cr, _⟩ := HHW.out.get hr
      have HGET : Hid (∀ W', Below V.heap.size V W' → W'.cell? ⟨wb, 2, none⟩ = some (.slice (some ⟨ab, ao, none⟩) rs.length c) ∧ W'.cell? ⟨ab, ao + k * 33 + 32, none⟩ = some (.slice RA l.length rc) ∧ W'.rangeAt ab (ao + k * 33) (fpL f)) := Lib.hid (fun W' hW => by
        have h2 := HHW.out.below hW
        obtain ⟨b', o', e, _, q0, q1, _⟩ := h2.get hr
        injection e with e
        injection e with e1 e2 _
        subst e1; subst e2
        exact ⟨h2.c.2.2, q1, q0⟩)
      have hok := HHW.out.ok _ (List.mem_of_getElem? hr)
      have HFP : Hid (IsFp f) := Lib.hid hok.fp
      have HIDS : Hid (IdsT T V RA l) := Lib.hid hok.ids
      have hl1 : l.length ≤ 100 := hok.len
      have HIX := Lib.hid (info29f HFP.out)
      have HST : Hid (dropA (abR (rs.take (k + 1))) man = dropA (abR (rs.take k)) man ++ (if cutL l man = [] then [] else [(f, cutL l man)])) := Lib.hid (drop_step man hr)
      have hk1 : (k : Int) < (rs.length : Int) := by omega
      clear hr hrg hab2 cr hok
      go_wp2_with fail
      go_loopg [8, 9] l.length (fun gk nv jv w => ∃ j : Nat, j ≤ l.length ∧ gk = l.length - j ∧ jv = .int .i64 j ∧ OwnI w V.heap.size nv (cutL (l.take j) man) ∧ Below V.heap.size V w)
      case atStart => exact ⟨0, Nat.zero_le _, rfl, rfl, World.ownsRow_nil _ _ _ _, Below.refl _ _⟩
      case round =>
        obtain ⟨j, hj, hgj, rfl, hown, hbw⟩ := hrel
        obtain ⟨VA, VC, rfl⟩ := own_slice hown
        have HJ := Lib.hid hgj
        have HBW := Lib.hid hbw
        have hcl := cut_le (l.take j) man
        rw [List.length_take] at hcl
        obtain ⟨c2, cr, hfr⟩ := HGET.out _ hbw
        have HRF := Lib.hid hfr
        have hj0 : (0 : Int) ≤ (j : Int) := by omega
        clear hgj hbw hfr
        by_cases hlj : j < l.length
        · obtain ⟨x, hx⟩ : ∃ x, l[j]? = some x := ⟨_, List.getElem?_eq_getElem hlj⟩
          have hj1 : (j : Int) < (l.length : Int) := by omega
          obtain ⟨pb, po, rfl, _, cx⟩ := Ids.get ((HIDS.out.ids).below HBW.out) hx
          have HSAME : Hid (x = man → cutL (l.take (j + 1)) man = cutL (l.take j) man) := Lib.hid (fun e => cut_same hx e)
          have HMORE : Hid (x ≠ man → cutL (l.take (j + 1)) man = cutL (l.take j) man ++ [x]) := Lib.hid (fun e => cut_more hx e)
          clear hx
          generalize cutL (l.take j) man = cur at *
          have HCUR : Hid (wr.ownsRow V.heap.size 33 1 (.slice VA cur.length VC) cur.length (idL cur)) := Lib.hid hown
          clear hown
          by_cases hxm : x = man
          · have HE := Lib.hid (HSAME.out hxm)
            clear HSAME HMORE
            go_wp2_with fail
            go_roundg (l.length - (j + 1))
            case measure => rw [HJ.out]; omega
            case rel => exact ⟨j + 1, by omega, rfl, by go_num, by rw [HE.out]; exact HCUR.out, HBW.out⟩
          · have hx1 : (x != man) = true := by rw [bne_iff_ne]; exact hxm
            have HE := Lib.hid (HMORE.out hxm)
            clear HSAME HMORE
            go_wp2_with (at_builtin; refine wpList_append_own _ rfl (.tmp 47) (.tmp 59) _ rfl V.heap.size 33 i0 _ 1 4 Try.underlying44 I0.out Z0.out S0.out Y0.out rfl (by decide) _ cur.length _ rfl (HCUR.out.alloc _) _ 1 1 [.int .u32 x] rfl rfl (newL2 _ [.int .u32 x] _ _ rfl) (idL_one [x]) (by unfold maxLen; omega) (by omega) (by have := HBW.out.size; simp; omega) ?_)
            intro v3 w3 hown3 hg3 _
            have HB3 : Hid (Below V.heap.size V w3) := Lib.hid ((HBW.out.alloc HBW.out.size _).grown hg3 (by have := HBW.out.size; simp; omega) (fun j q => (HCUR.out.lt j q).1))
            have HOWN3 : Hid (OwnI w3 V.heap.size v3 (cutL (l.take (j + 1)) man)) := Lib.hid (by
              rw [HE.out]
              unfold OwnI
              rw [List.length_append, show idL (cur ++ [x]) = idL cur ++ [.int .u32 x] from List.map_append ..]
              exact hown3)
            clear hown3 hg3
            go_wp2_with fail
            go_roundg (l.length - (j + 1))
            case measure => rw [HJ.out]; omega
            case rel => exact ⟨j + 1, by omega, rfl, by go_num, HOWN3.out, HB3.out⟩
        · obtain rfl : j = l.length := by omega
          have HCL : Hid (cutL (l.take l.length) man = cutL l man) := Lib.hid (by rw [List.take_length])
          rw [HCL.out] at hown hcl ⊢
          generalize cutL l man = cl at *
          have HOWN := Lib.hid hown
          clear hown HCL
          by_cases hcl0 : cl = []
          · have HE : Hid (abR rs2 = dropA (abR (rs.take (k + 1))) man) := Lib.hid (by rw [HST.out, if_pos hcl0, List.append_nil, HAB.out])
            have hcz : cl.length = 0 := by rw [hcl0]; rfl
            clear hcl0 HST
            go_wp2_with fail
            go_roundg (rs.length - (k + 1))
            case measure => rw [HK.out]; omega
            case rel => exact ⟨k + 1, rs2, by omega, rfl, by go_num, own_below HROW.out HBW.out, fun r hr => ⟨(HNEW.out r hr).fp, own_below (HNEW.out r hr).own HBW.out, (HNEW.out r hr).len⟩, HE.out, HB.out.trans (HBW.out.mono HB.out.size)⟩
          · have HE : Hid (dropA (abR (rs.take (k + 1))) man = abR rs2 ++ [(f, cl)]) := Lib.hid (by rw [HST.out, if_neg hcl0, HAB.out])
            have hcp : 0 < cl.length := List.length_pos_iff.2 hcl0
            have hci : (0 : Int) < (cl.length : Int) := by omega
            have hcz : ¬ cl.length = 0 := by omega
            have HN : Hid (NewR W1.heap.size wr ⟨f, VA, VC, cl⟩) := Lib.hid ⟨HFP.out, own_mono HOWN.out HB.out.size, by simp only; omega⟩
            clear hcl0 HST
            have HFX : Hid ((rrL ⟨f, VA, VC, cl⟩).length = 33) := Lib.hid (by unfold rrL; rw [List.length_append, fpL_length HFP.out]; rfl)
            have HB74 : Hid (Try.prog.built 74 [(0, .agg (fpL f).toArray), (1, .slice VA cl.length VC)] = some (rrL ⟨f, VA, VC, cl⟩).toArray) := Lib.hid (built74 (r := ⟨f, VA, VC, cl⟩) HFP.out)
            have HONE : Hid (∀ v ∈ rrL ⟨f, VA, VC, cl⟩, v.oneCell' = true) := Lib.hid rrL_one
            have HSN : Hid ((rs2 ++ [(⟨f, VA, VC, cl⟩ : Rr)]).flatMap rrL = rs2.flatMap rrL ++ rrL ⟨f, VA, VC, cl⟩) := Lib.hid (flat_snoc _ _)
            generalize rrL ⟨f, VA, VC, cl⟩ = RL at *
            have HROW2 := Lib.hid ((own_below HROW.out HBW.out).alloc (.cells RL.toArray 74))
            have hbs := HB.out.size
            have hbws := HBW.out.size
            go_wp2_with (first
              | ((with_reducible refine wpList_load_mid (op := ⟨some 72, _, _, _, _, _⟩) rfl 47 (.tmp 71) rfl ab (ao + k * 33) ?_ (fpL f) _ HRF.out Try.underlying47 rfl HIX.out ?_); rfl)
              | ((with_reducible refine wpList_build_of (op := ⟨some 74, _, _, _, _, _⟩) rfl 74 #[(0, .tmp 72), (1, .tmp 73)] rfl [(0, .agg (fpL f).toArray), (1, .slice VA cl.length VC)] RL.toArray ?_ HB74.out ?_); rfl)
              | ((with_reducible refine wpList_build_one (op := ⟨some 75, _, _, _, _, _⟩) rfl 30 (.tmp 74) ?_ 74 33 _ RL ?_ Try.underlying30 Try.sizeOf74 Try.zeroValue74 ?_ ?_ HFX.out ?_); rfl; rfl; decide; decide)
              | (at_builtin; refine wpList_append_own _ rfl (.tmp 64) (.tmp 75) _ rfl W1.heap.size 74 i4 _ 33 56 Try.underlying30 I4.out Z4.out S4.out Y4.out (by simp [Value.cells]) (by decide) _ rs2.length _ rfl HROW2.out _ 1 1 RL rfl (by rw [HFX.out]) (newL2 _ RL _ _ rfl) HONE.out (by unfold maxLen; omega) (by omega) (by simp; omega) ?_))
            intro v3 w3 hown3 hg3 _
            have HB3 : Hid (Below W1.heap.size W1 w3) := Lib.hid (((HB.out.trans (HBW.out.mono HB.out.size)).alloc (by omega) _).grown hg3 (by simp; omega) (fun j q => (HROW2.out.lt j q).1))
            have HKP : Hid (∀ r, NewR W1.heap.size wr r → NewR W1.heap.size w3 r) := Lib.hid (fun r hr => ⟨hr.fp, (hr.own.alloc _).kept hg3 (own_ne (hr.own.alloc _) HROW2.out (by decide)), hr.len⟩)
            have HOWN3 : Hid (w3.ownsRow W1.heap.size 74 33 v3 (rs2 ++ [(⟨f, VA, VC, cl⟩ : Rr)]).length ((rs2 ++ [(⟨f, VA, VC, cl⟩ : Rr)]).flatMap rrL)) := Lib.hid (by
              rw [HSN.out, List.length_append]
              exact hown3)
            clear hown3 hg3
            go_wp2_with fail
            go_roundg (rs.length - (k + 1))
            case measure => rw [HK.out]; omega
            case rel => exact ⟨k + 1, rs2 ++ [(⟨f, VA, VC, cl⟩ : Rr)], by omega, rfl, by go_num, HOWN3.out, fun r hr => by
              rcases List.mem_append.1 hr with hr | hr
              · have := HNEW.out r hr
                exact HKP.out r ⟨this.fp, own_below this.own HBW.out, this.len⟩
              · rw [List.mem_singleton] at hr
                subst hr
                exact HKP.out _ HN.out, by rw [HE.out, ab_snoc], HB3.out⟩
    · obtain rfl : k = rs.length := by omega
      have hfin := HH.out.remade HB.out HROW.out (fun r hr => (HNEW.out r hr).ok HH.out.lt) (by omega)
      have HABF : Hid (abR rs2 = dropA (abR rs) man) := Lib.hid (by rw [HAB.out, List.take_length])
      have HFIN := Lib.hid hfin
      have hln2 := lnA_bound hfin.1 rs2.length
      rw [List.take_length] at hln2
      have HC := Lib.hid (len25 hfin.1)
      have fz : V.frozen? ⟨wb, 2, none⟩ = false := frozen_of_row V wb 2 _ 32 HHW.out.hd
      rw [HABF.out, ← HN2.out] at HC hln2
      clear hfin HAB
      go_wp2_with fail
      refine Calls.mono HC.out ?_
      rintro _ W2 ⟨rfl, rfl⟩
      have w1 : IntKind.i64.wrap ((N1 : Int) - (N2 : Int)) = (N1 : Int) - (N2 : Int) := IntWalk.i64_in _ (by omega)
      go_wp2_with fail
      go_ret
      exact ⟨rfl, ⟨VA0, VC0, rs2, HFIN.out.1, HABF.out⟩, HFIN.out.2⟩
end Go.Proofs.Ytnpgfhoagpeelaa
