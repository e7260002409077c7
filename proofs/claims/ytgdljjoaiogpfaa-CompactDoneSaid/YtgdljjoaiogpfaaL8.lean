/- The walk over CompactGroups. -/
import Derived.Test.YtgdljjoaiogpfaaL6
namespace Go.Proofs.Ytgdljjoaiogpfaa
open Go.RowKit Go.Maps
/-- groups as they are read -/
def Grs (w : World) (A : Option Addr) (n : Nat) (G : List (List Int)) : Prop :=
  G.length = n ∧ ∀ (i : Nat) (g : List Int), G[i]? = some g → ∃ b Ai ci, A = some ⟨b, 0, none⟩ ∧ b < w.heap.size ∧ w.cell? ⟨b, i, none⟩ = some (.slice Ai g.length ci) ∧ Ids w Ai g.length g
theorem Grs.below {w w' : World} {A : Option Addr} {n : Nat} {G : List (List Int)} (h : Grs w A n G) (hb : Below w.heap.size w w') : Grs w' A n G :=
  ⟨h.1, fun i g hg => by
    obtain ⟨b, Ai, ci, e, hl, hc, hr⟩ := h.2 i g hg
    exact ⟨b, Ai, ci, e, Nat.lt_of_lt_of_le hl hb.size, below_cell hb hc, hr.below hb⟩⟩
theorem GR.read {w : World} {B n c : Nat} {A : Option Addr} {G : List (List Int)} {us : List Value} (h : GR w B (.slice A n c) G us) (hn : G.length = n) : Grs w A n G := by
  refine ⟨hn, fun i g hg => ?_⟩
  have hi : i < G.length := (List.getElem?_eq_some_iff.1 hg).1
  have hrow := h.row
  obtain ⟨u, hu⟩ : ∃ u, us[i]? = some u := ⟨us[i]'(by rw [h.len]; exact hi), by simp⟩
  have hin := h.inner i u g hu hg
  obtain ⟨Ai, ci, rfl⟩ := own_slice hin
  rcases h.row.2 with ⟨_, h0⟩ | ⟨gv, cv, cur, hv, _, hh, _⟩
  · omega
  · cases hv
    rw [hn] at hrow
    refine ⟨gv, Ai, ci, rfl, (Array.getElem?_eq_some_iff.1 hh).1, ?_, Ids.own hin rfl⟩
    rw [hrow.cellAt i (by omega), hu]
set_option maxRecDepth 100000 in
set_option maxHeartbeats 8000000 in
theorem groups3 {w : World} {A : Option Addr} {n c : Nat} {hs : List Hd} {B : Option Addr} {m d : Nat} {named : List Plc} (h : Hds w A n hs) (hi : ∀ x ∈ hs, (Lit.int .u32 x.id).wf = true) (hp : Pls w B m named) (hok : ∀ p ∈ named, PlcOk p) (slots bts : Int) :
    Calls Try.prog 3 #[.slice A n c, .slice B m d, .int .i64 slots, .int .i64 bts] w fun e w' => e = .returned (.bool true) ∧ Below w.heap.size w w' := by
  have H := Lib.hid h
  have HI := Lib.hid hi
  have HP := Lib.hid hp
  have HOK := Lib.hid hok
  clear h hi hp hok
  go_enter Try.func3, Try.ntmps3
  go_wp2_with fail
  refine Calls.mono (few7 H.out B m d) ?_
  rintro e w1 ⟨⟨bf, rfl, hfew⟩, hb1⟩
  have HFEW := Lib.hid hfew
  have HB1 := Lib.hid hb1
  clear hfew hb1
  cases bf with
  | false =>
    go_wp2_with fail
    refine Calls.mono (awake8 _) ?_
    rintro e w2 ⟨rfl, hb2⟩
    go_wp2
    go_ret
    exact ⟨rfl, HB1.out.trans (hb2.mono HB1.out.size)⟩
  | true =>
    obtain ⟨hn, hm, hx⟩ := HFEW.out rfl
    have HIN : Hid (∀ V, Below w.heap.size w V → InOk V A n hs B m named) := Lib.hid (fun V hV => (inOk_few H.out HI.out HP.out HOK.out hn hm hx).below hV)
    have HN12 := Lib.hid hn
    have HX20 := Lib.hid hx
    clear hn hm hx HFEW
    go_wp2_with fail
    refine Calls.mono (groups9 (HIN.out _ HB1.out) slots bts) ?_
    rintro e w2 ⟨v1, us1, rfl, hb2, hg1⟩
    have HB2 : Hid (Below w.heap.size w w2) := Lib.hid (HB1.out.trans (hb2.mono HB1.out.size))
    obtain ⟨G, hG⟩ : ∃ G, (gfold named slots bts (okHs hs)).1 = G := ⟨_, rfl⟩
    have HG := Lib.hid hG
    have HLIM := Lib.hid (gfold_lim (named := named) (slots := slots) (bts := bts) (okHs_ok (HIN.out _ HB1.out).lim))
    have HLO : Hid ((okHs hs).length ≤ 12) := Lib.hid (by
      have := H.out.len
      have := HN12.out
      unfold okHs
      split
      · omega
      · simp)
    rw [hG] at hg1 HLIM
    obtain ⟨gn, hgn⟩ : ∃ gn, G.length = gn := ⟨_, rfl⟩
    have HGN := Lib.hid hgn
    obtain ⟨A1, c1, rfl⟩ := own_slice hg1.row
    rw [hgn] at hg1 HLIM ⊢
    have HR1 := Lib.hid (hg1.read hgn)
    have HGB : Hid (gn ≤ 12 ∧ ∀ g ∈ G, g.length ≤ 12) := Lib.hid ⟨by have := HLIM.out.1; have := HLO.out; omega, fun g hg => by have := HLIM.out.2.1 g hg; have := HLO.out; omega⟩
    clear hb2 hg1 hG hgn
    go_wp2_with fail
    refine Calls.mono (may10 (HIN.out _ HB2.out).hd (HIN.out _ HB2.out).lim) ?_
    rintro e w3 ⟨rfl, hb3⟩
    have HB3 : Hid (Below w.heap.size w w3) := Lib.hid (HB2.out.trans (hb3.mono HB2.out.size))
    have HR1 := Lib.hid (HR1.out.below hb3)
    clear hb3
    by_cases hmay : May hs
    · have HMAY := Lib.hid hmay
      have HGE : Hid ((gfold named slots bts hs).1 = G) := Lib.hid (by rw [← HG.out, okHs_yes hmay])
      have HSL : Hid (∀ g ∈ G, 1 < g.length → ((tot (idP named hs) g).length : Int) ≤ slots) := Lib.hid (by rw [← HGE.out]; exact gfold_slots (may_dst hmay))
      rw [mayB_yes hmay]
      clear hmay HG
      go_wp2_with fail
      refine Calls.mono (rgroups11 (HIN.out _ HB3.out) HMAY.out slots bts) ?_
      rintro e w4 ⟨v2, us2, rfl, hb4, hg2⟩
      rw [HGE.out] at hg2
      obtain ⟨A2, c2, rfl⟩ := own_slice hg2.row
      rw [HGN.out] at hg2 ⊢
      have HB4 : Hid (Below w.heap.size w w4) := Lib.hid (HB3.out.trans (hb4.mono HB3.out.size))
      have HR1 := Lib.hid (HR1.out.below hb4)
      have HR2 := Lib.hid (hg2.read HGN.out)
      clear hb4 hg2
      go_wp2_with fail
      go_loopg [11] gn (fun gk i wr => ∃ k : Nat, k ≤ gn ∧ gk = gn - k ∧ i = .int .i64 k ∧ Below w4.heap.size w4 wr)
      case atStart => exact ⟨0, Nat.zero_le _, rfl, rfl, Below.refl _ _⟩
      case round =>
        obtain ⟨k, hk, hgk, rfl, hb5⟩ := hrel
        have HK := Lib.hid hgk
        have HB5 := Lib.hid hb5
        have HBW : Hid (Below w.heap.size w wr) := Lib.hid (HB4.out.trans (hb5.mono HB4.out.size))
        have hgb := HGB.out.1
        clear hgk hb5
        by_cases hlt : k < gn
        · obtain ⟨g, hg⟩ : ∃ g, G[k]? = some g := ⟨G[k]'(by rw [HGN.out]; exact hlt), by simp⟩
          obtain ⟨b1, Ai, ci, rfl, hb1l, d1, i1⟩ := (HR1.out.below HB5.out).2 k g hg
          obtain ⟨b2, Aj, cj, rfl, hb2l, d2, i2⟩ := (HR2.out.below HB5.out).2 k g hg
          have HI1 := Lib.hid i1
          have HI2 := Lib.hid i2
          have hk0 : (0 : Int) ≤ (k : Int) := by omega
          have hk1 : (k : Int) < (gn : Int) := by omega
          have HGSL := Lib.hid (HSL.out g (List.mem_of_getElem? hg))
          have HGLB := Lib.hid (HGB.out.2 g (List.mem_of_getElem? hg))
          obtain ⟨ln, hln⟩ : ∃ ln, g.length = ln := ⟨_, rfl⟩
          have HLN := Lib.hid hln
          rw [hln] at HI1 HI2 d1 d2 HGSL HGLB
          have HC1 : Hid (∀ V, Below wr.heap.size wr V → V.cell? ⟨b1, k, none⟩ = some (.slice Ai ln ci) ∧ V.cell? ⟨b2, k, none⟩ = some (.slice Aj ln cj)) := Lib.hid (fun V hV => ⟨below_cell hV d1, below_cell hV d2⟩)
          clear hg i1 i2 hln hb1l hb2l
          by_cases h1 : 1 < ln
          · have h1i : (1 : Int) < (ln : Int) := by omega
            have HTT : Hid (((tot (idP named hs) g).length : Int) ≤ slots) := Lib.hid (HGSL.out h1)
            have HTD : Hid (succTo (idP named hs) g ln = tot (idP named hs) g) := Lib.hid (by unfold tot; rw [HLN.out])
            obtain ⟨tl, htl⟩ : ∃ tl, (tot (idP named hs) g).length = tl := ⟨_, rfl⟩
            have HTL := Lib.hid htl
            rw [htl] at HTT
            have htt : ¬ slots < (tl : Int) := by have := HTT.out; omega
            clear htl h1
            go_wp2_with fail
            go_region_held3 (fun w' => w'.cell? ⟨b1, k, none⟩ = some (.slice Ai ln ci) ∧ w'.cell? ⟨b2, k, none⟩ = some (.slice Aj ln cj))
              (first | (refine ⟨?_, ?_⟩ <;> with_reducible assumption) | go_keep)
              (first
                | (go_at_call 12; refine Calls.mono (sameIDs12 (HI1.out.below (below_drew (Below.refl _ wr))) (HI2.out.below (below_drew (Below.refl _ wr))) (by have := HGLB.out; omega)) ?_; rintro e w6 ⟨rfl, hb6⟩; rw [decide_eq_true rfl]; have HB6 : Hid (Below wr.heap.size wr w6) := Lib.hid ((below_drew (Below.refl _ wr)).trans hb6); obtain ⟨f1, f1'⟩ := HC1.out _ HB6.out; clear hb6)
                | (go_at_call 13; refine Calls.mono (toPls (rsucc13 (HIN.out _ (HBW.out.trans (HB6.out.mono HBW.out.size))) (HI1.out.below HB6.out) (by have := HGLB.out; omega))) ?_; rintro e w7 ⟨A7, c7, rfl, hb7, _⟩; rw [HTD.out, HTL.out]; have HB7 : Hid (Below wr.heap.size wr w7) := Lib.hid (HB6.out.trans (hb7.mono HB6.out.size)); obtain ⟨f2, f2'⟩ := HC1.out _ HB7.out; clear hb7))
            go_wp2
            go_roundg (gn - (k + 1))
            case measure => rw [HK.out]; omega
            case rel => exact ⟨k + 1, by omega, rfl, by go_num, HB5.out.trans (HB7.out.mono HB5.out.size)⟩
          · go_wp2_with fail
            have h1i : ¬ (1 : Int) < (ln : Int) := by omega
            refine wp_region_held_drew (S := fun w' => w'.cell? ⟨b1, k, none⟩ = some (.slice Ai ln ci) ∧ w'.cell? ⟨b2, k, none⟩ = some (.slice Aj ln cj)) (by kernel_rfl) ⟨d1, d2⟩ (fun hSx => ?_)
            refine wpAnyH_take (i := 0) (v := .slice (some ⟨b1, 0, none⟩) gn c1) rfl (by kernel_rfl) (by kernel_rfl) (by kernel_rfl) (fun _ _ _ h => h) (Or.inl ⟨by kernel_rfl, ?_⟩) hSx ?_
            · intro wx hSx2; obtain ⟨s1, s2⟩ := hSx2; clear hSx; go_simp
            simp only [Act.put, List.setIfInBounds_toArray]
            refine wpAnyH_take (i := 1) (v := .int .i64 k) rfl (by kernel_rfl) (by kernel_rfl) (by kernel_rfl) (fun _ _ _ h => h) (Or.inl ⟨by kernel_rfl, ?_⟩) hSx ?_
            · intro wx hSx2; obtain ⟨s1, s2⟩ := hSx2; clear hSx; go_simp
            simp only [Act.put]
            refine wpAnyH_take (i := 2) (v := .pointer (some ⟨b1, k, none⟩)) rfl (by kernel_rfl) (by kernel_rfl) (by kernel_rfl) (fun _ _ _ h => h) (Or.inl ⟨by kernel_rfl, ?_⟩) hSx ?_
            · intro wx hSx2; obtain ⟨s1, s2⟩ := hSx2; clear hSx; go_simp
            simp only [Act.put]
            refine wpAnyH_take (i := 3) (v := .slice Ai ln ci) rfl (by kernel_rfl) (by kernel_rfl) (by kernel_rfl) (fun _ _ _ h => h) (Or.inl ⟨by kernel_rfl, ?_⟩) hSx ?_
            · intro wx hSx2; obtain ⟨s1, s2⟩ := hSx2; clear hSx; go_simp
            simp only [Act.put]
            refine wpAnyH_take (i := 4) (v := .slice (some ⟨b2, 0, none⟩) gn c2) rfl (by kernel_rfl) (by kernel_rfl) (by kernel_rfl) (fun _ _ _ h => h) (Or.inl ⟨by kernel_rfl, ?_⟩) hSx ?_
            · intro wx hSx2; obtain ⟨s1, s2⟩ := hSx2; clear hSx; go_simp
            simp only [Act.put]
            refine wpAnyH_take (i := 5) (v := .int .i64 k) rfl (by kernel_rfl) (by kernel_rfl) (by kernel_rfl) (fun _ _ _ h => h) (Or.inl ⟨by kernel_rfl, ?_⟩) hSx ?_
            · intro wx hSx2; obtain ⟨s1, s2⟩ := hSx2; clear hSx; go_simp
            simp only [Act.put]
            refine wpAnyH_take (i := 6) (v := .pointer (some ⟨b2, k, none⟩)) rfl (by kernel_rfl) (by kernel_rfl) (by kernel_rfl) (fun _ _ _ h => h) (Or.inl ⟨by kernel_rfl, ?_⟩) hSx ?_
            · intro wx hSx2; obtain ⟨s1, s2⟩ := hSx2; clear hSx; go_simp
            simp only [Act.put]
            refine wpAnyH_take (i := 7) (v := .slice Aj ln cj) rfl (by kernel_rfl) (by kernel_rfl) (by kernel_rfl) (fun _ _ _ h => h) (Or.inl ⟨by kernel_rfl, ?_⟩) hSx ?_
            · intro wx hSx2; obtain ⟨s1, s2⟩ := hSx2; clear hSx; go_simp
            simp only [Act.put]
            refine wpAnyH_ready (rs := [8]) (by kernel_rfl) (by simp) ?_
            refine AllReadyH.cons rfl (fun KK hKK => ?_) AllReadyH.nil
            go_simp
            refine Calls.mono (sameIDs12 (HI1.out.below (below_drew (Below.refl _ wr))) (HI2.out.below (below_drew (Below.refl _ wr))) (by have := HGLB.out; omega)) ?_
            rintro e w6 ⟨rfl, hb6⟩
            rw [decide_eq_true rfl]
            have HB6 : Hid (Below wr.heap.size wr w6) := Lib.hid ((below_drew (Below.refl _ wr)).trans hb6)
            refine hKK.out _ _ (HC1.out _ HB6.out) (fun hSy => ?_)
            clear hKK hSx hb6
            have hSx := hSy
            clear hSy KK
            refine wpAnyH_take (i := 9) (oi := ⟨some 56, _, _, _, _, none⟩) (v := .bool false) rfl (by kernel_rfl) (by kernel_rfl) (by kernel_rfl) (fun _ _ _ h => h) (Or.inl ⟨by kernel_rfl, ?_⟩) hSx ?_
            · intro wx hSx2; obtain ⟨s1, s2⟩ := hSx2; clear hSx; go_simp
            simp only [Act.put, List.setIfInBounds_toArray, List.set_cons_zero, List.set_cons_succ]
            refine wpAnyH_take (i := 10) (oi := ⟨some 57, _, _, _, _, none⟩) (v := .bool false) rfl (by kernel_rfl) (by kernel_rfl) (by kernel_rfl) (fun _ _ _ h => h) (Or.inl ⟨by kernel_rfl, ?_⟩) hSx ?_
            · intro wx hSx2; obtain ⟨s1, s2⟩ := hSx2; clear hSx; go_simp
            simp only [Act.put, List.setIfInBounds_toArray, List.set_cons_zero, List.set_cons_succ]
            refine wpAnyH_take (i := 11) (oi := ⟨some 58, _, _, _, _, some (10, false)⟩) (v := .slice (some ⟨b1, 0, none⟩) gn c1) rfl (by kernel_rfl) (by kernel_rfl) (by kernel_rfl) (fun _ _ _ h => h) (Or.inl ⟨by kernel_rfl, ?_⟩) hSx ?_
            · intro wx hSx2; obtain ⟨s1, s2⟩ := hSx2; clear hSx; go_simp
            simp only [Act.put, List.setIfInBounds_toArray, List.set_cons_zero, List.set_cons_succ]
            refine wpAnyH_take (i := 12) (oi := ⟨some 59, _, _, _, _, some (10, false)⟩) (v := .int .i64 k) rfl (by kernel_rfl) (by kernel_rfl) (by kernel_rfl) (fun _ _ _ h => h) (Or.inl ⟨by kernel_rfl, ?_⟩) hSx ?_
            · intro wx hSx2; obtain ⟨s1, s2⟩ := hSx2; clear hSx; go_simp
            simp only [Act.put, List.setIfInBounds_toArray, List.set_cons_zero, List.set_cons_succ]
            refine wpAnyH_take (i := 13) (oi := ⟨some 60, _, _, _, _, some (10, false)⟩) (v := .pointer (some ⟨b1, k, none⟩)) rfl (by kernel_rfl) (by kernel_rfl) (by kernel_rfl) (fun _ _ _ h => h) (Or.inl ⟨by kernel_rfl, ?_⟩) hSx ?_
            · intro wx hSx2; obtain ⟨s1, s2⟩ := hSx2; clear hSx; go_simp
            simp only [Act.put, List.setIfInBounds_toArray, List.set_cons_zero, List.set_cons_succ]
            refine wpAnyH_take (i := 14) (oi := ⟨some 61, _, _, _, _, some (10, false)⟩) (v := .slice Ai ln ci) rfl (by kernel_rfl) (by kernel_rfl) (by kernel_rfl) (fun _ _ _ h => h) (Or.inl ⟨by kernel_rfl, ?_⟩) hSx ?_
            · intro wx hSx2; obtain ⟨s1, s2⟩ := hSx2; clear hSx; go_simp
            simp only [Act.put, List.setIfInBounds_toArray, List.set_cons_zero, List.set_cons_succ]
            refine wpAnyH_take (i := 15) (oi := ⟨some 62, _, _, _, _, some (10, false)⟩) (v := .int .i64 ln) rfl (by kernel_rfl) (by kernel_rfl) (by kernel_rfl) (fun _ _ _ h => h) (Or.inl ⟨by kernel_rfl, ?_⟩) hSx ?_
            · intro wx hSx2; obtain ⟨s1, s2⟩ := hSx2; clear hSx; go_simp
            simp only [Act.put, List.setIfInBounds_toArray, List.set_cons_zero, List.set_cons_succ]
            refine wpAnyH_take (i := 16) (oi := ⟨some 63, _, _, _, _, some (10, false)⟩) (v := .bool false) rfl (by kernel_rfl) (by kernel_rfl) (by kernel_rfl) (fun _ _ _ h => h) (Or.inl ⟨by kernel_rfl, ?_⟩) hSx ?_
            · intro wx hSx2; obtain ⟨s1, s2⟩ := hSx2; clear hSx; go_simp
            simp only [Act.put, List.setIfInBounds_toArray, List.set_cons_zero, List.set_cons_succ]
            refine wpAnyH_take (i := 17) (oi := ⟨some 64, _, _, _, _, some (10, false)⟩) (v := .bool false) rfl (by kernel_rfl) (by kernel_rfl) (by kernel_rfl) (fun _ _ _ h => h) (Or.inl ⟨by kernel_rfl, ?_⟩) hSx ?_
            · intro wx hSx2; obtain ⟨s1, s2⟩ := hSx2; clear hSx; go_simp
            simp only [Act.put, List.setIfInBounds_toArray, List.set_cons_zero, List.set_cons_succ]
            refine wpAnyH_take (i := 18) (oi := ⟨some 65, _, _, _, _, some (17, true)⟩) (v := undef) rfl (by kernel_rfl) (by kernel_rfl) (by kernel_rfl) (fun _ _ _ h => h) (Or.inr ⟨by kernel_rfl, rfl⟩) hSx ?_
            simp only [Act.put, List.setIfInBounds_toArray, List.set_cons_zero, List.set_cons_succ]
            refine wpAnyH_take (i := 19) (oi := ⟨some 66, _, _, _, _, some (17, true)⟩) (v := undef) rfl (by kernel_rfl) (by kernel_rfl) (by kernel_rfl) (fun _ _ _ h => h) (Or.inr ⟨by kernel_rfl, rfl⟩) hSx ?_
            simp only [Act.put, List.setIfInBounds_toArray, List.set_cons_zero, List.set_cons_succ]
            refine wpAnyH_take (i := 20) (oi := ⟨some 67, _, _, _, _, some (17, true)⟩) (v := undef) rfl (by kernel_rfl) (by kernel_rfl) (by kernel_rfl) (fun _ _ _ h => h) (Or.inr ⟨by kernel_rfl, rfl⟩) hSx ?_
            simp only [Act.put, List.setIfInBounds_toArray, List.set_cons_zero, List.set_cons_succ]
            refine wpAnyH_take (i := 21) (oi := ⟨some 68, _, _, _, _, some (17, true)⟩) (v := undef) rfl (by kernel_rfl) (by kernel_rfl) (by kernel_rfl) (fun _ _ _ h => h) (Or.inr ⟨by kernel_rfl, rfl⟩) hSx ?_
            simp only [Act.put, List.setIfInBounds_toArray, List.set_cons_zero, List.set_cons_succ]
            refine wpAnyH_take (i := 22) (oi := ⟨some 69, _, _, _, _, some (17, true)⟩) (v := undef) rfl (by kernel_rfl) (by kernel_rfl) (by kernel_rfl) (fun _ _ _ h => h) (Or.inr ⟨by kernel_rfl, rfl⟩) hSx ?_
            simp only [Act.put, List.setIfInBounds_toArray, List.set_cons_zero, List.set_cons_succ]
            refine wpAnyH_take (i := 23) (oi := ⟨some 70, _, _, _, _, some (17, true)⟩) (v := undef) rfl (by kernel_rfl) (by kernel_rfl) (by kernel_rfl) (fun _ _ _ h => h) (Or.inr ⟨by kernel_rfl, rfl⟩) hSx ?_
            simp only [Act.put, List.setIfInBounds_toArray, List.set_cons_zero, List.set_cons_succ]
            refine wpAnyH_take (i := 24) (oi := ⟨some 71, _, _, _, _, some (17, true)⟩) (v := undef) rfl (by kernel_rfl) (by kernel_rfl) (by kernel_rfl) (fun _ _ _ h => h) (Or.inr ⟨by kernel_rfl, rfl⟩) hSx ?_
            simp only [Act.put, List.setIfInBounds_toArray, List.set_cons_zero, List.set_cons_succ]
            refine wpAnyH_take (i := 25) (oi := ⟨some 72, _, _, _, _, some (17, true)⟩) (v := undef) rfl (by kernel_rfl) (by kernel_rfl) (by kernel_rfl) (fun _ _ _ h => h) (Or.inr ⟨by kernel_rfl, rfl⟩) hSx ?_
            simp only [Act.put, List.setIfInBounds_toArray, List.set_cons_zero, List.set_cons_succ]
            refine wpAnyH_take (i := 26) (oi := ⟨some 73, _, _, _, _, some (17, true)⟩) (v := undef) rfl (by kernel_rfl) (by kernel_rfl) (by kernel_rfl) (fun _ _ _ h => h) (Or.inr ⟨by kernel_rfl, rfl⟩) hSx ?_
            simp only [Act.put, List.setIfInBounds_toArray, List.set_cons_zero, List.set_cons_succ]
            refine wpAnyH_take (i := 27) (oi := ⟨some 74, _, _, _, _, some (17, true)⟩) (v := undef) rfl (by kernel_rfl) (by kernel_rfl) (by kernel_rfl) (fun _ _ _ h => h) (Or.inr ⟨by kernel_rfl, rfl⟩) hSx ?_
            simp only [Act.put, List.setIfInBounds_toArray, List.set_cons_zero, List.set_cons_succ]
            refine wpAnyH_take (i := 28) (oi := ⟨some 75, _, _, _, _, some (10, false)⟩) (v := .bool false) rfl (by kernel_rfl) (by kernel_rfl) (by kernel_rfl) (fun _ _ _ h => h) (Or.inl ⟨by kernel_rfl, ?_⟩) hSx ?_
            · intro wx hSx2; obtain ⟨s1, s2⟩ := hSx2; clear hSx; go_simp
            simp only [Act.put, List.setIfInBounds_toArray, List.set_cons_zero, List.set_cons_succ]
            refine wpAnyH_take (i := 29) (oi := ⟨some 76, _, _, _, _, none⟩) (v := .bool false) rfl (by kernel_rfl) (by kernel_rfl) (by kernel_rfl) (fun _ _ _ h => h) (Or.inl ⟨by kernel_rfl, ?_⟩) hSx ?_
            · intro wx hSx2; obtain ⟨s1, s2⟩ := hSx2; clear hSx; go_simp
            simp only [Act.put, List.setIfInBounds_toArray, List.set_cons_zero, List.set_cons_succ]
            refine wpAnyH_done (by kernel_rfl) ?_ _
            clear hSx h1 h1i d1 d2
            go_wp2
            go_roundg (gn - (k + 1))
            case measure => rw [HK.out]; omega
            case rel => exact ⟨k + 1, by omega, rfl, by go_num, HB5.out.trans (HB6.out.mono HB5.out.size)⟩
        · go_wp2_with fail
          refine Calls.mono (awake8 _) ?_
          rintro e w6 ⟨rfl, hb6⟩
          go_wp2
          go_ret
          exact ⟨rfl, HBW.out.trans (hb6.mono HBW.out.size)⟩
    · have HL0 : Hid (gn = 0) := Lib.hid (by
        rw [← HGN.out, ← HG.out, okHs_no hmay]
        rfl)
      have hl0 := HL0.out
      subst hl0
      rw [mayB_no hmay]
      clear hmay
      go_wp2_with fail
      refine Calls.mono (awake8 _) ?_
      rintro e w4 ⟨rfl, hb4⟩
      go_wp2
      go_ret
      exact ⟨rfl, HB3.out.trans (hb4.mono HB3.out.size)⟩
end Go.Proofs.Ytgdljjoaiogpfaa
