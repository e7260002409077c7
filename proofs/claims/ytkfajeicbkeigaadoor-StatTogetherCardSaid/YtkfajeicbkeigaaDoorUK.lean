/- The walk over StatTells: the tests of what may be fall, and two names. -/
import Derived.Test.YtkfajeicbkeigaaDoorUG
import Derived.Test.YtkfajeicbkeigaaDoorUH
namespace Go.Proofs.YtkfajeicbkeigaaDoor
open Go.RowKit Go.Maps
theorem order_few {us : List Us} (hl : Lim us) : (orderL us).length ≤ 10 := by
  unfold orderL
  split
  · rw [ord_len]
    have := hl.cnt.1
    rw [show (nmsU (cnt us)).length = (cnt us).length by simp [nmsU]]
    exact this
  · exact Nat.zero_le _
theorem nm0 : NmOk [] := Nat.zero_le _
theorem lim_of_few {us : List Us} (h : fewB us = true) (hn : ∀ u ∈ us, NmOk u.nm) : Lim us := by
  unfold fewB at h
  rw [Bool.and_eq_true, decide_eq_true_eq, List.all_eq_true] at h
  exact ⟨h.1, fun u hu => ⟨by simpa using h.2 u hu, hn u hu⟩⟩
set_option maxRecDepth 100000 in
set_option maxHeartbeats 8000000 in
theorem tells6b {A NA : Option Addr} {c cc : Nat} {us : List Us} {ns : List Nm} {w : World} (h : Uss w A us) (hn : us.length ≤ 9223372036854775807) (hu : ∀ u ∈ us, NmOk u.nm ∧ (∀ c ∈ u.cs, CkOk c) ∧ u.cs.length ≤ 9223372036854775807) (hns : Nms w NA ns) (hno : ∀ s ∈ ns, NmOk s) (hcc : ns.length ≤ cc) (hnl : ns.length ≤ 9223372036854775807) (ht : Tb w)  (HCH0 : Hid (chk (cnt us) = 1)) (h8 : ¬ 8 < ns.length) (hm : 1 < ns.length) :
    Calls Tryd.prog 6 #[.slice A us.length c, .slice NA ns.length cc] w fun e w' => e = .returned (.bool true) ∧ Below w.heap.size w w' := by
  have hq := eq23
  have hg := guard23
  have H := Lib.hid h
  have HU := Lib.hid hu
  have HNS := Lib.hid hns
  have HNO := Lib.hid hno
  have HT := Lib.hid ht
  have HF := Lib.hid (few16 (c := c) h hn (fun u hu' => (hu u hu').2.2))
  clear h hu hns hno ht
  go_enter Tryd.func6, Tryd.ntmps6
  go_wp2_with fail
  refine Calls.mono HF.out ?_
  rintro e w1 ⟨⟨b, rfl, hb⟩, hb1⟩
  have HB1 := Lib.hid hb1
  clear hb1
  cases b
  · clear hb
    go_wp2_with fail
    refine Calls.mono (awake13 _ (HT.out.below HB1.out)) ?_
    rintro e z ⟨rfl, hz⟩
    have HZ : Hid (Below w.heap.size w z) := Lib.hid (HB1.out.trans (hz.mono HB1.out.size))
    clear hz
    go_wp2_with fail
    go_ret
    exact ⟨rfl, HZ.out⟩
  · have HL : Hid (Lim us) := Lib.hid (lim_of_few (hb rfl) (fun u hu => (HU.out u hu).1))
    have HOK : Hid (AllOk us) := Lib.hid (fun u hu => (HU.out u hu).2.1)
    clear hb
    have h10 := HL.out.1
    go_wp2_with fail
    refine Calls.mono (to17 (c := c) (H.out.below HB1.out) HL.out.1 (fun u hu => (HL.out.2 u hu).1)) ?_
    rintro e w2 ⟨B, d, vs, rfl, hvs, hlk, hb2⟩
    have HVS := Lib.hid hvs
    have HLK := Lib.hid hlk
    have HB2 : Hid (Below w.heap.size w w2) := Lib.hid (HB1.out.trans (hb2.mono HB1.out.size))
    clear hvs hlk hb2
    go_wp2_with fail
    refine Calls.mono (count18 (c := c) (H.out.below HB2.out) HL.out.1) ?_
    rintro e w3 ⟨C, d3, rfl, huc, hb3⟩
    have HUC := Lib.hid huc
    have HB3 : Hid (Below w.heap.size w w3) := Lib.hid (HB2.out.trans (hb3.mono HB2.out.size))
    have HVS3 := Lib.hid (HVS.out.below hb3)
    clear huc hb3
    have HCH := Lib.hid (rcheck19 (c := d3) HUC.out HL.out.cnt)
    have HLV := Lib.hid (HLK.out.lim HL.out)
    have HOV := Lib.hid (HLK.out.ok HOK.out)
    have hch := HCH0.out
    rw [hch] at HCH
    have hcv : chk (cnt vs) = 1 := by rw [HLK.out.cnt.chk]; exact hch
    have HX20 : Hid (∀ V, Below w3.heap.size w3 V → Calls Tryd.prog 20 #[.slice B vs.length d] V fun e w' => e = .returned (.int .i64 1) ∧ Below V.heap.size V w') := Lib.hid (fun V hV => by
      have q := check20 (c := d) (HVS3.out.below hV) HLV.out
      rw [hcv] at q
      exact q)
    have HX21 : Hid (∀ V, Below w3.heap.size w3 V → Calls Tryd.prog 21 #[.slice B vs.length d] V fun e w' => e = .returned (.int .i64 0) ∧ Below V.heap.size V w') := Lib.hid (fun V hV => by
      have q := long21 (c := d) (HVS3.out.below hV) HLV.out HOV.out
      rw [longF_no hcv] at q
      exact q)
    have HX22 : Hid (∀ V, Below w3.heap.size w3 V → Calls Tryd.prog 22 #[.slice B vs.length d] V fun e w' => e = .returned (.int .i64 0) ∧ Below V.heap.size V w') := Lib.hid (fun V hV => by
      have q := whole22 (c := d) (HVS3.out.below hV) HLV.out HOV.out
      rw [totF_no hcv] at q
      exact q)
    have HX23 : Hid (∀ V, Below w3.heap.size w3 V → Calls Tryd.prog 23 #[.slice B vs.length d, .slice NA ns.length cc] V fun e w' => e = .returned (.int .i64 0) ∧ Below V.heap.size V w') := Lib.hid (fun V hV => by
      have q := gains23 (c := d) (cc := cc) (HVS3.out.below hV) HLV.out HOV.out (HNS.out.below (HB3.out.trans (hV.mono HB3.out.size))) (by omega) HNO.out hcc
      rw [totF_no hcv] at q
      exact q)
    have HX24 : Hid (∀ s u, NmOk s → NmOk u → ∀ V, Below w3.heap.size w3 V → Calls Tryd.prog 24 #[.slice B vs.length d, .string (str s), .string (str u)] V fun e w' => e = .returned (.int .i64 0) ∧ Below V.heap.size V w') := Lib.hid (fun s u hs hu V hV => by
      have q := both24 (c := d) (s := s) (u := u) (HVS3.out.below hV) HLV.out HOV.out hs hu
      rw [totF_no hcv] at q
      exact q)
    have HX25 : Hid (∀ V, Below w3.heap.size w3 V → Calls Tryd.prog 25 #[.slice B vs.length d] V fun e w' => ∃ D m, e = .returned (.slice D 0 m) ∧ Below V.heap.size V w') := Lib.hid (fun V hV => by
      have q := order25 (c := d) (HVS3.out.below hV) HLV.out HOV.out
      rw [none_order hcv] at q
      refine q.mono ?_
      rintro e w' ⟨D, m, h1, _, h3⟩
      exact ⟨D, m, h1, h3⟩)
    have HX26 : Hid (∀ V, Below w3.heap.size w3 V → Calls Tryd.prog 26 #[.slice B vs.length d] V fun e w' => e = .returned (.agg #[.int .i64 0, .int .i64 1]) ∧ Below V.heap.size V w') := Lib.hid (fun V hV => by
      have q := saved26 (c := d) (HVS3.out.below hV) HLV.out HOV.out
      rw [none_sav hcv] at q
      exact q)
    clear hcv
    go_wp2_with fail
    refine Calls.mono HCH.out ?_
    rintro e v0 ⟨rfl, hv0⟩
    rw [hv0]
    clear hv0 v0
    obtain ⟨nb, no, rfl, _, hcell⟩ := (HNS.out.below HB3.out).get (by intro e; rw [e] at hm; simp at hm)
    obtain ⟨s0, hs0⟩ : ∃ s, ns[0]? = some s := ⟨_, List.getElem?_eq_getElem (by omega)⟩
    obtain ⟨s1, hs1⟩ : ∃ s, ns[1]? = some s := ⟨_, List.getElem?_eq_getElem (by omega)⟩
    have n0 := hcell 0 _ hs0
    have n1 := hcell 1 _ hs1
    have HS0 := Lib.hid (HNO.out _ (List.mem_of_getElem? hs0))
    have HS1 := Lib.hid (HNO.out _ (List.mem_of_getElem? hs1))
    rw [Nat.add_zero] at n0
    clear hcell hs0 hs1
    go_wp2_with fail
    go_quiet (fail)
    have HV0 : Hid (Below w3.heap.size w3 (w3.drewN nq)) := Lib.hid (below_drewN (Below.refl _ _) nq)
    clear n0 n1
    go_wp2_with fail
    refine Calls.mono (HX20.out _ HV0.out) ?_
    rintro e v1 ⟨rfl, hv⟩
    have HV1 : Hid (Below w3.heap.size w3 v1) := Lib.hid (HV0.out.trans (hv.mono HV0.out.size))
    clear hv
    go_wp2_with fail
    refine Calls.mono (HX21.out _ HV1.out) ?_
    rintro e v2 ⟨rfl, hv⟩
    have HV2 : Hid (Below w3.heap.size w3 v2) := Lib.hid (HV1.out.trans (hv.mono HV1.out.size))
    clear hv
    go_wp2_with fail
    refine Calls.mono (HX22.out _ HV2.out) ?_
    rintro e v3 ⟨rfl, hv⟩
    have HV3 : Hid (Below w3.heap.size w3 v3) := Lib.hid (HV2.out.trans (hv.mono HV2.out.size))
    clear hv
    go_wp2_with fail
    refine Calls.mono (HX23.out _ HV3.out) ?_
    rintro e v4 ⟨rfl, hv⟩
    have HV4 : Hid (Below w3.heap.size w3 v4) := Lib.hid (HV3.out.trans (hv.mono HV3.out.size))
    clear hv
    go_wp2_with fail
    refine Calls.mono (HX24.out s0 s1 HS0.out HS1.out _ HV4.out) ?_
    rintro e v5 ⟨rfl, hv⟩
    have HV5 : Hid (Below w3.heap.size w3 v5) := Lib.hid (HV4.out.trans (hv.mono HV4.out.size))
    clear hv
    go_wp2_with fail
    refine Calls.mono (HX25.out _ HV5.out) ?_
    rintro e v6 ⟨D, m, rfl, hv⟩
    have HV6 : Hid (Below w3.heap.size w3 v6) := Lib.hid (HV5.out.trans (hv.mono HV5.out.size))
    clear hv
    go_wp2_with fail
    refine Calls.mono (HX26.out _ HV6.out) ?_
    rintro e v7 ⟨rfl, hv⟩
    have HV7 : Hid (Below w3.heap.size w3 v7) := Lib.hid (HV6.out.trans (hv.mono HV6.out.size))
    clear hv
    go_wp2_with fail
    have HB9 : Hid (Below w.heap.size w v7) := Lib.hid (HB3.out.trans (HV7.out.mono HB3.out.size))
    refine Calls.mono (awake13 _ (HT.out.below HB9.out)) ?_
    rintro e z ⟨rfl, hz⟩
    have HZ : Hid (Below w.heap.size w z) := Lib.hid (HB9.out.trans (hz.mono HB9.out.size))
    clear hz
    go_wp2_with fail
    go_ret
    exact ⟨rfl, HZ.out⟩
set_option maxRecDepth 100000 in
set_option maxHeartbeats 8000000 in
theorem tells6c {A NA : Option Addr} {c cc : Nat} {us : List Us} {ns : List Nm} {w : World} (h : Uss w A us) (hn : us.length ≤ 9223372036854775807) (hu : ∀ u ∈ us, NmOk u.nm ∧ (∀ c ∈ u.cs, CkOk c) ∧ u.cs.length ≤ 9223372036854775807) (hns : Nms w NA ns) (hno : ∀ s ∈ ns, NmOk s) (hcc : ns.length ≤ cc) (hnl : ns.length ≤ 9223372036854775807) (ht : Tb w)  (HCH0 : Hid (chk (cnt us) = 1)) (h8 : ¬ 8 < ns.length) (hm : ¬ 1 < ns.length) :
    Calls Tryd.prog 6 #[.slice A us.length c, .slice NA ns.length cc] w fun e w' => e = .returned (.bool true) ∧ Below w.heap.size w w' := by
  have hq := eq23
  have hg := guard23
  have H := Lib.hid h
  have HU := Lib.hid hu
  have HNS := Lib.hid hns
  have HNO := Lib.hid hno
  have HT := Lib.hid ht
  have HF := Lib.hid (few16 (c := c) h hn (fun u hu' => (hu u hu').2.2))
  clear h hu hns hno ht
  go_enter Tryd.func6, Tryd.ntmps6
  go_wp2_with fail
  refine Calls.mono HF.out ?_
  rintro e w1 ⟨⟨b, rfl, hb⟩, hb1⟩
  have HB1 := Lib.hid hb1
  clear hb1
  cases b
  · clear hb
    go_wp2_with fail
    refine Calls.mono (awake13 _ (HT.out.below HB1.out)) ?_
    rintro e z ⟨rfl, hz⟩
    have HZ : Hid (Below w.heap.size w z) := Lib.hid (HB1.out.trans (hz.mono HB1.out.size))
    clear hz
    go_wp2_with fail
    go_ret
    exact ⟨rfl, HZ.out⟩
  · have HL : Hid (Lim us) := Lib.hid (lim_of_few (hb rfl) (fun u hu => (HU.out u hu).1))
    have HOK : Hid (AllOk us) := Lib.hid (fun u hu => (HU.out u hu).2.1)
    clear hb
    have h10 := HL.out.1
    go_wp2_with fail
    refine Calls.mono (to17 (c := c) (H.out.below HB1.out) HL.out.1 (fun u hu => (HL.out.2 u hu).1)) ?_
    rintro e w2 ⟨B, d, vs, rfl, hvs, hlk, hb2⟩
    have HVS := Lib.hid hvs
    have HLK := Lib.hid hlk
    have HB2 : Hid (Below w.heap.size w w2) := Lib.hid (HB1.out.trans (hb2.mono HB1.out.size))
    clear hvs hlk hb2
    go_wp2_with fail
    refine Calls.mono (count18 (c := c) (H.out.below HB2.out) HL.out.1) ?_
    rintro e w3 ⟨C, d3, rfl, huc, hb3⟩
    have HUC := Lib.hid huc
    have HB3 : Hid (Below w.heap.size w w3) := Lib.hid (HB2.out.trans (hb3.mono HB2.out.size))
    have HVS3 := Lib.hid (HVS.out.below hb3)
    clear huc hb3
    have HCH := Lib.hid (rcheck19 (c := d3) HUC.out HL.out.cnt)
    have HLV := Lib.hid (HLK.out.lim HL.out)
    have HOV := Lib.hid (HLK.out.ok HOK.out)
    have hch := HCH0.out
    rw [hch] at HCH
    have hcv : chk (cnt vs) = 1 := by rw [HLK.out.cnt.chk]; exact hch
    have HX20 : Hid (∀ V, Below w3.heap.size w3 V → Calls Tryd.prog 20 #[.slice B vs.length d] V fun e w' => e = .returned (.int .i64 1) ∧ Below V.heap.size V w') := Lib.hid (fun V hV => by
      have q := check20 (c := d) (HVS3.out.below hV) HLV.out
      rw [hcv] at q
      exact q)
    have HX21 : Hid (∀ V, Below w3.heap.size w3 V → Calls Tryd.prog 21 #[.slice B vs.length d] V fun e w' => e = .returned (.int .i64 0) ∧ Below V.heap.size V w') := Lib.hid (fun V hV => by
      have q := long21 (c := d) (HVS3.out.below hV) HLV.out HOV.out
      rw [longF_no hcv] at q
      exact q)
    have HX22 : Hid (∀ V, Below w3.heap.size w3 V → Calls Tryd.prog 22 #[.slice B vs.length d] V fun e w' => e = .returned (.int .i64 0) ∧ Below V.heap.size V w') := Lib.hid (fun V hV => by
      have q := whole22 (c := d) (HVS3.out.below hV) HLV.out HOV.out
      rw [totF_no hcv] at q
      exact q)
    have HX23 : Hid (∀ V, Below w3.heap.size w3 V → Calls Tryd.prog 23 #[.slice B vs.length d, .slice NA ns.length cc] V fun e w' => e = .returned (.int .i64 0) ∧ Below V.heap.size V w') := Lib.hid (fun V hV => by
      have q := gains23 (c := d) (cc := cc) (HVS3.out.below hV) HLV.out HOV.out (HNS.out.below (HB3.out.trans (hV.mono HB3.out.size))) (by omega) HNO.out hcc
      rw [totF_no hcv] at q
      exact q)
    have HX24 : Hid (∀ s u, NmOk s → NmOk u → ∀ V, Below w3.heap.size w3 V → Calls Tryd.prog 24 #[.slice B vs.length d, .string (str s), .string (str u)] V fun e w' => e = .returned (.int .i64 0) ∧ Below V.heap.size V w') := Lib.hid (fun s u hs hu V hV => by
      have q := both24 (c := d) (s := s) (u := u) (HVS3.out.below hV) HLV.out HOV.out hs hu
      rw [totF_no hcv] at q
      exact q)
    have HX25 : Hid (∀ V, Below w3.heap.size w3 V → Calls Tryd.prog 25 #[.slice B vs.length d] V fun e w' => ∃ D m, e = .returned (.slice D 0 m) ∧ Below V.heap.size V w') := Lib.hid (fun V hV => by
      have q := order25 (c := d) (HVS3.out.below hV) HLV.out HOV.out
      rw [none_order hcv] at q
      refine q.mono ?_
      rintro e w' ⟨D, m, h1, _, h3⟩
      exact ⟨D, m, h1, h3⟩)
    have HX26 : Hid (∀ V, Below w3.heap.size w3 V → Calls Tryd.prog 26 #[.slice B vs.length d] V fun e w' => e = .returned (.agg #[.int .i64 0, .int .i64 1]) ∧ Below V.heap.size V w') := Lib.hid (fun V hV => by
      have q := saved26 (c := d) (HVS3.out.below hV) HLV.out HOV.out
      rw [none_sav hcv] at q
      exact q)
    clear hcv
    go_wp2_with fail
    refine Calls.mono HCH.out ?_
    rintro e v0 ⟨rfl, hv0⟩
    rw [hv0]
    clear hv0 v0
    have HV0 : Hid (Below w3.heap.size w3 w3) := Lib.hid (Below.refl _ _)
    go_wp2_with fail
    refine Calls.mono (HX20.out _ HV0.out) ?_
    rintro e v1 ⟨rfl, hv⟩
    have HV1 : Hid (Below w3.heap.size w3 v1) := Lib.hid (HV0.out.trans (hv.mono HV0.out.size))
    clear hv
    go_wp2_with fail
    refine Calls.mono (HX21.out _ HV1.out) ?_
    rintro e v2 ⟨rfl, hv⟩
    have HV2 : Hid (Below w3.heap.size w3 v2) := Lib.hid (HV1.out.trans (hv.mono HV1.out.size))
    clear hv
    go_wp2_with fail
    refine Calls.mono (HX22.out _ HV2.out) ?_
    rintro e v3 ⟨rfl, hv⟩
    have HV3 : Hid (Below w3.heap.size w3 v3) := Lib.hid (HV2.out.trans (hv.mono HV2.out.size))
    clear hv
    go_wp2_with fail
    refine Calls.mono (HX23.out _ HV3.out) ?_
    rintro e v4 ⟨rfl, hv⟩
    have HV4 : Hid (Below w3.heap.size w3 v4) := Lib.hid (HV3.out.trans (hv.mono HV3.out.size))
    clear hv
    go_wp2_with fail
    refine Calls.mono (HX24.out [] [] nm0 nm0 _ HV4.out) ?_
    rintro e v5 ⟨rfl, hv⟩
    have HV5 : Hid (Below w3.heap.size w3 v5) := Lib.hid (HV4.out.trans (hv.mono HV4.out.size))
    clear hv
    go_wp2_with fail
    refine Calls.mono (HX25.out _ HV5.out) ?_
    rintro e v6 ⟨D, m, rfl, hv⟩
    have HV6 : Hid (Below w3.heap.size w3 v6) := Lib.hid (HV5.out.trans (hv.mono HV5.out.size))
    clear hv
    go_wp2_with fail
    refine Calls.mono (HX26.out _ HV6.out) ?_
    rintro e v7 ⟨rfl, hv⟩
    have HV7 : Hid (Below w3.heap.size w3 v7) := Lib.hid (HV6.out.trans (hv.mono HV6.out.size))
    clear hv
    go_wp2_with fail
    have HB9 : Hid (Below w.heap.size w v7) := Lib.hid (HB3.out.trans (HV7.out.mono HB3.out.size))
    refine Calls.mono (awake13 _ (HT.out.below HB9.out)) ?_
    rintro e z ⟨rfl, hz⟩
    have HZ : Hid (Below w.heap.size w z) := Lib.hid (HB9.out.trans (hz.mono HB9.out.size))
    clear hz
    go_wp2_with fail
    go_ret
    exact ⟨rfl, HZ.out⟩
end Go.Proofs.YtkfajeicbkeigaaDoor
