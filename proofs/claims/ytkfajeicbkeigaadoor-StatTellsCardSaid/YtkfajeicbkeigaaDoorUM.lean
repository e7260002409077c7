/- The walk over StatTells: uses that may be, fewer than two names. -/
import Derived.Test.YtkfajeicbkeigaaDoorUK
namespace Go.Proofs.YtkfajeicbkeigaaDoor
open Go.RowKit Go.Maps
set_option maxRecDepth 100000 in
set_option maxHeartbeats 8000000 in
theorem tells6e {A NA : Option Addr} {c cc : Nat} {us : List Us} {ns : List Nm} {w : World} (h : Uss w A us) (hn : us.length ≤ 9223372036854775807) (hu : ∀ u ∈ us, NmOk u.nm ∧ (∀ c ∈ u.cs, CkOk c) ∧ u.cs.length ≤ 9223372036854775807) (hns : Nms w NA ns) (hno : ∀ s ∈ ns, NmOk s) (hcc : ns.length ≤ cc) (hnl : ns.length ≤ 9223372036854775807) (ht : Tb w)  (HCH0 : Hid (chk (cnt us) = 0)) (h8 : ¬ 8 < ns.length) (hm : ¬ 1 < ns.length) :
    Calls Tryd.prog 6 #[.slice A us.length c, .slice NA ns.length cc] w fun e w' => e = .returned (.bool true) ∧ Below w.heap.size w w' := by
  have hq := eq23
  have hg := guard23
  have H := Lib.hid h
  have HU := Lib.hid hu
  have HNS := Lib.hid hns
  have HNO := Lib.hid hno
  have HT := Lib.hid ht
  have HF := Lib.hid (few16 (c := c) h hn (fun u hu' => (hu u hu').2.2))
  clear h hu hns hno ht
  go_enter Tryd.func6, Tryd.ntmps6
  go_wp2_with fail
  refine Calls.mono HF.out ?_
  rintro e w1 ⟨⟨b, rfl, hb⟩, hb1⟩
  have HB1 := Lib.hid hb1
  clear hb1
  cases b
  · clear hb
    go_wp2_with fail
    refine Calls.mono (awake13 _ (HT.out.below HB1.out)) ?_
    rintro e z ⟨rfl, hz⟩
    have HZ : Hid (Below w.heap.size w z) := Lib.hid (HB1.out.trans (hz.mono HB1.out.size))
    clear hz
    go_wp2_with fail
    go_ret
    exact ⟨rfl, HZ.out⟩
  · have HL : Hid (Lim us) := Lib.hid (lim_of_few (hb rfl) (fun u hu => (HU.out u hu).1))
    have HOK : Hid (AllOk us) := Lib.hid (fun u hu => (HU.out u hu).2.1)
    clear hb
    have h10 := HL.out.1
    go_wp2_with fail
    refine Calls.mono (to17 (c := c) (H.out.below HB1.out) HL.out.1 (fun u hu => (HL.out.2 u hu).1)) ?_
    rintro e w2 ⟨B, d, vs, rfl, hvs, hlk, hb2⟩
    have HVS := Lib.hid hvs
    have HLK := Lib.hid hlk
    have HB2 : Hid (Below w.heap.size w w2) := Lib.hid (HB1.out.trans (hb2.mono HB1.out.size))
    clear hvs hlk hb2
    go_wp2_with fail
    refine Calls.mono (count18 (c := c) (H.out.below HB2.out) HL.out.1) ?_
    rintro e w3 ⟨C, d3, rfl, huc, hb3⟩
    have HUC := Lib.hid huc
    have HB3 : Hid (Below w.heap.size w w3) := Lib.hid (HB2.out.trans (hb3.mono HB2.out.size))
    have HVS3 := Lib.hid (HVS.out.below hb3)
    clear huc hb3
    have HCH := Lib.hid (rcheck19 (c := d3) HUC.out HL.out.cnt)
    have HLV := Lib.hid (HLK.out.lim HL.out)
    have HOV := Lib.hid (HLK.out.ok HOK.out)
    have hch := HCH0.out
    rw [hch] at HCH
    have HCZ := Lib.hid hch
    have hcv : chk (cnt vs) = 0 := by rw [HLK.out.cnt.chk]; exact hch
    have HX20 : Hid (∀ V, Below w3.heap.size w3 V → Calls Tryd.prog 20 #[.slice B vs.length d] V fun e w' => e = .returned (.int .i64 0) ∧ Below V.heap.size V w') := Lib.hid (fun V hV => by
      have q := check20 (c := d) (HVS3.out.below hV) HLV.out
      rw [hcv] at q
      exact q)
    have HX21 : Hid (∀ V, Below w3.heap.size w3 V → Calls Tryd.prog 21 #[.slice B vs.length d] V fun e w' => e = .returned (.int .i64 (longF us)) ∧ Below V.heap.size V w') := Lib.hid (fun V hV => by
      have q := long21 (c := d) (HVS3.out.below hV) HLV.out HOV.out
      rw [HLK.out.long] at q
      exact q)
    have HX22 : Hid (∀ V, Below w3.heap.size w3 V → Calls Tryd.prog 22 #[.slice B vs.length d] V fun e w' => e = .returned (.int .i64 (totF us fun _ => true)) ∧ Below V.heap.size V w') := Lib.hid (fun V hV => by
      have q := whole22 (c := d) (HVS3.out.below hV) HLV.out HOV.out
      rw [HLK.out.tot] at q
      exact q)
    have HX23 : Hid (∀ V, Below w3.heap.size w3 V → Calls Tryd.prog 23 #[.slice B vs.length d, .slice NA ns.length cc] V fun e w' => e = .returned (.int .i64 (totF us fun l => allIn l ns)) ∧ Below V.heap.size V w') := Lib.hid (fun V hV => by
      have q := gains23 (c := d) (cc := cc) (HVS3.out.below hV) HLV.out HOV.out (HNS.out.below (HB3.out.trans (hV.mono HB3.out.size))) (by omega) HNO.out hcc
      rw [HLK.out.tot] at q
      exact q)
    have HX24 : Hid (∀ s u, NmOk s → NmOk u → ∀ V, Below w3.heap.size w3 V → Calls Tryd.prog 24 #[.slice B vs.length d, .string (str s), .string (str u)] V fun e w' => e = .returned (.int .i64 (totF us fun l => decide (s ∈ l) && decide (u ∈ l))) ∧ Below V.heap.size V w') := Lib.hid (fun s u hs hu V hV => by
      have q := both24 (c := d) (s := s) (u := u) (HVS3.out.below hV) HLV.out HOV.out hs hu
      rw [HLK.out.tot] at q
      exact q)
    have HX25 : Hid (∀ V, Below w3.heap.size w3 V → Calls Tryd.prog 25 #[.slice B vs.length d] V fun e w' => ∃ D m, e = .returned (.slice D (orderL us).length m) ∧ Nms w' D (orderL us) ∧ Below V.heap.size V w') := Lib.hid (fun V hV => by
      have q := order25 (c := d) (HVS3.out.below hV) HLV.out HOV.out
      rw [HLK.out.order] at q
      exact q)
    have HX26 : Hid (∀ V, Below w3.heap.size w3 V → Calls Tryd.prog 26 #[.slice B vs.length d] V fun e w' => e = .returned (.agg #[.int .i64 ((savN us).1 : Nat), .int .i64 ((savN us).2 : Nat)]) ∧ Below V.heap.size V w') := Lib.hid (fun V hV => by
      have q := saved26 (c := d) (HVS3.out.below hV) HLV.out HOV.out
      rw [HLK.out.sav] at q
      exact q)
    have HX27 : Hid (∀ V, Below w3.heap.size w3 V → Calls Tryd.prog 27 #[.slice C (cnt us).length d3] V fun e w' => e = .returned (.int .i64 (longF us)) ∧ Below V.heap.size V w') := Lib.hid (fun V hV => by
      have q := rlong27 (c := d3) (HUC.out.below hV) HL.out.cnt HCZ.out
      rw [long_same HCZ.out] at q
      exact q)
    have HX28 : Hid (∀ V, Below w3.heap.size w3 V → Calls Tryd.prog 28 #[.slice C (cnt us).length d3] V fun e w' => e = .returned (.int .i64 (totF us fun _ => true)) ∧ Below V.heap.size V w') := Lib.hid (fun V hV => by
      have q := rwhole28 (c := d3) (HUC.out.below hV) HL.out.cnt HCZ.out
      rw [whole_same HCZ.out] at q
      exact q)
    have HX29 : Hid (∀ V, Below w3.heap.size w3 V → Calls Tryd.prog 29 #[.slice C (cnt us).length d3, .slice NA ns.length cc] V fun e w' => e = .returned (.int .i64 (totF us fun l => allIn l ns)) ∧ Below V.heap.size V w') := Lib.hid (fun V hV => by
      have q := rgains29 (c := d3) (cc := cc) (HUC.out.below hV) HL.out.cnt HCZ.out (HNS.out.below (HB3.out.trans (hV.mono HB3.out.size))) (by omega)
      rw [gains_same HCZ.out] at q
      exact q)
    have HX30 : Hid (∀ s u, ∀ V, Below w3.heap.size w3 V → Calls Tryd.prog 30 #[.slice C (cnt us).length d3, .string (str s), .string (str u)] V fun e w' => e = .returned (.int .i64 (totF us fun l => decide (s ∈ l) && decide (u ∈ l))) ∧ Below V.heap.size V w') := Lib.hid (fun s u V hV => by
      have q := rboth30 (c := d3) (s := s) (u := u) (HUC.out.below hV) HL.out.cnt HCZ.out
      rw [both_same HCZ.out] at q
      exact q)
    have HX31 : Hid (∀ V, Below w3.heap.size w3 V → Calls Tryd.prog 31 #[.slice C (cnt us).length d3] V fun e w' => ∃ D m, e = .returned (.slice D (orderL us).length m) ∧ Nms w' D (orderL us) ∧ Below V.heap.size V w') := Lib.hid (fun V hV => by
      have q := rorder31 (c := d3) (HUC.out.below hV) HL.out.cnt HCZ.out
      rw [order_same HCZ.out] at q
      exact q)
    clear hcv
    have hwl := whole_long us HOK.out
    have hls := long_span us HL.out HOK.out
    have HC9 : Hid (longF us ≠ 0 → ∀ V, Calls Tryd.prog 9 #[.int .i64 (longF us - totF us fun _ => true), .int .i64 (longF us)] V fun e w' => e = .returned (.tuple #[.int .i64 ((savN us).1 : Nat), .int .i64 ((savN us).2 : Nat)]) ∧ Below V.heap.size V w') := Lib.hid (fun hne V => by
      have q := of9 (longF us - totF us fun _ => true).toNat (longF us).toNat (by omega) (by omega) (by omega) V
      rw [Int.toNat_of_nonneg (by omega), Int.toNat_of_nonneg (by omega)] at q
      rw [sav_some hne]
      refine q.mono ?_
      rintro e w' ⟨h1, nq, rfl⟩
      exact ⟨h1, below_drewN (Below.refl _ _) nq⟩)
    have HSZ : Hid (longF us = 0 → (((savN us).1 : Nat) : Int) = 0 ∧ (((savN us).2 : Nat) : Int) = 1) := Lib.hid (fun h => by rw [sav_zero h]; exact ⟨rfl, rfl⟩)
    generalize longF us = LG at *
    generalize (totF us fun _ => true) = WH at *
    generalize (totF us fun l => allIn l ns) = GN at *
    generalize (((savN us).1 : Nat) : Int) = P at *
    generalize (((savN us).2 : Nat) : Int) = Q at *
    go_wp2_with fail
    refine Calls.mono HCH.out ?_
    rintro e v0 ⟨rfl, hv0⟩
    rw [hv0]
    clear hv0 v0
    obtain ⟨w5, HV0⟩ : ∃ w5, Hid (w3 = w5 ∧ Below w3.heap.size w3 w5) := ⟨w3, Lib.hid ⟨rfl, Below.refl _ _⟩⟩
    have hw5 := HV0.out.1
    have HV0 := Lib.hid HV0.out.2
    rw [show (w3 : World) = w5 from hw5]
    clear hw5
    have HX24e : Hid (∀ V, Below w3.heap.size w3 V → Calls Tryd.prog 24 #[.slice B vs.length d, .string ⟨#[]⟩, .string ⟨#[]⟩] V fun e w' => e = .returned (.int .i64 (totF us fun l => decide ([] ∈ l) && decide ([] ∈ l))) ∧ Below V.heap.size V w') := Lib.hid (HX24.out [] [] nm0 nm0)
    have HX30e : Hid (∀ V, Below w3.heap.size w3 V → Calls Tryd.prog 30 #[.slice C (cnt us).length d3, .string ⟨#[]⟩, .string ⟨#[]⟩] V fun e w' => e = .returned (.int .i64 (totF us fun l => decide ([] ∈ l) && decide ([] ∈ l))) ∧ Below V.heap.size V w') := Lib.hid (HX30.out [] [])
    obtain ⟨g, hgg⟩ : ∃ g, w5.heap.size = g := ⟨_, rfl⟩
    have HGG := Lib.hid hgg
    have HVa : Hid (Below w3.heap.size w3 (w5.alloc (.cells #[.int .i64 0, .int .i64 1] 23))) := Lib.hid (HV0.out.alloc HV0.out.size _)
    have e0 : (w5.alloc (.cells #[.int .i64 0, .int .i64 1] 23)).cell? ⟨g, 0, none⟩ = some (.int .i64 0) := by subst hgg; exact cell_of_row _ _ 0 _ 23 (0, 0) (heap_alloc_new _ _)
    have e1 : (w5.alloc (.cells #[.int .i64 0, .int .i64 1] 23)).cell? ⟨g, 1, none⟩ = some (.int .i64 1) := by subst hgg; exact cell_of_row _ _ 1 _ 23 (0, 0) (heap_alloc_new _ _)
    have eb : (w5.alloc (.cells #[.int .i64 0, .int .i64 1] 23)).heap[g]? = some (.cells #[.int .i64 0, .int .i64 1] 23) := by subst hgg; exact heap_alloc_new _ _
    clear hgg
    go_wp2_with fail
    refine Calls.mono (HX27.out _ HVa.out) ?_
    rintro e v1 ⟨rfl, hv⟩
    have HV1 : Hid (Below w3.heap.size w3 v1) := Lib.hid (HVa.out.trans (hv.mono HVa.out.size))
    have x0 := below_cell hv e0
    have x1 := below_cell hv e1
    have HEB : Hid (v1.heap[g]? = some (.cells #[.int .i64 0, .int .i64 1] 23)) := Lib.hid ((hv.block _ (Array.getElem?_eq_some_iff.1 eb).1).trans eb)
    clear hv e0 e1 eb
    rw [HGG.out]
    by_cases hL : LG = 0
    · obtain ⟨rfl, rfl⟩ := HSZ.out hL
      have HCB : Hid (∀ V, Below v1.heap.size v1 V → V.cell? ⟨g, 0, none⟩ = some (.int .i64 0) ∧ V.cell? ⟨g, 1, none⟩ = some (.int .i64 1)) := Lib.hid (fun V hV => ⟨below_cell hV x0, below_cell hV x1⟩)
      go_wp2_with fail
      have HR0 : Hid (Below v1.heap.size v1 v1.drew) := Lib.hid (below_drew (Below.refl _ _))
      have HS20 := Lib.hid (HCB.out _ HR0.out)
      have HS30 := Lib.hid (HCB.out _ (Below.refl _ _))
      clear x0 x1
      go_region_held3 (fun V => V.cell? ⟨g, 0, none⟩ = some (.int .i64 0) ∧ V.cell? ⟨g, 1, none⟩ = some (.int .i64 1)) (first | exact HS30.out | exact HS20.out | exact HS21.out | exact HS22.out | exact HS23.out | exact HS24.out | exact HS25.out | exact HS26.out | exact HS27.out | exact HS28.out | exact HS29.out | exact HS210.out) (first
        | (go_at_call 20; (with_reducible refine Calls.mono (HX20.out _ (HV1.out.trans (HR0.out.mono HV1.out.size))) ?_); rintro e r1 ⟨rfl, hv⟩; have HR1 : Hid (Below v1.heap.size v1 r1) := Lib.hid (HR0.out.trans (hv.mono HR0.out.size)); have HS21 := Lib.hid (HCB.out _ HR1.out); clear hv)
        | (go_at_call 21; (with_reducible refine Calls.mono (HX21.out _ (HV1.out.trans (HR1.out.mono HV1.out.size))) ?_); rintro e r2 ⟨rfl, hv⟩; have HR2 : Hid (Below v1.heap.size v1 r2) := Lib.hid (HR1.out.trans (hv.mono HR1.out.size)); have HS22 := Lib.hid (HCB.out _ HR2.out); clear hv)
        | (go_at_call 27; (with_reducible refine Calls.mono (HX27.out _ (HV1.out.trans (HR2.out.mono HV1.out.size))) ?_); rintro e r3 ⟨rfl, hv⟩; have HR3 : Hid (Below v1.heap.size v1 r3) := Lib.hid (HR2.out.trans (hv.mono HR2.out.size)); have HS23 := Lib.hid (HCB.out _ HR3.out); clear hv)
        | (go_at_call 22; (with_reducible refine Calls.mono (HX22.out _ (HV1.out.trans (HR3.out.mono HV1.out.size))) ?_); rintro e r4 ⟨rfl, hv⟩; have HR4 : Hid (Below v1.heap.size v1 r4) := Lib.hid (HR3.out.trans (hv.mono HR3.out.size)); have HS24 := Lib.hid (HCB.out _ HR4.out); clear hv)
        | (go_at_call 28; (with_reducible refine Calls.mono (HX28.out _ (HV1.out.trans (HR4.out.mono HV1.out.size))) ?_); rintro e r5 ⟨rfl, hv⟩; have HR5 : Hid (Below v1.heap.size v1 r5) := Lib.hid (HR4.out.trans (hv.mono HR4.out.size)); have HS25 := Lib.hid (HCB.out _ HR5.out); clear hv)
        | (go_at_call 23; (with_reducible refine Calls.mono (HX23.out _ (HV1.out.trans (HR5.out.mono HV1.out.size))) ?_); rintro e r6 ⟨rfl, hv⟩; have HR6 : Hid (Below v1.heap.size v1 r6) := Lib.hid (HR5.out.trans (hv.mono HR5.out.size)); have HS26 := Lib.hid (HCB.out _ HR6.out); clear hv)
        | (go_at_call 29; (with_reducible refine Calls.mono (HX29.out _ (HV1.out.trans (HR6.out.mono HV1.out.size))) ?_); rintro e r7 ⟨rfl, hv⟩; have HR7 : Hid (Below v1.heap.size v1 r7) := Lib.hid (HR6.out.trans (hv.mono HR6.out.size)); have HS27 := Lib.hid (HCB.out _ HR7.out); clear hv)
        | (go_at_call 24; (with_reducible refine Calls.mono (HX24e.out _ (HV1.out.trans (HR7.out.mono HV1.out.size))) ?_); rintro e r8 ⟨rfl, hv⟩; have HR8 : Hid (Below v1.heap.size v1 r8) := Lib.hid (HR7.out.trans (hv.mono HR7.out.size)); have HS28 := Lib.hid (HCB.out _ HR8.out); clear hv)
        | (go_at_call 30; (with_reducible refine Calls.mono (HX30e.out _ (HV1.out.trans (HR8.out.mono HV1.out.size))) ?_); rintro e r9 ⟨rfl, hv⟩; have HR9 : Hid (Below v1.heap.size v1 r9) := Lib.hid (HR8.out.trans (hv.mono HR8.out.size)); have HS29 := Lib.hid (HCB.out _ HR9.out); clear hv)
        | (go_at_call 26; (with_reducible refine Calls.mono (HX26.out _ (HV1.out.trans (HR9.out.mono HV1.out.size))) ?_); rintro e r10 ⟨rfl, hv⟩; have HR10 : Hid (Below v1.heap.size v1 r10) := Lib.hid (HR9.out.trans (hv.mono HR9.out.size)); have HS210 := Lib.hid (HCB.out _ HR10.out); clear hv))
      go_wp2_with fail
      have HT0 : Hid (Below w3.heap.size w3 r10) := Lib.hid (HV1.out.trans (HR10.out.mono HV1.out.size))
      refine Calls.mono (HX25.out _ HT0.out) ?_
      rintro e t1 ⟨D1, m1, rfl, hd1, hv⟩
      have HT1 : Hid (Below w3.heap.size w3 t1) := Lib.hid (HT0.out.trans (hv.mono HT0.out.size))
      have HD1 := Lib.hid hd1
      clear hv hd1
      go_wp2_with fail
      refine Calls.mono (HX31.out _ HT1.out) ?_
      rintro e t2 ⟨D2, m2, rfl, hd2, hv⟩
      have HT2 : Hid (Below w3.heap.size w3 t2) := Lib.hid (HT1.out.trans (hv.mono HT1.out.size))
      have HD1B := Lib.hid (HD1.out.below hv)
      have HD2 := Lib.hid hd2
      have HOLn : Hid ((orderL us).length ≤ 10) := Lib.hid (order_few HL.out)
      clear hv hd2
      generalize orderL us = O at *
      have hol := HOLn.out
      go_wp2_with fail
      go_loopg [15] O.length (fun gk i wr => ∃ k : Nat, k ≤ O.length ∧ gk = O.length - k ∧ i = .int .i64 k ∧ Below t2.heap.size t2 wr)
      case atStart => exact ⟨0, Nat.zero_le _, rfl, rfl, Below.refl _ _⟩
      case round =>
        obtain ⟨k, hk, hgk, rfl, hbw⟩ := hrel
        have HK := Lib.hid hgk
        have HBW := Lib.hid hbw
        clear hgk hbw
        have hk0 : (0 : Int) ≤ (k : Int) := by omega
        by_cases hlt : k < O.length
        · obtain ⟨nm, hnm⟩ : ∃ nm, O[k]? = some nm := ⟨_, List.getElem?_eq_getElem hlt⟩
          have hO : O ≠ [] := fun e => by rw [e] at hlt; simp at hlt
          obtain ⟨q1, o1, rfl, _, g1⟩ := (HD1B.out.below HBW.out).get hO
          obtain ⟨q2, o2, rfl, _, g2⟩ := (HD2.out.below HBW.out).get hO
          have y1 := g1 k nm hnm
          have y2 := g2 k nm hnm
          have hk1 : (k : Int) < (O.length : Int) := by omega
          clear g1 g2 hnm hO
          go_wp2_with fail
          go_quiet (fail)
          go_wp2_with fail
          go_roundg (O.length - (k + 1))
          case measure => rw [HK.out]; omega
          case rel => exact ⟨k + 1, by omega, rfl, by go_num, below_drewN HBW.out _⟩
        · obtain rfl : k = O.length := by omega
          have HZ0 : Hid (Below w.heap.size w wr) := Lib.hid ((HB3.out.trans (HT2.out.mono HB3.out.size)).trans (HBW.out.mono (Nat.le_trans HB3.out.size HT2.out.size)))
          go_wp2_with fail
          refine Calls.mono (awake13 _ (HT.out.below HZ0.out)) ?_
          rintro e z ⟨rfl, hz⟩
          have HZ : Hid (Below w.heap.size w z) := Lib.hid (HZ0.out.trans (hz.mono HZ0.out.size))
          clear hz
          go_wp2_with fail
          go_ret
          exact ⟨rfl, HZ.out⟩
    · have hLp : 0 < LG := by omega
      go_wp2_with fail
      refine Calls.mono (HX27.out _ HV1.out) ?_
      rintro e v2 ⟨rfl, hv⟩
      have HV2 : Hid (Below w3.heap.size w3 v2) := Lib.hid (HV1.out.trans (hv.mono HV1.out.size))
      have HE2 := Lib.hid ((hv.block _ (Array.getElem?_eq_some_iff.1 HEB.out).1).trans HEB.out)
      clear hv x0 x1
      go_wp2_with fail
      refine Calls.mono (HX28.out _ HV2.out) ?_
      rintro e v3 ⟨rfl, hv⟩
      have HV3 : Hid (Below w3.heap.size w3 v3) := Lib.hid (HV2.out.trans (hv.mono HV2.out.size))
      have HE3 := Lib.hid ((hv.block _ (Array.getElem?_eq_some_iff.1 HE2.out).1).trans HE2.out)
      clear hv
      go_wp2_with fail
      refine Calls.mono (HX27.out _ HV3.out) ?_
      rintro e v4 ⟨rfl, hv⟩
      have HV4 : Hid (Below w3.heap.size w3 v4) := Lib.hid (HV3.out.trans (hv.mono HV3.out.size))
      have HE4 := Lib.hid ((hv.block _ (Array.getElem?_eq_some_iff.1 HE3.out).1).trans HE3.out)
      clear hv
      go_wp2_with fail
      refine Calls.mono (HC9.out hL _) ?_
      rintro e v5 ⟨rfl, hv⟩
      have HV5 : Hid (Below w3.heap.size w3 v5) := Lib.hid (HV4.out.trans (hv.mono HV4.out.size))
      have HE5 := Lib.hid ((hv.block _ (Array.getElem?_eq_some_iff.1 HE4.out).1).trans HE4.out)
      clear hv
      have x0 : v5.cell? ⟨g, 0, none⟩ = some (.int .i64 0) := cell_of_row v5 g 0 _ 23 (0, 0) HE5.out
      have x1 : v5.cell? ⟨g, 1, none⟩ = some (.int .i64 1) := cell_of_row v5 g 1 _ 23 (0, 0) HE5.out
      have f0 : v5.frozen? ⟨g, 0, none⟩ = false := frozen_of_row v5 g 0 _ 23 HE5.out
      have f1 : v5.frozen? ⟨g, 1, none⟩ = false := frozen_of_row v5 g 1 _ 23 HE5.out
      go_wp2_with fail
      obtain ⟨wb, hwb⟩ : ∃ wb, (v5.setCell ⟨g, 0, none⟩ (.int .i64 P)).setCell ⟨g, 1, none⟩ (.int .i64 Q) = wb := ⟨_, rfl⟩
      have HGW : Hid (w3.heap.size ≤ g) := Lib.hid (by have h1 := HV0.out.size; have h2 := HGG.out; omega)
      have HVb : Hid (Below w3.heap.size w3 wb) := Lib.hid (hwb ▸ (HV5.out.setCell HGW.out _).setCell HGW.out _)
      have HEb : Hid (wb.heap[g]? = some (.cells #[.int .i64 P, .int .i64 Q] 23)) := Lib.hid (by rw [← hwb]; exact heap_setCell_same _ g 1 _ 23 _ (heap_setCell_same _ g 0 _ 23 _ HE5.out))
      rw [hwb]
      have HCB : Hid (∀ V, Below wb.heap.size wb V → V.cell? ⟨g, 0, none⟩ = some (.int .i64 P) ∧ V.cell? ⟨g, 1, none⟩ = some (.int .i64 Q)) := Lib.hid (fun V hV => ⟨below_cell hV (cell_of_row wb g 0 _ 23 (0, 0) HEb.out), below_cell hV (cell_of_row wb g 1 _ 23 (0, 0) HEb.out)⟩)
      clear hwb f0 f1
      have HR0 : Hid (Below wb.heap.size wb wb.drew) := Lib.hid (below_drew (Below.refl _ _))
      have HS20 := Lib.hid (HCB.out _ HR0.out)
      have HS30 := Lib.hid (HCB.out _ (Below.refl _ _))
      clear x0 x1
      go_region_held3 (fun V => V.cell? ⟨g, 0, none⟩ = some (.int .i64 P) ∧ V.cell? ⟨g, 1, none⟩ = some (.int .i64 Q)) (first | exact HS30.out | exact HS20.out | exact HS21.out | exact HS22.out | exact HS23.out | exact HS24.out | exact HS25.out | exact HS26.out | exact HS27.out | exact HS28.out | exact HS29.out | exact HS210.out) (first
        | (go_at_call 20; (with_reducible refine Calls.mono (HX20.out _ (HVb.out.trans (HR0.out.mono HVb.out.size))) ?_); rintro e r1 ⟨rfl, hv⟩; have HR1 : Hid (Below wb.heap.size wb r1) := Lib.hid (HR0.out.trans (hv.mono HR0.out.size)); have HS21 := Lib.hid (HCB.out _ HR1.out); clear hv)
        | (go_at_call 21; (with_reducible refine Calls.mono (HX21.out _ (HVb.out.trans (HR1.out.mono HVb.out.size))) ?_); rintro e r2 ⟨rfl, hv⟩; have HR2 : Hid (Below wb.heap.size wb r2) := Lib.hid (HR1.out.trans (hv.mono HR1.out.size)); have HS22 := Lib.hid (HCB.out _ HR2.out); clear hv)
        | (go_at_call 27; (with_reducible refine Calls.mono (HX27.out _ (HVb.out.trans (HR2.out.mono HVb.out.size))) ?_); rintro e r3 ⟨rfl, hv⟩; have HR3 : Hid (Below wb.heap.size wb r3) := Lib.hid (HR2.out.trans (hv.mono HR2.out.size)); have HS23 := Lib.hid (HCB.out _ HR3.out); clear hv)
        | (go_at_call 22; (with_reducible refine Calls.mono (HX22.out _ (HVb.out.trans (HR3.out.mono HVb.out.size))) ?_); rintro e r4 ⟨rfl, hv⟩; have HR4 : Hid (Below wb.heap.size wb r4) := Lib.hid (HR3.out.trans (hv.mono HR3.out.size)); have HS24 := Lib.hid (HCB.out _ HR4.out); clear hv)
        | (go_at_call 28; (with_reducible refine Calls.mono (HX28.out _ (HVb.out.trans (HR4.out.mono HVb.out.size))) ?_); rintro e r5 ⟨rfl, hv⟩; have HR5 : Hid (Below wb.heap.size wb r5) := Lib.hid (HR4.out.trans (hv.mono HR4.out.size)); have HS25 := Lib.hid (HCB.out _ HR5.out); clear hv)
        | (go_at_call 23; (with_reducible refine Calls.mono (HX23.out _ (HVb.out.trans (HR5.out.mono HVb.out.size))) ?_); rintro e r6 ⟨rfl, hv⟩; have HR6 : Hid (Below wb.heap.size wb r6) := Lib.hid (HR5.out.trans (hv.mono HR5.out.size)); have HS26 := Lib.hid (HCB.out _ HR6.out); clear hv)
        | (go_at_call 29; (with_reducible refine Calls.mono (HX29.out _ (HVb.out.trans (HR6.out.mono HVb.out.size))) ?_); rintro e r7 ⟨rfl, hv⟩; have HR7 : Hid (Below wb.heap.size wb r7) := Lib.hid (HR6.out.trans (hv.mono HR6.out.size)); have HS27 := Lib.hid (HCB.out _ HR7.out); clear hv)
        | (go_at_call 24; (with_reducible refine Calls.mono (HX24e.out _ (HVb.out.trans (HR7.out.mono HVb.out.size))) ?_); rintro e r8 ⟨rfl, hv⟩; have HR8 : Hid (Below wb.heap.size wb r8) := Lib.hid (HR7.out.trans (hv.mono HR7.out.size)); have HS28 := Lib.hid (HCB.out _ HR8.out); clear hv)
        | (go_at_call 30; (with_reducible refine Calls.mono (HX30e.out _ (HVb.out.trans (HR8.out.mono HVb.out.size))) ?_); rintro e r9 ⟨rfl, hv⟩; have HR9 : Hid (Below wb.heap.size wb r9) := Lib.hid (HR8.out.trans (hv.mono HR8.out.size)); have HS29 := Lib.hid (HCB.out _ HR9.out); clear hv)
        | (go_at_call 26; (with_reducible refine Calls.mono (HX26.out _ (HVb.out.trans (HR9.out.mono HVb.out.size))) ?_); rintro e r10 ⟨rfl, hv⟩; have HR10 : Hid (Below wb.heap.size wb r10) := Lib.hid (HR9.out.trans (hv.mono HR9.out.size)); have HS210 := Lib.hid (HCB.out _ HR10.out); clear hv))
      go_wp2_with fail
      have HT0 : Hid (Below w3.heap.size w3 r10) := Lib.hid (HVb.out.trans (HR10.out.mono HVb.out.size))
      refine Calls.mono (HX25.out _ HT0.out) ?_
      rintro e t1 ⟨D1, m1, rfl, hd1, hv⟩
      have HT1 : Hid (Below w3.heap.size w3 t1) := Lib.hid (HT0.out.trans (hv.mono HT0.out.size))
      have HD1 := Lib.hid hd1
      clear hv hd1
      go_wp2_with fail
      refine Calls.mono (HX31.out _ HT1.out) ?_
      rintro e t2 ⟨D2, m2, rfl, hd2, hv⟩
      have HT2 : Hid (Below w3.heap.size w3 t2) := Lib.hid (HT1.out.trans (hv.mono HT1.out.size))
      have HD1B := Lib.hid (HD1.out.below hv)
      have HD2 := Lib.hid hd2
      have HOLn : Hid ((orderL us).length ≤ 10) := Lib.hid (order_few HL.out)
      clear hv hd2
      generalize orderL us = O at *
      have hol := HOLn.out
      go_wp2_with fail
      go_loopg [15] O.length (fun gk i wr => ∃ k : Nat, k ≤ O.length ∧ gk = O.length - k ∧ i = .int .i64 k ∧ Below t2.heap.size t2 wr)
      case atStart => exact ⟨0, Nat.zero_le _, rfl, rfl, Below.refl _ _⟩
      case round =>
        obtain ⟨k, hk, hgk, rfl, hbw⟩ := hrel
        have HK := Lib.hid hgk
        have HBW := Lib.hid hbw
        clear hgk hbw
        have hk0 : (0 : Int) ≤ (k : Int) := by omega
        by_cases hlt : k < O.length
        · obtain ⟨nm, hnm⟩ : ∃ nm, O[k]? = some nm := ⟨_, List.getElem?_eq_getElem hlt⟩
          have hO : O ≠ [] := fun e => by rw [e] at hlt; simp at hlt
          obtain ⟨q1, o1, rfl, _, g1⟩ := (HD1B.out.below HBW.out).get hO
          obtain ⟨q2, o2, rfl, _, g2⟩ := (HD2.out.below HBW.out).get hO
          have y1 := g1 k nm hnm
          have y2 := g2 k nm hnm
          have hk1 : (k : Int) < (O.length : Int) := by omega
          clear g1 g2 hnm hO
          go_wp2_with fail
          go_quiet (fail)
          go_wp2_with fail
          go_roundg (O.length - (k + 1))
          case measure => rw [HK.out]; omega
          case rel => exact ⟨k + 1, by omega, rfl, by go_num, below_drewN HBW.out _⟩
        · obtain rfl : k = O.length := by omega
          have HZ0 : Hid (Below w.heap.size w wr) := Lib.hid ((HB3.out.trans (HT2.out.mono HB3.out.size)).trans (HBW.out.mono (Nat.le_trans HB3.out.size HT2.out.size)))
          go_wp2_with fail
          refine Calls.mono (awake13 _ (HT.out.below HZ0.out)) ?_
          rintro e z ⟨rfl, hz⟩
          have HZ : Hid (Below w.heap.size w z) := Lib.hid (HZ0.out.trans (hz.mono HZ0.out.size))
          clear hz
          go_wp2_with fail
          go_ret
          exact ⟨rfl, HZ.out⟩
end Go.Proofs.YtkfajeicbkeigaaDoor
