/- The walk over CompactTells. -/
import Derived.Test.YtgdljjoaiogpfaaL4
namespace Go.Proofs.Ytgdljjoaiogpfaa
open Go.RowKit Go.Maps
set_option maxRecDepth 100000 in
set_option maxHeartbeats 8000000 in
theorem tells6 {w : World} {A : Option Addr} {n c : Nat} {hs : List Hd} {B : Option Addr} {m d : Nat} {named : List Plc} (h : Hds w A n hs) (hi : ∀ x ∈ hs, (Lit.int .u32 x.id).wf = true) (hp : Pls w B m named) (hok : ∀ p ∈ named, PlcOk p) :
    Calls Try.prog 6 #[.slice A n c, .slice B m d] w fun e w' => e = .returned (.bool true) ∧ Below w.heap.size w w' := by
  have H := Lib.hid h
  have HI := Lib.hid hi
  have HP := Lib.hid hp
  have HOK := Lib.hid hok
  clear h hi hp hok
  go_enter Try.func6, Try.ntmps6
  go_wp2_with fail
  refine Calls.mono (few7 H.out B m d) ?_
  rintro e w1 ⟨⟨bf, rfl, hfew⟩, hb1⟩
  have HFEW := Lib.hid hfew
  have HB1 := Lib.hid hb1
  clear hfew hb1
  cases bf with
  | false =>
    go_wp2_with fail
    refine Calls.mono (awake8 _) ?_
    rintro e w2 ⟨rfl, hb2⟩
    go_wp2
    go_ret
    exact ⟨rfl, HB1.out.trans (hb2.mono HB1.out.size)⟩
  | true =>
    obtain ⟨hn, hm, hx⟩ := HFEW.out rfl
    have HIN : Hid (∀ V, Below w.heap.size w V → InOk V A n hs B m named) := Lib.hid (fun V hV => (inOk_few H.out HI.out HP.out HOK.out hn hm hx).below hV)
    have HN12 := Lib.hid hn
    have HX20 := Lib.hid hx
    clear hn hm hx HFEW
    go_wp2_with fail
    refine Calls.mono (toPls (live20 (HIN.out _ HB1.out))) ?_
    rintro e w2 ⟨A2, c2, rfl, hb2, hp2⟩
    have HB2 : Hid (Below w.heap.size w w2) := Lib.hid (HB1.out.trans (hb2.mono HB1.out.size))
    have HP2 := Lib.hid hp2
    clear hb2 hp2
    go_wp2_with fail
    refine Calls.mono (toPls (dead21 (HIN.out _ HB2.out))) ?_
    rintro e w3 ⟨A3, c3, rfl, hb3, hp3⟩
    have HB3 : Hid (Below w.heap.size w w3) := Lib.hid (HB2.out.trans (hb3.mono HB2.out.size))
    have HP2 := Lib.hid (HP2.out.below hb3)
    have HP3 := Lib.hid hp3
    clear hb3 hp3
    go_wp2_with fail
    refine Calls.mono (toIds (empty22 (HIN.out _ HB3.out))) ?_
    rintro e w4 ⟨A4, c4, rfl, hb4, hp4⟩
    have HB4 : Hid (Below w.heap.size w w4) := Lib.hid (HB3.out.trans (hb4.mono HB3.out.size))
    have HP2 := Lib.hid (HP2.out.below hb4)
    have HP3 := Lib.hid (HP3.out.below hb4)
    have HP4 := Lib.hid hp4
    clear hb4 hp4
    go_wp2_with fail
    refine Calls.mono (toIds (mixed23 (HIN.out _ HB4.out))) ?_
    rintro e w5 ⟨A5, c5, rfl, hb5, hp5⟩
    have HB5 : Hid (Below w.heap.size w w5) := Lib.hid (HB4.out.trans (hb5.mono HB4.out.size))
    have HP2 := Lib.hid (HP2.out.below hb5)
    have HP3 := Lib.hid (HP3.out.below hb5)
    have HP4 := Lib.hid (HP4.out.below hb5)
    have HP5 := Lib.hid hp5
    clear hb5 hp5
    go_wp2_with fail
    refine Calls.mono (sizes18 (HIN.out _ HB5.out)) ?_
    rintro e w6 ⟨rfl, hb6⟩
    have HB6 : Hid (Below w.heap.size w w6) := Lib.hid (HB5.out.trans (hb6.mono HB5.out.size))
    have HP2 := Lib.hid (HP2.out.below hb6)
    have HP3 := Lib.hid (HP3.out.below hb6)
    have HP4 := Lib.hid (HP4.out.below hb6)
    have HP5 := Lib.hid (HP5.out.below hb6)
    clear hb6
    go_wp2_with fail
    refine Calls.mono (done19 (HIN.out _ HB6.out)) ?_
    rintro e w7 ⟨rfl, hb7⟩
    have HB7 : Hid (Below w.heap.size w w7) := Lib.hid (HB6.out.trans (hb7.mono HB6.out.size))
    have HP2 := Lib.hid (HP2.out.below hb7)
    have HP3 := Lib.hid (HP3.out.below hb7)
    have HP4 := Lib.hid (HP4.out.below hb7)
    have HP5 := Lib.hid (HP5.out.below hb7)
    clear hb7
    go_wp2_with fail
    refine Calls.mono (may10 (HIN.out _ HB7.out).hd (HIN.out _ HB7.out).lim) ?_
    rintro e w8 ⟨rfl, hb8⟩
    have HB8 : Hid (Below w.heap.size w w8) := Lib.hid (HB7.out.trans (hb8.mono HB7.out.size))
    have HP2 := Lib.hid (HP2.out.below hb8)
    have HP3 := Lib.hid (HP3.out.below hb8)
    have HP4 := Lib.hid (HP4.out.below hb8)
    have HP5 := Lib.hid (HP5.out.below hb8)
    clear hb8
    by_cases hmay : May hs
    · have HMAY := Lib.hid hmay
      have HOKH : Hid (okHs hs = hs) := Lib.hid (okHs_yes hmay)
      rw [mayB_yes hmay, HOKH.out]
      have HDE := Lib.hid (doneB_eq (named := named) hmay)
      have HCK := Lib.hid (chk_ok hmay)
      have HAB := Lib.hid (allP_both named hs)
      rw [HOKH.out] at HP2 HP3 HP4 HP5
      clear hmay
      obtain ⟨l1, hl1⟩ : ∃ l1, (allP named true hs).length = l1 := ⟨_, rfl⟩
      obtain ⟨l2, hl2⟩ : ∃ l2, (allP named false hs).length = l2 := ⟨_, rfl⟩
      obtain ⟨l3, hl3⟩ : ∃ l3, (pick isEmpty named hs).length = l3 := ⟨_, rfl⟩
      obtain ⟨l4, hl4⟩ : ∃ l4, (pick isMixed named hs).length = l4 := ⟨_, rfl⟩
      have HSN : Hid (sumN hs ≤ 240) := Lib.hid (by
        have q := sumN_le HX20.out
        have := H.out.len
        have := HN12.out
        omega)
      have HL12 : Hid (l1 ≤ 1000 ∧ l2 ≤ 1000 ∧ l3 ≤ 1000 ∧ l4 ≤ 1000) := Lib.hid (by
        have q1 := HAB.out
        have q2 := HSN.out
        have q3 := pick_len isEmpty named hs
        have q4 := pick_len isMixed named hs
        have q5 := H.out.len
        have q6 := HN12.out
        omega)
      rw [hl1] at HP2 HAB ⊢
      rw [hl2] at HP3 HAB HDE ⊢
      rw [hl3] at HP4 HDE ⊢
      rw [hl4] at HP5 ⊢
      have HL1 := Lib.hid hl1
      have HL2 := Lib.hid hl2
      have HL3 := Lib.hid hl3
      have HL4 := Lib.hid hl4
      clear hl1 hl2 hl3 hl4
      obtain ⟨S1, hS1⟩ : ∃ S1, sumB named true hs = S1 := ⟨_, rfl⟩
      obtain ⟨S2, hS2⟩ : ∃ S2, sumB named false hs = S2 := ⟨_, rfl⟩
      have HS1 := Lib.hid hS1
      have HS2 := Lib.hid hS2
      rw [hS1, hS2]
      rw [HDE.out]
      clear hS1 hS2 HDE
      go_wp2_with fail
      refine Calls.mono (rsizes25 (HIN.out _ HB8.out) HMAY.out) ?_
      rintro e w9 ⟨rfl, hb9⟩
      rw [HS1.out, HS2.out]
      have HB9 : Hid (Below w.heap.size w w9) := Lib.hid (HB8.out.trans (hb9.mono HB8.out.size))
      have HP2 := Lib.hid (HP2.out.below hb9)
      have HP3 := Lib.hid (HP3.out.below hb9)
      have HP4 := Lib.hid (HP4.out.below hb9)
      have HP5 := Lib.hid (HP5.out.below hb9)
      clear hb9
      go_wp2_with fail
      go_loopg [14, 15] n (fun gk s i wr => ∃ k : Nat, k ≤ n ∧ gk = n - k ∧ i = .int .i64 k ∧ s = .int .i64 (sumN (hs.take k) : Nat) ∧ wr = w9)
      case atStart => exact ⟨0, Nat.zero_le _, rfl, rfl, rfl, rfl⟩
      case round =>
        obtain ⟨k, hk, hgk, rfl, rfl, rfl⟩ := hrel
        have HK := Lib.hid hgk
        have hn12 := HN12.out
        clear hgk
        by_cases hlt : k < n
        · obtain ⟨x, hx⟩ : ∃ x, hs[k]? = some x := ⟨hs[k]'(by rw [H.out.len]; exact hlt), by simp⟩
          obtain ⟨b, o, rfl, d1, d2⟩ := (HIN.out _ HB9.out).hd.get hx
          have hk0 : (0 : Int) ≤ (k : Int) := by omega
          have hk1 : (k : Int) < (n : Int) := by omega
          have HTK := Lib.hid (sumN_take hx)
          have hxn := HX20.out x (List.mem_of_getElem? hx)
          have hsk : sumN (hs.take k) ≤ 20 * 12 := by
            have q := sumN_le (hs := hs.take k) (b := 20) (fun y hy => HX20.out y (List.mem_of_mem_take hy))
            have : (hs.take k).length ≤ 12 := by simp; omega
            exact Nat.le_trans q (Nat.mul_le_mul_left _ this)
          obtain ⟨sk, hskk⟩ : ∃ sk, sumN (hs.take k) = sk := ⟨_, rfl⟩
          rw [hskk] at hsk HTK ⊢
          obtain ⟨xn, hxnn⟩ : ∃ xn, x.n = xn := ⟨_, rfl⟩
          rw [hxnn] at hxn HTK d2
          clear hx hskk hxnn
          have hw : IntKind.i64.wrap ((sk : Int) + (xn : Int)) = (sk : Int) + (xn : Int) := IntWalk.i64_in _ (by omega)
          go_wp2
          go_roundg (n - (k + 1))
          case measure => rw [HK.out]; omega
          case rel => exact ⟨k + 1, by omega, rfl, by go_num, by rw [HTK.out]; push_cast; rfl, rfl⟩
        · have HT : Hid (sumN (hs.take k) = l1 + l2) := Lib.hid (by rw [List.take_of_length_le (by rw [H.out.len]; omega)]; exact HAB.out.symm)
          rw [HT.out]
          have hsw : IntKind.i64.wrap ((l1 : Int) + (l2 : Int)) = (l1 : Int) + (l2 : Int) := IntWalk.i64_in _ (by have := HL12.out; omega)
          have hk1 : ¬ (k : Int) < (n : Int) := by omega
          clear hlt
          go_wp2_with fail
          refine Calls.mono (check24 (HIN.out _ HB9.out).hd (HIN.out _ HB9.out).lim) ?_
          rintro e w10 ⟨rfl, hb10⟩
          rw [HCK.out]
          have HB10 : Hid (Below w.heap.size w w10) := Lib.hid (HB9.out.trans (hb10.mono HB9.out.size))
          have HP2 := Lib.hid (HP2.out.below hb10)
          have HP3 := Lib.hid (HP3.out.below hb10)
          have HP4 := Lib.hid (HP4.out.below hb10)
          have HP5 := Lib.hid (HP5.out.below hb10)
          clear hb10
          go_wp2_with fail
          refine Calls.mono (toPls (all26 (HIN.out _ HB10.out) false)) ?_
          rintro e w11 ⟨A11, c11, rfl, hb11, _⟩
          rw [HL2.out]
          have HB11 : Hid (Below w.heap.size w w11) := Lib.hid (HB10.out.trans (hb11.mono HB10.out.size))
          have HP2 := Lib.hid (HP2.out.below hb11)
          have HP3 := Lib.hid (HP3.out.below hb11)
          have HP4 := Lib.hid (HP4.out.below hb11)
          have HP5 := Lib.hid (HP5.out.below hb11)
          clear hb11
          by_cases h2 : l2 = 0
          · subst h2
            go_wp2_with fail
            refine Calls.mono (toIds (rempty27 (HIN.out _ HB11.out))) ?_
            rintro e w12 ⟨A12, c12, rfl, hb12, _⟩
            rw [HL3.out]
            have HB12 : Hid (Below w.heap.size w w12) := Lib.hid (HB11.out.trans (hb12.mono HB11.out.size))
            have HP2 := Lib.hid (HP2.out.below hb12)
            have HP3 := Lib.hid (HP3.out.below hb12)
            have HP4 := Lib.hid (HP4.out.below hb12)
            have HP5 := Lib.hid (HP5.out.below hb12)
            clear hb12
            by_cases h3 : l3 = 0
            · subst h3
              go_wp2_with fail
              refine Calls.mono (toPls (all26 (HIN.out _ HB12.out) true)) ?_
              rintro e v1 ⟨Aa, ca, rfl, hba, hpa⟩
              rw [HL1.out] at hpa ⊢
              have HBa : Hid (Below w.heap.size w v1) := Lib.hid (HB12.out.trans (hba.mono HB12.out.size))
              have HQ2 := Lib.hid (HP2.out.below hba)
              have HQ3 := Lib.hid (HP3.out.below hba)
              have HQ4 := Lib.hid (HP4.out.below hba)
              have HQ5 := Lib.hid (HP5.out.below hba)
              have HPa := Lib.hid hpa
              clear hba hpa HP2 HP3 HP4 HP5
              go_wp2_with fail
              refine Calls.mono (same15 HQ2.out HPa.out (by have := HL12.out; omega)) ?_
              rintro e v2 ⟨rfl, hbb⟩
              rw [decide_eq_true rfl]
              have HBb : Hid (Below w.heap.size w v2) := Lib.hid (HBa.out.trans (hbb.mono HBa.out.size))
              have HP3 := Lib.hid (HQ3.out.below hbb)
              have HP4 := Lib.hid (HQ4.out.below hbb)
              have HP5 := Lib.hid (HQ5.out.below hbb)
              clear hbb HQ2 HQ3 HQ4 HQ5 HPa
              go_wp2_with fail
              refine Calls.mono (toPls (all26 (HIN.out _ HBb.out) false)) ?_
              rintro e v3 ⟨Ab, cb, rfl, hbc, hpc⟩
              rw [HL2.out] at hpc ⊢
              have HBc : Hid (Below w.heap.size w v3) := Lib.hid (HBb.out.trans (hbc.mono HBb.out.size))
              have HQ3 := Lib.hid (HP3.out.below hbc)
              have HQ4 := Lib.hid (HP4.out.below hbc)
              have HQ5 := Lib.hid (HP5.out.below hbc)
              have HPc := Lib.hid hpc
              clear hbc hpc HP3 HP4 HP5
              go_wp2_with fail
              refine Calls.mono (same15 HQ3.out HPc.out (by have := HL12.out; omega)) ?_
              rintro e v4 ⟨rfl, hbd⟩
              rw [decide_eq_true rfl]
              have HBd : Hid (Below w.heap.size w v4) := Lib.hid (HBc.out.trans (hbd.mono HBc.out.size))
              have HP4 := Lib.hid (HQ4.out.below hbd)
              have HP5 := Lib.hid (HQ5.out.below hbd)
              clear hbd HQ3 HQ4 HQ5 HPc
              go_wp2_with fail
              refine Calls.mono (toIds (rempty27 (HIN.out _ HBd.out))) ?_
              rintro e v5 ⟨Ac, cc, rfl, hbe, hpe⟩
              rw [HL3.out] at hpe ⊢
              have HBe : Hid (Below w.heap.size w v5) := Lib.hid (HBd.out.trans (hbe.mono HBd.out.size))
              have HQ4 := Lib.hid (HP4.out.below hbe)
              have HQ5 := Lib.hid (HP5.out.below hbe)
              have HPe := Lib.hid hpe
              clear hbe hpe HP4 HP5
              go_wp2_with fail
              refine Calls.mono (sameIDs12 HQ4.out HPe.out (by have := HL12.out; omega)) ?_
              rintro e v6 ⟨rfl, hbf⟩
              rw [decide_eq_true rfl]
              have HBf : Hid (Below w.heap.size w v6) := Lib.hid (HBe.out.trans (hbf.mono HBe.out.size))
              have HP5 := Lib.hid (HQ5.out.below hbf)
              clear hbf HQ4 HQ5 HPe
              go_wp2_with fail
              refine Calls.mono (toIds (rmixed28 (HIN.out _ HBf.out))) ?_
              rintro e v7 ⟨Ad, cd, rfl, hbg, hpg⟩
              rw [HL4.out] at hpg ⊢
              have HBg : Hid (Below w.heap.size w v7) := Lib.hid (HBf.out.trans (hbg.mono HBf.out.size))
              have HQ5 := Lib.hid (HP5.out.below hbg)
              have HPg := Lib.hid hpg
              clear hbg hpg HP5
              go_wp2_with fail
              refine Calls.mono (sameIDs12 HQ5.out HPg.out (by have := HL12.out; omega)) ?_
              rintro e v8 ⟨rfl, hbh⟩
              rw [decide_eq_true rfl]
              have HBh : Hid (Below w.heap.size w v8) := Lib.hid (HBg.out.trans (hbh.mono HBg.out.size))
              clear hbh HQ5 HPg
              go_wp2_with fail
              refine Calls.mono (awake8 _) ?_
              rintro e v9 ⟨rfl, hbi⟩
              have HBi : Hid (Below w.heap.size w v9) := Lib.hid (HBh.out.trans (hbi.mono HBh.out.size))
              clear hbi
              go_wp2
              go_ret
              exact ⟨rfl, HBi.out⟩
            · have h3i : ¬ (l3 : Int) = 0 := by omega
              go_wp2_with fail
              refine Calls.mono (toPls (all26 (HIN.out _ HB12.out) true)) ?_
              rintro e v1 ⟨Aa, ca, rfl, hba, hpa⟩
              rw [HL1.out] at hpa ⊢
              have HBa : Hid (Below w.heap.size w v1) := Lib.hid (HB12.out.trans (hba.mono HB12.out.size))
              have HQ2 := Lib.hid (HP2.out.below hba)
              have HQ3 := Lib.hid (HP3.out.below hba)
              have HQ4 := Lib.hid (HP4.out.below hba)
              have HQ5 := Lib.hid (HP5.out.below hba)
              have HPa := Lib.hid hpa
              clear hba hpa HP2 HP3 HP4 HP5
              go_wp2_with fail
              refine Calls.mono (same15 HQ2.out HPa.out (by have := HL12.out; omega)) ?_
              rintro e v2 ⟨rfl, hbb⟩
              rw [decide_eq_true rfl]
              have HBb : Hid (Below w.heap.size w v2) := Lib.hid (HBa.out.trans (hbb.mono HBa.out.size))
              have HP3 := Lib.hid (HQ3.out.below hbb)
              have HP4 := Lib.hid (HQ4.out.below hbb)
              have HP5 := Lib.hid (HQ5.out.below hbb)
              clear hbb HQ2 HQ3 HQ4 HQ5 HPa
              go_wp2_with fail
              refine Calls.mono (toPls (all26 (HIN.out _ HBb.out) false)) ?_
              rintro e v3 ⟨Ab, cb, rfl, hbc, hpc⟩
              rw [HL2.out] at hpc ⊢
              have HBc : Hid (Below w.heap.size w v3) := Lib.hid (HBb.out.trans (hbc.mono HBb.out.size))
              have HQ3 := Lib.hid (HP3.out.below hbc)
              have HQ4 := Lib.hid (HP4.out.below hbc)
              have HQ5 := Lib.hid (HP5.out.below hbc)
              have HPc := Lib.hid hpc
              clear hbc hpc HP3 HP4 HP5
              go_wp2_with fail
              refine Calls.mono (same15 HQ3.out HPc.out (by have := HL12.out; omega)) ?_
              rintro e v4 ⟨rfl, hbd⟩
              rw [decide_eq_true rfl]
              have HBd : Hid (Below w.heap.size w v4) := Lib.hid (HBc.out.trans (hbd.mono HBc.out.size))
              have HP4 := Lib.hid (HQ4.out.below hbd)
              have HP5 := Lib.hid (HQ5.out.below hbd)
              clear hbd HQ3 HQ4 HQ5 HPc
              go_wp2_with fail
              refine Calls.mono (toIds (rempty27 (HIN.out _ HBd.out))) ?_
              rintro e v5 ⟨Ac, cc, rfl, hbe, hpe⟩
              rw [HL3.out] at hpe ⊢
              have HBe : Hid (Below w.heap.size w v5) := Lib.hid (HBd.out.trans (hbe.mono HBd.out.size))
              have HQ4 := Lib.hid (HP4.out.below hbe)
              have HQ5 := Lib.hid (HP5.out.below hbe)
              have HPe := Lib.hid hpe
              clear hbe hpe HP4 HP5
              go_wp2_with fail
              refine Calls.mono (sameIDs12 HQ4.out HPe.out (by have := HL12.out; omega)) ?_
              rintro e v6 ⟨rfl, hbf⟩
              rw [decide_eq_true rfl]
              have HBf : Hid (Below w.heap.size w v6) := Lib.hid (HBe.out.trans (hbf.mono HBe.out.size))
              have HP5 := Lib.hid (HQ5.out.below hbf)
              clear hbf HQ4 HQ5 HPe
              go_wp2_with fail
              refine Calls.mono (toIds (rmixed28 (HIN.out _ HBf.out))) ?_
              rintro e v7 ⟨Ad, cd, rfl, hbg, hpg⟩
              rw [HL4.out] at hpg ⊢
              have HBg : Hid (Below w.heap.size w v7) := Lib.hid (HBf.out.trans (hbg.mono HBf.out.size))
              have HQ5 := Lib.hid (HP5.out.below hbg)
              have HPg := Lib.hid hpg
              clear hbg hpg HP5
              go_wp2_with fail
              refine Calls.mono (sameIDs12 HQ5.out HPg.out (by have := HL12.out; omega)) ?_
              rintro e v8 ⟨rfl, hbh⟩
              rw [decide_eq_true rfl]
              have HBh : Hid (Below w.heap.size w v8) := Lib.hid (HBg.out.trans (hbh.mono HBg.out.size))
              clear hbh HQ5 HPg
              go_wp2_with fail
              refine Calls.mono (awake8 _) ?_
              rintro e v9 ⟨rfl, hbi⟩
              have HBi : Hid (Below w.heap.size w v9) := Lib.hid (HBh.out.trans (hbi.mono HBh.out.size))
              clear hbi
              go_wp2
              go_ret
              exact ⟨rfl, HBi.out⟩
          · have h2i : ¬ (l2 : Int) = 0 := by omega
            go_wp2_with fail
            refine Calls.mono (toPls (all26 (HIN.out _ HB11.out) true)) ?_
            rintro e v1 ⟨Aa, ca, rfl, hba, hpa⟩
            rw [HL1.out] at hpa ⊢
            have HBa : Hid (Below w.heap.size w v1) := Lib.hid (HB11.out.trans (hba.mono HB11.out.size))
            have HQ2 := Lib.hid (HP2.out.below hba)
            have HQ3 := Lib.hid (HP3.out.below hba)
            have HQ4 := Lib.hid (HP4.out.below hba)
            have HQ5 := Lib.hid (HP5.out.below hba)
            have HPa := Lib.hid hpa
            clear hba hpa HP2 HP3 HP4 HP5
            go_wp2_with fail
            refine Calls.mono (same15 HQ2.out HPa.out (by have := HL12.out; omega)) ?_
            rintro e v2 ⟨rfl, hbb⟩
            rw [decide_eq_true rfl]
            have HBb : Hid (Below w.heap.size w v2) := Lib.hid (HBa.out.trans (hbb.mono HBa.out.size))
            have HP3 := Lib.hid (HQ3.out.below hbb)
            have HP4 := Lib.hid (HQ4.out.below hbb)
            have HP5 := Lib.hid (HQ5.out.below hbb)
            clear hbb HQ2 HQ3 HQ4 HQ5 HPa
            go_wp2_with fail
            refine Calls.mono (toPls (all26 (HIN.out _ HBb.out) false)) ?_
            rintro e v3 ⟨Ab, cb, rfl, hbc, hpc⟩
            rw [HL2.out] at hpc ⊢
            have HBc : Hid (Below w.heap.size w v3) := Lib.hid (HBb.out.trans (hbc.mono HBb.out.size))
            have HQ3 := Lib.hid (HP3.out.below hbc)
            have HQ4 := Lib.hid (HP4.out.below hbc)
            have HQ5 := Lib.hid (HP5.out.below hbc)
            have HPc := Lib.hid hpc
            clear hbc hpc HP3 HP4 HP5
            go_wp2_with fail
            refine Calls.mono (same15 HQ3.out HPc.out (by have := HL12.out; omega)) ?_
            rintro e v4 ⟨rfl, hbd⟩
            rw [decide_eq_true rfl]
            have HBd : Hid (Below w.heap.size w v4) := Lib.hid (HBc.out.trans (hbd.mono HBc.out.size))
            have HP4 := Lib.hid (HQ4.out.below hbd)
            have HP5 := Lib.hid (HQ5.out.below hbd)
            clear hbd HQ3 HQ4 HQ5 HPc
            go_wp2_with fail
            refine Calls.mono (toIds (rempty27 (HIN.out _ HBd.out))) ?_
            rintro e v5 ⟨Ac, cc, rfl, hbe, hpe⟩
            rw [HL3.out] at hpe ⊢
            have HBe : Hid (Below w.heap.size w v5) := Lib.hid (HBd.out.trans (hbe.mono HBd.out.size))
            have HQ4 := Lib.hid (HP4.out.below hbe)
            have HQ5 := Lib.hid (HP5.out.below hbe)
            have HPe := Lib.hid hpe
            clear hbe hpe HP4 HP5
            go_wp2_with fail
            refine Calls.mono (sameIDs12 HQ4.out HPe.out (by have := HL12.out; omega)) ?_
            rintro e v6 ⟨rfl, hbf⟩
            rw [decide_eq_true rfl]
            have HBf : Hid (Below w.heap.size w v6) := Lib.hid (HBe.out.trans (hbf.mono HBe.out.size))
            have HP5 := Lib.hid (HQ5.out.below hbf)
            clear hbf HQ4 HQ5 HPe
            go_wp2_with fail
            refine Calls.mono (toIds (rmixed28 (HIN.out _ HBf.out))) ?_
            rintro e v7 ⟨Ad, cd, rfl, hbg, hpg⟩
            rw [HL4.out] at hpg ⊢
            have HBg : Hid (Below w.heap.size w v7) := Lib.hid (HBf.out.trans (hbg.mono HBf.out.size))
            have HQ5 := Lib.hid (HP5.out.below hbg)
            have HPg := Lib.hid hpg
            clear hbg hpg HP5
            go_wp2_with fail
            refine Calls.mono (sameIDs12 HQ5.out HPg.out (by have := HL12.out; omega)) ?_
            rintro e v8 ⟨rfl, hbh⟩
            rw [decide_eq_true rfl]
            have HBh : Hid (Below w.heap.size w v8) := Lib.hid (HBg.out.trans (hbh.mono HBg.out.size))
            clear hbh HQ5 HPg
            go_wp2_with fail
            refine Calls.mono (awake8 _) ?_
            rintro e v9 ⟨rfl, hbi⟩
            have HBi : Hid (Below w.heap.size w v9) := Lib.hid (HBh.out.trans (hbi.mono HBh.out.size))
            clear hbi
            go_wp2
            go_ret
            exact ⟨rfl, HBi.out⟩
    · have HOKH : Hid (okHs hs = []) := Lib.hid (okHs_no hmay)
      rw [mayB_no hmay, HOKH.out]
      have hdn : doneB named hs = false := doneB_no fun hh => hmay hh.1
      rw [hdn]
      have HCK := Lib.hid (chk_no hmay)
      clear hmay hdn HP2 HP3 HP4 HP5
      simp only [allP, pick, sumB, List.flatMap_nil, List.filter_nil, List.length_nil]
      go_wp2_with fail
      refine Calls.mono (check24 (HIN.out _ HB8.out).hd (HIN.out _ HB8.out).lim) ?_
      rintro e w9 ⟨rfl, hb9⟩
      rw [HCK.out]
      have HB9 : Hid (Below w.heap.size w w9) := Lib.hid (HB8.out.trans (hb9.mono HB8.out.size))
      clear hb9
      go_wp2_with fail
      refine Calls.mono (awake8 _) ?_
      rintro e w10 ⟨rfl, hb10⟩
      have HB10 : Hid (Below w.heap.size w w10) := Lib.hid (HB9.out.trans (hb10.mono HB9.out.size))
      clear hb10
      go_wp2
      go_ret
      exact ⟨rfl, HB10.out⟩
end Go.Proofs.Ytgdljjoaiogpfaa
