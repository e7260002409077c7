/- The walk over CompactTurns. -/
import Derived.Test.YtgdljjoaiogpfaaL6
namespace Go.Proofs.Ytgdljjoaiogpfaa
open Go.RowKit Go.Maps
set_option maxRecDepth 100000 in
set_option maxHeartbeats 8000000 in
theorem turns4 {w : World} {A : Option Addr} {n c : Nat} {hs : List Hd} {B : Option Addr} {m d : Nat} {named : List Plc} (h : Hds w A n hs) (hi : ∀ x ∈ hs, (Lit.int .u32 x.id).wf = true) (hp : Pls w B m named) (hok : ∀ p ∈ named, PlcOk p)
    {GA : Option Addr} {gn gc : Nat} {gs : List Int} (hgs : Ids w GA gn gs) (hgw : ∀ g ∈ gs, (Lit.int .u32 g).wf = true) (id : Int) :
    Calls Try.prog 4 #[.slice A n c, .slice B m d, .slice GA gn gc, .int .u32 id] w fun e w' => e = .returned (.bool true) ∧ Below w.heap.size w w' := by
  have H := Lib.hid h
  have HI := Lib.hid hi
  have HP := Lib.hid hp
  have HOK := Lib.hid hok
  have HGS := Lib.hid hgs
  have HGW := Lib.hid hgw
  clear h hi hp hok hgs hgw
  have hq39 := neq39
  have hg39 := guard39
  go_enter Try.func4, Try.ntmps4
  go_wp2_with fail
  refine Calls.mono (few7 H.out B m d) ?_
  rintro e w1 ⟨⟨bf, rfl, hfew⟩, hb1⟩
  have HFEW := Lib.hid hfew
  have HB1 := Lib.hid hb1
  clear hfew hb1
  by_cases hcase : bf = true ∧ gn ≤ 20
  · obtain ⟨rfl, hgn⟩ := hcase
    obtain ⟨hn, hm, hx⟩ := HFEW.out rfl
    have HIN : Hid (∀ V, Below w.heap.size w V → InOk V A n hs B m named) := Lib.hid (fun V hV => (inOk_few H.out HI.out HP.out HOK.out hn hm hx).below hV)
    have HN12 := Lib.hid hn
    have HX20 := Lib.hid hx
    have HGN := Lib.hid hgn
    have hgi : ¬ (20 : Int) < (gn : Int) := by omega
    clear hn hm hx HFEW hgn
    go_wp2_with fail
    refine Calls.mono (succ14 (HIN.out _ HB1.out) (HGS.out.below HB1.out) HGW.out (by have := HGN.out; omega) id) ?_
    rintro e w2 ⟨v1, v2, rfl, hb2, hr1, hr2⟩
    have HB2 : Hid (Below w.heap.size w w2) := Lib.hid (HB1.out.trans (hb2.mono HB1.out.size))
    obtain ⟨L, hL⟩ : ∃ L, succTo (byAll named (okHs hs)) gs gn = L := ⟨_, rfl⟩
    have HL := Lib.hid hL
    have HLL : Hid (L.length ≤ 100000) := Lib.hid (by
      rw [← hL]
      have q := succTo_len (gs := gs) (byAll_len named (okHs hs) (fun x hx => by
        have : x ∈ hs := by unfold okHs at hx; split at hx; exact hx; simp at hx
        have := HX20.out x this
        omega)) gn
      have := HGN.out
      omega)
    rw [hL] at hr1 hr2
    obtain ⟨ln, hln⟩ : ∃ ln, L.length = ln := ⟨_, rfl⟩
    have HLN := Lib.hid hln
    rw [hln] at hr1 hr2 HLL
    obtain ⟨A1, c1, rfl⟩ := own_slice hr1
    obtain ⟨A2, c2, rfl⟩ := own_slice hr2
    have HP1 := Lib.hid (Pls.own hr1 hln)
    have HM2 := Lib.hid (Mvs.own hr2 hln)
    clear hb2 hr1 hr2 hL hln
    go_wp2_with fail
    refine Calls.mono (may10 (HIN.out _ HB2.out).hd (HIN.out _ HB2.out).lim) ?_
    rintro e w3 ⟨rfl, hb3⟩
    have HB3 : Hid (Below w.heap.size w w3) := Lib.hid (HB2.out.trans (hb3.mono HB2.out.size))
    have HP1 := Lib.hid (HP1.out.below hb3)
    have HM2 := Lib.hid (HM2.out.below hb3)
    clear hb3
    by_cases hmay : May hs
    · have HMAY := Lib.hid hmay
      have HLE : Hid (succTo (idP named hs) gs gn = L) := Lib.hid (by rw [← HL.out, okHs_yes hmay, byAll_eq hmay])
      rw [mayB_yes hmay]
      clear hmay HL
      go_wp2_with fail
      refine Calls.mono (toPls (rsucc13 (HIN.out _ HB3.out) (HGS.out.below HB3.out) (by have := HGN.out; omega))) ?_
      rintro e w4 ⟨A3, c3, rfl, hb4, hp3⟩
      rw [HLE.out, HLN.out] at hp3
      rw [HLE.out, HLN.out]
      have HB4 : Hid (Below w.heap.size w w4) := Lib.hid (HB3.out.trans (hb4.mono HB3.out.size))
      have HP1 := Lib.hid (HP1.out.below hb4)
      have HM2 := Lib.hid (HM2.out.below hb4)
      have HP3 := Lib.hid hp3
      clear hb4 hp3
      go_wp2_with fail
      refine Calls.mono (same15 HP1.out HP3.out (by have := HLL.out; omega)) ?_
      rintro e w5 ⟨rfl, hb5⟩
      rw [decide_eq_true rfl]
      have HB5 : Hid (Below w.heap.size w w5) := Lib.hid (HB4.out.trans (hb5.mono HB4.out.size))
      have HM2 := Lib.hid (HM2.out.below hb5)
      have HP3 := Lib.hid (HP3.out.below hb5)
      clear hb5 HP1
      go_wp2_with fail
      go_loopg [12] ln (fun gk i wr => ∃ (k : Nat) (nd : Nat), k ≤ ln ∧ gk = ln - k ∧ i = .int .i64 k ∧ wr = w5.drewN nd)
      case atStart => exact ⟨0, 0, Nat.zero_le _, rfl, rfl, rfl⟩
      case round =>
        obtain ⟨k, nd, hk, hgk, rfl, rfl⟩ := hrel
        have HK := Lib.hid hgk
        have hlb := HLL.out
        clear hgk
        by_cases hlt : k < ln
        · obtain ⟨x, hx⟩ : ∃ x, L[k]? = some x := ⟨L[k]'(by rw [HLN.out]; exact hlt), by simp⟩
          obtain ⟨b, rfl, _, d0, d1, d2, d3⟩ := HM2.out.2 k x hx
          obtain ⟨b', o', rfl, e0, e1⟩ := HP3.out.get hx
          have hk0 : (0 : Int) ≤ (k : Int) := by omega
          have hk1 : (k : Int) < (ln : Int) := by omega
          obtain ⟨xb, xs⟩ := x
          simp only at d0 d1 d2 d3 e0 e1
          clear hx
          go_wp2
          go_quiet (fail)
          go_wp2
          go_roundg (ln - (k + 1))
          case measure => rw [HK.out]; omega
          case rel => exact ⟨k + 1, _, by omega, rfl, by go_num, rfl⟩
        · go_wp2_with fail
          refine Calls.mono (awake8 _) ?_
          rintro e w6 ⟨rfl, hb6⟩
          go_wp2
          go_ret
          exact ⟨rfl, (below_drewN HB5.out _).trans (hb6.mono (below_drewN HB5.out _).size)⟩
    · have HL0 : Hid (ln = 0) := Lib.hid (by
        rw [← HLN.out, ← HL.out, okHs_no hmay]
        have q := succTo_le (f := byAll named []) (gs := gs) (b := 0) (fun x => by simp [byAll]) gn
        omega)
      have hl0 := HL0.out
      subst hl0
      rw [mayB_no hmay]
      clear hmay
      go_wp2_with fail
      refine Calls.mono (awake8 _) ?_
      rintro e w4 ⟨rfl, hb4⟩
      go_wp2
      go_ret
      exact ⟨rfl, HB3.out.trans (hb4.mono HB3.out.size)⟩
  · have HNO := Lib.hid hcase
    cases bf with
    | false =>
      clear hcase
      go_wp2_with fail
      refine Calls.mono (awake8 _) ?_
      rintro e w2 ⟨rfl, hb2⟩
      go_wp2
      go_ret
      exact ⟨rfl, HB1.out.trans (hb2.mono HB1.out.size)⟩
    | true =>
      have hgi : (20 : Int) < (gn : Int) := by
        have : ¬ gn ≤ 20 := fun h => hcase ⟨rfl, h⟩
        omega
      clear hcase
      go_wp2_with fail
      refine Calls.mono (awake8 _) ?_
      rintro e w2 ⟨rfl, hb2⟩
      go_wp2
      go_ret
      exact ⟨rfl, HB1.out.trans (hb2.mono HB1.out.size)⟩
end Go.Proofs.Ytgdljjoaiogpfaa
