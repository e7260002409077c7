/- The reference's cover. -/
import Derived.Test.YtijdkgklajdbnaaAE
namespace Go.Proofs.Ytijdkgklajdbnaa
open Go.RowKit
set_option maxRecDepth 100000 in
set_option maxHeartbeats 2000000 in
theorem cover17 {A A2 B : Option Addr} {c c2 d : Nat} {hs : List Fp} {l0 : List Lst} {ch : List Id} {w : World} (hh : Fps w A hs) (hl0 : Ls w A2 l0) (ha : AllFp hs) (hn : hs.length ≤ 1000) (hc : Ids w B ch) (hm0 : ∀ x ∈ l0, x.l.length ≤ 1000000) (hch : ch.length ≤ 1000000) :
    Calls Try.prog 17 #[.slice A hs.length c, .slice A2 l0.length c2, .slice B ch.length d] w fun e w' => e = .returned (.int .i64 (coverN (ids (toldL hs l0)) ch : Nat)) ∧ Below w.heap.size w w' := by
  have HTO := Lib.hid (told31 (c := c) (d := c2) hh hl0 ha hn)
  have hn : (toldL hs l0).length ≤ 1000 := by have := told_len hs l0; have := setF_len hs; omega
  have hm : ∀ x ∈ toldL hs l0, x.l.length ≤ 1000000 := fun x hx => by
    obtain ⟨y, _, rfl⟩ := List.mem_map.1 hx
    rcases listG_in (hs := hs) (ls := l0) (x := y) with e | e
    · rw [e]; exact Nat.zero_le _
    · exact hm0 _ e
  generalize toldL hs l0 = ls at *
  have HCH := Lib.hid hc
  have HM := Lib.hid hm
  have HSC : Hid (∀ (k : Nat) (x : List Id), (ids ls)[k]? = some x → ((ids ls).take (k + 1)).countP ((fun l => covB l ch)) = ((ids ls).take k).countP ((fun l => covB l ch)) + (if (fun l => covB l ch) x then 1 else 0)) := Lib.hid (fun k x h => count_take h)
  have HLE : Hid (∀ k, ((ids ls).take k).countP ((fun l => covB l ch)) ≤ 1000) := Lib.hid (fun k => by
    have := count_le (p := (fun l => covB l ch)) (ids ls) k
    rw [ids_len] at this
    omega)
  have HS0 : Hid (((ids ls).take 0).countP ((fun l => covB l ch)) = 0) := Lib.hid (by simp)
  have HSE : Hid (((ids ls).take ls.length).countP ((fun l => covB l ch)) = coverN (ids ls) ch) := Lib.hid (by rw [← ids_len ls, List.take_length]; rfl)
  generalize coverN (ids ls) ch = R at *
  generalize hF : (fun k => ((ids ls).take k).countP ((fun l => covB l ch))) = F at *
  have HFE : Hid (∀ k, ((ids ls).take k).countP ((fun l => covB l ch)) = F k) := Lib.hid (fun k => by rw [← hF])
  have HF0 : Hid (F 0 = 0) := Lib.hid (by rw [← HFE.out]; exact HS0.out)
  have HFS : Hid (∀ (k : Nat) (x : List Id), (ids ls)[k]? = some x → F (k + 1) = F k + (if (fun l => covB l ch) x then 1 else 0)) := Lib.hid (fun k x h => by rw [← HFE.out, ← HFE.out]; exact HSC.out k x h)
  have HFL : Hid (∀ k, F k ≤ 1000) := Lib.hid (fun k => by rw [← HFE.out]; exact HLE.out k)
  have HFR : Hid (F ls.length = R) := Lib.hid (by rw [← HFE.out]; exact HSE.out)
  clear hh hl0 ha hm0 hc hm HSC HLE HS0 HSE hF HFE
  go_enter Try.func17, Try.ntmps17
  go_wp2_with fail
  refine Calls.mono HTO.out ?_
  rintro e w0 ⟨TA, tc, rfl, hls, _, hb0⟩
  have H := Lib.hid hls
  have HB0 := Lib.hid hb0
  have HCH0 := Lib.hid (HCH.out.below hb0)
  clear hls hb0
  go_wp2_with fail
  go_loopg [7, 9] ls.length (fun gk r i wr => ∃ k : Nat, k ≤ ls.length ∧ gk = ls.length - k ∧ i = .int .i64 k ∧ r = .int .i64 (F k : Nat) ∧ (∃ q, wr = w0.drewN q))
  case atStart => exact ⟨0, Nat.zero_le _, rfl, rfl, by rw [HF0.out]; rfl, ⟨0, rfl⟩⟩
  case round =>
    obtain ⟨k, hk, hgk, rfl, rfl, ⟨q, hw⟩⟩ := hrel
    have HK := Lib.hid hgk
    have HW := Lib.hid hw
    have HBW : Hid (Below w0.heap.size w0 wr) := Lib.hid (by rw [hw]; exact below_drewN (Below.refl _ _) q)
    clear hgk hw
    have hk0 : (0 : Int) ≤ (k : Int) := by omega
    by_cases hlt : k < ls.length
    · obtain ⟨x, hx⟩ : ∃ x, ls[k]? = some x := ⟨_, List.getElem?_eq_getElem hlt⟩
      obtain ⟨b, o, rfl, _, hcell, hli, _⟩ := (H.out.below HBW.out).get hx
      have HLI0 := Lib.hid hli
      have HFK := Lib.hid (HFS.out k x.l (ids_get hx))
      have HLN := Lib.hid (HM.out x (List.mem_of_getElem? hx))
      have HCHW := Lib.hid (HCH0.out.below HBW.out)
      have hfk := HFL.out k
      have hk1 : (k : Int) < (ls.length : Int) := by omega
      obtain ⟨lA, lc, l⟩ := x
      simp only at *
      clear hx hli
      go_wp2_with fail
      obtain ⟨wo, hwo⟩ : ∃ wo, wr = wo := ⟨_, rfl⟩
      rw [hwo] at HLI0 HCHW hcell ⊢
      have HWO : Hid (wo = w0.drewN q) := Lib.hid (by rw [← hwo]; exact HW.out)
      have HLC := Lib.hid hcell
      have HLI := HLI0
      clear hwo hcell
      go_loopg [10, 11] ch.length (fun gj cv jj wq => ∃ j : Nat, j ≤ ch.length ∧ gj = ch.length - j ∧ jj = .int .i64 j ∧ cv = .bool (covT l ch j) ∧ (∃ q, wq = wo.drewN q))
      case atStart => exact ⟨0, Nat.zero_le _, rfl, rfl, rfl, ⟨0, rfl⟩⟩
      case round =>
        obtain ⟨j, hj, hgj, rfl, rfl, ⟨q2, hw2⟩⟩ := hrel
        have HJ := Lib.hid hgj
        have HW2 := Lib.hid hw2
        have HCV : Hid (∀ m, Ids (wr.drewN m) lA l) := Lib.hid (fun m => by rw [hw2]; exact fun hne => HLI.out hne)
        have HCL : Hid (∀ m, (wr.drewN m).cell? ⟨b, o + k, none⟩ = some (.slice lA l.length lc)) := Lib.hid (fun m => by rw [hw2]; exact HLC.out)
        clear hgj hw2
        have hj0 : (0 : Int) ≤ (j : Int) := by omega
        by_cases hltj : j < ch.length
        · obtain ⟨y, hy⟩ : ∃ y, ch[j]? = some y := ⟨_, List.getElem?_eq_getElem hltj⟩
          obtain ⟨cb, co, rfl, _, hcc⟩ := HCHW.out.get hy
          have HSTJ := Lib.hid (covT_step (l := l) hy)
          have c1 : wr.cell? ⟨b, o + k, none⟩ = some (.slice lA l.length lc) := HCL.out 0
          have c2 : wr.cell? ⟨cb, co + j, none⟩ = some (.int .u32 y) := by rw [HW2.out]; exact hcc
          have HC33 := Lib.hid (fun m => has33 (c := lc) (x := y) (HCV.out m) HLN.out)
          have hj1 : (j : Int) < (ch.length : Int) := by omega
          clear hy hcc
          cases hcv : covT l ch j
          case true =>
            have HE : Hid (covT l ch (j + 1) = true) := Lib.hid (by rw [HSTJ.out, hcv]; rfl)
            clear hcv
            go_wp2_with fail
            go_quiet (fail)
            go_wp2_with fail
            go_roundg (ch.length - (j + 1))
            case measure => rw [HJ.out]; omega
            case rel => exact ⟨j + 1, by omega, rfl, by go_num, by rw [HE.out], ⟨q2 + nq, by rw [HW2.out, World.drewN_drewN]⟩⟩
          case false =>
            have HE : Hid (covT l ch (j + 1) = decide (y ∈ l)) := Lib.hid (by rw [HSTJ.out, hcv]; rfl)
            clear hcv
            generalize decide (y ∈ l) = r at *
            go_wp2_with fail
            go_quiet ((go_at_call 33; refine Calls.quiet_of_same (HC33.out _)))
            go_wp2_with fail
            go_roundg (ch.length - (j + 1))
            case measure => rw [HJ.out]; omega
            case rel => exact ⟨j + 1, by omega, rfl, by go_num, by rw [HE.out], ⟨q2 + nq, by rw [HW2.out, World.drewN_drewN]⟩⟩
        · obtain rfl : j = ch.length := by omega
          rw [covT_all] at *
          have HLCZ : Hid (wr.cell? ⟨b, o + k, none⟩ = some (.slice lA l.length lc)) := Lib.hid (HCL.out 0)
          have cz := HLCZ.out
          cases hcv : covB l ch
          case true =>
            have HE : Hid (F (k + 1) = F k + 1) := Lib.hid (by rw [HFK.out]; simp [hcv])
            clear hcv
            go_wp2_with fail
            go_roundg (ls.length - (k + 1))
            case measure => rw [HK.out]; omega
            case rel => exact ⟨k + 1, by omega, rfl, by go_num, by rw [HE.out]; go_num, ⟨q + q2, by rw [HW2.out, HWO.out, World.drewN_drewN]⟩⟩
          case false =>
            have HE : Hid (F (k + 1) = F k) := Lib.hid (by rw [HFK.out]; simp [hcv])
            clear hcv
            go_wp2_with fail
            go_roundg (ls.length - (k + 1))
            case measure => rw [HK.out]; omega
            case rel => exact ⟨k + 1, by omega, rfl, by go_num, by rw [HE.out], ⟨q + q2, by rw [HW2.out, HWO.out, World.drewN_drewN]⟩⟩
    · obtain rfl : k = ls.length := by omega
      rw [HFR.out] at *
      go_wp2_with fail
      go_ret
      exact ⟨rfl, by rw [HW.out]; exact below_drewN HB0.out q⟩
end Go.Proofs.Ytijdkgklajdbnaa
