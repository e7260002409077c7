/- Scores, and covers. -/
import Derived.Test.YtijdkgklajdbnaaAD
namespace Go.Proofs.Ytijdkgklajdbnaa
open Go.RowKit
def covB (l ch : List Id) : Bool := ch.any fun x => decide (x ∈ l)
def scoreB (man : Id) (ch l : List Id) : Bool := !covB l ch && decide (man ∈ l)
def scoreN (L : List (List Id)) (man : Id) (ch : List Id) : Nat := L.countP (scoreB man ch)
def coverN (L : List (List Id)) (ch : List Id) : Nat := L.countP fun l => covB l ch
theorem any_take {p : Id → Bool} {l : List Id} {k : Nat} {x : Id} (h : l[k]? = some x) : (l.take (k + 1)).any p = ((l.take k).any p || p x) := by
  rw [List.take_add_one, h, List.any_append]
  simp
theorem count_take {p : List Id → Bool} {L : List (List Id)} {k : Nat} {x : List Id} (h : L[k]? = some x) : (L.take (k + 1)).countP p = (L.take k).countP p + (if p x then 1 else 0) := by
  rw [List.take_add_one, h, List.countP_append]
  simp [List.countP_cons]
theorem count_le {p : List Id → Bool} (L : List (List Id)) (k : Nat) : (L.take k).countP p ≤ L.length := Nat.le_trans (List.countP_le_length) (by rw [List.length_take]; omega)
/-- the inner loop's word -/
def covT (l ch : List Id) (j : Nat) : Bool := (ch.take j).any fun x => decide (x ∈ l)
theorem covT_step {l ch : List Id} {j : Nat} {x : Id} (h : ch[j]? = some x) : covT l ch (j + 1) = (covT l ch j || decide (x ∈ l)) := any_take h
theorem covT_all (l ch : List Id) : covT l ch ch.length = covB l ch := by unfold covT covB; rw [List.take_length]
set_option maxRecDepth 100000 in
set_option maxHeartbeats 2000000 in
theorem score30 {A B : Option Addr} {c d : Nat} {ls : List Lst} {man : Id} {ch : List Id} {w : World} (h : Ls w A ls) (hc : Ids w B ch) (hn : ls.length ≤ 1000) (hm : ∀ x ∈ ls, x.l.length ≤ 1000000) (hch : ch.length ≤ 1000000) :
    Calls Try.prog 30 #[.slice A ls.length c, .int .u32 man, .slice B ch.length d] w fun e w' => e = .returned (.int .i64 (scoreN (ids ls) man ch : Nat)) ∧ ∃ q, w' = w.drewN q := by
  have H := Lib.hid h
  have HCH := Lib.hid hc
  have HM := Lib.hid hm
  have HSC : Hid (∀ (k : Nat) (x : List Id), (ids ls)[k]? = some x → ((ids ls).take (k + 1)).countP (scoreB man ch) = ((ids ls).take k).countP (scoreB man ch) + (if scoreB man ch x then 1 else 0)) := Lib.hid (fun k x h => count_take h)
  have HLE : Hid (∀ k, ((ids ls).take k).countP (scoreB man ch) ≤ 1000) := Lib.hid (fun k => by
    have := count_le (p := scoreB man ch) (ids ls) k
    rw [ids_len] at this
    omega)
  have HS0 : Hid (((ids ls).take 0).countP (scoreB man ch) = 0) := Lib.hid (by simp)
  have HSE : Hid (((ids ls).take ls.length).countP (scoreB man ch) = scoreN (ids ls) man ch) := Lib.hid (by rw [← ids_len ls, List.take_length]; rfl)
  have HSB : Hid (∀ x, scoreB man ch x = (!covB x ch && decide (man ∈ x))) := Lib.hid (fun x => rfl)
  generalize scoreN (ids ls) man ch = R at *
  generalize hF : (fun k => ((ids ls).take k).countP (scoreB man ch)) = F at *
  have HFE : Hid (∀ k, ((ids ls).take k).countP (scoreB man ch) = F k) := Lib.hid (fun k => by rw [← hF])
  have HF0 : Hid (F 0 = 0) := Lib.hid (by rw [← HFE.out]; exact HS0.out)
  have HFS : Hid (∀ (k : Nat) (x : List Id), (ids ls)[k]? = some x → F (k + 1) = F k + (if scoreB man ch x then 1 else 0)) := Lib.hid (fun k x h => by rw [← HFE.out, ← HFE.out]; exact HSC.out k x h)
  have HFL : Hid (∀ k, F k ≤ 1000) := Lib.hid (fun k => by rw [← HFE.out]; exact HLE.out k)
  have HFR : Hid (F ls.length = R) := Lib.hid (by rw [← HFE.out]; exact HSE.out)
  clear h hc hm HSC HLE HS0 HSE hF HFE
  go_enter Try.func30, Try.ntmps30
  go_wp2_with fail
  go_loopg [7, 8] ls.length (fun gk r i wr => ∃ k : Nat, k ≤ ls.length ∧ gk = ls.length - k ∧ i = .int .i64 k ∧ r = .int .i64 (F k : Nat) ∧ (∃ q, wr = w.drewN q))
  case atStart => exact ⟨0, Nat.zero_le _, rfl, rfl, by rw [HF0.out]; rfl, ⟨0, rfl⟩⟩
  case round =>
    obtain ⟨k, hk, hgk, rfl, rfl, ⟨q, hw⟩⟩ := hrel
    have HK := Lib.hid hgk
    have HW := Lib.hid hw
    have HBW : Hid (Below w.heap.size w wr) := Lib.hid (by rw [hw]; exact below_drewN (Below.refl _ _) q)
    clear hgk hw
    have hk0 : (0 : Int) ≤ (k : Int) := by omega
    by_cases hlt : k < ls.length
    · obtain ⟨x, hx⟩ : ∃ x, ls[k]? = some x := ⟨_, List.getElem?_eq_getElem hlt⟩
      obtain ⟨b, o, rfl, _, hcell, hli, _⟩ := (H.out.below HBW.out).get hx
      have HLI0 := Lib.hid hli
      have HFK := Lib.hid (HFS.out k x.l (ids_get hx))
      have HLN := Lib.hid (HM.out x (List.mem_of_getElem? hx))
      have HCHW := Lib.hid (HCH.out.below HBW.out)
      have hfk := HFL.out k
      have hk1 : (k : Int) < (ls.length : Int) := by omega
      obtain ⟨lA, lc, l⟩ := x
      simp only at *
      clear hx hli
      go_wp2_with fail
      obtain ⟨wo, hwo⟩ : ∃ wo, wr = wo := ⟨_, rfl⟩
      rw [hwo] at HLI0 HCHW hcell ⊢
      have HWO : Hid (wo = w.drewN q) := Lib.hid (by rw [← hwo]; exact HW.out)
      have HLC := Lib.hid hcell
      have HLI := HLI0
      clear hwo hcell
      go_loopg [9, 10] ch.length (fun gj cv jj wq => ∃ j : Nat, j ≤ ch.length ∧ gj = ch.length - j ∧ jj = .int .i64 j ∧ cv = .bool (covT l ch j) ∧ (∃ q, wq = wo.drewN q))
      case atStart => exact ⟨0, Nat.zero_le _, rfl, rfl, rfl, ⟨0, rfl⟩⟩
      case round =>
        obtain ⟨j, hj, hgj, rfl, rfl, ⟨q2, hw2⟩⟩ := hrel
        have HJ := Lib.hid hgj
        have HW2 := Lib.hid hw2
        have HCV : Hid (∀ m, Ids (wr.drewN m) lA l) := Lib.hid (fun m => by rw [hw2]; exact fun hne => HLI.out hne)
        have HCL : Hid (∀ m, (wr.drewN m).cell? ⟨b, o + k, none⟩ = some (.slice lA l.length lc)) := Lib.hid (fun m => by rw [hw2]; exact HLC.out)
        clear hgj hw2
        have hj0 : (0 : Int) ≤ (j : Int) := by omega
        by_cases hltj : j < ch.length
        · obtain ⟨y, hy⟩ : ∃ y, ch[j]? = some y := ⟨_, List.getElem?_eq_getElem hltj⟩
          obtain ⟨cb, co, rfl, _, hcc⟩ := HCHW.out.get hy
          have HSTJ := Lib.hid (covT_step (l := l) hy)
          have c1 : wr.cell? ⟨b, o + k, none⟩ = some (.slice lA l.length lc) := HCL.out 0
          have c2 : wr.cell? ⟨cb, co + j, none⟩ = some (.int .u32 y) := by rw [HW2.out]; exact hcc
          have HC33 := Lib.hid (fun m => has33 (c := lc) (x := y) (HCV.out m) HLN.out)
          have hj1 : (j : Int) < (ch.length : Int) := by omega
          clear hy hcc
          cases hcv : covT l ch j
          case true =>
            have HE : Hid (covT l ch (j + 1) = true) := Lib.hid (by rw [HSTJ.out, hcv]; rfl)
            clear hcv
            go_wp2_with fail
            go_quiet (fail)
            go_wp2_with fail
            go_roundg (ch.length - (j + 1))
            case measure => rw [HJ.out]; omega
            case rel => exact ⟨j + 1, by omega, rfl, by go_num, by rw [HE.out], ⟨q2 + nq, by rw [HW2.out, World.drewN_drewN]⟩⟩
          case false =>
            have HE : Hid (covT l ch (j + 1) = decide (y ∈ l)) := Lib.hid (by rw [HSTJ.out, hcv]; rfl)
            clear hcv
            generalize decide (y ∈ l) = r at *
            go_wp2_with fail
            go_quiet ((go_at_call 33; refine Calls.quiet_of_same (HC33.out _)))
            go_wp2_with fail
            go_roundg (ch.length - (j + 1))
            case measure => rw [HJ.out]; omega
            case rel => exact ⟨j + 1, by omega, rfl, by go_num, by rw [HE.out], ⟨q2 + nq, by rw [HW2.out, World.drewN_drewN]⟩⟩
        · obtain rfl : j = ch.length := by omega
          rw [covT_all] at *
          have HLCZ : Hid (wr.cell? ⟨b, o + k, none⟩ = some (.slice lA l.length lc)) := Lib.hid (HCL.out 0)
          have cz := HLCZ.out
          have HCM := Lib.hid (has33 (c := lc) (x := man) (w := wr) (HCV.out 0) HLN.out)
          cases hcv : covB l ch
          case true =>
            have HE : Hid (F (k + 1) = F k) := Lib.hid (by rw [HFK.out, HSB.out, hcv]; simp)
            clear hcv
            go_wp2_with fail
            go_roundg (ls.length - (k + 1))
            case measure => rw [HK.out]; omega
            case rel => exact ⟨k + 1, by omega, rfl, by go_num, by rw [HE.out], ⟨q + q2, by rw [HW2.out, HWO.out, World.drewN_drewN]⟩⟩
          case false =>
            cases hmn : decide (man ∈ l)
            case true =>
              have HE : Hid (F (k + 1) = F k + 1) := Lib.hid (by rw [HFK.out, HSB.out, hcv, hmn]; simp)
              rw [hmn] at HCM
              clear hcv hmn
              go_wp2_with fail
              refine Calls.mono HCM.out ?_
              rintro e w3 ⟨rfl, rfl⟩
              go_wp2_with fail
              go_roundg (ls.length - (k + 1))
              case measure => rw [HK.out]; omega
              case rel => exact ⟨k + 1, by omega, rfl, by go_num, by rw [HE.out]; go_num, ⟨q + q2, by rw [HW2.out, HWO.out, World.drewN_drewN]⟩⟩
            case false =>
              have HE : Hid (F (k + 1) = F k) := Lib.hid (by rw [HFK.out, HSB.out, hcv, hmn]; simp)
              rw [hmn] at HCM
              clear hcv hmn
              go_wp2_with fail
              refine Calls.mono HCM.out ?_
              rintro e w3 ⟨rfl, rfl⟩
              go_wp2_with fail
              go_roundg (ls.length - (k + 1))
              case measure => rw [HK.out]; omega
              case rel => exact ⟨k + 1, by omega, rfl, by go_num, by rw [HE.out], ⟨q + q2, by rw [HW2.out, HWO.out, World.drewN_drewN]⟩⟩
    · obtain rfl : k = ls.length := by omega
      rw [HFR.out] at *
      go_wp2_with fail
      go_ret
      exact ⟨rfl, q, HW.out⟩
end Go.Proofs.Ytijdkgklajdbnaa
