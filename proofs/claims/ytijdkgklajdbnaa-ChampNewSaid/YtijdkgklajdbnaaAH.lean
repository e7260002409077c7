/- The best of some numbers. -/
import Derived.Test.YtijdkgklajdbnaaAG
namespace Go.Proofs.Ytijdkgklajdbnaa
open Go.RowKit
def bestS (sc : Id → Nat) (a : Id × Nat) (x : Id) : Id × Nat := if sc x > a.2 ∨ (sc x = a.2 ∧ sc x > 0 ∧ x > a.1) then (x, sc x) else a
def bestN (sc : Id → Nat) (of : List Id) : Id × Nat := of.foldl (bestS sc) (0, 0)
theorem best_step {sc : Id → Nat} {of : List Id} {k : Nat} {x : Id} (h : of[k]? = some x) : bestN sc (of.take (k + 1)) = bestS sc (bestN sc (of.take k)) x := by
  rw [List.take_add_one, h]
  simp [bestN, List.foldl_append]
theorem bestS_le {sc : Id → Nat} {B : Nat} (h : ∀ x, sc x ≤ B) (a : Id × Nat) (x : Id) (ha : a.2 ≤ B) : (bestS sc a x).2 ≤ B := by
  unfold bestS
  split
  · exact h x
  · exact ha
theorem best_le {sc : Id → Nat} {B : Nat} (h : ∀ x, sc x ≤ B) (of : List Id) : (bestN sc of).2 ≤ B := by
  have key : ∀ (l : List Id) (a : Id × Nat), a.2 ≤ B → (l.foldl (bestS sc) a).2 ≤ B := fun l => by
    induction l with
    | nil => exact fun a ha => ha
    | cons x l ih => exact fun a ha => ih _ (bestS_le h a x ha)
  exact key of _ (Nat.zero_le _)
set_option maxRecDepth 100000 in
set_option maxHeartbeats 2000000 in
theorem best36 {A B C : Option Addr} {c d q : Nat} {ls : List Lst} {of ch : List Id} {w : World} (h : Ls w A ls) (ho : Ids w B of) (hc : Ids w C ch) (hn : ls.length ≤ 1000) (hm : ∀ x ∈ ls, x.l.length ≤ 1000000) (hch : ch.length ≤ 1000000) (hof : of.length ≤ 1000000) :
    Calls Try.prog 36 #[.slice A ls.length c, .slice B of.length d, .slice C ch.length q] w fun e w' => e = .returned (.tuple #[.int .u32 (bestN (fun x => scoreN (ids ls) x ch) of).1, .bool (decide (0 < (bestN (fun x => scoreN (ids ls) x ch) of).2))]) ∧ ∃ n, w' = w.drewN n := by
  have HOF := Lib.hid ho
  have HC := Lib.hid (fun (n : Nat) (x : Id) => score30 (c := c) (d := q) (w := w.drewN n) (man := x) (h.below (below_drewN (Below.refl _ _) n)) (hc.below (below_drewN (Below.refl _ _) n)) hn hm hch)
  have HSL : Hid (∀ x, scoreN (ids ls) x ch ≤ 1000) := Lib.hid (fun x => by
    have := count_le (p := scoreB x ch) (ids ls) (ids ls).length
    rw [List.take_length, ids_len] at this
    unfold scoreN
    omega)
  generalize hsc : (fun x => scoreN (ids ls) x ch) = sc at *
  have HSE : Hid (∀ x, scoreN (ids ls) x ch = sc x) := Lib.hid (fun x => by rw [← hsc])
  have HSL2 : Hid (∀ x, sc x ≤ 1000) := Lib.hid (fun x => by rw [← HSE.out]; exact HSL.out x)
  have HC2 : Hid (∀ (n : Nat) (x : Id), Calls Try.prog 30 #[.slice A ls.length c, .int .u32 x, .slice C ch.length q] (w.drewN n) fun e w' => e = .returned (.int .i64 (sc x : Nat)) ∧ ∃ m, w' = (w.drewN n).drewN m) := Lib.hid (fun n x => by rw [← HSE.out]; exact HC.out n x)
  have HST : Hid (∀ (k : Nat) (x : Id), of[k]? = some x → bestN sc (of.take (k + 1)) = bestS sc (bestN sc (of.take k)) x) := Lib.hid (fun k x h => best_step h)
  have HBL : Hid (∀ k, (bestN sc (of.take k)).2 ≤ 1000) := Lib.hid (fun k => best_le HSL2.out _)
  have HB0 : Hid (bestN sc (of.take 0) = (0, 0)) := Lib.hid rfl
  have HBE : Hid (bestN sc (of.take of.length) = bestN sc of) := Lib.hid (by rw [List.take_length])
  generalize bestN sc of = R at *
  clear h ho hc hm HC HSL hsc HSE
  go_enter Try.func36, Try.ntmps36
  go_wp2_with fail
  go_loopg [8, 9, 10] of.length (fun gk at_ mo i wr => ∃ k : Nat, k ≤ of.length ∧ gk = of.length - k ∧ i = .int .i64 k ∧ at_ = .int .u32 (bestN sc (of.take k)).1 ∧ mo = .int .i64 ((bestN sc (of.take k)).2 : Nat) ∧ (∃ n, wr = w.drewN n))
  case atStart => exact ⟨0, Nat.zero_le _, rfl, rfl, by rw [HB0.out], by rw [HB0.out]; rfl, ⟨0, rfl⟩⟩
  case round =>
    obtain ⟨k, hk, hgk, rfl, rfl, rfl, ⟨n, hw⟩⟩ := hrel
    have HK := Lib.hid hgk
    have HW := Lib.hid hw
    clear hgk hw
    have hk0 : (0 : Int) ≤ (k : Int) := by omega
    by_cases hlt : k < of.length
    · obtain ⟨x, hx⟩ : ∃ x, of[k]? = some x := ⟨_, List.getElem?_eq_getElem hlt⟩
      obtain ⟨b, o, rfl, _, hcell⟩ := HOF.out.get hx
      have HCELL := Lib.hid (fun (m : Nat) => (show (w.drewN m).cell? ⟨b, o + k, none⟩ = some (.int .u32 x) from hcell))
      have HSK := Lib.hid (HST.out k x hx)
      have hbl := HBL.out k
      have hsx := HSL2.out x
      have HCX : Hid (Calls Try.prog 30 #[.slice A ls.length c, .int .u32 x, .slice C ch.length q] wr fun e w' => e = .returned (.int .i64 (sc x : Nat)) ∧ ∃ m, w' = w.drewN m) := Lib.hid (by
        rw [HW.out]
        refine (HC2.out n x).mono ?_
        rintro e w' ⟨h1, m, rfl⟩
        exact ⟨h1, n + m, World.drewN_drewN ..⟩)
      generalize bestN sc (of.take k) = a at *
      obtain ⟨at0, mo⟩ := a
      have HSB : Hid (bestS sc (at0, mo) x = if sc x > mo ∨ (sc x = mo ∧ sc x > 0 ∧ x > at0) then (x, sc x) else (at0, mo)) := Lib.hid rfl
      simp only at *
      generalize sc x = s at *
      have hk1 : (k : Int) < (of.length : Int) := by omega
      have c1 : wr.cell? ⟨b, o + k, none⟩ = some (.int .u32 x) := by rw [HW.out]; exact hcell
      clear hx hcell
      go_wp2_with fail
      refine Calls.mono HCX.out ?_
      rintro e w2 ⟨rfl, m, hw2⟩
      have HW2 := Lib.hid hw2
      have c2 : w2.cell? ⟨b, o + k, none⟩ = some (.int .u32 x) := by rw [hw2]; exact HCELL.out m
      clear hw2 c1
      by_cases h1 : s > mo
      · have h1i : (mo : Int) < (s : Int) := by omega
        have HE : Hid (bestN sc (of.take (k + 1)) = (x, s)) := Lib.hid (by rw [HSK.out, HSB.out, if_pos (.inl h1)])
        go_wp2_with fail
        go_roundg (of.length - (k + 1))
        case measure => rw [HK.out]; omega
        case rel => exact ⟨k + 1, by omega, rfl, by go_num, by rw [HE.out], by rw [HE.out], ⟨m, HW2.out⟩⟩
      · have h1i : ¬ (mo : Int) < (s : Int) := by omega
        by_cases h2 : s = mo
        · have h2b : ((s : Int) == (mo : Int)) = true := by simp [h2]
          by_cases h3 : s > 0
          · have h3i : (0 : Int) < (s : Int) := by omega
            by_cases h4 : x > at0
            · have h4i : at0 < x := h4
              have HE : Hid (bestN sc (of.take (k + 1)) = (x, s)) := Lib.hid (by rw [HSK.out, HSB.out, if_pos (.inr ⟨h2, h3, h4⟩)])
              have H2 := Lib.hid h2
              clear h2
              go_wp2_with fail
              go_roundg (of.length - (k + 1))
              case measure => rw [HK.out]; omega
              case rel => exact ⟨k + 1, by omega, rfl, by go_num, by rw [HE.out], by rw [HE.out], ⟨m, HW2.out⟩⟩
            · have h4i : ¬ at0 < x := h4
              have HE : Hid (bestN sc (of.take (k + 1)) = (at0, mo)) := Lib.hid (by rw [HSK.out, HSB.out, if_neg (fun h => h.elim h1 (fun h => h4 h.2.2))])
              have H2 := Lib.hid h2
              clear h2
              go_wp2_with fail
              go_roundg (of.length - (k + 1))
              case measure => rw [HK.out]; omega
              case rel => exact ⟨k + 1, by omega, rfl, by go_num, by rw [HE.out], by rw [HE.out], ⟨m, HW2.out⟩⟩
          · have h3i : ¬ (0 : Int) < (s : Int) := by omega
            have HE : Hid (bestN sc (of.take (k + 1)) = (at0, mo)) := Lib.hid (by rw [HSK.out, HSB.out, if_neg (by omega)])
            have H2 := Lib.hid h2
            clear h2
            go_wp2_with fail
            go_roundg (of.length - (k + 1))
            case measure => rw [HK.out]; omega
            case rel => exact ⟨k + 1, by omega, rfl, by go_num, by rw [HE.out], by rw [HE.out], ⟨m, HW2.out⟩⟩
        · have h2b : ((s : Int) == (mo : Int)) = false := by simp; omega
          have HE : Hid (bestN sc (of.take (k + 1)) = (at0, mo)) := Lib.hid (by rw [HSK.out, HSB.out, if_neg (by omega)])
          go_wp2_with fail
          go_roundg (of.length - (k + 1))
          case measure => rw [HK.out]; omega
          case rel => exact ⟨k + 1, by omega, rfl, by go_num, by rw [HE.out], by rw [HE.out], ⟨m, HW2.out⟩⟩
    · obtain rfl : k = of.length := by omega
      rw [HBE.out]
      have HRD : Hid (∀ n : Nat, decide (0 < n) = decide ((0 : Int) < (n : Int))) := Lib.hid (fun n => decide_eq_decide.2 (by omega))
      go_wp2_with fail
      refine bodyPost_ret (results_tmp2 rfl _ _ _) rfl ?_
      exact ⟨by rw [HRD.out]; rfl, n, HW.out⟩
end Go.Proofs.Ytijdkgklajdbnaa
