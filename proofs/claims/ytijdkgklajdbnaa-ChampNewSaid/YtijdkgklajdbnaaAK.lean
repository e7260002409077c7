/- The number that most lists have. -/
import Derived.Test.YtijdkgklajdbnaaAJ
import Derived.Maps.RangeWalk
namespace Go.Proofs.Ytijdkgklajdbnaa
open Go.RowKit
open Go.Maps
/-- what the best is -/
def IsBest (f : Id → Nat) (xs : List Id) (a : Id × Nat) : Prop := (a = (0, 0) ∧ ∀ x ∈ xs, f x = 0) ∨ (a.1 ∈ xs ∧ a.2 = f a.1 ∧ 0 < a.2 ∧ ∀ x ∈ xs, f x < a.2 ∨ (f x = a.2 ∧ x ≤ a.1))
theorem best_is (f : Id → Nat) (xs : List Id) : IsBest f xs (bestN f xs) := by
  have key : ∀ (l pre : List Id) (a : Id × Nat), IsBest f pre a → IsBest f (pre ++ l) (l.foldl (bestS f) a) := fun l => by
    induction l with
    | nil => exact fun pre a h => by rw [List.append_nil]; exact h
    | cons x l ih =>
      intro pre a h
      have h2 : IsBest f (pre ++ [x]) (bestS f a x) := by
        unfold bestS
        have hm : ∀ y, y ∈ pre ++ [x] ↔ y ∈ pre ∨ y = x := fun y => by simp
        rcases h with ⟨rfl, h0⟩ | ⟨h1, h2, h3, h4⟩
        · by_cases hx : 0 < f x
          · rw [if_pos (.inl hx)]
            refine .inr ⟨(hm x).2 (.inr rfl), rfl, hx, fun y hy => ?_⟩
            rcases (hm y).1 hy with hy | rfl
            · exact .inl (by rw [h0 y hy]; exact hx)
            · exact .inr ⟨rfl, Int.le_refl _⟩
          · rw [if_neg (fun h => h.elim hx (fun h => hx h.2.1))]
            refine .inl ⟨rfl, fun y hy => ?_⟩
            rcases (hm y).1 hy with hy | rfl
            · exact h0 y hy
            · omega
        · split
          · next hc =>
            have hx : 0 < f x := by rcases hc with hc | hc <;> omega
            refine .inr ⟨(hm x).2 (.inr rfl), rfl, hx, fun y hy => ?_⟩
            rcases (hm y).1 hy with hy | rfl
            · rcases hc with hc | ⟨e, _, hlt⟩
              · rcases h4 y hy with h | ⟨h, _⟩
                · exact .inl (by show f y < f x; omega)
                · exact .inl (by show f y < f x; omega)
              · rcases h4 y hy with h | ⟨h, h'⟩
                · exact .inl (by show f y < f x; omega)
                · exact .inr ⟨by show f y = f x; omega, Int.le_trans h' (Int.le_of_lt hlt)⟩
            · exact .inr ⟨rfl, Int.le_refl _⟩
          · next hc =>
            refine .inr ⟨(hm _).2 (.inl h1), h2, h3, fun y hy => ?_⟩
            rcases (hm y).1 hy with hy | rfl
            · exact h4 y hy
            · by_cases e : f y = a.2
              · refine .inr ⟨e, Int.not_lt.1 (fun hl => hc (.inr ⟨e, by omega, hl⟩))⟩
              · refine .inl ?_
                have : ¬ f y > a.2 := fun h => hc (.inl h)
                omega
      have := ih (pre ++ [x]) _ h2
      rwa [List.append_assoc] at this
  exact key xs [] (0, 0) (.inl ⟨rfl, fun x hx => nomatch hx⟩)
theorem best_same {f g : Id → Nat} {xs ys : List Id} (hx : ∀ x, 0 < f x → (x ∈ xs ↔ x ∈ ys)) (hf : ∀ x, f x = g x) : bestN f xs = bestN g ys := by
  obtain rfl : f = g := funext hf
  have h1 := best_is f xs
  have h2 := best_is f ys
  generalize bestN f xs = a at *
  generalize bestN f ys = b at *
  obtain ⟨a1, a2⟩ := a
  obtain ⟨b1, b2⟩ := b
  rcases h1 with ⟨e, h0⟩ | ⟨m1, e1, p1, l1⟩ <;> rcases h2 with ⟨e', h0'⟩ | ⟨m2, e2, p2, l2⟩
  · rw [e, e']
  · simp only at *
    have := h0 b1 ((hx b1 (by omega)).2 m2)
    omega
  · simp only at *
    have := h0' a1 ((hx a1 (by omega)).1 m1)
    omega
  · simp only at *
    have q1 := l1 b1 ((hx b1 (by omega)).2 m2)
    have q2 := l2 a1 ((hx a1 (by omega)).1 m1)
    have e3 : a2 = b2 := by omega
    have e4 : a1 = b1 := by
      rcases q1 with q1 | ⟨_, q1⟩
      · omega
      · rcases q2 with q2 | ⟨_, q2⟩
        · omega
        · exact Int.le_antisymm q2 q1
    rw [e3, e4]
/-- what has been met of a map -/
def Met (D : DataW Unit) (left : Lit → Bool) (xs : List Id) : Prop := ∀ x : Id, x ∈ xs ↔ (Maps.has D (.int .u32 x) = true ∧ left (.int .u32 x) = false)
theorem Met.start (D : DataW Unit) : Met D (Maps.has D) [] := fun x => by cases Maps.has D (.int .u32 x) <;> simp
theorem Met.step {D : DataW Unit} {left : Lit → Bool} {xs : List Id} {x : Id} (h : Met D left xs) (hh : Maps.has D (.int .u32 x) = true) : Met D (fun z => left z && !z.sameKey (.int .u32 x)) (xs ++ [x]) := fun y => by
  by_cases e : y = x
  · subst e
    simp [hh, Lit.sameKey]
  · have : y ∈ xs ++ [x] ↔ y ∈ xs := by simp [e]
    rw [this, h y]
    have hk : (Lit.int IntKind.u32 y).sameKey (.int .u32 x) = false := by simp [Lit.sameKey, e]
    simp [hk]
theorem bestS_pos {f : Id → Nat} {a : Id × Nat} {x : Id} (hx : 0 < f x) : bestS f a x = if f x > a.2 ∨ (f x = a.2 ∧ x > a.1) then (x, f x) else a := by
  unfold bestS
  by_cases h1 : f x > a.2
  · rw [if_pos (.inl h1), if_pos (.inl h1)]
  · by_cases h2 : f x = a.2 ∧ x > a.1
    · rw [if_pos (.inr ⟨h2.1, hx, h2.2⟩), if_pos (.inr h2)]
    · rw [if_neg (fun h => h.elim h1 (fun h => h2 ⟨h.1, h.2.2⟩)), if_neg (fun h => h.elim h1 h2)]
theorem bestN_snoc (f : Id → Nat) (xs : List Id) (x : Id) : bestN f (xs ++ [x]) = bestS f (bestN f xs) x := by simp [bestN, List.foldl_append]
set_option maxRecDepth 100000 in
set_option maxHeartbeats 2000000 in
theorem first34 {b : Nat} {f : Id → Nat} {of : List Id} {w : World} (h : Cnts w b f) (hof : ∀ x, 0 < f x → x ∈ of) (hf : ∀ x, f x ≤ 1000000) :
    Calls Try.prog 34 #[.map (some b)] w fun e w' => e = .returned (.tuple #[.int .u32 (bestN f of).1, .bool (decide (0 < (bestN f of).2))]) ∧ Below w.heap.size w w' := by
  obtain ⟨n, D, hn, hcm, hown⟩ := h
  have HCM := Lib.hid hcm
  have hbl := hown.lt
  have HFIN : Hid (∀ (left : Lit → Bool) (xs : List Id), Met D left xs → (∀ kl, left kl = false) → bestN f xs = bestN f of) := Lib.hid (fun left xs hm hl => best_same (fun x hx => by
    rw [hm x, hl]
    refine ⟨fun _ => hof x hx, fun _ => ⟨?_, rfl⟩⟩
    rw [(hcm.2 x).2]
    exact decide_eq_true hx) (fun _ => rfl))
  have HFL := Lib.hid hf
  generalize bestN f of = R at *
  clear hcm hof hf
  go_enter Try.func34, Try.ntmps34
  go_wp2_with (first
    | (at_range; refine wpList_range_own _ rfl _ 49 rfl 24 3 law24 Try.underlying49 _ b n _ rfl hown ?_; intro w0 hrg0 hg0 hs0)
    | go_in)
  go_frame
  go_loopw [4, 5] (fun at_ mo wr => ∃ (left : Lit → Bool) (cnt : Nat) (xs : List Id), wr.ranges Try.prog 24 (plainElem Try.prog 3) b w.heap.size n D left cnt ∧ at_ = .int .u32 (bestN f xs).1 ∧ mo = .int .i64 ((bestN f xs).2 : Nat) ∧ Met D left xs ∧ Below w.heap.size w wr)
    (fun _ _ wr => wr.rangeLeft b w.heap.size)
  case atStart => exact ⟨_, _, [], hrg0, rfl, rfl, Met.start D, (Below.refl _ _).grown hg0 (Nat.le_refl _) (fun j hj => by cases hj)⟩
  case round =>
    obtain ⟨left, cnt, xs, hrg, rfl, rfl, hmet, hnx⟩ := hrel
    have HMET := Lib.hid hmet
    have HNX := Lib.hid hnx
    clear hmet hnx
    go_wp2_with (first
      | (at_next; refine wpList_next_ranges_ii _ rfl _ rfl 24 3 .u32 .i64 law24 Try.underlying24 Try.underlying3 b w.heap.size n _ _ _ rfl hrg ?_ ?_)
      | go_in)
    · intro _ hl0
      have HE := Lib.hid (HFIN.out left xs HMET.out hl0)
      have HRD : Hid (∀ n : Nat, decide (0 < n) = decide ((0 : Int) < (n : Int))) := Lib.hid (fun n => decide_eq_decide.2 (by omega))
      clear hl0
      rw [HE.out]
      go_wp2_with fail
      refine bodyPost_ret (results_tmp2 rfl _ _ _) rfl ?_
      exact ⟨by rw [HRD.out]; rfl, HNX.out⟩
    · intro x c w1 cnt1 hwx hwc hlx hat hrg1 hlt hg1 hs1 hen
      have hcx : c = (f x : Int) := by
        have := (hat (.lit (.int .i64 0))).symm.trans (HCM.out.2 x).1
        simpa using this
      have hhas : Maps.has D (.int .u32 x) = true := has_true_of_atKey hat
      have hpos : 0 < f x := by
        have := (HCM.out.2 x).2
        rw [hhas] at this
        exact of_decide_eq_true this.symm
      have HMS := Lib.hid (HMET.out.step hhas)
      have HBS : Hid (bestN f (xs ++ [x]) = if f x > (bestN f xs).2 ∨ (f x = (bestN f xs).2 ∧ x > (bestN f xs).1) then (x, f x) else bestN f xs) := Lib.hid (by rw [bestN_snoc, bestS_pos hpos])
      have HN1 : Hid (Below w.heap.size w w1) := Lib.hid (HNX.out.grown hg1 HNX.out.size (fun j hj => by cases hj; exact Nat.le_refl _))
      have hfx := HFL.out x
      subst hcx
      have HR1 := Lib.hid hrg1
      have HLT := Lib.hid (And.intro hlt (And.intro hrg.left_eq trivial))
      clear hat hhas hwx hwc hlx hg1 hs1 hrg1 hpos
      generalize bestN f xs = a at *
      obtain ⟨at0, mo⟩ := a
      simp only at *
      generalize f x = s at *
      by_cases h1 : s > mo
      · have h1i : (mo : Int) < (s : Int) := by omega
        have HE : Hid (bestN f (xs ++ [x]) = (x, s)) := Lib.hid (by rw [HBS.out, if_pos (.inl h1)])
        go_wp2_with (first | go_in)
        go_roundw
        case rel => exact ⟨_, cnt1, xs ++ [x], HR1.out, by rw [HE.out], by rw [HE.out], HMS.out, HN1.out⟩
        case measure => rw [HR1.out.left_eq, HLT.out.2.1]; exact HLT.out.1
      · have h1i : ¬ (mo : Int) < (s : Int) := by omega
        by_cases h2 : s = mo
        · have h2b : ((s : Int) == (mo : Int)) = true := by simp [h2]
          by_cases h4 : x > at0
          · have h4i : at0 < x := h4
            have HE : Hid (bestN f (xs ++ [x]) = (x, s)) := Lib.hid (by rw [HBS.out, if_pos (.inr ⟨h2, h4⟩)])
            have H2 := Lib.hid h2
            clear h2
            go_wp2_with (first | go_in)
            go_roundw
            case rel => exact ⟨_, cnt1, xs ++ [x], HR1.out, by rw [HE.out], by rw [HE.out], HMS.out, HN1.out⟩
            case measure => rw [HR1.out.left_eq, HLT.out.2.1]; exact HLT.out.1
          · have h4i : ¬ at0 < x := h4
            have HE : Hid (bestN f (xs ++ [x]) = (at0, mo)) := Lib.hid (by rw [HBS.out, if_neg (fun h => h.elim h1 (fun h => h4 h.2))])
            have H2 := Lib.hid h2
            clear h2
            go_wp2_with (first | go_in)
            go_roundw
            case rel => exact ⟨_, cnt1, xs ++ [x], HR1.out, by rw [HE.out], by rw [HE.out], HMS.out, HN1.out⟩
            case measure => rw [HR1.out.left_eq, HLT.out.2.1]; exact HLT.out.1
        · have h2b : ((s : Int) == (mo : Int)) = false := by simp; omega
          have HE : Hid (bestN f (xs ++ [x]) = (at0, mo)) := Lib.hid (by rw [HBS.out, if_neg (fun h => h.elim h1 (fun h => h2 h.1))])
          go_wp2_with (first | go_in)
          go_roundw
          case rel => exact ⟨_, cnt1, xs ++ [x], HR1.out, by rw [HE.out], by rw [HE.out], HMS.out, HN1.out⟩
          case measure => rw [HR1.out.left_eq, HLT.out.2.1]; exact HLT.out.1
end Go.Proofs.Ytijdkgklajdbnaa
