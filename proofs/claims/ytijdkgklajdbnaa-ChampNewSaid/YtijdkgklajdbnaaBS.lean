/- The plain law of what is chosen. -/
import Derived.Test.YtijdkgklajdbnaaBC
import Derived.Test.YtijdkgklajdbnaaBO
namespace Go.Proofs.Ytijdkgklajdbnaa
open Go.RowKit
theorem cover_snoc (T : List (List Id)) (out : List Id) (x : Id) : coverN T (out ++ [x]) = coverN T out + scoreN T x out := by
  unfold coverN scoreN
  induction T with
  | nil => rfl
  | cons l T ih =>
    rw [List.countP_cons, List.countP_cons, List.countP_cons, ih]
    have h1 : covB l (out ++ [x]) = (covB l out || decide (x ∈ l)) := by unfold covB; rw [List.any_append]; simp
    have h2 : scoreB x out l = (!covB l out && decide (x ∈ l)) := rfl
    rw [h1, h2]
    cases covB l out <;> cases decide (x ∈ l) <;> simp <;> omega
theorem score_le (T : List (List Id)) (x : Id) (out : List Id) : scoreN T x out ≤ scoreN T x [] := by
  unfold scoreN
  refine List.countP_mono_left (fun l _ h => ?_)
  have h2 : scoreB x out l = (!covB l out && decide (x ∈ l)) := rfl
  have h3 : scoreB x [] l = decide (x ∈ l) := rfl
  rw [h2, Bool.and_eq_true] at h
  rw [h3]
  exact h.2
theorem score_all {T : List (List Id)} {x : Id} {out : List Id} (h : 0 < scoreN T x out) : x ∈ allN T := by
  have := score_le T x out
  exact allN_mem.2 (scoreN_pos.1 (by omega))
/-- the best of those that are left -/
theorem refB_best {T : List (List Id)} {out : List Id} (h : 0 < (refB T out).2) : 0 < scoreN T (refB T out).1 out ∧ ∀ y, scoreN T y out ≤ scoreN T (refB T out).1 out := by
  have hb : IsBest (fun x => scoreN T x out) (allN T) (refB T out) := best_is _ _
  generalize refB T out = a at *
  rcases hb with ⟨e, _⟩ | ⟨m1, e1, p1, l1⟩
  · rw [e] at h; exact absurd h (Nat.lt_irrefl _)
  · simp only at e1 l1
    refine ⟨by omega, fun y => ?_⟩
    by_cases hy : 0 < scoreN T y out
    · have := l1 y (score_all hy)
      omega
    · omega
theorem refB_none {T : List (List Id)} {out : List Id} (h : ¬ 0 < (refB T out).2) : ∀ y, scoreN T y out = 0 := by
  have hb : IsBest (fun x => scoreN T x out) (allN T) (refB T out) := best_is _ _
  generalize refB T out = a at *
  rcases hb with ⟨_, h0⟩ | ⟨_, _, p1, _⟩
  · intro y
    by_cases hy : 0 < scoreN T y out
    · exact h0 y (score_all hy)
    · omega
  · exact absurd p1 h
def GoodC (T : List (List Id)) (out : List Id) : Prop := ∀ (i : Nat) (x : Id), out[i]? = some x → 0 < scoreN T x (out.take i) ∧ ∀ y, scoreN T y (out.take i) ≤ scoreN T x (out.take i)
theorem GoodC.snoc {T : List (List Id)} {out : List Id} (h : GoodC T out) (hb : 0 < (refB T out).2) : GoodC T (out ++ [(refB T out).1]) := fun i x hx => by
  by_cases hi : i < out.length
  · rw [List.getElem?_append_left hi] at hx
    rw [List.take_append_of_le_length (by omega)]
    exact h i x hx
  · rw [List.getElem?_append_right (by omega)] at hx
    have hl := (List.getElem?_eq_some_iff.1 hx).1
    have he : i = out.length := by simp at hl; omega
    subst he
    simp at hx
    subst hx
    rw [List.take_left]
    exact refB_best hb
theorem choose_good (T : List (List Id)) (most : Int) : ∀ (n : Nat) (out : List Id), GoodC T out → 65 ≤ n + out.length → out.length ≤ 64 → (out.length : Int) ≤ max most 0 → GoodC T (chooseG (refB T) most n out) ∧ ((chooseG (refB T) most n out).length : Int) ≤ max most 0 ∧ (chooseG (refB T) most n out).length ≤ 64 ∧ (¬ (((chooseG (refB T) most n out).length : Int) < most ∧ ((chooseG (refB T) most n out).length : Int) < 64) ∨ ∀ y, scoreN T y (chooseG (refB T) most n out) = 0)
  | 0, out, _, h65, h64, _ => by omega
  | n + 1, out, hg, h65, h64, hm => by
    by_cases h : (out.length : Int) < most ∧ (out.length : Int) < 64
    · by_cases hb : 0 < (refB T out).2
      · rw [choose_yes h hb]
        exact choose_good T most n _ (hg.snoc hb) (by simp; omega) (by simp; omega) (by simp; omega)
      · rw [choose_no h hb]
        exact ⟨hg, hm, h64, .inr (refB_none hb)⟩
    · rw [choose_stop h]
      exact ⟨hg, hm, h64, .inl h⟩
theorem cover_rest {T : List (List Id)} {out : List Id} (h : ∀ y, scoreN T y out = 0) : coverN T out = T.countP (fun l => decide (0 < l.length)) := by
  unfold coverN
  refine List.countP_congr (fun l hl => ?_)
  rw [decide_eq_true_eq]
  constructor
  · intro hc
    unfold covB at hc
    rw [List.any_eq_true] at hc
    obtain ⟨x, _, hx⟩ := hc
    exact List.length_pos_of_mem (of_decide_eq_true hx)
  · intro h0
    obtain ⟨x, hx⟩ : ∃ x, x ∈ l := ⟨_, List.getElem_mem h0⟩
    cases hc : covB l out with
    | true => rfl
    | false =>
      have := h x
      unfold scoreN at this
      rw [List.countP_eq_zero] at this
      exact absurd (show scoreB x out l = true by unfold scoreB; simp [hc, hx]) (this l hl)
end Go.Proofs.Ytijdkgklajdbnaa
