/- The plain law of scores. -/
import Derived.Test.YtijdkgklajdbnaaAT
namespace Go.Proofs.Ytijdkgklajdbnaa
open Go.RowKit
def askP (T : List (List Id)) : List (List Id) := T.map dsL
def leftP (P : List (List Id)) (out : List Id) : List (List Id) := P.filter fun l => !covB l out
theorem covB_ds (l out : List Id) : covB (dsL l) out = covB l out := by
  unfold covB
  induction out with
  | nil => rfl
  | cons x out ih => rw [List.any_cons, List.any_cons, ih]; congr 1; exact decide_eq_decide.2 dsL_mem
theorem nodup_count : ∀ {l : List Id}, l.Nodup → ∀ x, l.count x ≤ 1
  | [], _, x => by simp
  | y :: l, h, x => by
    rw [List.nodup_cons] at h
    rw [List.count_cons]
    by_cases e : y = x
    · subst e
      rw [List.count_eq_zero.2 h.1]
      simp
    · have := nodup_count h.2 x
      simp [e]
      exact this
theorem count_ds (l : List Id) (x : Id) : (dsL l).count x = if x ∈ l then 1 else 0 := by
  split
  · next h => have h1 := nodup_count (dsL_nodup l) x; have h2 := List.count_pos_iff.2 (dsL_mem.2 h); omega
  · next h => exact List.count_eq_zero.2 (fun h2 => h (dsL_mem.1 h2))
theorem cnt_left (T : List (List Id)) (out : List Id) (x : Id) : cntF (leftP (askP T) out).flatten x = scoreN T x out := by
  unfold cntF leftP askP scoreN
  induction T with
  | nil => rfl
  | cons l T ih =>
    rw [List.map_cons, List.filter_cons, List.countP_cons, covB_ds]
    have hs : scoreB x out l = (!covB l out && decide (x ∈ l)) := rfl
    rw [hs]
    cases hc : covB l out with
    | true => simpa using ih
    | false =>
      rw [if_pos (by rfl), List.flatten_cons, List.count_append, count_ds, ih]
      by_cases h : x ∈ l
      · simp [h]; omega
      · simp [h]
theorem leftP_nil (P : List (List Id)) : leftP P [] = P := by
  unfold leftP covB
  simp
theorem leftP_snoc (P : List (List Id)) (out : List Id) (x : Id) : leftP P (out ++ [x]) = (leftP P out).filter (noB x) := by
  unfold leftP
  rw [List.filter_filter]
  congr 1
  funext l
  unfold covB noB
  rw [List.any_append]
  simp [Bool.and_comm]
theorem cnt_all (T : List (List Id)) (x : Id) : cntF (askP T).flatten x = scoreN T x [] := by rw [← cnt_left, leftP_nil]
theorem rank_all (T : List (List Id)) : rankF T = fun x => scoreN T x [] := funext fun x => cnt_all T x
theorem cover_len (T : List (List Id)) (out : List Id) : ((askP T).length : Int) - ((leftP (askP T) out).length : Int) = (coverN T out : Nat) := by
  unfold leftP askP coverN
  induction T with
  | nil => rfl
  | cons l T ih =>
    rw [List.map_cons, List.filter_cons, List.countP_cons, covB_ds, List.length_cons]
    cases hc : covB l out with
    | true => simp; simp at ih; omega
    | false => simp; simp at ih; omega
/-- the best that is left -/
def progB (P : List (List Id)) (of : List Id) (out : List Id) : Id × Nat := bestN (cntF (leftP P out).flatten) of
theorem progB_ref (T : List (List Id)) : progB (askP T) (allN T) = refB T := by
  funext out
  unfold progB refB
  exact best_same (fun x _ => Iff.rfl) (fun x => cnt_left T out x)
theorem choose_prog (T : List (List Id)) (most : Int) : chooseG (progB (askP T) (allN T)) most 65 [] = refChoose T most := by rw [progB_ref]; rfl
theorem allN_ask {T : List (List Id)} {x : Id} : (∃ l ∈ askP T, x ∈ l) → x ∈ allN T := by
  rintro ⟨l, hl, hx⟩
  obtain ⟨m, hm, rfl⟩ := List.mem_map.1 hl
  exact allN_mem.2 ⟨m, hm, dsL_mem.1 hx⟩
theorem ids_without (L : List Lst) (x : Id) : ids (withoutL L x) = (ids L).filter (noB x) := by
  unfold ids withoutL
  rw [List.filter_map]
  rfl
theorem toldL_ids (hs : List Fp) (ls : List Lst) : ids (toldL hs ls) = (setF hs).map fun x => (listG hs ls x).l := by
  unfold ids toldL
  rw [List.map_map]
  rfl
theorem askI_told (hs : List Fp) (ls : List Lst) : askI (fun x => (listG hs ls x).l) hs = askP (ids (toldL hs ls)) := by
  unfold askI askP
  rw [toldL_ids, List.map_map]
  rfl
end Go.Proofs.Ytijdkgklajdbnaa
