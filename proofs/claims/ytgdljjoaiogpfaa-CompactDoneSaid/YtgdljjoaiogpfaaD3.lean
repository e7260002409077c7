/- The plain law of CompactDone, joined. -/
import Derived.Test.YtgdljjoaiogpfaaD2
namespace Go.Proofs.Ytgdljjoaiogpfaa
open Go.RowKit Go.Maps
def bigId (j : Nat) : Int := 2147483649 + (j : Int)
def rangeP (id : Int) (k : Nat) : List Plc := (List.range k).map fun (j : Nat) => (id, (j : Int))
theorem rangeP_succ (id : Int) (k : Nat) : rangeP id (k + 1) = rangeP id k ++ [(id, (k : Int))] := by simp [rangeP, List.range_succ]
theorem rangeP_len (id : Int) (k : Nat) : (rangeP id k).length = k := by simp [rangeP]
/-- the places of the successors of the first i groups -/
def newP (f : Int → List Plc) (G : List (List Int)) : Nat → List Plc
  | 0 => []
  | i + 1 => newP f G i ++ (match G[i]? with | some g => rangeP (bigId i) (tot f g).length | none => [])
theorem newP_step {f : Int → List Plc} {G : List (List Int)} {i : Nat} {g : List Int} (h : G[i]? = some g) : newP f G (i + 1) = newP f G i ++ rangeP (bigId i) (tot f g).length := by simp only [newP, h]
theorem newP_mem {f : Int → List Plc} {G : List (List Int)} {j k : Nat} {g : List Int} (h : G[j]? = some g) (hk : k < (tot f g).length) : ∀ i, j < i → (bigId j, (k : Int)) ∈ newP f G i
  | 0, h0 => absurd h0 (Nat.not_lt_zero j)
  | i + 1, h1 => by
    simp only [newP, List.mem_append]
    by_cases e : j = i
    · subst e
      right
      rw [h]
      simp only [rangeP, List.mem_map, List.mem_range]
      exact ⟨k, hk, rfl⟩
    · exact .inl (newP_mem h hk i (by omega))
theorem mem_succTo {f : Int → List Plc} {gs : List Int} {p : Plc} : ∀ k, p ∈ succTo f gs k → ∃ b, p ∈ f b
  | 0, h => by simp [succTo] at h
  | k + 1, h => by
    simp only [succTo, List.mem_append] at h
    rcases h with h | h
    · exact mem_succTo k h
    · split at h
      · split at h
        · simp at h
        · exact ⟨_, h⟩
      · simp at h
theorem mem_tot {named : List Plc} {hs : List Hd} {g : List Int} {p : Plc} (h : p ∈ tot (idP named hs) g) : ∃ x ∈ hs, ∃ m, m < x.n ∧ p = (x.id, (m : Int)) := by
  obtain ⟨b, hb⟩ := mem_succTo _ h
  unfold idP allP at hb
  rw [List.mem_flatMap] at hb
  obtain ⟨x, hx, hp⟩ := hb
  obtain ⟨j, h1, h2, _⟩ := mem_partTo _ hp
  exact ⟨x, (List.mem_filter.1 hx).1, j, h1, h2⟩
/-- the heads that stand for the groups -/
def Succs (named : List Plc) (hs : List Hd) (G : List (List Int)) (S : List Hd) : Prop :=
  ∀ (j : Nat) (x : Hd), S[j]? = some x → ∃ g, G[j]? = some g ∧ x.id = bigId j ∧ x.sl = (tot (idP named hs) g).map (slotOf hs) ∧ x.n = (tot (idP named hs) g).length
theorem done_law {named : List Plc} {slots bts : Int} {hs : List Hd} (hm : May hs) (hid : ∀ x ∈ hs, x.id ≤ 2147483648) (hl : ∀ x ∈ hs, x.sl.length = x.n) {S : List Hd} {P : List Plc} (hS : Succs named hs (gfold named slots bts hs).1 S) (hSl : S.length = (gfold named slots bts hs).1.length)
    (hP1 : ∀ p ∈ allP named true (hs.filter (isFull named)), p ∈ P) (hP2 : ∀ p ∈ newP (idP named hs) (gfold named slots bts hs).1 (gfold named slots bts hs).1.length, p ∈ P) :
    May (hs.filter (isFull named) ++ S) ∧ doneB P (hs.filter (isFull named) ++ S) = true ∧ sumB P true (hs.filter (isFull named) ++ S) = sumB named true hs ∧ sumB P false (hs.filter (isFull named) ++ S) = 0 := by
  have hd := may_dst hm
  obtain ⟨q1, q2⟩ := gfold_sum (named := named) (slots := slots) (bts := bts) hd hl hs.length (Nat.le_refl _)
  rw [List.take_length] at q1 q2
  generalize (gfold named slots bts hs).1 = G at *
  have hok : ∀ x ∈ hs, ∀ s ∈ x.sl, SOk s := fun x hx => by
    obtain ⟨k, hk⟩ := List.getElem?_of_mem hx
    exact may_ok hm hk
  have hfw : ∀ x ∈ hs.filter (isFull named), Whole P x ∧ x.sl.length = x.n ∧ 0 < x.n ∧ Whole named x := fun x hx => by
    obtain ⟨h1, h2⟩ := List.mem_filter.1 hx
    obtain ⟨h3, h4⟩ := full_whole h2
    refine ⟨fun j hj => hP1 _ ?_, hl x h1, h4, h3⟩
    unfold allP
    rw [List.mem_flatMap]
    exact ⟨x, hx, partTo_mem (by simpa using h3 j hj) x.n hj⟩
  have hsw : ∀ x ∈ S, Whole P x ∧ x.sl.length = x.n ∧ 0 < x.n ∧ (∀ s ∈ x.sl, SOk s) ∧ 2147483648 < x.id := fun x hx => by
    obtain ⟨j, hj⟩ := List.getElem?_of_mem hx
    obtain ⟨g, h1, h2, h3, h4⟩ := hS j x hj
    have hjl := (List.getElem?_eq_some_iff.1 h1).1
    refine ⟨fun k hk => hP2 _ ?_, by rw [h3, h4]; simp, ?_, fun s hs' => ?_, by rw [h2]; unfold bigId; omega⟩
    · rw [h2]
      exact newP_mem h1 (by omega) _ hjl
    · have := q2 g (List.mem_of_getElem? h1)
      rw [h4]
      exact List.length_pos_iff.2 this
    · rw [h3, List.mem_map] at hs'
      obtain ⟨p, hp, rfl⟩ := hs'
      obtain ⟨y, hy, m, hm1, rfl⟩ := mem_tot hp
      obtain ⟨s, hs2⟩ : ∃ s, y.sl[m]? = some s := ⟨y.sl[m]'(by rw [hl y hy]; exact hm1), by simp⟩
      rw [slotOf_at hd hy hs2]
      exact hok y hy s (List.mem_of_getElem? hs2)
  have hmay : May (hs.filter (isFull named) ++ S) := by
    refine may_of ?_ ?_
    · rw [List.pairwise_append]
      refine ⟨(may_pair hm).filter _, ?_, fun a ha b hb => ?_⟩
      · rw [List.pairwise_iff_getElem]
        intro i j hi hj hij
        obtain ⟨_, _, e1, _⟩ := hS i _ (List.getElem?_eq_getElem hi)
        obtain ⟨_, _, e2, _⟩ := hS j _ (List.getElem?_eq_getElem hj)
        rw [e1, e2]
        unfold bigId
        omega
      · have := hid a (List.mem_filter.1 ha).1
        have := (hsw b hb).2.2.2.2
        omega
    · intro x hx
      rcases List.mem_append.1 hx with h | h
      · exact hok x (List.mem_filter.1 h).1
      · exact (hsw x h).2.2.2.1
  have hfine : ∀ x ∈ hs.filter (isFull named) ++ S, Fine P x ∧ bytes P x true = sumS x.sl ∧ bytes P x false = 0 := fun x hx => by
    rcases List.mem_append.1 hx with h | h
    · obtain ⟨a1, a2, a3, _⟩ := hfw x h
      exact a1.fine a2 a3
    · obtain ⟨a1, a2, a3, _⟩ := hsw x h
      exact a1.fine a2 a3
  refine ⟨hmay, doneB_yes ⟨hmay, fun x hx => (hfine x hx).1⟩, ?_, ?_⟩
  · rw [sumB_sum, List.map_append, List.sum_append, sum_split hs, ← q1]
    have e1 : (hs.filter (isFull named)).map (fun x => bytes P x true) = (hs.filter (isFull named)).map (fun x => bytes named x true) := List.map_congr_left fun x hx => by
      obtain ⟨a1, a2, a3, a4⟩ := hfw x hx
      rw [(a1.fine a2 a3).2.1, (a4.fine a2 a3).2.1]
    have e2 : S.map (fun x => bytes P x true) = G.map (fun g => sumL hs (tot (idP named hs) g)) := by
      refine List.ext_getElem? fun j => ?_
      rw [List.getElem?_map, List.getElem?_map]
      cases hj : S[j]? with
      | none =>
        have : G[j]? = none := by
          rw [List.getElem?_eq_none_iff] at hj ⊢
          omega
        rw [this]
        rfl
      | some x =>
        obtain ⟨g, h1, h2, h3, h4⟩ := hS j x hj
        obtain ⟨a1, a2, a3, _⟩ := hsw x (List.mem_of_getElem? hj)
        rw [h1]
        simp only [Option.map_some]
        rw [(a1.fine a2 a3).2.1, h3]
        simp [sumS, sumL, Function.comp_def]
    rw [e1, e2]
    rfl
  · rw [sumB_sum]
    have : (hs.filter (isFull named) ++ S).map (fun x => bytes P x false) = (hs.filter (isFull named) ++ S).map (fun _ => (0 : Int)) := List.map_congr_left fun x hx => (hfine x hx).2.2
    rw [this]
    have z : ∀ l : List Hd, (l.map (fun _ => (0 : Int))).sum = 0 := by
      intro l
      induction l with
      | nil => rfl
      | cons a r ih => simp [ih]
    exact z _
end Go.Proofs.Ytgdljjoaiogpfaa
