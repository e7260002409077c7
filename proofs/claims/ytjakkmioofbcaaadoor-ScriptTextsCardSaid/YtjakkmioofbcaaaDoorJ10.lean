/- The plain law of scripts' texts: the two readings are one. -/
import Derived.Test.YtjakkmioofbcaaaDoorJ9
namespace Go.Proofs.YtjakkmioofbcaaaDoor
open Go.RowKit
theorem cf_fun (a b : Int) (c : Fin 13 → Int) : cfOf ((a :: b :: cfI c).drop 2) = c := by
  funext i
  match i with
  | 0 => rfl
  | 1 => rfl
  | 2 => rfl
  | 3 => rfl
  | 4 => rfl
  | 5 => rfl
  | 6 => rfl
  | 7 => rfl
  | 8 => rfl
  | 9 => rfl
  | 10 => rfl
  | 11 => rfl
  | 12 => rfl
theorem szs_set (c : Fin 13 → Int) (h : ∀ i, 0 ≤ c i ∧ c i ≤ 2147483647) : szs (setL c) = cfI c := by
  rw [cfI_eq, szs, setL, List.map_map]
  apply List.map_congr_left
  intro i _
  have := h i
  show sz (digs (c i).toNat) = c i
  rw [sz_digs _ (by omega)]
  omega
def headW (a b : Int) (c : Fin 13 → Int) : List (List UInt8) := storeW :: digs a.toNat :: digs b.toNat :: setL c
theorem head_join (a b : Int) (c : Fin 13 → Int) : joinL (headW a b c) = headL a b c := by
  unfold headW headL
  rw [joinL_cons _ _ (by simp), joinL_cons _ _ (by simp), joinL_cons _ _ (by intro e; have := setL_len c; rw [e] at this; simp at this)]
theorem head_no32 (a b : Int) (c : Fin 13 → Int) : ∀ x ∈ headW a b c, (32 : UInt8) ∉ x := by
  intro x hx
  rcases List.mem_cons.1 hx with rfl | hx
  · decide
  · rcases List.mem_cons.1 hx with rfl | hx
    · exact digs_no32 _
    · rcases List.mem_cons.1 hx with rfl | hx
      · exact digs_no32 _
      · unfold setL at hx
        obtain ⟨i, _, rfl⟩ := List.mem_map.1 hx
        exact digs_no32 _
theorem head_split (a b : Int) (c : Fin 13 → Int) : splitL 32 (headL a b c) = headW a b c := by
  rw [← head_join, split_join _ (by simp [headW]) (head_no32 a b c)]
theorem fit_iff (a b : Int) : fitB [a, b] = true ↔ (0 ≤ a ∧ a ≤ 2147483647) ∧ (0 ≤ b ∧ b ≤ 2147483647) := by simp [fitB]
theorem small_iff (c : Fin 13 → Int) : smallB c = true ↔ ∀ i, 0 ≤ c i ∧ c i ≤ 2147483647 := by
  refine ⟨small_spec, fun h => ?_⟩
  unfold smallB
  simp only [Bool.not_eq_true', List.any_eq_false, decide_eq_true_eq, not_or, Int.not_lt]
  intro i _
  exact h i
theorem head_words {a b : Int} {c : Fin 13 → Int} (h : HeadOk a b c) : headP (headW a b c) = some (a, b, c) := by
  obtain ⟨ha, hb, hc⟩ := h
  unfold headP
  have g0 : (headW a b c).getD 0 [] = storeW := rfl
  have g1 : (headW a b c).getD 1 [] = digs a.toNat := rfl
  have g2 : (headW a b c).getD 2 [] = digs b.toNat := rfl
  have g3 : (headW a b c).drop 3 = setL c := rfl
  rw [g0, g1, g2, g3, cnt_digs _ (by omega), cnt_digs _ (by omega), if_pos ⟨rfl, by simp [headW]⟩, if_pos ⟨rfl, rfl⟩, conf_set c hc]
  simp only [Option.map_some]
  congr 2
  · omega
  · congr 1
    omega
theorem words_head {ws : List (List UInt8)} {a b : Int} {c : Fin 13 → Int} (h : headP ws = some (a, b, c)) : ws = headW a b c ∧ HeadOk a b c := by
  unfold headP at h
  split at h
  · rename_i h1
    split at h
    · rename_i h2
      rw [Option.map_eq_some_iff] at h
      obtain ⟨c', hc, e⟩ := h
      injection e with e1 e
      injection e with e2 e3
      subst e3
      match ws, h1 with
      | x :: y :: z :: r, h1 =>
        have hs := set_conf hc
        have d1 := cnt_pair h2.1
        have d2 := cnt_pair h2.2
        have n1 := cnt_nonneg y
        have n2 := cnt_nonneg z
        refine ⟨?_, ?_⟩
        · unfold headW
          rw [← e1, ← e2, hs, Int.toNat_natCast, Int.toNat_natCast, d1, d2]
          rw [show x = storeW from h1.1]
          rfl
        · refine ⟨?_, ?_, ?_⟩
          · rw [← e1]; exact ⟨by omega, by have : (cnt y).1 ≤ 2147483647 := n1; show ((cnt y).1 : Int) ≤ _; omega⟩
          · rw [← e2]; exact ⟨by omega, by have : (cnt z).1 ≤ 2147483647 := n2; show ((cnt z).1 : Int) ≤ _; omega⟩
          · unfold confP at hc
            split at hc
            · injection hc with hc
              subst hc
              intro i
              have := cnt_nonneg ((List.drop 3 (x :: y :: z :: r)).getD i.1 [])
              unfold nums
              omega
            · cases hc
      | [], h1 => simp at h1
      | [x], h1 => simp at h1
      | [x, y], h1 => simp at h1
    · cases h
  · cases h
theorem head_both (l : List UInt8) : rheadP (splitL 32 l) l = headP (splitL 32 l) := by
  cases hp : headP (splitL 32 l) with
  | some x =>
    obtain ⟨a, b, c⟩ := x
    obtain ⟨hw, hok⟩ := words_head hp
    have hl : l = headL a b c := by rw [← join_split l, hw, head_join]
    rw [hw]
    unfold rheadP
    have e1 : (headW a b c).length = 16 := by simp [headW, setL_len]
    have e2 : szs (headW a b c).tail = a :: b :: cfI c := by
      show sz (digs a.toNat) :: sz (digs b.toNat) :: szs (setL c) = _
      rw [szs_set c hok.2.2, sz_digs _ (by have := hok.1; omega), sz_digs _ (by have := hok.2.1; omega)]
      have := hok.1
      have := hok.2.1
      congr 1
      · omega
      · congr 1
        omega
    rw [if_pos e1, e2, cf_fun]
    have f1 : (a :: b :: cfI c).getD 0 0 = a := rfl
    have f2 : (a :: b :: cfI c).getD 1 0 = b := rfl
    rw [f1, f2, if_pos]
    refine ⟨?_, hl.symm⟩
    rw [Bool.and_eq_true]
    exact ⟨(fit_iff a b).2 ⟨hok.1, hok.2.1⟩, (small_iff c).2 hok.2.2⟩
  | none =>
    unfold rheadP
    split
    · split
      · rename_i h
        exfalso
        obtain ⟨hg, hl⟩ := h
        have hok := headOk_of hg
        have := head_words hok
        rw [← head_split, hl, hp] at this
        cases this
      · rfl
    · rfl
theorem drop_last (l : List UInt8) : rdropL (splitL 10 (l ++ [10])) = splitL 10 l := by
  have e : splitL 10 (l ++ [10]) = splitL 10 l ++ [[]] := by
    have key : ∀ (n : Nat) (l : List UInt8), l.length ≤ n → splitL 10 (l ++ [10]) = splitL 10 l ++ [[]] := by
      intro n
      induction n with
      | zero =>
        intro l hl
        obtain rfl : l = [] := List.length_eq_zero_iff.1 (by omega)
        rfl
      | succ n ih =>
        intro l hl
        rcases index_one 10 l with ⟨_, h2⟩ | ⟨h, t, e, hn, _⟩
        · rw [splitL_app h2 [], splitL_noSep h2]; rfl
        · rw [e, List.append_assoc, List.cons_append, splitL_app hn, splitL_app hn, ih t (by subst e; simp at hl; omega)]
          rfl
    exact key _ l (Nat.le_refl _)
  unfold rdropL
  rw [e, if_pos (by simp), List.dropLast_concat]
theorem last_ne : ∀ (n : Nat) (l : List UInt8), l.length ≤ n → l ≠ [] → l.getLast? ≠ some 10 → (splitL 10 l).getD ((splitL 10 l).length - 1) [] ≠ [] := by
  intro n
  induction n with
  | zero => intro l hl h; exact absurd (List.length_eq_zero_iff.1 (by omega)) h
  | succ n ih =>
    intro l hl h0 hlast
    rcases index_one 10 l with ⟨_, h2⟩ | ⟨h, t, e, hn, _⟩
    · rw [splitL_noSep h2]
      simpa using h0
    · have ht : t ≠ [] := by
        intro e2
        apply hlast
        rw [e, e2]
        simp
      have hk : t.getLast? ≠ some 10 := by
        intro e2
        apply hlast
        rw [e, List.getLast?_append, List.getLast?_cons]
        simp [e2]
      have := ih t (by subst e; simp at hl; omega) ht hk
      rw [e, splitL_app hn]
      have hp : 0 < (splitL 10 t).length := List.length_pos_iff.2 (splitL_ne 10 t)
      rw [List.length_cons, Nat.add_sub_cancel]
      obtain ⟨m, hm⟩ : ∃ m, (splitL 10 t).length = m + 1 := ⟨(splitL 10 t).length - 1, by omega⟩
      rw [hm] at this ⊢
      simpa using this
theorem trim_end (l : List UInt8) : trimL (l ++ [10]) = l := by
  unfold trimL Lib.trimSuffix Lib.hasSuffix
  rw [if_pos (by simp)]
  simp
theorem trim_not {l : List UInt8} (h : l.getLast? ≠ some 10) : trimL l = l := by
  unfold trimL Lib.trimSuffix Lib.hasSuffix
  rw [if_neg]
  intro hs
  apply h
  rw [List.isSuffixOf_iff_suffix] at hs
  obtain ⟨t, ht⟩ := hs
  rw [← ht]
  simp
theorem read_ls (ls : List (List UInt8)) (h : ls ≠ []) : rreadLs ls = readLs ls := by
  have hl : ls.length ≠ 0 := by intro e; exact h (List.length_eq_zero_iff.1 e)
  unfold rreadLs readLs
  rw [if_neg hl, head_both]
  rfl
theorem read_both (l : List UInt8) : rreadP l = readP l := by
  unfold rreadP readP
  by_cases h : l.getLast? = some 10
  · obtain ⟨t, rfl⟩ : ∃ t, l = t ++ [10] := by
      obtain ⟨t, ht⟩ := List.getLast?_eq_some_iff.1 h
      exact ⟨t, ht⟩
    rw [drop_last, trim_end]
    exact read_ls _ (splitL_ne 10 t)
  · rw [trim_not h]
    by_cases h0 : l = []
    · subst h0
      rfl
    · have := last_ne _ l (Nat.le_refl _) h0 h
      rw [show rdropL (splitL 10 l) = splitL 10 l from if_neg this]
      exact read_ls _ (splitL_ne 10 l)
end Go.Proofs.YtjakkmioofbcaaaDoor
