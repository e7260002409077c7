/- Plain facts about segments of lists of fingerprints: no program in sight. -/
namespace Go.Proofs.Ytkmhjfcjplnjdaa

abbrev Fp := List Int
/-- a fingerprint's first four bytes as a number -/
def num (f : Fp) : Int := ((f[0]?.getD 0 * 256 + f[1]?.getD 0) * 256 + f[2]?.getD 0) * 256 + f[3]?.getD 0
def IsFp (f : Fp) : Prop := f.length = 32 ∧ ∀ b ∈ f, 0 ≤ b ∧ b ≤ 255

structure Cf where
  mn : Int
  mx : Int
  dv : Int

def may (c : Cf) : Bool := decide (1 ≤ c.mn) && decide (c.mn ≤ c.mx) && decide (c.mx ≤ 256) && decide (1 ≤ c.dv) && decide (c.dv ≤ 1048576)
def endB (c : Cf) (a : Int) (f : Fp) : Bool := decide (a + 1 = c.mx) || (decide (c.mn ≤ a + 1) && decide (num f % c.dv = 0))
def cutF (c : Cf) : Nat → List Fp → Nat
  | _, [] => 0
  | k, f :: r => if endB c k f = true then k + 1 else cutF c (k + 1) r
def cutN (c : Cf) (l : List Fp) : Nat := if may c = true then cutF c 0 l else 0
def segs (c : Cf) : Nat → List Fp → List (List Fp)
  | 0, _ => []
  | n + 1, l => if l = [] then [] else if cutF c 0 l = 0 then [l] else l.take (cutF c 0 l) :: segs c n (l.drop (cutF c 0 l))
def split (c : Cf) (l : List Fp) : List (List Fp) := if may c = true then segs c l.length l else []

theorem may_iff (c : Cf) : may c = true ↔ 1 ≤ c.mn ∧ c.mn ≤ c.mx ∧ c.mx ≤ 256 ∧ 1 ≤ c.dv ∧ c.dv ≤ 1048576 := by
  simp [may, and_assoc]

theorem num_bd {f : Fp} (h : IsFp f) : 0 ≤ num f ∧ num f < 4294967296 := by
  obtain ⟨hl, hb⟩ := h
  match f, hl with
  | b0 :: b1 :: b2 :: b3 :: r, _ =>
    have h0 := hb b0 (by simp)
    have h1 := hb b1 (by simp)
    have h2 := hb b2 (by simp)
    have h3 := hb b3 (by simp)
    simp [num]
    omega

theorem cutF_le (c : Cf) : ∀ (l : List Fp) (k : Nat), cutF c k l ≤ k + l.length
  | [], k => by simp [cutF]
  | f :: r, k => by
    unfold cutF
    split
    · simp
    · have := cutF_le c r (k + 1); simp; omega
theorem cutF_gt (c : Cf) : ∀ (l : List Fp) (k : Nat), cutF c k l ≠ 0 → k < cutF c k l
  | [], k => by simp [cutF]
  | f :: r, k => by
    unfold cutF
    split
    · simp
    · intro h; have := cutF_gt c r (k + 1) h; omega

/-- a step of a loop that looks for the end -/
theorem cutF_hit (c : Cf) (l : List Fp) (k : Nat) (f : Fp) (hf : l[k]? = some f) (he : endB c k f = true) : cutF c k (l.drop k) = k + 1 := by
  obtain ⟨hk, rfl⟩ := List.getElem?_eq_some_iff.1 hf
  rw [List.drop_eq_getElem_cons hk]
  simp [cutF, he]
theorem cutF_miss (c : Cf) (l : List Fp) (k : Nat) (f : Fp) (hf : l[k]? = some f) (he : endB c k f = false) : cutF c k (l.drop k) = cutF c (k + 1) (l.drop (k + 1)) := by
  obtain ⟨hk, rfl⟩ := List.getElem?_eq_some_iff.1 hf
  rw [List.drop_eq_getElem_cons hk]
  simp [cutF, he]
theorem cutF_end (c : Cf) (l : List Fp) (k : Nat) (hk : l.length ≤ k) : cutF c k (l.drop k) = 0 := by
  rw [List.drop_eq_nil_of_le hk]; rfl

/-- below SegMin nothing ends -/
theorem endB_low (c : Cf) (hc : may c = true) (k : Nat) (f : Fp) (hk : (k : Int) + 1 < c.mn) : endB c k f = false := by
  have h := (may_iff c).1 hc
  simp [endB]; omega
theorem cutF_skip (c : Cf) (hc : may c = true) (l : List Fp) : ∀ k : Nat, (k : Int) < c.mn → cutF c 0 l = cutF c k (l.drop k)
  | 0, _ => by simp
  | k + 1, hk => by
    rw [cutF_skip c hc l k (by omega)]
    cases hf : l[k]? with
    | none =>
      have : l.length ≤ k := by simpa using hf
      rw [cutF_end c l k this, cutF_end c l (k + 1) (by omega)]
    | some f => exact cutF_miss c l k f hf (endB_low c hc k f (by omega))
/-- the greatest segment ends -/
theorem cutF_zero_lt (c : Cf) (hc : may c = true) : ∀ (l : List Fp) (k : Nat), (k : Int) < c.mx → cutF c k l = 0 → ((k + l.length : Nat) : Int) < c.mx
  | [], k, hk, _ => by simpa using hk
  | f :: r, k, hk, h => by
    unfold cutF at h
    split at h
    · omega
    · rename_i he
      have hne : ¬ ((k : Int) + 1 = c.mx) := by
        intro e; apply he; simp [endB, e]
      have := cutF_zero_lt c hc r (k + 1) (by omega) h
      simp at this ⊢; omega
theorem cutF_mx (c : Cf) (hc : may c = true) : ∀ (l : List Fp) (k : Nat), (k : Int) < c.mx → (cutF c k l : Int) ≤ c.mx
  | [], k, hk => by simp [cutF]; have h := (may_iff c).1 hc; omega
  | f :: r, k, hk => by
    unfold cutF
    split
    · simp; omega
    · rename_i he
      have hne : ¬ ((k : Int) + 1 = c.mx) := by
        intro e; apply he; simp [endB, e]
      exact cutF_mx c hc r (k + 1) (by omega)
theorem cutF_mn (c : Cf) (hc : may c = true) : ∀ (l : List Fp) (k : Nat), cutF c k l ≠ 0 → c.mn ≤ (cutF c k l : Int)
  | [], k => by simp [cutF]
  | f :: r, k => by
    unfold cutF
    split
    · rename_i he
      intro _
      have h := (may_iff c).1 hc
      simp [endB] at he
      simp; omega
    · exact cutF_mn c hc r (k + 1)

theorem cutF_append (c : Cf) (f : Fp) : ∀ (l : List Fp) (k : Nat), cutF c k l = 0 → cutF c k (l ++ [f]) = if endB c ((k + l.length : Nat) : Int) f = true then k + l.length + 1 else 0
  | [], k, _ => by simp [cutF]
  | g :: r, k, h => by
    unfold cutF at h
    split at h
    · omega
    · rename_i he
      have := cutF_append c f r (k + 1) h
      simp only [List.cons_append, cutF, he]
      rw [if_neg (by simp), this]
      have e : (k + 1 + r.length : Nat) = k + (g :: r).length := by simp; omega
      rw [e]

theorem segs_flatten (c : Cf) : ∀ (n : Nat) (l : List Fp), l.length ≤ n → (segs c n l).flatten = l
  | 0, l, h => by
    have : l = [] := List.eq_nil_of_length_eq_zero (by omega)
    subst this; rfl
  | n + 1, l, h => by
    unfold segs
    split
    · rename_i e; subst e; rfl
    · split
      · simp
      · rename_i h1 h2
        have hg := cutF_gt c l 0 h2
        rw [List.flatten_cons, segs_flatten c n _ (by simp; omega), List.take_append_drop]
/-- the fuel matters not -/
theorem segs_fuel (c : Cf) : ∀ (n m : Nat) (l : List Fp), l.length ≤ n → l.length ≤ m → segs c n l = segs c m l
  | 0, m, l, h, _ => by
    have : l = [] := List.eq_nil_of_length_eq_zero (by omega)
    subst this
    cases m <;> simp [segs]
  | n + 1, 0, l, _, h => by
    have : l = [] := List.eq_nil_of_length_eq_zero (by omega)
    subst this
    simp [segs]
  | n + 1, m + 1, l, h1, h2 => by
    unfold segs
    split
    · rfl
    · split
      · rfl
      · rename_i h3
        have hg := cutF_gt c l 0 h3
        rw [segs_fuel c n m _ (by simp; omega) (by simp; omega)]
theorem segs_cut (c : Cf) (l : List Fp) (n : Nat) (hl : l ≠ []) (hn : l.length ≤ n) (h : cutF c 0 l ≠ 0) : segs c n l = l.take (cutF c 0 l) :: segs c (l.drop (cutF c 0 l)).length (l.drop (cutF c 0 l)) := by
  cases n with
  | zero => exact absurd (List.eq_nil_of_length_eq_zero (by omega)) hl
  | succ n =>
    have hg := cutF_gt c l 0 h
    have h2 : (l.drop (cutF c 0 l)).length ≤ n := by simp; omega
    rw [segs, if_neg hl, if_neg h, segs_fuel c n _ _ h2 (Nat.le_refl _)]
theorem segs_last (c : Cf) (l : List Fp) (n : Nat) (hl : l ≠ []) (hn : l.length ≤ n) (h : cutF c 0 l = 0) : segs c n l = [l] := by
  cases n with
  | zero => exact absurd (List.eq_nil_of_length_eq_zero (by omega)) hl
  | succ n => rw [segs, if_neg hl, if_pos h]
/-- each segment has from 1 to SegMax, each but the last SegMin at least -/
theorem segs_bd (c : Cf) (hc : may c = true) : ∀ (n : Nat) (l : List Fp) (i : Nat) (s : List Fp), l.length ≤ n → (segs c n l)[i]? = some s →
    1 ≤ s.length ∧ (s.length : Int) ≤ c.mx ∧ (i + 1 < (segs c n l).length → c.mn ≤ (s.length : Int))
  | 0, l, i, s, h => by simp [segs]
  | n + 1, l, i, s, h => by
    have hm := (may_iff c).1 hc
    unfold segs
    split
    · simp
    · rename_i hl
      have hpos : 0 < l.length := List.length_pos_iff.2 hl
      split
      · rename_i h0
        have hlt := cutF_zero_lt c hc l 0 (by omega) h0
        cases i with
        | zero =>
          intro e
          simp at e
          subst e
          refine ⟨hpos, by simp at hlt; omega, by simp⟩
        | succ i => simp
      · rename_i h0
        have hg := cutF_gt c l 0 h0
        have hle := cutF_le c l 0
        have hmx := cutF_mx c hc l 0 (by omega)
        have hmn := cutF_mn c hc l 0 h0
        cases i with
        | zero =>
          intro e
          simp at e
          subst e
          rw [List.length_take]
          refine ⟨by omega, by omega, fun _ => by omega⟩
        | succ i =>
          intro e
          simp at e
          have := segs_bd c hc n (l.drop (cutF c 0 l)) i s (by simp; omega) e
          refine ⟨this.1, this.2.1, fun hi => this.2.2 (by simp at hi; omega)⟩

theorem segs_len (c : Cf) : ∀ (n : Nat) (l : List Fp), (segs c n l).length ≤ l.length
  | 0, l => by simp [segs]
  | n + 1, l => by
    unfold segs
    split
    · simp
    · rename_i hl
      have hpos : 0 < l.length := List.length_pos_iff.2 hl
      split
      · simp; omega
      · rename_i h0
        have hg := cutF_gt c l 0 h0
        have := segs_len c n (l.drop (cutF c 0 l))
        simp at this ⊢
        omega
theorem split_len (c : Cf) (l : List Fp) : (split c l).length ≤ l.length := by
  unfold split
  split
  · exact segs_len c _ l
  · simp
/-- how many the first segment of what is left has -/
def firstN (c : Cf) (l : List Fp) : Nat := if cutF c 0 l = 0 then l.length else cutF c 0 l
theorem firstN_pos (c : Cf) (l : List Fp) (h : l ≠ []) : 0 < firstN c l ∧ firstN c l ≤ l.length := by
  have := List.length_pos_iff.2 h
  have := cutF_le c l 0
  unfold firstN; split <;> omega
theorem segs_firstN (c : Cf) (l : List Fp) (n : Nat) (hl : l ≠ []) (hn : l.length ≤ n) : (segs c n l).map List.length = firstN c l :: (segs c (l.drop (firstN c l)).length (l.drop (firstN c l))).map List.length := by
  unfold firstN
  by_cases h : cutF c 0 l = 0
  · rw [segs_last c l n hl hn h, if_pos h, List.drop_length]; simp [segs]
  · rw [segs_cut c l n hl hn h, if_neg h]
    have := cutF_le c l 0
    simp; omega

end Go.Proofs.Ytkmhjfcjplnjdaa
