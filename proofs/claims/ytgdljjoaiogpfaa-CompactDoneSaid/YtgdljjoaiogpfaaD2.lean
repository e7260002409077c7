/- The plain law of CompactDone: what is left has nothing left to be done, and as many bytes that live. -/
import Derived.Test.YtgdljjoaiogpfaaL6
namespace Go.Proofs.Ytgdljjoaiogpfaa
open Go.RowKit Go.Maps
def isFull (named : List Plc) (x : Hd) : Bool := decide (0 < (part named x true).length) && decide ((part named x false).length = 0)
def slotOf (hs : List Hd) (p : Plc) : Slt := ((hs.find? fun x => decide (x.id = p.1)).bind fun x => x.sl[p.2.toNat]?).getD (0, 0)
theorem slotOf_at {hs : List Hd} (h : Dst hs) {x : Hd} (hx : x ∈ hs) {m : Nat} {s : Slt} (hs' : x.sl[m]? = some s) : slotOf hs (x.id, (m : Int)) = s := by
  have hf : hs.find? (fun y => decide (y.id = x.id)) = some x := by
    obtain ⟨k, hk⟩ := List.getElem?_of_mem hx
    cases hy : hs.find? (fun y => decide (y.id = x.id)) with
    | none =>
      have := List.find?_eq_none.1 hy x hx
      simp at this
    | some y =>
      have h1 := List.find?_some hy
      obtain ⟨j, hj⟩ := List.getElem?_of_mem (List.mem_of_find?_eq_some hy)
      have h2 := h j k y x hj hk (by simpa using h1)
      subst h2
      rw [hj] at hk
      exact hk
  unfold slotOf
  dsimp only
  rw [hf]
  simp [hs']
theorem mem_partTo {named : List Plc} {x : Hd} {live : Bool} {p : Plc} : ∀ m, p ∈ partTo named x live m → ∃ j, j < m ∧ p = (x.id, (j : Int)) ∧ decide ((x.id, (j : Int)) ∈ named) = live
  | 0, h => by simp [partTo] at h
  | m + 1, h => by
    simp only [partTo, List.mem_append] at h
    rcases h with h | h
    · obtain ⟨j, h1, h2⟩ := mem_partTo m h
      exact ⟨j, by omega, h2⟩
    · split at h
      · rename_i hd
        simp at h
        exact ⟨m, by omega, h, hd⟩
      · simp at h
theorem partTo_mem {named : List Plc} {x : Hd} {live : Bool} {j : Nat} (hd : decide ((x.id, (j : Int)) ∈ named) = live) : ∀ m, j < m → (x.id, (j : Int)) ∈ partTo named x live m
  | 0, h => absurd h (Nat.not_lt_zero j)
  | m + 1, h => by
    simp only [partTo, List.mem_append]
    by_cases e : j = m
    · subst e
      right
      rw [if_pos hd]
      simp
    · exact .inl (partTo_mem hd m (by omega))
def sumS (l : List Slt) : Int := (l.map (·.1)).sum
def sumL (hs : List Hd) (l : List Plc) : Int := (l.map fun p => (slotOf hs p).1).sum
theorem sumL_append (hs : List Hd) (l k : List Plc) : sumL hs (l ++ k) = sumL hs l + sumL hs k := by simp [sumL]
theorem sumS_snoc (l : List Slt) (s : Slt) : sumS (l ++ [s]) = sumS l + s.1 := by simp [sumS]
/-- every slot lives: whatever follows of it -/
def Whole (P : List Plc) (x : Hd) : Prop := ∀ j : Nat, j < x.n → (x.id, (j : Int)) ∈ P
theorem whole_false {P : List Plc} {x : Hd} : ∀ m : Nat, (∀ j : Nat, j < m → (x.id, (j : Int)) ∈ P) → partTo P x false m = [] ∧ bytesTo P x false m = 0
  | 0, _ => ⟨rfl, rfl⟩
  | m + 1, h => by
    obtain ⟨i1, i2⟩ := whole_false m (fun j hj => h j (by omega))
    have hd : decide ((x.id, (m : Int)) ∈ P) = true := by simpa using h m (by omega)
    simp only [partTo, bytesTo, i1, i2, hd]
    simp
theorem whole_true {P : List Plc} {x : Hd} : ∀ m : Nat, m ≤ x.sl.length → (∀ j : Nat, j < m → (x.id, (j : Int)) ∈ P) → (partTo P x true m).length = m ∧ bytesTo P x true m = sumS (x.sl.take m)
  | 0, _, _ => ⟨rfl, by simp [bytesTo, sumS]⟩
  | m + 1, hm, h => by
    obtain ⟨i1, i2⟩ := whole_true m (by omega) (fun j hj => h j (by omega))
    have hd : decide ((x.id, (m : Int)) ∈ P) = true := by simpa using h m (by omega)
    obtain ⟨s, hs⟩ : ∃ s, x.sl[m]? = some s := ⟨x.sl[m]'(by omega), by simp⟩
    have ht : x.sl.take (m + 1) = x.sl.take m ++ [s] := by rw [List.take_add_one, hs]; rfl
    constructor
    · simp only [partTo, hd, List.length_append, i1]; simp
    · rw [ht, sumS_snoc]
      simp only [bytesTo, hd, i2, lenAt, hs]
      simp
theorem Whole.fine {P : List Plc} {x : Hd} (h : Whole P x) (hl : x.sl.length = x.n) (hn : 0 < x.n) : Fine P x ∧ bytes P x true = sumS x.sl ∧ bytes P x false = 0 := by
  obtain ⟨a1, a2⟩ := whole_false x.n h
  obtain ⟨b1, b2⟩ := whole_true x.n (by omega) h
  refine ⟨⟨by unfold part; rw [a1]; rfl, by unfold part; omega⟩, ?_, a2⟩
  unfold bytes
  rw [b2, List.take_of_length_le (by omega)]
theorem full_whole {named : List Plc} {x : Hd} (h : isFull named x = true) : Whole named x ∧ 0 < x.n := by
  unfold isFull at h
  simp only [Bool.and_eq_true, decide_eq_true_eq] at h
  refine ⟨fun j hj => ?_, ?_⟩
  · cases hd : decide ((x.id, (j : Int)) ∈ named) with
    | true => simpa using hd
    | false =>
      have := partTo_mem hd x.n hj
      have h2 := h.2
      unfold part at h2
      rw [List.length_eq_zero_iff] at h2
      rw [h2] at this
      cases this
  · have := partTo_len named x true x.n
    unfold part at h
    omega
theorem sumL_part {named : List Plc} {hs : List Hd} (hd : Dst hs) {x : Hd} (hx : x ∈ hs) : ∀ m, m ≤ x.sl.length → sumL hs (partTo named x true m) = bytesTo named x true m
  | 0, _ => rfl
  | m + 1, hm => by
    have ih := sumL_part (named := named) hd hx m (by omega)
    obtain ⟨s, hs'⟩ : ∃ s, x.sl[m]? = some s := ⟨x.sl[m]'(by omega), by simp⟩
    simp only [partTo, bytesTo, sumL_append, ih]
    split
    · simp [sumL, slotOf_at hd hx hs', lenAt, hs']
    · simp [sumL]
def sumG (hs : List Hd) (f : Int → List Plc) (G : List (List Int)) : Int := (G.map fun g => sumL hs (tot f g)).sum
theorem sumG_snoc (hs : List Hd) (f : Int → List Plc) (G : List (List Int)) (g : List Int) : sumG hs f (G ++ [g]) = sumG hs f G + sumL hs (tot f g) := by simp [sumG]
def sumM (named : List Plc) (hs : List Hd) : Int := ((hs.filter (isMixed named)).map fun x => bytes named x true).sum
theorem sumM_snoc (named : List Plc) (hs : List Hd) (x : Hd) : sumM named (hs ++ [x]) = sumM named hs + (if isMixed named x = true then bytes named x true else 0) := by
  unfold sumM
  rw [List.filter_append]
  by_cases h : isMixed named x = true <;> simp [h]
theorem gfold_sum {named : List Plc} {slots bts : Int} {hs : List Hd} (h : Dst hs) (hl : ∀ x ∈ hs, x.sl.length = x.n) : ∀ k, k ≤ hs.length →
    sumG hs (idP named hs) (gfold named slots bts (hs.take k)).1 = sumM named (hs.take k) ∧ (∀ g ∈ (gfold named slots bts (hs.take k)).1, tot (idP named hs) g ≠ [])
  | 0, _ => by simp [gfold, sumG, sumM]
  | k + 1, hk => by
    obtain ⟨i1, i2⟩ := gfold_sum (named := named) (slots := slots) (bts := bts) h hl k (by omega)
    obtain ⟨t1, _⟩ := gfold_tot (named := named) (slots := slots) (bts := bts) h k (by omega)
    obtain ⟨x, hx⟩ : ∃ x, hs[k]? = some x := ⟨hs[k], by simp⟩
    have ht : hs.take (k + 1) = hs.take k ++ [x] := by rw [List.take_add_one, hx]; rfl
    have hxm := List.mem_of_getElem? hx
    have hnew : ∀ g ∈ (gfold named slots bts (hs.take k)).1, x.id ∉ g := fun g hg hxg => by
      obtain ⟨y, hy, e, _⟩ := (t1 g hg).1 _ hxg
      obtain ⟨i, hi⟩ := List.getElem?_of_mem hy
      rw [List.getElem?_take] at hi
      split at hi
      · have := h i k y x hi hx e
        omega
      · cases hi
    have hpx : idP named hs x.id = part named x true := idP_at h hxm
    have hsl : sumL hs (part named x true) = bytes named x true := sumL_part h hxm x.n (by rw [hl x hxm]; exact Nat.le_refl _)
    rw [ht, gfold_snoc, sumM_snoc]
    generalize gfold named slots bts (hs.take k) = st at *
    obtain ⟨G, s, b⟩ := st
    simp only at i1 i2 hnew
    by_cases hm : isMixed named x = true
    · have hne : part named x true ≠ [] := by
        unfold isMixed at hm
        simp only [Bool.and_eq_true, decide_eq_true_eq] at hm
        intro e
        rw [e] at hm
        simp at hm
      rw [if_pos hm]
      by_cases hc : G ≠ [] ∧ s + (part named x true).length ≤ slots ∧ b + bytes named x true ≤ bts
      · obtain ⟨D, g, rfl⟩ : ∃ D g, G = D ++ [g] := ⟨_, _, (List.dropLast_concat_getLast hc.1).symm⟩
        rw [gstep_more hm hc.2.1 hc.2.2]
        have hts := tot_snoc (f := idP named hs) (hnew g (by simp))
        refine ⟨?_, fun g' hg' => ?_⟩
        · dsimp only
          rw [sumG_snoc, hts, sumL_append, hpx, hsl]
          rw [sumG_snoc] at i1
          omega
        · rcases List.mem_append.1 hg' with h1 | h1
          · exact i2 g' (by simp [h1])
          · simp at h1
            subst h1
            rw [hts, hpx]
            simp [hne]
      · rw [gstep_new hm hc]
        refine ⟨?_, fun g' hg' => ?_⟩
        · dsimp only
          rw [sumG_snoc, tot_one, hpx, hsl, i1]
        · rcases List.mem_append.1 hg' with h1 | h1
          · exact i2 g' h1
          · simp at h1
            subst h1
            rw [tot_one, hpx]
            exact hne
    · rw [if_neg hm, gstep_no (by simpa using hm)]
      exact ⟨by dsimp only; omega, i2⟩
theorem may_of {l : List Hd} (hp : l.Pairwise fun a b => a.id < b.id) (ho : ∀ x ∈ l, ∀ s ∈ x.sl, SOk s) : May l := by
  intro j
  refine ⟨fun a b ha h0 hb => ?_, fun a ha => ho a (List.mem_of_getElem? ha)⟩
  obtain ⟨ha1, rfl⟩ := List.getElem?_eq_some_iff.1 ha
  obtain ⟨hb1, rfl⟩ := List.getElem?_eq_some_iff.1 hb
  exact List.pairwise_iff_getElem.1 hp (j - 1) j hb1 ha1 (by omega)
theorem may_pair {hs : List Hd} (hm : May hs) : hs.Pairwise fun a b => a.id < b.id := by
  rw [List.pairwise_iff_getElem]
  intro i j hi hj hij
  exact may_lt hm j i _ _ hij (List.getElem?_eq_getElem hi) (List.getElem?_eq_getElem hj)
theorem sumB_sum (named : List Plc) (live : Bool) : ∀ hs, sumB named live hs = (hs.map fun x => bytes named x live).sum
  | [] => rfl
  | x :: r => by simp [sumB, sumB_sum named live r]
/-- the boxes of which all slots live, and the mixed ones -/
theorem sum_split {named : List Plc} : ∀ hs : List Hd, sumB named true hs = ((hs.filter (isFull named)).map fun x => bytes named x true).sum + sumM named hs
  | [] => rfl
  | x :: r => by
    have ih := sum_split (named := named) r
    unfold sumM at ih ⊢
    simp only [sumB, ih, List.filter_cons]
    have hq : isFull named x = true ∨ isMixed named x = true ∨ bytes named x true = 0 := by
      by_cases h0 : (part named x true).length = 0
      · right; right
        unfold bytes
        unfold part at h0
        rw [List.length_eq_zero_iff] at h0
        have : ∀ m, partTo named x true m = [] → bytesTo named x true m = 0 := by
          intro m
          induction m with
          | zero => intro _; rfl
          | succ m ihm =>
            intro h
            simp only [partTo, List.append_eq_nil_iff] at h
            simp only [bytesTo, ihm h.1]
            split
            · rename_i hd
              rw [if_pos hd] at h
              simp at h
            · simp
        exact this x.n h0
      · by_cases h1 : (part named x false).length = 0
        · left
          simp [isFull, h1]
          omega
        · right; left
          simp [isMixed]
          omega
    have hex : ¬ (isFull named x = true ∧ isMixed named x = true) := by
      intro ⟨a, b⟩
      unfold isFull at a
      unfold isMixed at b
      simp at a b
      rw [a.2] at b
      simp at b
    by_cases a : isFull named x = true
    · have b : ¬ isMixed named x = true := fun b => hex ⟨a, b⟩
      simp [a, b]
      omega
    · by_cases b : isMixed named x = true
      · simp [a, b]
        omega
      · rcases hq with q | q | q
        · exact absurd q a
        · exact absurd q b
        · simp [a, b, q]
end Go.Proofs.Ytgdljjoaiogpfaa
