/- The plain law: a model's map and the reference's row of names say the same, call by call. -/
import Derived.Test.YtadagidjppgbkaaM10
import Derived.Test.YtadagidjppgbkaaR9
import Derived.Sort.Walk0
namespace Go.Proofs.Ytadagidjppgbkaa
open Go.RowKit Go.Maps Go.Sort
/-- what stands under a name -/
def lookL : List Named → ByteArray → Option ByteArray
  | [], _ => none
  | x :: l, nm => if x.1 = nm then some x.2 else lookL l nm
/-- the names rise -/
def Srt (L : List Named) : Prop := L.Pairwise fun a b => a.1.data.toList < b.1.data.toList
theorem lookL_none {L : List Named} {nm : ByteArray} : lookL L nm = none ↔ ∀ x ∈ L, x.1 ≠ nm := by
  induction L with
  | nil => simp [lookL]
  | cons x l ih =>
    by_cases h : x.1 = nm
    · simp [lookL, h]
    · simp [lookL, h, ih]
theorem atN_none {nm : ByteArray} : ∀ {L : List Named} (k : Nat), lookL L nm = none → atN L nm k = -1
  | [], _, _ => rfl
  | x :: l, k, h => by
    by_cases e : x.1 = nm
    · simp [lookL, e] at h
    · simp only [lookL, e, if_false] at h
      simp only [atN, e, if_false]
      exact atN_none (k + 1) h
theorem atN_some {nm v : ByteArray} : ∀ {L : List Named} (k : Nat), lookL L nm = some v → ∃ i, L[i]? = some (nm, v) ∧ atN L nm k = ((k + i : Nat) : Int)
  | [], _, h => by simp [lookL] at h
  | x :: l, k, h => by
    by_cases e : x.1 = nm
    · simp only [lookL, e, if_true] at h
      injection h with h
      refine ⟨0, ?_, ?_⟩
      · subst e; subst h; rfl
      · simp only [atN, e, if_true]; rfl
    · simp only [lookL, e, if_false] at h
      obtain ⟨i, h1, h2⟩ := atN_some (k + 1) h
      refine ⟨i + 1, by simpa using h1, ?_⟩
      simp only [atN, e, if_false]
      rw [h2]; congr 1; omega
theorem lookL_of_get {L : List Named} (hs : Srt L) {i : Nat} {x : Named} (h : L[i]? = some x) : lookL L x.1 = some x.2 := by
  induction L generalizing i with
  | nil => simp at h
  | cons y l ih =>
    obtain ⟨h1, h2⟩ := List.pairwise_cons.1 hs
    cases i with
    | zero => simp at h; subst h; simp [lookL]
    | succ i =>
      simp at h
      have hm := List.mem_of_getElem? h
      have hne : y.1 ≠ x.1 := fun e => by have := h1 x hm; rw [e] at this; exact absurd this (List.lt_irrefl _)
      simp only [lookL, hne, if_false]
      exact ih h2 h
theorem lessN_iff (nm : ByteArray) (x : Named) : lessN nm x = true ↔ x.1.data.toList < nm.data.toList := by
  rw [lessN, bytesLess_eq, ByteArray.toList_eq, ByteArray.toList_eq]
  simp
theorem insN_cons (x : Named) (l : List Named) (nm da : ByteArray) : insN (x :: l) nm da = if lessN nm x = true then x :: insN l nm da else (nm, da) :: x :: l := by
  unfold insN
  cases h : lessN nm x <;> simp [List.takeWhile, List.dropWhile, h]
theorem mem_insN {L : List Named} {nm da : ByteArray} {y : Named} : y ∈ insN L nm da ↔ y = (nm, da) ∨ y ∈ L := by
  induction L with
  | nil => simp [insN]
  | cons x l ih =>
    rw [insN_cons]
    split
    · simp only [List.mem_cons, ih]
      constructor
      · rintro (h | h | h) <;> simp [h]
      · rintro (h | h | h) <;> simp [h]
    · simp
theorem insN_length (L : List Named) (nm da : ByteArray) : (insN L nm da).length = L.length + 1 := by
  induction L with
  | nil => simp [insN]
  | cons x l ih =>
    rw [insN_cons]
    split <;> simp [ih]
theorem srt_insN {L : List Named} {nm da : ByteArray} (hs : Srt L) (hn : lookL L nm = none) : Srt (insN L nm da) := by
  induction L with
  | nil => simp [insN, Srt]
  | cons x l ih =>
    obtain ⟨h1, h2⟩ := List.pairwise_cons.1 hs
    have hn' := lookL_none.1 hn
    rw [insN_cons]
    split
    · rename_i hlt
      refine List.pairwise_cons.2 ⟨fun y hy => ?_, ih h2 (lookL_none.2 fun y hy => hn' y (List.mem_cons_of_mem _ hy))⟩
      rcases mem_insN.1 hy with rfl | hy
      · exact (lessN_iff _ _).1 hlt
      · exact h1 y hy
    · rename_i hlt
      have hxn : nm.data.toList < x.1.data.toList := by
        have h3 : ¬ x.1.data.toList < nm.data.toList := fun e => hlt ((lessN_iff _ _).2 e)
        rcases List.le_iff_lt_or_eq.1 (List.not_lt.1 h3) with h4 | h4
        · exact h4
        · exact absurd (Go.WideShapes.bytes_inj h4.symm) (hn' x (List.mem_cons_self))
      refine List.pairwise_cons.2 ⟨fun y hy => ?_, hs⟩
      rcases List.mem_cons.1 hy with rfl | hy
      · exact hxn
      · exact List.lt_trans hxn (h1 y hy)
theorem lookL_insN {L : List Named} {nm da : ByteArray} (hn : lookL L nm = none) (x : ByteArray) : lookL (insN L nm da) x = if nm = x then some da else lookL L x := by
  induction L with
  | nil => simp [insN, lookL]
  | cons y l ih =>
    have hn' := lookL_none.1 hn
    have hy : y.1 ≠ nm := hn' y List.mem_cons_self
    have ih' := ih (lookL_none.2 fun z hz => hn' z (List.mem_cons_of_mem _ hz))
    rw [insN_cons]
    split
    · simp only [lookL, ih']
      by_cases e : y.1 = x
      · have : nm ≠ x := fun e2 => hy (by rw [e, e2])
        simp [e, this]
      · simp [e]
    · simp [lookL]
theorem lookL_erase {L : List Named} {nm v : ByteArray} (hs : Srt L) {i : Nat} (h : L[i]? = some (nm, v)) (x : ByteArray) : lookL (L.eraseIdx i) x = if nm = x then none else lookL L x := by
  induction L generalizing i with
  | nil => simp at h
  | cons y l ih =>
    obtain ⟨h1, h2⟩ := List.pairwise_cons.1 hs
    cases i with
    | zero =>
      simp at h
      subst h
      simp only [List.eraseIdx_cons_zero, lookL]
      split
      · rename_i e
        subst e
        exact lookL_none.2 fun z hz e => by have := h1 z hz; simp only [e] at this; exact absurd this (List.lt_irrefl _)
      · rfl
    | succ i =>
      simp at h
      have hm := List.mem_of_getElem? h
      have hne : y.1 ≠ nm := fun e => by have := h1 _ hm; simp only [e] at this; exact absurd this (List.lt_irrefl _)
      simp only [List.eraseIdx_cons_succ, lookL, ih h2 h]
      by_cases e : y.1 = x
      · have : nm ≠ x := fun e2 => hne (by rw [e, e2])
        simp [e, this]
      · simp [e]
theorem srt_erase {L : List Named} (hs : Srt L) (i : Nat) : Srt (L.eraseIdx i) := hs.sublist (List.eraseIdx_sublist _ _)
/-- a map says what a row of names says -/
def Look (s : Md) (L : List Named) : Prop := ∀ nm, has s nm = (lookL L nm).isSome ∧ ∀ v, lookL L nm = some v → valOf s nm = v
theorem valOf_no {s : Md} {nm : ByteArray} (h : has s nm = false) : valOf s nm = ByteArray.empty := by
  unfold valOf
  rw [atKey_of_not_has (by exact h)]
  rfl
/-- the model's keys are the reference's names -/
theorem MdAt.keys_eq {g b : Nat} {s : Md} {w : World} {L : List Named} (h : MdAt g b s w) (hl : Look s L) (hs : Srt L) : keysOf s.D = namesL L := by
  obtain ⟨es, hD, hpw, _⟩ := h.2.entries law9
  obtain ⟨es', hD', hko⟩ := h.2.keysOf
  obtain rfl : es = es' := by rw [hD] at hD'; simpa using hD'
  have hp : (namesL L).Perm (strKeys s.D) := by
    rw [hD]
    refine perm_strKeys hpw (fun p hp => by obtain ⟨v, hv⟩ := hko p hp; obtain ⟨x, _, hx, _⟩ := Maps.keyOf_str Try.underlying9 hv; exact ⟨x, hx⟩) ?_ fun x => ?_
    · unfold namesL
      rw [List.nodup_iff_pairwise_ne, List.pairwise_map]
      exact hs.imp fun {a b} h e => by rw [e] at h; exact absurd h (List.lt_irrefl _)
    · have h1 := (hl ⟨x.toArray⟩).1
      unfold has at h1
      rw [hD] at h1
      simp only at h1
      rw [h1, Option.isSome_iff_ne_none, ne_eq, lookL_none]
      unfold namesL
      rw [List.mem_map]
      constructor
      · rintro ⟨a, ha, rfl⟩ hn
        exact hn a ha (by simp)
      · intro hn
        false_or_by_contra
        rename_i hc
        exact hn fun a ha e => hc ⟨a, ha, by rw [e]⟩
  have h2 := mergeSort_of_perm hp
  rw [keysOf, ← h2]
  refine List.mergeSort_of_pairwise ?_
  unfold namesL
  rw [List.pairwise_map]
  exact hs.imp fun {a b} h => by simpa [leB] using List.le_of_lt h
theorem MdAt.size_eq {g b : Nat} {s : Md} {w : World} {L : List Named} (h : MdAt g b s w) (hl : Look s L) (hs : Srt L) : Maps.size s.D = L.length := by
  rw [← keysOf_length h.2, h.keys_eq hl hs]
  simp [namesL]
theorem key_ne {a b : ByteArray} (h : a ≠ b) : (Lit.string a.data.toList) ≠ .string b.data.toList := fun e => by
  injection e with e
  exact h (Go.WideShapes.bytes_inj e)
theorem isKey (nm : ByteArray) : WideAt.IsKeyLit (.string nm.data.toList) := by simp [WideAt.IsKeyLit]
theorem Look.kept {s : Md} {L : List Named} (h : Look s L) (ht : IsMap s.D) (hn : lookL L s.nm = none) : Look s.kept (insN L s.nm s.by_) := by
  intro x
  rw [lookL_insN hn]
  by_cases e : s.nm = x
  · subst e
    rw [if_pos rfl]
    have h1 : has s.kept s.nm = true := has_put_same ht (isKey _) _
    refine ⟨by rw [h1]; rfl, fun v hv => ?_⟩
    injection hv with hv
    subst hv
    unfold valOf
    have : (s.kept).D.atKey (.string s.nm.data.toList) (.lit (.string [])) = .lit (.string s.by_.data.toList) := atKey_put_same ht (isKey _) _ _
    rw [this]
  · rw [if_neg e]
    have h1 : has s.kept x = has s x := has_put_other (key_ne (Ne.symm e)) _
    have h2 : valOf s.kept x = valOf s x := by
      unfold valOf
      have : (s.kept).D.atKey (.string x.data.toList) (.lit (.string [])) = s.D.atKey (.string x.data.toList) (.lit (.string [])) := atKey_put_other (key_ne (Ne.symm e)) _ _
      rw [this]
    rw [h1, h2]
    exact h x
theorem Look.del {s s' : Md} {L : List Named} (h : Look s L) {nm v : ByteArray} (hs : Srt L) {i : Nat} (hi : L[i]? = some (nm, v)) (hD : s'.D = s.D.del (.string nm.data.toList)) : Look s' (L.eraseIdx i) := by
  intro x
  rw [lookL_erase hs hi]
  by_cases e : nm = x
  · subst e
    rw [if_pos rfl]
    have h1 : has s' nm = false := by unfold has; rw [hD]; exact has_del_same
    exact ⟨by rw [h1]; rfl, fun v hv => by cases hv⟩
  · rw [if_neg e]
    have h1 : has s' x = has s x := by unfold has; rw [hD]; exact has_del_other (key_ne (Ne.symm e))
    have h2 : valOf s' x = valOf s x := by
      unfold valOf
      rw [hD, atKey_del_other (key_ne (Ne.symm e))]
    rw [h1, h2]
    exact h x
theorem Look.same {s s' : Md} {L : List Named} (h : Look s L) (hD : s'.D = s.D) : Look s' L := by
  intro x
  have h1 : has s' x = has s x := by unfold has; rw [hD]
  have h2 : valOf s' x = valOf s x := by unfold valOf; rw [hD]
  rw [h1, h2]
  exact h x
end Go.Proofs.Ytadagidjppgbkaa
