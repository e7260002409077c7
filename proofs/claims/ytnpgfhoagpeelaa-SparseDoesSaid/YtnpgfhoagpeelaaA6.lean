/- Sets of fingerprints, in plain words. -/
import Derived.Test.YtnpgfhoagpeelaaA4
import Derived.Lib.SlicesCompact
namespace Go.Proofs.Ytnpgfhoagpeelaa
open Go.RowKit
def insF (l : List Fp) (x : Fp) : List Fp := if x ∈ l then l else (l.takeWhile fun y => lessF y x) ++ x :: (l.dropWhile fun y => lessF y x)
def setF (fs : List Fp) : List Fp := fs.foldl insF []
def SortF (l : List Fp) : Prop := l.Pairwise fun a b => lessF a b = true
theorem setF_snoc (l : List Fp) (x : Fp) : setF (l ++ [x]) = insF (setF l) x := by simp [setF, List.foldl_append]
theorem insF_mem {l : List Fp} {x y : Fp} : y ∈ insF l x ↔ y = x ∨ y ∈ l := by
  unfold insF
  split
  · next h => exact ⟨.inr, fun h' => h'.elim (fun e => e ▸ h) id⟩
  · have e : y ∈ (l.takeWhile fun z => lessF z x) ++ (l.dropWhile fun z => lessF z x) ↔ y ∈ l := by rw [List.takeWhile_append_dropWhile]
    rw [← e, List.mem_append, List.mem_append, List.mem_cons]
    exact ⟨fun h => h.elim (fun h => .inr (.inl h)) (fun h => h.elim .inl (fun h => .inr (.inr h))), fun h => h.elim (fun h => .inr (.inl h)) (fun h => h.elim .inl (fun h => .inr (.inr h)))⟩
theorem drop_ge : ∀ {l : List Fp} {x : Fp}, SortF l → x ∉ l → ∀ y ∈ l.dropWhile (fun z => lessF z x), lessF x y = true
  | [], _, _, _, y, hy => by simp at hy
  | a :: l, x, hs, hx, y, hy => by
    rw [List.dropWhile_cons] at hy
    have ha : ∀ z ∈ l, lessF a z = true := fun z hz => List.rel_of_pairwise_cons hs hz
    split at hy
    · exact drop_ge (List.Pairwise.of_cons hs) (fun h => hx (List.mem_cons_of_mem _ h)) y hy
    · next hn =>
      have h1 : lessF x a = true := by
        cases h : lessF x a with
        | true => rfl
        | false => exact absurd (lessF_total h (by simpa using hn)) (fun e => hx (e ▸ List.mem_cons_self ..))
      rcases List.mem_cons.1 hy with rfl | hy
      · exact h1
      · exact lessF_trans h1 (ha y hy)
theorem take_lt : ∀ {l : List Fp} {x : Fp}, ∀ y ∈ l.takeWhile (fun z => lessF z x), lessF y x = true
  | [], _, y, hy => by simp at hy
  | a :: l, x, y, hy => by
    rw [List.takeWhile_cons] at hy
    split at hy
    · next h =>
      rcases List.mem_cons.1 hy with rfl | hy
      · exact h
      · exact take_lt y hy
    · simp at hy
theorem insF_sort {l : List Fp} (h : SortF l) (x : Fp) : SortF (insF l x) := by
  unfold insF
  split
  · exact h
  · next hx =>
    have h1 := take_lt (l := l) (x := x)
    have h2 := drop_ge h hx
    refine List.pairwise_append.2 ⟨?_, List.pairwise_cons.2 ⟨h2, ?_⟩, fun a ha b hb => ?_⟩
    · exact List.Pairwise.sublist (List.takeWhile_sublist _) h
    · exact List.Pairwise.sublist (List.dropWhile_sublist _) h
    · rcases List.mem_cons.1 hb with rfl | hb
      · exact h1 a ha
      · exact lessF_trans (h1 a ha) (h2 b hb)
theorem setF_sort (l : List Fp) : SortF (setF l) := by
  have key : ∀ (l : List Fp) (a : List Fp), SortF a → SortF (l.foldl insF a) := fun l => by
    induction l with
    | nil => exact fun _ h => h
    | cons x l ih => exact fun a h => ih _ (insF_sort h x)
  exact key l [] List.Pairwise.nil
theorem setF_mem {l : List Fp} {x : Fp} : x ∈ setF l ↔ x ∈ l := by
  have key : ∀ (l : List Fp) (a : List Fp), x ∈ l.foldl insF a ↔ x ∈ a ∨ x ∈ l := fun l => by
    induction l with
    | nil => exact fun a => by simp
    | cons y l ih =>
      intro a
      rw [List.foldl_cons, ih, insF_mem, List.mem_cons]
      exact ⟨fun h => h.elim (fun h => h.elim (fun h => .inr (.inl h)) .inl) (fun h => .inr (.inr h)), fun h => h.elim (fun h => .inl (.inr h)) (fun h => h.elim (fun h => .inl (.inl h)) .inr)⟩
  have := key l []
  simpa [setF] using this
theorem setF_fp {l : List Fp} (h : AllFp l) : AllFp (setF l) := fun f hf => h f (setF_mem.1 hf)
theorem sort_nodup {l : List Fp} (h : SortF l) : l.Nodup := List.Pairwise.imp (fun {a b} hab e => by rw [e, lessF_irrefl] at hab; cases hab) h
theorem sort_unique : ∀ {l m : List Fp}, SortF l → SortF m → (∀ x, x ∈ l ↔ x ∈ m) → l = m
  | [], [], _, _, _ => rfl
  | [], b :: m, _, _, h => absurd ((h b).2 (List.mem_cons_self ..)) (by simp)
  | a :: l, [], _, _, h => absurd ((h a).1 (List.mem_cons_self ..)) (by simp)
  | a :: l, b :: m, hl, hm, h => by
    have h1 : ∀ z ∈ l, lessF a z = true := fun z hz => List.rel_of_pairwise_cons hl hz
    have h2 : ∀ z ∈ m, lessF b z = true := fun z hz => List.rel_of_pairwise_cons hm hz
    have e : a = b := by
      rcases List.mem_cons.1 ((h a).1 (List.mem_cons_self ..)) with e | e
      · exact e
      · rcases List.mem_cons.1 ((h b).2 (List.mem_cons_self ..)) with e' | e'
        · exact e'.symm
        · have := lessF_asymm (h1 _ e')
          rw [h2 _ e] at this
          cases this
    subst e
    rw [sort_unique (List.Pairwise.of_cons hl) (List.Pairwise.of_cons hm) (fun x => ⟨fun hx => by
      rcases List.mem_cons.1 ((h x).1 (List.mem_cons_of_mem _ hx)) with e | e
      · subst e
        have := h1 _ hx
        rw [lessF_irrefl] at this
        cases this
      · exact e, fun hx => by
      rcases List.mem_cons.1 ((h x).2 (List.mem_cons_of_mem _ hx)) with e | e
      · subst e
        have := h2 _ hx
        rw [lessF_irrefl] at this
        cases this
      · exact e⟩)]
theorem setF_len (l : List Fp) : (setF l).length ≤ l.length := by
  have key : ∀ (l : List Fp) (a : List Fp), (l.foldl insF a).length ≤ a.length + l.length := fun l => by
    induction l with
    | nil => exact fun a => Nat.le_refl _
    | cons y l ih =>
      intro a
      have h1 := ih (insF a y)
      have h2 : (insF a y).length ≤ a.length + 1 := by
        unfold insF
        split
        · omega
        · have := congrArg List.length (List.takeWhile_append_dropWhile (p := fun z => lessF z y) (l := a))
          rw [List.length_append] at this
          rw [List.length_append, List.length_cons]
          omega
      rw [List.foldl_cons, List.length_cons]
      omega
  have := key l []
  simpa [setF] using this
/-- neighbours that are alike are one -/
def dedA : List Fp → List Fp
  | [] => []
  | [x] => [x]
  | x :: y :: r => if x = y then dedA (y :: r) else x :: dedA (y :: r)
theorem dedA_mem : ∀ {l : List Fp} {x : Fp}, x ∈ dedA l ↔ x ∈ l
  | [], x => Iff.rfl
  | [_], x => Iff.rfl
  | a :: b :: r, x => by
    unfold dedA
    have ih := dedA_mem (l := b :: r) (x := x)
    split
    · next e =>
      rw [ih]
      exact ⟨List.mem_cons_of_mem _, fun h => (List.mem_cons.1 h).elim (fun h => h ▸ e ▸ List.mem_cons_self ..) id⟩
    · rw [List.mem_cons, ih, List.mem_cons (a := x) (b := a)]
theorem dedA_sort : ∀ {l : List Fp}, l.Pairwise (fun a b => lessF b a = false) → SortF (dedA l)
  | [], _ => List.Pairwise.nil
  | [_], _ => List.pairwise_singleton ..
  | a :: b :: r, h => by
    have ih := dedA_sort (List.Pairwise.of_cons h)
    unfold dedA
    split
    · exact ih
    · next hne =>
      refine List.pairwise_cons.2 ⟨fun y hy => ?_, ih⟩
      have hy' := dedA_mem.1 hy
      have h1 := List.rel_of_pairwise_cons h hy'
      have hab := List.rel_of_pairwise_cons h (List.mem_cons_self ..)
      have hlt : lessF a b = true := by
        cases q : lessF a b with
        | true => rfl
        | false => exact absurd (lessF_total q hab) hne
      rcases List.mem_cons.1 hy' with rfl | hy2
      · exact hlt
      · have h2 := List.rel_of_pairwise_cons (List.Pairwise.of_cons h) hy2
        cases q : lessF b y with
        | true => exact lessF_trans hlt q
        | false => rw [← lessF_total q h2]; exact hlt
theorem dedA_set {l m : List Fp} (hp : ∀ x, x ∈ l ↔ x ∈ m) (h : l.Pairwise (fun a b => lessF b a = false)) : dedA l = setF m :=
  sort_unique (dedA_sort h) (setF_sort m) (fun x => by rw [dedA_mem, setF_mem, hp])
end Go.Proofs.Ytnpgfhoagpeelaa
