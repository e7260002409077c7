/- The plain law of SparseNewest; acts in memory. -/
import Derived.Test.YtnpgfhoagpeelaaBG
namespace Go.Proofs.Ytnpgfhoagpeelaa
open Go.RowKit
open Go.Maps
def NdA (R : List Rw) : Prop := (R.map (·.1)).Nodup
theorem evA_suffix (mo : Nat) : ∀ R : List Rw, ∃ D, R = D ++ evA mo R
  | [] => ⟨[], rfl⟩
  | r :: R => by
    unfold evA
    split
    · obtain ⟨D, hD⟩ := evA_suffix mo R
      exact ⟨r :: D, by rw [List.cons_append, ← hD]⟩
    · exact ⟨[], rfl⟩
theorem evA_stop {mo : Nat} {R : List Rw} (h : ¬ mo < lnA R) : evA mo R = R := by
  cases R with
  | nil => rfl
  | cons e S => unfold evA; rw [if_neg h]
theorem lnA_app (R S : List Rw) : lnA (R ++ S) = lnA R + lnA S := by simp [lnA, List.sum_append]
theorem evA_ln (mo : Nat) (R : List Rw) : lnA (evA mo R) ≤ lnA R := by
  obtain ⟨D, h⟩ := evA_suffix mo R
  have : lnA R = lnA D + lnA (evA mo R) := by conv => lhs; rw [h, lnA_app]
  omega
theorem peek_app {D S : List Rw} {f : Fp} (h : ∀ r ∈ D, r.1 ≠ f) : peekA (D ++ S) f = peekA S f := by
  unfold peekA
  rw [List.find?_append, List.find?_eq_none.2 (fun x hx => by simpa using h x hx)]
  rfl
theorem peek_none {R : List Rw} {f : Fp} (h : ∀ r ∈ R, r.1 ≠ f) : peekA R f = [] := by
  unfold peekA
  rw [List.find?_eq_none.2 (fun x hx => by simpa using h x hx)]
  rfl
theorem ev_peek {mo : Nat} {R : List Rw} (hn : NdA R) (f : Fp) : peekA (evA mo R) f = peekA R f ∨ peekA (evA mo R) f = [] := by
  obtain ⟨D, h⟩ := evA_suffix mo R
  by_cases hd : ∃ r ∈ D, r.1 = f
  · right
    obtain ⟨r, hr, rfl⟩ := hd
    refine peek_none (fun x hx q => ?_)
    have h2 := hn
    unfold NdA at h2
    rw [h, List.map_append, List.nodup_append] at h2
    exact h2.2.2 r.1 (List.mem_map.2 ⟨r, hr, rfl⟩) x.1 (List.mem_map.2 ⟨x, hx, rfl⟩) q.symm
  · left
    conv => rhs; rw [h]
    exact (peek_app (fun r hr q => hd ⟨r, hr, q⟩)).symm
theorem rest_ne (R : List Rw) (g : Fp) : ∀ r ∈ restA R g, r.1 ≠ g := fun r hr => by simpa using (List.mem_filter.1 hr).2
theorem rest_peek {R : List Rw} {f g : Fp} (h : f ≠ g) (S : List Rw) (hS : ∀ r ∈ S, r.1 = g) : peekA (restA R g ++ S) f = peekA R f := by
  unfold peekA restA
  rw [List.find?_append]
  have h2 : S.find? (fun r => decide (r.1 = f)) = none := List.find?_eq_none.2 (fun x hx => by simp [hS x hx, Ne.symm h])
  rw [h2, Option.or_none]
  congr 2
  induction R with
  | nil => rfl
  | cons r R ih =>
    by_cases q : r.1 = g
    · rw [List.filter_cons_of_neg (by simp [q]), ih, List.find?_cons_of_neg (by simp [q, Ne.symm h])]
    · rw [List.filter_cons_of_pos (by simp [q])]
      by_cases q2 : r.1 = f
      · rw [List.find?_cons_of_pos (by simp [q2]), List.find?_cons_of_pos (by simp [q2])]
      · rw [List.find?_cons_of_neg (by simp [q2]), List.find?_cons_of_neg (by simp [q2]), ih]
theorem new_nd {R : List Rw} (hn : NdA R) (g : Fp) (l : List Id) : NdA (restA R g ++ [(g, l)]) := by
  unfold NdA
  rw [List.map_append, List.nodup_append]
  refine ⟨List.Nodup.sublist (List.filter_sublist.map _) hn, by simp, fun a ha b hb => ?_⟩
  obtain ⟨x, hx, rfl⟩ := List.mem_map.1 ha
  simp only [List.map_cons, List.map_nil, List.mem_singleton] at hb
  rw [hb]
  exact rest_ne R g x hx
theorem put_nd {ph mo : Nat} {man : Id} {R : List Rw} (hn : NdA R) (g : Fp) : NdA (put1A ph mo man R g) := by
  unfold put1A
  obtain ⟨D, h⟩ := evA_suffix mo (restA R g ++ [(g, newL ph (cutL (peekA R g) man) man)])
  have h2 := new_nd hn g (newL ph (cutL (peekA R g) man) man)
  unfold NdA at h2 ⊢
  rw [h, List.map_append, List.nodup_append] at h2
  exact h2.2.1
theorem rest_ln {R : List Rw} (hn : NdA R) (g : Fp) : lnA (restA R g) + (peekA R g).length ≤ lnA R := by
  induction R with
  | nil => exact Nat.le_refl _
  | cons r R ih =>
    have hn2 : NdA R := (List.nodup_cons.1 hn).2
    have ih := ih hn2
    by_cases q : r.1 = g
    · have h1 : restA (r :: R) g = R := by
        unfold restA
        rw [List.filter_cons_of_neg (by simp [q])]
        refine List.filter_eq_self.2 (fun x hx => decide_eq_true (fun q2 => (List.nodup_cons.1 hn).1 ?_))
        show r.1 ∈ _
        rw [q, ← q2]
        exact List.mem_map.2 ⟨x, hx, rfl⟩
      have h2 : peekA (r :: R) g = r.2 := by
        unfold peekA
        rw [List.find?_cons_of_pos (by simp [q])]
        rfl
      rw [h1, h2]
      simp [lnA]
      omega
    · have h1 : restA (r :: R) g = r :: restA R g := by
        unfold restA
        rw [List.filter_cons_of_pos (by simp [q])]
      have h2 : peekA (r :: R) g = peekA R g := by
        unfold peekA
        rw [List.find?_cons_of_neg (by simp [q])]
      rw [h1, h2]
      simp only [lnA, List.map_cons, List.sum_cons] at *
      omega
theorem raw_ln {ph : Nat} {man : Id} {R : List Rw} (hn : NdA R) (g : Fp) : lnA (restA R g ++ [(g, newL ph (cutL (peekA R g) man) man)]) ≤ lnA R + 1 := by
  have h1 := rest_ln hn g
  have h2 : (newL ph (cutL (peekA R g) man) man).length ≤ (peekA R g).length + 1 := by
    unfold newL
    rw [List.length_take, List.length_cons]
    have : (cutL (peekA R g) man).length ≤ (peekA R g).length := List.length_filter_le _ _
    omega
  rw [lnA_app]
  simp only [lnA, List.map_cons, List.map_nil, List.sum_cons, List.sum_nil] at *
  omega
theorem put_ln {ph mo : Nat} {man : Id} {R : List Rw} (hn : NdA R) (g : Fp) : lnA (put1A ph mo man R g) ≤ lnA R + 1 := Nat.le_trans (evA_ln _ _) (raw_ln hn g)
def HeadA (man : Id) (R : List Rw) (f : Fp) : Prop := peekA R f = [] ∨ ∃ l, peekA R f = man :: l
theorem peek_one (f : Fp) (l : List Id) : peekA [(f, l)] f = l := by unfold peekA; simp
theorem new_head {ph : Nat} {man : Id} (hph : 1 ≤ ph) (old : List Id) : ∃ l, newL ph old man = man :: l := by
  obtain ⟨k, rfl⟩ : ∃ k, ph = k + 1 := ⟨ph - 1, by omega⟩
  exact ⟨old.take k, rfl⟩
theorem put_head {ph mo : Nat} {man : Id} {R : List Rw} (hph : 1 ≤ ph) (hn : NdA R) (g f : Fp) (h : f = g ∨ HeadA man R f) : HeadA man (put1A ph mo man R g) f := by
  unfold HeadA put1A
  rcases ev_peek (mo := mo) (new_nd hn g (newL ph (cutL (peekA R g) man) man)) f with q | q
  · rw [q]
    by_cases e : f = g
    · right
      subst e
      rw [peek_app (rest_ne R f)]
      obtain ⟨l, hl⟩ := new_head (man := man) hph (cutL (peekA R f) man)
      exact ⟨l, by rw [peek_one, hl]⟩
    · rw [rest_peek e _ (fun r hr => by rw [List.mem_singleton] at hr; rw [hr])]
      exact h.resolve_left e
  · exact .inl q
theorem put_keep {ph mo : Nat} {man : Id} {R : List Rw} (hph : 1 ≤ ph) (hn : NdA R) (hm : lnA R + 1 ≤ mo) (g f : Fp) (h : f = g ∨ peekA R f ≠ []) : peekA (put1A ph mo man R g) f ≠ [] := by
  unfold put1A
  rw [evA_stop (by have := raw_ln (ph := ph) (man := man) hn g; omega)]
  by_cases e : f = g
  · subst e
    rw [peek_app (rest_ne R f)]
    obtain ⟨l, hl⟩ := new_head (man := man) hph (cutL (peekA R f) man)
    rw [peek_one, hl]
    simp
  · rw [rest_peek e _ (fun r hr => by rw [List.mem_singleton] at hr; rw [hr])]
    exact h.resolve_left e
theorem fold_puts {ph mo : Nat} {man : Id} (hph : 1 ≤ ph) : ∀ (fs done : List Fp) (R : List Rw), NdA R → (∀ f ∈ done, HeadA man R f) → NdA (fs.foldl (put1A ph mo man) R) ∧ lnA (fs.foldl (put1A ph mo man) R) ≤ lnA R + fs.length ∧ (∀ f, (f ∈ done ∨ f ∈ fs) → HeadA man (fs.foldl (put1A ph mo man) R) f) ∧ (lnA R + fs.length ≤ mo → (∀ f ∈ done, peekA R f ≠ []) → ∀ f, (f ∈ done ∨ f ∈ fs) → peekA (fs.foldl (put1A ph mo man) R) f ≠ [])
  | [], done, R, hn, hd => ⟨hn, by simp, fun f hf => hd f (hf.resolve_right (by simp)), fun _ hk f hf => hk f (hf.resolve_right (by simp))⟩
  | g :: fs, done, R, hn, hd => by
    have hl := put_ln (ph := ph) (mo := mo) (man := man) hn g
    obtain ⟨h1, h2, h3, h4⟩ := fold_puts (mo := mo) hph fs (done ++ [g]) (put1A ph mo man R g) (put_nd hn g) (fun f hf => put_head hph hn g f (by
      rcases List.mem_append.1 hf with hf | hf
      · exact .inr (hd f hf)
      · exact .inl (by simpa using hf)))
    rw [List.foldl_cons, List.length_cons]
    have hiff : ∀ f, (f ∈ done ∨ f ∈ g :: fs) → (f ∈ done ++ [g] ∨ f ∈ fs) := fun f hf => by
      rcases hf with hf | hf
      · exact .inl (by simp [hf])
      · rcases List.mem_cons.1 hf with rfl | hf
        · exact .inl (by simp)
        · exact .inr hf
    refine ⟨h1, by omega, fun f hf => h3 f (hiff f hf), fun hm hk f hf => h4 (by omega) (fun f hf => put_keep hph hn (by omega) g f (by
      rcases List.mem_append.1 hf with hf | hf
      · exact .inr (hk f hf)
      · exact .inl (by simpa using hf))) f (hiff f hf)⟩
theorem puts_ln {ph mo : Nat} {man : Id} {R : List Rw} (hn : NdA R) (hs : List Fp) : NdA (putsA ph mo R man (setF hs)) ∧ lnA (putsA ph mo R man (setF hs)) ≤ lnA R + hs.length := by
  unfold putsA
  split
  · rename_i h
    have := fold_puts (mo := mo) (man := man) h.1 (setF hs) [] R hn (fun f hf => by cases hf)
    have h2 := setF_len hs
    exact ⟨this.1, by omega⟩
  · exact ⟨hn, by omega⟩
theorem puts_newest {ph mo : Nat} {man : Id} {R : List Rw} (hph : 1 ≤ ph) (hmo : 1 ≤ mo) (hn : NdA R) (hs : List Fp) : ∀ f ∈ setF hs, HeadA man (putsA ph mo R man (setF hs)) f ∧ (lnA R + hs.length ≤ mo → peekA (putsA ph mo R man (setF hs)) f ≠ []) := fun f hf => by
  unfold putsA
  rw [if_pos ⟨hph, hmo⟩]
  obtain ⟨_, _, h3, h4⟩ := fold_puts (mo := mo) (man := man) hph (setF hs) [] R hn (fun f hf => by cases hf)
  have h2 := setF_len hs
  exact ⟨h3 f (.inr hf), fun hm => h4 (by omega) (fun f hf => by cases hf) f (.inr hf)⟩
theorem nd_ab {E : List En} (h : HkE E) : NdA (abE E) := by
  unfold NdA abE
  rw [List.map_map]
  exact h.1
structure Act where
  kind : Int
  man : Id
  A : Option Addr
  c : Nat
  hs : List Fp
def actL (a : Act) : List Value := [.int .i64 a.kind, .int .u32 a.man, .slice a.A a.hs.length a.c]
def Acts (w : World) (A : Option Addr) (xs : List Act) : Prop := Row w A (xs.flatMap actL) ∧ ∀ a ∈ xs, Fps w a.A a.hs ∧ AllFp a.hs ∧ AOz a.A a.hs.length
theorem Acts.below {w w' : World} {A : Option Addr} {xs : List Act} (h : Acts w A xs) (hb : Below w.heap.size w w') : Acts w' A xs := ⟨h.1.below hb, fun a ha => ⟨(h.2 a ha).1.below hb, (h.2 a ha).2⟩⟩
theorem Acts.get {w : World} {A : Option Addr} {xs : List Act} (h : Acts w A xs) {k : Nat} {a : Act} (hk : xs[k]? = some a) :
    ∃ b o, A = some ⟨b, o, none⟩ ∧ w.cell? ⟨b, o + k * 3, none⟩ = some (.int .i64 a.kind) ∧ w.cell? ⟨b, o + k * 3 + 1, none⟩ = some (.int .u32 a.man) ∧ w.cell? ⟨b, o + k * 3 + 2, none⟩ = some (.slice a.A a.hs.length a.c) := by
  have hg := fun j v hv => flat_get (f := actL) (n := 3) (l := xs) (fun _ _ => rfl) k j a v hk hv
  obtain ⟨b, o, e, _, hc⟩ := h.1 (fun e => by
    have := hg 0 (.int .i64 a.kind) rfl
    rw [e] at this
    cases this)
  refine ⟨b, o, e, ?_, ?_, ?_⟩
  · exact hc _ _ (hg 0 (.int .i64 a.kind) rfl)
  · have := hc _ _ (hg 1 (.int .u32 a.man) rfl); rwa [← Nat.add_assoc] at this
  · have := hc _ _ (hg 2 (.slice a.A a.hs.length a.c) rfl); rwa [← Nat.add_assoc] at this
end Go.Proofs.Ytnpgfhoagpeelaa
