/- Plain laws: IDs stand once; what a group's successor holds; bounds of groups. Moves as they are read. -/
import Derived.Test.YtgdljjoaiogpfaaR9
import Derived.Test.YtgdljjoaiogpfaaR10
import Derived.Test.YtgdljjoaiogpfaaL4
namespace Go.Proofs.Ytgdljjoaiogpfaa
open Go.RowKit Go.Maps
theorem may_lt {hs : List Hd} (hm : May hs) : ∀ (j i : Nat) (x y : Hd), i < j → hs[i]? = some x → hs[j]? = some y → x.id < y.id
  | 0, i, _, _, h, _, _ => absurd h (Nat.not_lt_zero i)
  | j + 1, i, x, y, h, hx, hy => by
    obtain ⟨z, hz⟩ : ∃ z, hs[j]? = some z := ⟨hs[j]'(by have := (List.getElem?_eq_some_iff.1 hy).1; omega), by simp⟩
    have h1 : z.id < y.id := (hm (j + 1)).1 y z hy (by omega) hz
    by_cases e : i = j
    · subst e; rw [hz] at hx; cases hx; exact h1
    · have := may_lt hm j i x z (by omega) hx hz
      omega
def Dst (hs : List Hd) : Prop := ∀ (i j : Nat) (x y : Hd), hs[i]? = some x → hs[j]? = some y → x.id = y.id → i = j
theorem may_dst {hs : List Hd} (hm : May hs) : Dst hs := by
  intro i j x y hx hy e
  rcases Nat.lt_trichotomy i j with h | h | h
  · have := may_lt hm j i x y h hx hy; omega
  · exact h
  · have := may_lt hm i j y x h hy hx; omega
theorem Dst.init {l : List Hd} {x : Hd} (h : Dst (l ++ [x])) : Dst l := fun i j a b ha hb e => h i j a b (by rw [List.getElem?_append_left (List.getElem?_eq_some_iff.1 ha).1]; exact ha) (by rw [List.getElem?_append_left (List.getElem?_eq_some_iff.1 hb).1]; exact hb) e
theorem idP_none {named : List Plc} {l : List Hd} {g : Int} (h : ∀ y ∈ l, y.id ≠ g) : idP named l g = [] := by
  unfold idP
  rw [List.filter_eq_nil_iff.2 (fun y hy => by simpa using h y hy)]
  rfl
theorem Dst.last {l : List Hd} {x : Hd} (h : Dst (l ++ [x])) : ∀ y ∈ l, y.id ≠ x.id := by
  intro y hy e
  obtain ⟨i, hi⟩ := List.getElem?_of_mem hy
  have hl := (List.getElem?_eq_some_iff.1 hi).1
  have := h i l.length y x (by rw [List.getElem?_append_left hl]; exact hi) (by simp) e
  omega
theorem idP_byAll {named : List Plc} {hs : List Hd} (h : Dst hs) : ∀ g, idP named hs g = byAll named hs g := by
  induction hs using snoc_ind with
  | nil => intro g; rfl
  | snoc l x ih =>
    intro g
    rw [idP_snoc, byAll_snoc]
    dsimp only
    by_cases e : g = x.id
    · subst e
      rw [if_pos rfl, if_pos rfl, idP_none h.last]
      rfl
    · rw [if_neg (fun e' => e e'.symm), if_neg e, ih h.init, List.append_nil]
theorem byAll_eq {named : List Plc} {hs : List Hd} (hm : May hs) : byAll named hs = idP named hs := (funext (idP_byAll (may_dst hm))).symm
theorem idP_at {named : List Plc} {hs : List Hd} (h : Dst hs) {x : Hd} (hx : x ∈ hs) : idP named hs x.id = part named x true := by
  obtain ⟨k, hk⟩ := List.getElem?_of_mem hx
  have e1 := split_at hk
  have hk' := (List.getElem?_eq_some_iff.1 hk).1
  rw [e1]
  unfold idP
  rw [List.filter_append, List.filter_cons_of_pos (by simp)]
  have z1 : (hs.take k).filter (fun y => decide (y.id = x.id)) = [] := by
    rw [List.filter_eq_nil_iff]
    intro y hy
    obtain ⟨i, hi⟩ := List.getElem?_of_mem hy
    rw [List.getElem?_take] at hi
    split at hi
    · rename_i hik
      simp only [decide_eq_true_eq]
      intro e
      have := h i k y x hi hk e
      omega
    · cases hi
  have z2 : (hs.drop (k + 1)).filter (fun y => decide (y.id = x.id)) = [] := by
    rw [List.filter_eq_nil_iff]
    intro y hy
    obtain ⟨i, hi⟩ := List.getElem?_of_mem hy
    rw [List.getElem?_drop] at hi
    simp only [decide_eq_true_eq]
    intro e
    have := h (k + 1 + i) k y x hi hk e
    omega
  rw [z1, z2]
  simp [allP]
theorem succTo_pre {f : Int → List Plc} (gs r : List Int) : ∀ k, k ≤ gs.length → succTo f (gs ++ r) k = succTo f gs k
  | 0, _ => rfl
  | k + 1, h => by
    have hk : k < gs.length := by omega
    obtain ⟨g, hg⟩ : ∃ g, gs[k]? = some g := ⟨gs[k], by simp⟩
    have hg' : (gs ++ r)[k]? = some g := by rw [List.getElem?_append_left hk]; exact hg
    rw [succTo_step hg, succTo_step hg', succTo_pre gs r k (by omega), List.take_append_of_le_length (by omega)]
def tot (f : Int → List Plc) (g : List Int) : List Plc := succTo f g g.length
theorem tot_one (f : Int → List Plc) (y : Int) : tot f [y] = f y := by simp [tot, succTo]
theorem tot_snoc {f : Int → List Plc} {g : List Int} {y : Int} (h : y ∉ g) : tot f (g ++ [y]) = tot f g ++ f y := by
  unfold tot
  have e : (g ++ [y]).length = g.length + 1 := by simp
  rw [e, succTo_step (g := y) (by simp), succTo_pre g [y] g.length (Nat.le_refl _), List.take_append_of_le_length (Nat.le_refl _), List.take_length, if_neg h]
/-- what holds of the groups, box by box -/
theorem gfold_tot {named : List Plc} {slots bts : Int} {hs : List Hd} (h : Dst hs) : ∀ k, k ≤ hs.length →
    (∀ g ∈ (gfold named slots bts (hs.take k)).1, (∀ i ∈ g, ∃ x ∈ hs.take k, x.id = i ∧ isMixed named x = true) ∧ (1 < g.length → ((tot (idP named hs) g).length : Int) ≤ slots)) ∧
    (∀ D g, (gfold named slots bts (hs.take k)).1 = D ++ [g] → (gfold named slots bts (hs.take k)).2.1 = ((tot (idP named hs) g).length : Int))
  | 0, _ => by simp [gfold]
  | k + 1, hk => by
    obtain ⟨ih1, ih2⟩ := gfold_tot (named := named) (slots := slots) (bts := bts) h k (by omega)
    obtain ⟨x, hx⟩ : ∃ x, hs[k]? = some x := ⟨hs[k], by simp⟩
    have ht : hs.take (k + 1) = hs.take k ++ [x] := by rw [List.take_add_one, hx]; rfl
    have hnew : ∀ g ∈ (gfold named slots bts (hs.take k)).1, x.id ∉ g := fun g hg hxg => by
      obtain ⟨y, hy, e, _⟩ := (ih1 g hg).1 _ hxg
      obtain ⟨i, hi⟩ := List.getElem?_of_mem hy
      rw [List.getElem?_take] at hi
      split at hi
      · have := h i k y x hi hx e
        omega
      · cases hi
    have hpx : idP named hs x.id = part named x true := idP_at h (List.mem_of_getElem? hx)
    rw [ht, gfold_snoc]
    generalize gfold named slots bts (hs.take k) = st at *
    obtain ⟨G, s, b⟩ := st
    simp only at ih1 ih2 hnew
    have hold : ∀ g ∈ G, (∀ i ∈ g, ∃ y ∈ hs.take k ++ [x], y.id = i ∧ isMixed named y = true) ∧ (1 < g.length → ((tot (idP named hs) g).length : Int) ≤ slots) := fun g hg => ⟨fun i hi => by
      obtain ⟨y, hy, e⟩ := (ih1 g hg).1 i hi
      exact ⟨y, by simp [hy], e⟩, (ih1 g hg).2⟩
    by_cases hm : isMixed named x = true
    · by_cases hc : G ≠ [] ∧ s + (part named x true).length ≤ slots ∧ b + bytes named x true ≤ bts
      · obtain ⟨D, g, rfl⟩ : ∃ D g, G = D ++ [g] := ⟨_, _, (List.dropLast_concat_getLast hc.1).symm⟩
        rw [gstep_more hm hc.2.1 hc.2.2]
        have hsg := ih2 D g rfl
        have hg := hold g (by simp)
        have hts := tot_snoc (f := idP named hs) (hnew g (by simp))
        refine ⟨fun g' hg' => ?_, fun D' g' e => ?_⟩
        · rcases List.mem_append.1 hg' with h1 | h1
          · exact hold g' (by simp [h1])
          · simp at h1
            subst h1
            refine ⟨fun i hi => ?_, fun _ => ?_⟩
            · rcases List.mem_append.1 hi with h2 | h2
              · exact hg.1 i h2
              · simp at h2; subst h2; exact ⟨x, by simp, rfl, hm⟩
            · rw [hts, hpx, List.length_append]
              have := hc.2.1
              push_cast
              omega
        · obtain ⟨_, e2⟩ := List.append_inj' e rfl
          simp at e2
          subst e2
          dsimp only
          rw [hts, hpx, List.length_append]
          push_cast
          omega
      · rw [gstep_new hm hc]
        refine ⟨fun g' hg' => ?_, fun D' g' e => ?_⟩
        · rcases List.mem_append.1 hg' with h1 | h1
          · exact hold g' h1
          · simp at h1
            subst h1
            exact ⟨fun i hi => by simp at hi; subst hi; exact ⟨x, by simp, rfl, hm⟩, fun h2 => by simp at h2⟩
        · obtain ⟨_, e2⟩ := List.append_inj' e rfl
          simp at e2
          subst e2
          dsimp only
          rw [tot_one, hpx]
    · rw [gstep_no (by simpa using hm)]
      exact ⟨hold, ih2⟩
theorem gfold_slots {named : List Plc} {slots bts : Int} {hs : List Hd} (h : Dst hs) : ∀ g ∈ (gfold named slots bts hs).1, 1 < g.length → ((tot (idP named hs) g).length : Int) ≤ slots := by
  intro g hg
  have q := gfold_tot (named := named) (slots := slots) (bts := bts) h hs.length (Nat.le_refl _)
  rw [List.take_length] at q
  exact (q.1 g hg).2
theorem movesTo_get (id : Int) : ∀ (l : List Plc) (k i : Nat) (p : Plc), l[i]? = some p → (movesTo id k l)[i * 4]? = some (.int .u32 p.1) ∧ (movesTo id k l)[i * 4 + 1]? = some (.int .i64 p.2) ∧ (movesTo id k l)[i * 4 + 2]? = some (.int .u32 id) ∧ (movesTo id k l)[i * 4 + 3]? = some (.int .i64 ((k + i : Nat) : Int))
  | [], _, i, p, h => by simp at h
  | x :: r, k, 0, p, h => by simp at h; subst h; simp [movesTo]
  | x :: r, k, i + 1, p, h => by
    have ih := movesTo_get id r (k + 1) i p (by simpa using h)
    have e : movesTo id k (x :: r) = .int .u32 x.1 :: .int .i64 x.2 :: .int .u32 id :: .int .i64 (k : Int) :: movesTo id (k + 1) r := rfl
    rw [e, show (i + 1) * 4 = i * 4 + 1 + 1 + 1 + 1 from by omega, show k + (i + 1) = k + 1 + i from by omega]
    simpa using ih
/-- the slice value reads as moves of these places to a box -/
def Mvs (w : World) (A : Option Addr) (n : Nat) (id : Int) (l : List Plc) : Prop :=
  l.length = n ∧ ∀ (i : Nat) (p : Plc), l[i]? = some p → ∃ b, A = some ⟨b, 0, none⟩ ∧ b < w.heap.size ∧ w.cell? ⟨b, i * 4, none⟩ = some (.int .u32 p.1) ∧ w.cell? ⟨b, i * 4 + 1, none⟩ = some (.int .i64 p.2) ∧ w.cell? ⟨b, i * 4 + 2, none⟩ = some (.int .u32 id) ∧ w.cell? ⟨b, i * 4 + 3, none⟩ = some (.int .i64 (i : Int))
theorem Mvs.below {w w' : World} {A : Option Addr} {n : Nat} {id : Int} {l : List Plc} (h : Mvs w A n id l) (hb : Below w.heap.size w w') : Mvs w' A n id l :=
  ⟨h.1, fun i p hp => by
    obtain ⟨b, e, hl, c0, c1, c2, c3⟩ := h.2 i p hp
    exact ⟨b, e, Nat.lt_of_lt_of_le hl hb.size, below_cell hb c0, below_cell hb c1, below_cell hb c2, below_cell hb c3⟩⟩
theorem Mvs.own {w : World} {B k c : Nat} {A : Option Addr} {id : Int} {l : List Plc} (h : w.ownsRow B 41 4 (.slice A k c) k (rowM id l)) (hk : l.length = k) : Mvs w A k id l := by
  refine ⟨hk, fun i p hp => ?_⟩
  have hpos : 0 < k := by have := (List.getElem?_eq_some_iff.1 hp).1; omega
  rcases h.2 with ⟨_, h0⟩ | ⟨g, cap, cur, hv, hb, hg, _⟩
  · omega
  · cases hv
    obtain ⟨r0, r1, r2, r3⟩ := movesTo_get id l 0 i p hp
    have c0 := h.cells (g := g) rfl _ _ r0
    have c1 := h.cells (g := g) rfl _ _ r1
    have c2 := h.cells (g := g) rfl _ _ r2
    have c3 := h.cells (g := g) rfl _ _ r3
    rw [add_row] at c0 c1 c2 c3
    rw [Nat.zero_add] at c3
    exact ⟨g, rfl, (Array.getElem?_eq_some_iff.1 hg).1, c0, c1, c2, c3⟩
end Go.Proofs.Ytgdljjoaiogpfaa
