/- Groups of ids as memory holds them: a row of rows that grow. -/
import Derived.Test.YtgdljjoaiogpfaaC14
import Derived.Laws.OwnMore
namespace Go.Proofs.Ytgdljjoaiogpfaa
open Go.RowKit Go.Maps
def idI (x : Int) : Value := .int .u32 x
theorem row_ne {w : World} {B r k size : Nat} {v : Value} {e : TypeId} {xs : List Value} (hr : w.ownsRow B e size v k xs) (h : ∀ cs, w.heap[r]? ≠ some (.cells cs e (0, 0))) : v.ownBlock ≠ some r := by
  rcases hr.2 with ⟨rfl, _⟩ | ⟨g, cap, cur, rfl, _, hgb, _⟩
  · simp [Value.ownBlock]
  · intro e'
    obtain rfl : g = r := by simpa [Value.ownBlock] using e'
    exact h _ hgb
theorem snoc_ind {α : Type} {p : List α → Prop} (l : List α) (nil : p []) (snoc : ∀ l x, p l → p (l ++ [x])) : p l := by
  have h : ∀ (n : Nat) (l : List α), l.length = n → p l := by
    intro n
    induction n with
    | zero => intro l hl; rw [List.eq_nil_of_length_eq_zero hl]; exact nil
    | succ n ih =>
      intro l hl
      have hne : l ≠ [] := fun e => by rw [e] at hl; simp at hl
      rw [← List.dropLast_concat_getLast hne]
      exact snoc _ _ (ih _ (by simp [hl]))
  exact h _ l rfl
theorem ownsRow_set1 {w : World} {base e gv n cv : Nat} {xs : List Value} (h : w.ownsRow base e 1 (.slice (some ⟨gv, 0, none⟩) n cv) n xs) (i : Nat) (u : Value) : (w.setCell ⟨gv, i, none⟩ u).ownsRow base e 1 (.slice (some ⟨gv, 0, none⟩) n cv) n (xs.set i u) := by
  refine ⟨by rw [List.length_set]; exact h.1, ?_⟩
  rcases h.2 with ⟨hv, _⟩ | ⟨g', cap', cur, hv, hg, hh, hn, hc, hz, ht⟩
  · cases hv
  · injection hv with e1 e2 e3
    injection e1 with e1
    injection e1 with e1
    subst e1
    subst e3
    refine .inr ⟨gv, cv, _, rfl, hg, set_cells hh i u, hn, hc, by simpa using hz, ?_⟩
    rw [Array.toList_setIfInBounds, List.take_set, ht]
/-- a block that is no row of groups, nor a group -/
def Aside (w : World) (r : Nat) : Prop := ∀ cs e, w.heap[r]? = some (.cells cs e (0, 0)) → e ≠ 30 ∧ e ≠ 33
theorem Aside.n30 {w : World} {r : Nat} (h : Aside w r) : ∀ cs, w.heap[r]? ≠ some (.cells cs 30 (0, 0)) := fun cs e => (h cs 30 e).1 rfl
theorem Aside.n33 {w : World} {r : Nat} (h : Aside w r) : ∀ cs, w.heap[r]? ≠ some (.cells cs 33 (0, 0)) := fun cs e => (h cs 33 e).2 rfl
theorem Aside.other {w : World} {r : Nat} (o : Obj) (h : w.heap[r]? = some o) (hc : o.isCells = false) : Aside w r := fun cs e h2 => by rw [h] at h2; cases h2; cases hc
theorem Aside.box {w : World} {r : Nat} {t : TypeId} {v : Value} (h : Boxed w r t v) (h1 : t ≠ 30) (h2 : t ≠ 33) : Aside w r := fun cs e h3 => by
  rw [show w.heap[r]? = _ from h] at h3
  cases h3
  exact ⟨h1, h2⟩
structure GR (W : World) (B : Nat) (v : Value) (G : List (List Int)) (us : List Value) : Prop where
  row : W.ownsRow B 30 1 v G.length us
  inner : ∀ (i : Nat) (u : Value) (g : List Int), us[i]? = some u → G[i]? = some g → W.ownsRow B 33 1 u g.length (g.map idI)
  apart : ∀ (i j : Nat) (u u' : Value), us[i]? = some u → us[j]? = some u' → i ≠ j → ∀ b, u.ownBlock = some b → u'.ownBlock ≠ some b
theorem GR.len {W : World} {B : Nat} {v : Value} {G : List (List Int)} {us : List Value} (h : GR W B v G us) : us.length = G.length := by have := h.row.1; omega
theorem GR.nil (W : World) (B : Nat) : GR W B (.slice none 0 0) [] [] := ⟨World.ownsRow_nil _ _ _ _, fun i u g h => by simp at h, fun i j u u' h => by simp at h⟩
theorem GR.at {W : World} {B : Nat} {v : Value} {G : List (List Int)} {us : List Value} (h : GR W B v G us) {i : Nat} {u : Value} (hu : us[i]? = some u) : ∃ g, G[i]? = some g ∧ W.ownsRow B 33 1 u g.length (g.map idI) := by
  have hi : i < G.length := by rw [← h.len]; exact (List.getElem?_eq_some_iff.1 hu).1
  exact ⟨G[i], by simp, h.inner i u _ hu (by simp)⟩
theorem GR.kept {W W' : World} {B : Nat} {v : Value} {G : List (List Int)} {us : List Value} {row : Option Nat} (h : GR W B v G us) (hg : W.grownBy W' row) (hr : ∀ r, row = some r → Aside W r) : GR W' B v G us := by
  refine ⟨h.row.kept hg ?_, fun i u g hu hG => (h.inner i u g hu hG).kept hg ?_, h.apart⟩
  · cases row with
    | none => cases v.ownBlock <;> simp
    | some r => exact .inr (row_ne h.row (hr r rfl).n30)
  · cases row with
    | none => cases u.ownBlock <;> simp
    | some r => exact .inr (row_ne (h.inner i u g hu hG) (hr r rfl).n33)
theorem GR.below {W W' : World} {B : Nat} {v : Value} {G : List (List Int)} {us : List Value} (h : GR W B v G us) (hb : Below W.heap.size W W') : GR W' B v G us := h.kept (grown_of_below hb) (fun r e => by cases e)
theorem GR.drew {W : World} {B : Nat} {v : Value} {G : List (List Int)} {us : List Value} (h : GR W B v G us) : GR W.drew B v G us := ⟨h.row, h.inner, h.apart⟩
theorem one_row {W : World} {B nb : Nat} {id : Int} (hB : B ≤ nb) (hb : W.heap[nb]? = some (.cells #[idI id] 33 (0, 0))) : W.ownsRow B 33 1 (.slice (some ⟨nb, 0, none⟩) 1 1) 1 [idI id] :=
  ⟨rfl, .inr ⟨nb, 1, _, rfl, hB, hb, Nat.le_refl _, by decide, rfl, rfl⟩⟩
/-- a new group at the end -/
theorem GR.push {W W1 W2 : World} {B nb : Nat} {v v' : Value} {G : List (List Int)} {us : List Value} {id : Int} (h : GR W B v G us) (h1 : Below W.heap.size W W1) (hb : W1.heap[nb]? = some (.cells #[idI id] 33 (0, 0))) (hnb : W.heap.size ≤ nb) (hB : B ≤ W.heap.size)
    (hown : W2.ownsRow B 30 1 v' (G.length + 1) (us ++ [.slice (some ⟨nb, 0, none⟩) 1 1])) (hg : W1.grownBy W2 v.ownBlock) : GR W2 B v' (G ++ [[id]]) (us ++ [.slice (some ⟨nb, 0, none⟩) 1 1]) := by
  have hK := h.below h1
  have hne : ∀ b cs, W1.heap[b]? = some (.cells cs 33 (0, 0)) → v.ownBlock ≠ some b := fun b cs hc => row_ne hK.row (fun cs' e => by rw [hc] at e; cases e)
  have hinner : ∀ (u : Value) (k : Nat) (xs : List Value), W1.ownsRow B 33 1 u k xs → W2.ownsRow B 33 1 u k xs := fun u k xs hu => hu.kept hg (by
    rcases hoo : u.ownBlock with _ | g
    · exact .inl rfl
    · right
      intro e
      rcases hu.2 with ⟨rfl, _⟩ | ⟨g', cap, cur, rfl, _, hgb, _⟩
      · cases hoo
      · obtain rfl : g' = g := by simpa [Value.ownBlock] using hoo
        exact hne _ _ hgb (by rw [← e]))
  have hlen := h.len
  have hlt : ∀ (i : Nat) (u : Value), us[i]? = some u → ∀ b, u.ownBlock = some b → b < W.heap.size := fun i u hu b hb => by
    obtain ⟨g, _, hr⟩ := h.at hu
    exact (hr.lt b hb).2
  refine ⟨by rw [List.length_append]; exact hown, ?_, ?_⟩
  · intro i u g hu hG
    by_cases hi : i < us.length
    · rw [List.getElem?_append_left hi] at hu
      rw [List.getElem?_append_left (by omega)] at hG
      exact hinner _ _ _ (hK.inner i u g hu hG)
    · have h0 : i = us.length := by
        have := (List.getElem?_eq_some_iff.1 hu).1
        simp at this
        omega
      subst h0
      rw [List.getElem?_concat_length] at hu
      rw [hlen, List.getElem?_concat_length] at hG
      cases hu; cases hG
      exact hinner _ _ _ (one_row (Nat.le_trans hB hnb) hb)
  · intro i j u u' hu hu' hij b hb1 hb2
    by_cases hi : i < us.length
    · rw [List.getElem?_append_left hi] at hu
      by_cases hj : j < us.length
      · rw [List.getElem?_append_left hj] at hu'
        exact h.apart i j u u' hu hu' hij b hb1 hb2
      · have h0 : j = us.length := by
          have := (List.getElem?_eq_some_iff.1 hu').1
          simp at this
          omega
        subst h0
        rw [List.getElem?_concat_length] at hu'
        cases hu'
        have := hlt i u hu b hb1
        have : nb = b := by simpa [Value.ownBlock] using hb2
        omega
    · have h0 : i = us.length := by
        have := (List.getElem?_eq_some_iff.1 hu).1
        simp at this
        omega
      have hj : j < us.length := by
        have := (List.getElem?_eq_some_iff.1 hu').1
        simp at this
        omega
      subst h0
      rw [List.getElem?_concat_length] at hu
      rw [List.getElem?_append_left hj] at hu'
      cases hu
      have := hlt j u' hu' b hb2
      have : nb = b := by simpa [Value.ownBlock] using hb1
      omega
theorem GR.form {W : World} {B : Nat} {v : Value} {G : List (List Int)} {us : List Value} (h : GR W B v G us) (hG : G ≠ []) : ∃ gv cv D g us0 u cur, v = .slice (some ⟨gv, 0, none⟩) (D.length + 1) cv ∧ G = D ++ [g] ∧ us = us0 ++ [u] ∧ us0.length = D.length ∧ B ≤ gv ∧ W.heap[gv]? = some (.cells cur 30 (0, 0)) ∧ W.cell? ⟨gv, D.length, none⟩ = some u ∧ W.frozen? ⟨gv, D.length, none⟩ = false ∧ W.ownsRow B 33 1 u g.length (g.map idI) := by
  obtain ⟨D, g, rfl⟩ : ∃ D g, G = D ++ [g] := ⟨_, _, (List.dropLast_concat_getLast hG).symm⟩
  have hl := h.len
  have hus : us ≠ [] := fun e => by rw [e] at hl; simp at hl
  obtain ⟨us0, u, rfl⟩ : ∃ us0 u, us = us0 ++ [u] := ⟨_, _, (List.dropLast_concat_getLast hus).symm⟩
  have hl0 : us0.length = D.length := by simpa using hl
  have hrow := h.row
  rcases h.row.2 with ⟨_, h0⟩ | ⟨gv, cv, cur, rfl, hB, hh, _⟩
  · simp at h0
  · have hn : (D ++ [g]).length = D.length + 1 := by simp
    rw [hn] at hrow
    refine ⟨gv, cv, D, g, us0, u, cur, by rw [hn], rfl, rfl, hl0, hB, hh, ?_, hrow.frozenAt _, ?_⟩
    · rw [hrow.cellAt D.length (by omega), ← hl0, List.getElem?_concat_length]
    · have := h.inner us0.length u g (by simp) (by rw [hl0]; simp)
      exact this
/-- the last group grows -/
theorem GR.grow {W W1 W2 : World} {B gv cv : Nat} {D : List (List Int)} {g : List Int} {us0 : List Value} {u l' : Value} {id : Int} (h : GR W B (.slice (some ⟨gv, 0, none⟩) (D.length + 1) cv) (D ++ [g]) (us0 ++ [u])) (h1 : Below W.heap.size W W1)
    (hown : W2.ownsRow B 33 1 l' (g.length + 1) (g.map idI ++ [idI id])) (hg : W1.grownBy W2 u.ownBlock) (hat : l'.ownBlock = u.ownBlock ∨ l'.ownBlock = some W1.heap.size) :
    GR (W2.setCell ⟨gv, D.length, none⟩ l') B (.slice (some ⟨gv, 0, none⟩) (D.length + 1) cv) (D ++ [g ++ [id]]) (us0 ++ [l']) := by
  have hl0 : us0.length = D.length := by have := h.len; simpa using this
  have hK := h.below h1
  have hn : (D ++ [g]).length = D.length + 1 := by simp
  have hgv1 : ∃ cur, W1.heap[gv]? = some (.cells cur 30 (0, 0)) := by
    rcases hK.row.2 with ⟨e, _⟩ | ⟨g', c', cur, e, _, hh, _⟩
    · cases e
    · injection e with e1 e2 e3
      injection e1 with e1
      injection e1 with e1
      subst e1
      exact ⟨cur, hh⟩
  obtain ⟨cur, hcur⟩ := hgv1
  have hu : W1.ownsRow B 33 1 u g.length (g.map idI) := hK.inner us0.length u g (by simp) (by rw [hl0]; simp)
  have hune : u.ownBlock ≠ some gv := row_ne hu (fun cs e => by rw [hcur] at e; cases e)
  have hcur2 : W2.heap[gv]? = some (.cells cur 30 (0, 0)) := (hg.block gv (Array.getElem?_eq_some_iff.1 hcur).1 (fun e => hune e.symm)).trans hcur
  have hrow2 : W2.ownsRow B 30 1 (.slice (some ⟨gv, 0, none⟩) (D.length + 1) cv) (D.length + 1) (us0 ++ [u]) := by
    have := hK.row.kept hg (.inr fun e => hune (by rw [← e]; rfl))
    rwa [hn] at this
  have hs := grown_set W2 gv D.length l'
  have hin : ∀ (x : Value) (k : Nat) (xs : List Value), W2.ownsRow B 33 1 x k xs → (W2.setCell ⟨gv, D.length, none⟩ l').ownsRow B 33 1 x k xs := fun x k xs hx => hx.kept hs (.inr (row_ne hx (fun cs e => by rw [hcur2] at e; cases e)))
  have hap : ∀ (i : Nat) (x : Value), us0[i]? = some x → (∀ b, x.ownBlock = some b → l'.ownBlock ≠ some b) ∧ (∀ b, x.ownBlock = some b → b < W.heap.size) := fun i x hx => by
    have hi := (List.getElem?_eq_some_iff.1 hx).1
    have hx2 : (us0 ++ [u])[i]? = some x := by rw [List.getElem?_append_left hi]; exact hx
    obtain ⟨_, _, hr⟩ := h.at hx2
    refine ⟨fun b hb e => ?_, fun b hb => (hr.lt b hb).2⟩
    rcases hat with e1 | e1
    · exact h.apart i us0.length x u hx2 (by simp) (by omega) b hb (e1 ▸ e)
    · rw [e1] at e
      have := (hr.lt b hb).2
      have := h1.size
      cases e
      omega
  refine ⟨?_, ?_, ?_⟩
  · have hq := ownsRow_set1 hrow2 D.length l'
    have e1 : (us0 ++ [u]).set D.length l' = us0 ++ [l'] := by rw [← hl0]; simp
    rw [e1] at hq
    simpa using hq
  · intro i x gx hx hgx
    by_cases hi : i < us0.length
    · rw [List.getElem?_append_left hi] at hx
      rw [List.getElem?_append_left (by omega)] at hgx
      have hx2 : (us0 ++ [u])[i]? = some x := by rw [List.getElem?_append_left hi]; exact hx
      have hr := hK.inner i x gx hx2 (by rw [List.getElem?_append_left (by omega)]; exact hgx)
      refine hin _ _ _ (hr.kept hg ?_)
      rcases hoo : x.ownBlock with _ | b
      · exact .inl rfl
      · exact .inr fun e => h.apart i us0.length x u hx2 (by simp) (by omega) b hoo e.symm
    · have h0 : i = us0.length := by
        have := (List.getElem?_eq_some_iff.1 hx).1
        simp at this
        omega
      subst h0
      rw [List.getElem?_concat_length] at hx
      rw [hl0, List.getElem?_concat_length] at hgx
      cases hx; cases hgx
      have := hin _ _ _ hown
      simpa using this
  · intro i j x x' hx hx' hij b hb1 hb2
    by_cases hi : i < us0.length
    · rw [List.getElem?_append_left hi] at hx
      by_cases hj : j < us0.length
      · rw [List.getElem?_append_left hj] at hx'
        exact h.apart i j x x' (by rw [List.getElem?_append_left hi]; exact hx) (by rw [List.getElem?_append_left hj]; exact hx') hij b hb1 hb2
      · have h0 : j = us0.length := by
          have := (List.getElem?_eq_some_iff.1 hx').1
          simp at this
          omega
        subst h0
        rw [List.getElem?_concat_length] at hx'
        cases hx'
        exact (hap i x hx).1 b hb1 hb2
    · have h0 : i = us0.length := by
        have := (List.getElem?_eq_some_iff.1 hx).1
        simp at this
        omega
      have hj : j < us0.length := by
        have := (List.getElem?_eq_some_iff.1 hx').1
        simp at this
        omega
      subst h0
      rw [List.getElem?_concat_length] at hx
      rw [List.getElem?_append_left hj] at hx'
      cases hx
      exact (hap j x' hx').1 b hb2 hb1
/-- the groups, box by box -/
abbrev GSt := List (List Int) × Int × Int
noncomputable def gstep (named : List Plc) (slots bts : Int) (st : GSt) (x : Hd) : GSt :=
  if isMixed named x = true then
    if st.1 ≠ [] ∧ st.2.1 + (part named x true).length ≤ slots ∧ st.2.2 + bytes named x true ≤ bts then (st.1.dropLast ++ [st.1.getLastD [] ++ [x.id]], st.2.1 + (part named x true).length, st.2.2 + bytes named x true)
    else (st.1 ++ [[x.id]], ((part named x true).length : Int), bytes named x true)
  else st
noncomputable def gfold (named : List Plc) (slots bts : Int) (hs : List Hd) : GSt := hs.foldl (gstep named slots bts) ([], 0, 0)
theorem gfold_snoc (named : List Plc) (slots bts : Int) (hs : List Hd) (x : Hd) : gfold named slots bts (hs ++ [x]) = gstep named slots bts (gfold named slots bts hs) x := by simp [gfold, List.foldl_append]
theorem gstep_no {named : List Plc} {slots bts : Int} {st : GSt} {x : Hd} (h : isMixed named x = false) : gstep named slots bts st x = st := by simp [gstep, h]
theorem gstep_new {named : List Plc} {slots bts : Int} {st : GSt} {x : Hd} (h : isMixed named x = true) (h2 : ¬ (st.1 ≠ [] ∧ st.2.1 + (part named x true).length ≤ slots ∧ st.2.2 + bytes named x true ≤ bts)) : gstep named slots bts st x = (st.1 ++ [[x.id]], ((part named x true).length : Int), bytes named x true) := by
  unfold gstep
  rw [if_pos h, if_neg h2]
theorem gstep_more {named : List Plc} {slots bts : Int} {D : List (List Int)} {g : List Int} {s b : Int} {x : Hd} (h : isMixed named x = true) (h1 : s + (part named x true).length ≤ slots) (h2 : b + bytes named x true ≤ bts) : gstep named slots bts (D ++ [g], s, b) x = (D ++ [g ++ [x.id]], s + (part named x true).length, b + bytes named x true) := by
  unfold gstep
  rw [if_pos h, if_pos ⟨by simp, h1, h2⟩]
  simp
theorem gfold_lim {named : List Plc} {slots bts : Int} : ∀ {hs : List Hd}, (∀ x ∈ hs, x.n ≤ 1000 ∧ ∀ s ∈ x.sl, SOk s) →
    (gfold named slots bts hs).1.length ≤ hs.length ∧ (∀ g ∈ (gfold named slots bts hs).1, g.length ≤ hs.length) ∧ 0 ≤ (gfold named slots bts hs).2.1 ∧ (gfold named slots bts hs).2.1 ≤ 1000 * hs.length ∧ 0 ≤ (gfold named slots bts hs).2.2 ∧ (gfold named slots bts hs).2.2 ≤ 4096000 * hs.length := by
  intro hs
  induction hs using snoc_ind with
  | nil => intro _; simp [gfold]
  | snoc hs x ih =>
    intro h
    obtain ⟨i1, i2, i3, i4, i5, i6⟩ := ih (fun y hy => h y (by simp [hy]))
    obtain ⟨hx1, hx2⟩ := h x (by simp)
    have q1 : (part named x true).length ≤ 1000 := Nat.le_trans (partTo_len named x true x.n) hx1
    obtain ⟨q2, q3⟩ := bytes_le (named := named) (live := true) hx1 hx2
    rw [gfold_snoc]
    generalize gfold named slots bts hs = st at *
    obtain ⟨G, s, b⟩ := st
    simp only [List.length_append, List.length_cons, List.length_nil] at *
    have hmono : ∀ g ∈ G, g.length ≤ hs.length + 1 := fun g hg => Nat.le_succ_of_le (i2 g hg)
    by_cases hm : isMixed named x = true
    · by_cases hc : G ≠ [] ∧ s + (part named x true).length ≤ slots ∧ b + bytes named x true ≤ bts
      · obtain ⟨D, g, rfl⟩ : ∃ D g, G = D ++ [g] := ⟨_, _, (List.dropLast_concat_getLast hc.1).symm⟩
        rw [gstep_more hm hc.2.1 hc.2.2]
        have hg := i2 g (by simp)
        simp only [List.length_append, List.length_cons, List.length_nil] at i1 ⊢
        refine ⟨by omega, fun g' hg' => ?_, by omega, by omega, by omega, by omega⟩
        rcases List.mem_append.1 hg' with h1 | h1
        · exact hmono g' (by simp [h1])
        · simp at h1; subst h1; simp; exact hg
      · rw [gstep_new hm hc]
        simp only [List.length_append, List.length_cons, List.length_nil]
        refine ⟨by omega, fun g' hg' => ?_, by omega, by omega, by omega, by omega⟩
        rcases List.mem_append.1 hg' with h1 | h1
        · exact hmono g' h1
        · simp at h1; subst h1; simp
    · rw [gstep_no (by simpa using hm)]
      dsimp only
      exact ⟨by omega, hmono, by omega, by omega, by omega, by omega⟩
end Go.Proofs.Ytgdljjoaiogpfaa
