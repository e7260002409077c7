/- A box's slots that live, and those that are dead: the two rows that grow. -/
import Derived.Test.YtgdljjoaiogpfaaC5
import Derived.OwnWalk
namespace Go.Proofs.Ytgdljjoaiogpfaa
open Go.RowKit Go.Maps
theorem okHs_yes {hs : List Hd} (h : May hs) : okHs hs = hs := by unfold okHs; rw [if_pos h]
theorem okHs_no {hs : List Hd} (h : ¬ May hs) : okHs hs = [] := by unfold okHs; rw [if_neg h]
theorem set_cells {w : World} {b : Nat} {cs : Array Value} {t : TypeId} {fr : Nat × Nat} (h : w.heap[b]? = some (.cells cs t fr)) (j : Nat) (v : Value) : (w.setCell ⟨b, j, none⟩ v).heap[b]? = some (.cells (cs.setIfInBounds j v) t fr) := by
  obtain ⟨hlt, hk⟩ := Array.getElem?_eq_some_iff.1 h
  show (w.heap.modify b _)[b]? = _
  rw [Array.getElem?_eq_getElem (by rw [Array.size_modify]; exact hlt), Array.getElem_modify_self, hk]
  rfl
def rowP (l : List Plc) : List Value := l.flatMap fun p => [.int .u32 p.1, .int .i64 p.2]
theorem rowP_snoc (l : List Plc) (p : Plc) : rowP (l ++ [p]) = rowP l ++ [.int .u32 p.1, .int .i64 p.2] := by simp [rowP]
theorem own_slice {w : World} {base n e size : Nat} {v : Value} {xs : List Value} (h : w.ownsRow base e size v n xs) : ∃ A c, v = .slice A n c := by
  rcases h.2 with ⟨rfl, rfl⟩ | ⟨g, cap, _, rfl, _⟩
  · exact ⟨none, 0, rfl⟩
  · exact ⟨_, _, rfl⟩
theorem own_slice2 {w : World} {base n e size : Nat} {v : Value} {xs : List Value} (h : w.ownsRow base e size v n xs) : ∃ A c, v = .slice A n c ∧ (A = none → n = 0 ∧ c = 0) := by
  rcases h.2 with ⟨rfl, rfl⟩ | ⟨g, cap, _, rfl, _⟩
  · exact ⟨none, 0, rfl, fun _ => ⟨rfl, rfl⟩⟩
  · exact ⟨_, _, rfl, fun e => by cases e⟩
def xObj (h : Hd) (v1 v2 : Value) (b1 b2 : Int) : Obj := .cells #[.int .u32 h.id, .slice h.A h.n h.c, v1, v2, .int .i64 b1, .int .i64 b2] 62 (0, 0)
structure PartRow (named : List Plc) (h : Hd) (W : World) (bx B : Nat) (m : Nat) (v1 v2 : Value) : Prop where
  box : W.heap[bx]? = some (xObj h v1 v2 (bytesTo named h true m) (bytesTo named h false m))
  live : W.ownsRow B 39 2 v1 (partTo named h true m).length (rowP (partTo named h true m))
  dead : W.ownsRow B 39 2 v2 (partTo named h false m).length (rowP (partTo named h false m))
  apart : ∀ g, v1.ownBlock = some g → v2.ownBlock ≠ some g
theorem box_ne {w : World} {B bx : Nat} {v : Value} {k size : Nat} {xs : List Value} {cs : Array Value} {t e : TypeId} {fr : Nat × Nat} (hr : w.ownsRow B e size v k xs) (hb : w.heap[bx]? = some (.cells cs t fr)) (ht : t ≠ e) : v.ownBlock ≠ some bx := by
  rcases hr.2 with ⟨rfl, _⟩ | ⟨g, cap, cur, rfl, _, hgb, _⟩
  · simp [Value.ownBlock]
  · intro e'
    obtain rfl : g = bx := by simpa [Value.ownBlock] using e'
    rw [hgb] at hb
    cases hb
    exact ht rfl
theorem grown_set (W : World) (b j : Nat) (v : Value) : W.grownBy (W.setCell ⟨b, j, none⟩ v) (some b) :=
  ⟨rfl, rfl, rfl, (KeepsWalks.setCell W _ v).size, fun k _ hk => Below.heap_setCell _ _ _ k (fun e => hk (by rw [e]))⟩
theorem xcells {W : World} {bx : Nat} {h : Hd} {v1 v2 : Value} {b1 b2 : Int} (hb : W.heap[bx]? = some (xObj h v1 v2 b1 b2)) :
    W.cell? ⟨bx, 0, none⟩ = some (.int .u32 h.id) ∧ W.cell? ⟨bx, 1, none⟩ = some (.slice h.A h.n h.c) ∧ W.cell? ⟨bx, 2, none⟩ = some v1 ∧ W.cell? ⟨bx, 3, none⟩ = some v2 ∧ W.cell? ⟨bx, 4, none⟩ = some (.int .i64 b1) ∧ W.cell? ⟨bx, 5, none⟩ = some (.int .i64 b2) := by
  simp [World.cell?, hb, xObj]
theorem xfrozen {W : World} {bx : Nat} {h : Hd} {v1 v2 : Value} {b1 b2 : Int} (hb : W.heap[bx]? = some (xObj h v1 v2 b1 b2)) (j : Nat) : W.frozen? ⟨bx, j, none⟩ = false := by
  simp [World.frozen?, hb, xObj]
theorem PartRow.goLive {named : List Plc} {h : Hd} {W WT w1 : World} {bx B m : Nat} {v1 v2 v' : Value} (hp : PartRow named h W bx B m v1 v2) (hBx : B ≤ bx) (hT : Below W.heap.size W WT)
    (hown : w1.ownsRow B 39 2 v' ((partTo named h true m).length + 1) (rowP (partTo named h true m) ++ [.int .u32 h.id, .int .i64 (m : Int)])) (hg : WT.grownBy w1 v1.ownBlock) (hat : v'.ownBlock = v1.ownBlock ∨ v'.ownBlock = some WT.heap.size)
    (hmem : decide ((h.id, (m : Int)) ∈ named) = true) :
    PartRow named h ((w1.setCell ⟨bx, 2, none⟩ v').setCell ⟨bx, 4, none⟩ (.int .i64 (bytesTo named h true m + lenAt h m))) bx B (m + 1) v' v2 ∧
    Below B W ((w1.setCell ⟨bx, 2, none⟩ v').setCell ⟨bx, 4, none⟩ (.int .i64 (bytesTo named h true m + lenAt h m))) ∧
    (∀ b t cs, W.heap[b]? = some (.cells cs t (0, 0)) → b ≠ bx → t ≠ 39 → ((w1.setCell ⟨bx, 2, none⟩ v').setCell ⟨bx, 4, none⟩ (.int .i64 (bytesTo named h true m + lenAt h m))).heap[b]? = some (.cells cs t (0, 0))) := by
  have hne1 := box_ne hp.live hp.box (by decide)
  have hTx : WT.heap[bx]? = some (xObj h v1 v2 (bytesTo named h true m) (bytesTo named h false m)) := (hT.block bx (Array.getElem?_eq_some_iff.1 hp.box).1).trans hp.box
  have h1x : w1.heap[bx]? = some (xObj h v1 v2 (bytesTo named h true m) (bytesTo named h false m)) := (hg.block bx (Array.getElem?_eq_some_iff.1 hTx).1 (fun e => hne1 e.symm)).trans hTx
  have hne' := box_ne hown h1x (by decide)
  have s1 := grown_set w1 bx 2 v'
  have s2 := grown_set (w1.setCell ⟨bx, 2, none⟩ v') bx 4 (.int .i64 (bytesTo named h true m + lenAt h m))
  have r1 := (hown.kept s1 (.inr hne')).kept s2 (.inr hne')
  have hne2 := box_ne hp.dead hp.box (by decide)
  have hoT := hp.dead.kept (grown_of_below hT) (by rcases hoo : v2.ownBlock with _ | g <;> simp)
  have hapart : v2.ownBlock = none ∨ v2.ownBlock ≠ v1.ownBlock := by
    rcases hoo : v2.ownBlock with _ | g
    · exact .inl rfl
    · exact .inr fun e => (hp.apart g e.symm) hoo
  have r2 := ((hoT.kept hg hapart).kept s1 (.inr hne2)).kept s2 (.inr hne2)
  have b1 : (partTo named h true (m + 1)) = partTo named h true m ++ [(h.id, (m : Int))] := by simp only [partTo]; rw [if_pos hmem]
  have b2 : (partTo named h (!true) (m + 1)) = partTo named h (!true) m := by simp only [partTo]; rw [if_neg (by rw [hmem]; decide)]; simp
  have b3 : bytesTo named h true (m + 1) = bytesTo named h true m + lenAt h m := by simp only [bytesTo]; rw [if_pos hmem]
  have b4 : bytesTo named h (!true) (m + 1) = bytesTo named h (!true) m := by simp only [bytesTo]; rw [if_neg (by rw [hmem]; decide)]; simp
  simp only [Bool.not_true] at b2 b4
  have q := set_cells (set_cells h1x 2 v') 4 (.int .i64 (bytesTo named h true m + lenAt h m))
  have hgw : ∀ j, v1.ownBlock = some j → B ≤ j := fun j e => (hp.live.lt j e).1
  refine ⟨⟨?_, ?_, ?_, ?_⟩, ?_, ?_⟩
  · rw [b3, b4]; exact q
  · rw [b1, rowP_snoc, List.length_append]; exact r1
  · rw [b2]; exact r2
  · intro g hv' h2; rcases hat with e | e
    · exact hp.apart g (e ▸ hv') h2
    · rw [hv'] at e; cases e; have := (hp.dead.lt _ h2).2; have := hT.size; omega
  · have hBW : B ≤ W.heap.size := Nat.le_trans hBx (Nat.le_of_lt (Array.getElem?_eq_some_iff.1 hp.box).1)
    exact (((hT.mono hBW).grown hg (Nat.le_trans hBW hT.size) hgw).setCell (p := ⟨bx, 2, none⟩) hBx _).setCell (p := ⟨bx, 4, none⟩) hBx _
  · intro b t cs hb hbx ht
    have hlt := (Array.getElem?_eq_some_iff.1 hb).1
    have hT2 := (hT.block b hlt).trans hb
    have h12 : w1.heap[b]? = some (.cells cs t (0, 0)) := (hg.block b (Nat.lt_of_lt_of_le hlt hT.size) (fun e => (box_ne hp.live hb ht) e.symm)).trans hT2
    exact (Below.heap_setCell _ _ _ _ hbx).trans ((Below.heap_setCell _ _ _ _ hbx).trans h12)
theorem PartRow.goDead {named : List Plc} {h : Hd} {W WT w1 : World} {bx B m : Nat} {v1 v2 v' : Value} (hp : PartRow named h W bx B m v1 v2) (hBx : B ≤ bx) (hT : Below W.heap.size W WT)
    (hown : w1.ownsRow B 39 2 v' ((partTo named h false m).length + 1) (rowP (partTo named h false m) ++ [.int .u32 h.id, .int .i64 (m : Int)])) (hg : WT.grownBy w1 v2.ownBlock) (hat : v'.ownBlock = v2.ownBlock ∨ v'.ownBlock = some WT.heap.size)
    (hmem : decide ((h.id, (m : Int)) ∈ named) = false) :
    PartRow named h ((w1.setCell ⟨bx, 3, none⟩ v').setCell ⟨bx, 5, none⟩ (.int .i64 (bytesTo named h false m + lenAt h m))) bx B (m + 1) v1 v' ∧
    Below B W ((w1.setCell ⟨bx, 3, none⟩ v').setCell ⟨bx, 5, none⟩ (.int .i64 (bytesTo named h false m + lenAt h m))) ∧
    (∀ b t cs, W.heap[b]? = some (.cells cs t (0, 0)) → b ≠ bx → t ≠ 39 → ((w1.setCell ⟨bx, 3, none⟩ v').setCell ⟨bx, 5, none⟩ (.int .i64 (bytesTo named h false m + lenAt h m))).heap[b]? = some (.cells cs t (0, 0))) := by
  have hne1 := box_ne hp.dead hp.box (by decide)
  have hTx : WT.heap[bx]? = some (xObj h v1 v2 (bytesTo named h true m) (bytesTo named h false m)) := (hT.block bx (Array.getElem?_eq_some_iff.1 hp.box).1).trans hp.box
  have h1x : w1.heap[bx]? = some (xObj h v1 v2 (bytesTo named h true m) (bytesTo named h false m)) := (hg.block bx (Array.getElem?_eq_some_iff.1 hTx).1 (fun e => hne1 e.symm)).trans hTx
  have hne' := box_ne hown h1x (by decide)
  have s1 := grown_set w1 bx 3 v'
  have s2 := grown_set (w1.setCell ⟨bx, 3, none⟩ v') bx 5 (.int .i64 (bytesTo named h false m + lenAt h m))
  have r1 := (hown.kept s1 (.inr hne')).kept s2 (.inr hne')
  have hne2 := box_ne hp.live hp.box (by decide)
  have hoT := hp.live.kept (grown_of_below hT) (by rcases hoo : v1.ownBlock with _ | g <;> simp)
  have hapart : v1.ownBlock = none ∨ v1.ownBlock ≠ v2.ownBlock := by
    rcases hoo : v1.ownBlock with _ | g
    · exact .inl rfl
    · exact .inr fun e => (hp.apart g hoo) e.symm
  have r2 := ((hoT.kept hg hapart).kept s1 (.inr hne2)).kept s2 (.inr hne2)
  have b1 : (partTo named h false (m + 1)) = partTo named h false m ++ [(h.id, (m : Int))] := by simp only [partTo]; rw [if_pos hmem]
  have b2 : (partTo named h (!false) (m + 1)) = partTo named h (!false) m := by simp only [partTo]; rw [if_neg (by rw [hmem]; decide)]; simp
  have b3 : bytesTo named h false (m + 1) = bytesTo named h false m + lenAt h m := by simp only [bytesTo]; rw [if_pos hmem]
  have b4 : bytesTo named h (!false) (m + 1) = bytesTo named h (!false) m := by simp only [bytesTo]; rw [if_neg (by rw [hmem]; decide)]; simp
  simp only [Bool.not_false] at b2 b4
  have q := set_cells (set_cells h1x 3 v') 5 (.int .i64 (bytesTo named h false m + lenAt h m))
  have hgw : ∀ j, v2.ownBlock = some j → B ≤ j := fun j e => (hp.dead.lt j e).1
  refine ⟨⟨?_, ?_, ?_, ?_⟩, ?_, ?_⟩
  · rw [b3, b4]; exact q
  · rw [b2]; exact r2
  · rw [b1, rowP_snoc, List.length_append]; exact r1
  · intro g h1 hv'; rcases hat with e | e
    · exact hp.apart g h1 (e ▸ hv')
    · rw [hv'] at e; cases e; have := (hp.live.lt _ h1).2; have := hT.size; omega
  · have hBW : B ≤ W.heap.size := Nat.le_trans hBx (Nat.le_of_lt (Array.getElem?_eq_some_iff.1 hp.box).1)
    exact (((hT.mono hBW).grown hg (Nat.le_trans hBW hT.size) hgw).setCell (p := ⟨bx, 3, none⟩) hBx _).setCell (p := ⟨bx, 5, none⟩) hBx _
  · intro b t cs hb hbx ht
    have hlt := (Array.getElem?_eq_some_iff.1 hb).1
    have hT2 := (hT.block b hlt).trans hb
    have h12 : w1.heap[b]? = some (.cells cs t (0, 0)) := (hg.block b (Nat.lt_of_lt_of_le hlt hT.size) (fun e => (box_ne hp.dead hb ht) e.symm)).trans hT2
    exact (Below.heap_setCell _ _ _ _ hbx).trans ((Below.heap_setCell _ _ _ _ hbx).trans h12)
theorem rowP_get : ∀ (l : List Plc) (i : Nat) (p : Plc), l[i]? = some p → (rowP l)[i * 2]? = some (.int .u32 p.1) ∧ (rowP l)[i * 2 + 1]? = some (.int .i64 p.2)
  | [], i, p, h => by simp at h
  | x :: r, 0, p, h => by simp at h; subst h; simp [rowP]
  | x :: r, i + 1, p, h => by
    have ih := rowP_get r i p (by simpa using h)
    have e : rowP (x :: r) = .int .u32 x.1 :: .int .i64 x.2 :: rowP r := by simp [rowP]
    rw [e, show (i + 1) * 2 = i * 2 + 1 + 1 from by omega]
    simpa using ih
theorem add_row (g j : Nat) : (⟨g, 0, none⟩ : Addr).add j = ⟨g, j, none⟩ := by
  by_cases h : j = 0
  · subst h; rfl
  · simp [Addr.add, h]
theorem Pls.own {w : World} {B k c : Nat} {A : Option Addr} {l : List Plc} (h : w.ownsRow B 39 2 (.slice A k c) k (rowP l)) (hk : l.length = k) : Pls w A k l := by
  refine ⟨by simpa using hk, fun hpos => ?_⟩
  rcases h.2 with ⟨_, h0⟩ | ⟨g, cap, cur, hv, hb, hg, _⟩
  · omega
  · cases hv
    refine ⟨g, 0, rfl, (Array.getElem?_eq_some_iff.1 hg).1, fun i x hi => ?_⟩
    obtain ⟨p, hp, rfl⟩ : ∃ p, l[i]? = some p ∧ plcV p = x := by simpa using hi
    obtain ⟨r1, r2⟩ := rowP_get l i p hp
    have c1 := h.cells (g := g) rfl _ _ r1
    have c2 := h.cells (g := g) rfl _ _ r2
    rw [add_row] at c1 c2
    exact ⟨by rw [Nat.zero_add]; exact c1, by rw [Nat.zero_add]; exact c2⟩
theorem split_at {α : Type} {l : List α} {k : Nat} {x : α} (h : l[k]? = some x) : l = l.take k ++ x :: l.drop (k + 1) := by
  obtain ⟨hk, rfl⟩ := List.getElem?_eq_some_iff.1 h
  rw [← List.drop_eq_getElem_cons hk, List.take_append_drop]
end Go.Proofs.Ytgdljjoaiogpfaa
