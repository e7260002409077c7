/- What slices does to rows of numbers: Clone, Index, Delete, Insert. -/
import Derived.Test.YtnpgfhoagpeelaaB2
import Derived.Test.YtnpgfhoagpeelaaShelf
import Derived.Shelf.Spec.SlicesInsert
import Derived.Lib.AppendZerosOnto
import Derived.Laws.NewBlocks
import Derived.Lib.SlicesCompact
import Derived.Lib.OwnBridge
import Derived.Shelf.SlicesE.Compact
namespace Go.Proofs.Ytnpgfhoagpeelaa
open Go.RowKit
open Go.Sort Go.Lib
def OwnI (w : World) (base : Nat) (v : Value) (l : List Id) : Prop := w.ownsRow base 33 1 v l.length (idL l)
set_option maxRecDepth 100000 in
theorem clone31 {A : Option Addr} {c : Nat} {l : List Id} {w : World} (h : Ids w A l) (hA : AOk A l.length) (hn : l.length ≤ 1000000) :
    Calls Try.prog 31 #[.slice A l.length c] w fun e w' => ∃ B d, e = .returned (.slice B l.length d) ∧ OwnI w' w.heap.size (.slice B l.length d) l ∧ Below w.heap.size w w' := by
  rcases hA with ⟨rfl, h0⟩ | ⟨b, o, rfl⟩
  · obtain rfl := List.length_eq_zero_iff.1 h0
    exact (Try.slices_Clone_nil_f39 0 c w).mono (fun e w' h => ⟨none, 0, h.1, World.ownsRow_nil _ _ _ _, by rw [h.2]; exact Below.refl _ _⟩)
  · obtain ⟨i0, hi0, hz0, hz1, hz2⟩ := info_parts info24
    have q := Try.slices_Clone_f39 i0 _ 1 4 hi0 hz0 hz1 hz2 (by rfl) (by decide) (fun w => Try.sizeOf33 w) b o l.length c (idL l) w (by rw [idL_len]; omega) (by unfold maxLen; omega) (by omega) (fun j v hj => by
      obtain ⟨b', o', e, _, hc⟩ := h (fun e => by rw [e] at hj; cases hj)
      injection e with e
      injection e with e1 e2
      subst e1 e2
      exact hc j v hj) (idL_one l)
    refine q.mono ?_
    rintro e w' ⟨v, rfl, h1, h2, h3⟩
    obtain ⟨g, cap, rfl, _⟩ := own_some h1 h2
    exact ⟨some ⟨g, 0, none⟩, cap, rfl, h1, h3⟩
def setsA : List Value → Nat → Array Value → Array Value
  | [], _, c => c
  | v :: r, o, c => setsA r (o + 1) (c.setIfInBounds o v)
theorem setsA_size : ∀ (vs : List Value) (o : Nat) (c : Array Value), (setsA vs o c).size = c.size
  | [], _, _ => rfl
  | v :: r, o, c => by rw [setsA, setsA_size r, Array.size_setIfInBounds]
theorem setsA_get : ∀ (vs : List Value) (o : Nat) (c : Array Value), o + vs.length ≤ c.size → ∀ j, (setsA vs o c)[j]? = if o ≤ j ∧ j < o + vs.length then vs[j - o]? else c[j]?
  | [], o, c, _, j => by rw [setsA, if_neg (by simp)]
  | v :: r, o, c, h, j => by
    rw [List.length_cons] at h
    rw [setsA, setsA_get r (o + 1) _ (by rw [Array.size_setIfInBounds]; omega) j, List.length_cons, Array.getElem?_setIfInBounds]
    by_cases h1 : o + 1 ≤ j ∧ j < o + 1 + r.length
    · rw [if_pos h1, if_pos (by omega), show j - o = (j - (o + 1)) + 1 by omega, List.getElem?_cons_succ]
    · rw [if_neg h1]
      by_cases h2 : o = j
      · subst h2
        rw [if_pos rfl, if_pos (by omega), if_pos (by omega), Nat.sub_self, List.getElem?_cons_zero]
      · rw [if_neg h2, if_neg (by omega)]
theorem setCells_block {g t : Nat} : ∀ (vs : List Value) (o : Nat) (w : World) (cur : Array Value), w.heap[g]? = some (.cells cur t (0, 0)) → (w.setCells g o vs).heap[g]? = some (.cells (setsA vs o cur) t (0, 0))
  | [], _, _, _, h => h
  | v :: r, o, w, cur, h => setCells_block r (o + 1) _ _ (heap_setCell_same w g o cur t v h)
theorem setCells_grown (g : Nat) : ∀ (vs : List Value) (o : Nat) (w : World), w.grownBy (w.setCells g o vs) (some g)
  | [], _, _ => World.grownBy.refl _ _
  | v :: r, o, w => (set_grown w g o v).andThen (setCells_grown g r (o + 1) _) (fun _ q => .inr q)
theorem own_of_block {W : World} {base t g n cap : Nat} {xs : List Value} {cur : Array Value} (hb : base ≤ g) (hg : W.heap[g]? = some (.cells cur t (0, 0))) (hs : cur.size = cap) (hn : n ≤ cap) (hm : cap ≤ maxLen) (hl : xs.length = n) (hx : ∀ j, j < n → cur[j]? = xs[j]?) : W.ownsRow base t 1 (.slice (some ⟨g, 0, none⟩) n cap) n xs := by
  refine ⟨by omega, .inr ⟨g, cap, cur, rfl, hb, hg, hn, hm, by omega, ?_⟩⟩
  apply List.ext_getElem?
  intro j
  rw [List.getElem?_take, Array.getElem?_toList, Nat.mul_one]
  by_cases hj : j < n
  · rw [if_pos hj, hx j hj]
  · rw [if_neg hj, List.getElem?_eq_none (by omega)]
theorem own_cells {W : World} {base t g n cap : Nat} {xs : List Value} (h : W.ownsRow base t 1 (.slice (some ⟨g, 0, none⟩) n cap) n xs) : base ≤ g ∧ n ≤ cap ∧ cap ≤ maxLen ∧ xs.length = n ∧ ∃ cur, W.heap[g]? = some (.cells cur t (0, 0)) ∧ cur.size = cap ∧ ∀ j, j < n → cur[j]? = xs[j]? := by
  have hl := h.1
  rcases h.2 with ⟨e, _⟩ | ⟨g', cap', cur, e, hb, hg, hn, hm, hs, ht⟩
  · cases e
  · injection e with e1 _ e3
    injection e1 with e1
    injection e1 with e1
    subst e1; subst e3
    refine ⟨hb, hn, hm, by omega, cur, hg, by omega, fun j hj => ?_⟩
    rw [← ht, List.getElem?_take, if_pos (by omega), Array.getElem?_toList]
theorem index44 {A : Option Addr} {c : Nat} {l : List Id} {x : Id} {w : World} (h : Ids w A l) (hn : l.length ≤ 1000000) :
    Calls Try.prog 44 #[.slice A l.length c, .int .u32 x] w fun e w' => e = .returned (.int .i64 (Lib.idxBy (fun x y => decide (x = y)) l x)) ∧ w' = w := by
  by_cases h0 : l = []
  · subst h0
    exact AnyE.slices_Index_empty Try.indexU A c (.int .u32 x) w
  · obtain ⟨b, o, rfl, hb, hc⟩ := h (fun e => h0 (by unfold idL at e; simpa using e))
    have q := AnyE.slices_Index Try.indexU (Value.int .u32) (fun x y => decide (x = y)) (EqlAt.intD _ _ _) b o l.length c l x w (Nat.le_refl _) (by omega) (fun j hj => by
      have := hc j (.int .u32 l[j]) (by unfold idL; rw [List.getElem?_map, List.getElem?_eq_getElem hj]; rfl)
      rw [this, getElem!_pos l j hj])
    rw [List.take_length] at q
    exact q
theorem delete45 {w : World} {base : Nat} {A : Option Addr} {c k : Nat} {l : List Id} (h : OwnI w base (.slice A l.length c) l) (hk : k < l.length) :
    Calls Try.prog 45 #[.slice A l.length c, .int .i64 (k : Nat), .int .i64 ((k : Int) + 1)] w fun e w' => e = .returned (.slice A (l.eraseIdx k).length c) ∧ OwnI w' base (.slice A (l.eraseIdx k).length c) (l.eraseIdx k) ∧ w.grownBy w' (Value.slice A l.length c).ownBlock := by
  have hcap := own_cap h
  obtain ⟨g, cap, e1, _, _, _, hcm, _, hH⟩ := Lib.holds_of_ownsRow (enc := Value.int .u32) (zs := l) h (fun e => by
    injection e with _ e _
    omega)
  injection e1 with e1 _ e3
  subst e1
  subst e3
  obtain ⟨i0, hi0, _, hz1, _⟩ := info_parts info24
  have q := AnyE.slices_Delete Try.deleteU (Value.int .u32) (fun _ => rfl) 0 (fun w => Try.zeroValue33 w) i0 hi0 hz1 g 0 c k (k + 1) l.toArray w hH (by rw [List.size_toArray]; exact hcap) (by unfold maxLen at hcm; omega) (by omega) (by rw [List.size_toArray]; omega)
  change Calls Try.prog 45 _ _ _ at q
  rw [List.size_toArray, show ((k + 1 : Nat) : Int) = (k : Int) + 1 by omega] at q
  have hle : (l.eraseIdx k).length = l.length - 1 := List.length_eraseIdx_of_lt hk
  have heq : l.take k ++ l.drop (k + 1) = l.eraseIdx k := (List.eraseIdx_eq_take_drop_succ l k).symm
  refine q.mono ?_
  rintro e w' ⟨he, qn, rfl⟩
  refine ⟨by rw [he, hle, show k + 1 - k = 1 by omega], ?_, ?_⟩
  · have h3 := Lib.ownsRow_putRow (enc := Value.int .u32) (q := qn) (k := (l.eraseIdx k).length) (zs := l) h (ys := l.take k ++ l.drop (k + 1) ++ List.replicate (k + 1 - k) 0) (by simp; omega) (by omega)
    rw [heq, List.take_append_of_le_length (Nat.le_refl _), List.take_length] at h3
    rw [show (l.toArray.toList.take k ++ l.toArray.toList.drop (k + 1)) = l.eraseIdx k from heq]
    exact h3
  · refine ⟨rfl, rfl, rfl, by simp [putRow, mapBlock, Sort.ahead], fun j hj hne => ?_⟩
    have : g ≠ j := fun e => hne (by rw [← e]; rfl)
    simp [putRow, mapBlock, Sort.ahead, Array.getElem?_modify, this]
/-- what Insert at the front leaves -/
def InsPost (w : World) (base : Nat) (A : Option Addr) (c : Nat) (l : List Id) (x : Id) (e : Ending) (w' : World) : Prop :=
  ∃ A' c', e = .returned (.slice A' (x :: l).length c') ∧ OwnI w' base (.slice A' (x :: l).length c') (x :: l) ∧ w.grownBy w' (Value.slice A l.length c).ownBlock ∧ ∀ b, (Value.slice A' (x :: l).length c').ownBlock = some b → (Value.slice A l.length c).ownBlock = some b ∨ w.heap.size ≤ b
theorem zeroU (n : Nat) : (Builtin.zeroCells (Value.int .u32 0).cells n).size = n := by simp [Builtin.zeroCells, Value.cells]
theorem grown_fresh {w W : World} {r : Option Nat} (hb : Below w.heap.size w W) : w.grownBy W r := ⟨hb.os, hb.tape, hb.output, hb.size, fun k hk _ => hb.block k hk⟩
set_option maxRecDepth 100000 in
set_option maxHeartbeats 4000000 in
theorem insert42_nil {w : World} {base vb vc : Nat} {x : Id} (hB : base ≤ w.heap.size) (hv : w.cell? ⟨vb, 0, none⟩ = some (.int .u32 x)) :
    Calls Try.prog 42 #[.slice none 0 0, .int .i64 0, .slice (some ⟨vb, 0, none⟩) 1 vc] w (InsPost w base none 0 [] x) := by
  obtain ⟨i0, hi0, hz0, hzs, hzb⟩ := info_parts info24
  have hsrc : Src Try.prog i0.size 44 (.slice (some ⟨vb, 0, none⟩) 1 vc) 1 [.int .u32 x] w := by
    rw [hzs]
    exact Src.ofSlice w Try.underlying44 ⟨vb, 0, none⟩ 1 vc _ rfl (fun j u hj => by
      match j, hj with
      | 0, hj => simp only [List.getElem?_cons_zero, Option.some.injEq] at hj; subst hj; exact hv) (by simp [Value.oneCell'])
  have hold : (Builtin.firstCells i0.size 0 (.slice none 0 0)).run Try.prog w.drew = .ok ([] : List Value).toArray w.drew := by
    rw [hzs]
    exact run_firstCells_none w.drew 1 0 0 0
  have hrun : ∀ ty, (Builtin.append_ #[44, 44] ty #[.slice none 0 0, .slice (some ⟨vb, 0, none⟩) 1 vc]).run Try.prog w = _ := fun ty =>
    run_append_grow_src w 44 44 ty 33 i0 _ Try.underlying44 hi0 hz0 none 0 0 [] hold _ 1 _ hsrc (by omega) (by omega) (by rw [hzb]; exact growslice_fits (by omega) (by decide))
  have hcm := grownCap_le_maxLen w (0 + 1) 0 33 (by decide)
  have hcg := grownCap_ge w (0 + 1) 0 33
  generalize grownCap w (0 + 1) 0 33 = G at *
  have hE : Hid (InsPost w base none 0 [] x (.returned (.slice (some ⟨w.heap.size, 0, none⟩) 1 G)) (w.drew.alloc (.cells (([] ++ [.int .u32 x] : List Value).toArray ++ Builtin.zeroCells (Value.int .u32 0).cells (G - (0 + 1))) 33))) := Lib.hid (by
    have hb : Below w.heap.size w (w.drew.alloc (.cells (([] ++ [.int .u32 x] : List Value).toArray ++ Builtin.zeroCells (Value.int .u32 0).cells (G - (0 + 1))) 33)) := (below_drew (Below.refl _ _)).alloc (by exact Nat.le_refl _) _
    refine ⟨some ⟨w.heap.size, 0, none⟩, G, rfl, ?_, grown_fresh hb, fun b q => .inr (by simp [Value.ownBlock] at q; omega)⟩
    refine own_of_block (cur := ([] ++ [.int .u32 x] : List Value).toArray ++ Builtin.zeroCells (Value.int .u32 0).cells (G - (0 + 1))) hB (heap_alloc_new w.drew _) ?_ hcg hcm rfl (fun j hj => ?_)
    · rw [Array.size_append, zeroU]; simp; omega
    · match j, hj with
      | 0, _ => rw [Array.getElem?_append_left (by simp)]; rfl)
  clear hcm hcg hsrc hold hv
  go_enter Try.func42, Try.ntmps42
  go_wp2_with (at_builtin; refine Lib.wpList_append_run _ rfl _ _ _ _ rfl _ _ rfl rfl _ _ (hrun _) ?_)
  go_ret
  exact hE.out
set_option maxRecDepth 100000 in
set_option maxHeartbeats 4000000 in
theorem insert42_room {w : World} {base g c vb vc : Nat} {l : List Id} {x : Id} {vcur : Array Value} (h : OwnI w base (.slice (some ⟨g, 0, none⟩) l.length c) l) (h0 : 0 < l.length) (hroom : l.length + 1 ≤ c) (hvb : vb ≠ g) (hvk : w.heap[vb]? = some (.cells vcur 33 (0, 0))) (hv : w.cell? ⟨vb, 0, none⟩ = some (.int .u32 x)) :
    Calls Try.prog 42 #[.slice (some ⟨g, 0, none⟩) l.length c, .int .i64 0, .slice (some ⟨vb, 0, none⟩) 1 vc] w (InsPost w base (some ⟨g, 0, none⟩) c l x) := by
  obtain ⟨hb, hnc, hcm, hil, cur, hg, hs, hx⟩ := own_cells h
  have hsz : (Try.prog.info? 33).map (·.size) = some 1 := by
    obtain ⟨i0, hi0, _, h1, _⟩ := info_parts info24
    rw [hi0]; simp [h1]
  have hcell : ∀ W : World, W.heap[g]? = some (.cells cur 33 (0, 0)) → ∀ j, W.cell? ⟨g, j, none⟩ = cur[j]? := fun W hW j => cell_of_row W g j cur 33 (0, 0) hW
  have hov : ∀ o2 lb cb, (callFunc 49 #[.slice (some ⟨vb, 0, none⟩) 1 vc, .slice (some ⟨g, o2, none⟩) lb cb]).run Try.prog w = .ok (.value (.bool false)) w := fun o2 lb cb => by
    rw [run_callFunc_extern Try.func49 (by kernel_rfl) (by kernel_rfl) (by kernel_rfl) (e := Extern.SlicesOverlaps.overlaps #[44, 44] #[4]) (by kernel_rfl),
      Lib.run_overlaps_apart w 44 4 33 Try.underlying44 1 (fun w => Try.sizeOf33 w) ⟨vb, 0, none⟩ ⟨g, o2, none⟩ 1 vc lb cb hvb 33 33 vcur.size cur.size (by simp [World.shape?, hvk]) (by simp [World.shape?, hg]) (by omega) (by simp [World.frozen?, hvk]) (by simp [World.frozen?, hvk])]
    rfl
  have hcp1 : ∀ ty dc sc, (Builtin.copy_ #[44, 44] ty #[.slice (some ⟨g, 1, none⟩) l.length dc, .slice (some ⟨g, 0, none⟩) (l.length + 1) sc]).run Try.prog w.drew = .ok (goInt (idL l).length) (w.drew.setCells g 1 (idL l)) := fun ty dc sc =>
    run_copy_cells w.drew _ _ ty 33 g 1 _ dc ⟨g, 0, none⟩ _ sc (idL l) Try.underlying44 hsz (by rw [idL_len]; simp only [Nat.min_def]; split <;> omega)
      (fun j v hj => by
        have hjl : j < l.length := by have := (List.getElem?_eq_some_iff.1 hj).1; rw [idL_len] at this; exact this
        rw [Addr.add_lit, Nat.zero_add, hcell w.drew hg, hx j hjl]
        exact hj)
      (fun j hj => by rw [idL_len] at hj; rw [hcell w.drew hg, Array.getElem?_eq_getElem (by omega)]; rfl) (fun j _ => frozen_of_row w.drew g _ cur 33 hg) (idL_one l)
  have hg1 := setCells_block (idL l) 1 w.drew cur hg
  have hcp2 : ∀ (W : World), W.heap[g]? = (w.drew.setCells g 1 (idL l)).heap[g]? → W.heap[vb]? = w.heap[vb]? → ∀ ty dc, (Builtin.copy_ #[44, 44] ty #[.slice (some ⟨g, 0, none⟩) (l.length + 1) dc, .slice (some ⟨vb, 0, none⟩) 1 vc]).run Try.prog W = .ok (goInt 1) (W.setCells g 0 [.int .u32 x]) := fun W hW hV ty dc =>
    run_copy_cells W _ _ ty 33 g 0 _ dc ⟨vb, 0, none⟩ 1 vc [.int .u32 x] Try.underlying44 hsz (by simp only [List.length_cons, List.length_nil, Nat.min_def]; split <;> omega)
      (fun j v hj => by
        match j, hj with
        | 0, hj =>
          simp only [List.getElem?_cons_zero, Option.some.injEq] at hj
          subst hj
          rw [Addr.add_lit, World.cell?_of_block (a := ⟨vb, 0 + 0, none⟩) hV]
          exact hv)
      (fun j hj => by
        rw [hg1] at hW
        rw [cell_of_row W g _ _ 33 (0, 0) hW, Array.getElem?_eq_getElem (by rw [setsA_size]; simp at hj; omega)]; rfl)
      (fun j _ => by rw [hg1] at hW; exact frozen_of_row W g _ _ 33 hW) (by simp [Value.oneCell'])
  have hE : Hid (InsPost w base (some ⟨g, 0, none⟩) c l x (.returned (.slice (some ⟨g, 0, none⟩) (l.length + 1) c)) ((w.drew.setCells g 1 (idL l)).setCells g 0 [.int .u32 x])) := Lib.hid (by
    refine ⟨some ⟨g, 0, none⟩, c, rfl, ?_, ?_, fun b q => .inl q⟩
    · refine own_of_block hb (setCells_block [.int .u32 x] 0 _ _ hg1) (by rw [setsA_size, setsA_size, hs]) (by simpa using hroom) hcm (by rw [idL_len]) (fun j hj => ?_)
      rw [setsA_get _ _ _ (by rw [setsA_size]; simp; omega), setsA_get _ _ _ (by rw [idL_len]; omega), idL_len]
      rw [List.length_cons] at hj
      match j, hj with
      | 0, _ => rfl
      | j + 1, hj =>
        rw [if_neg (by simp), if_pos (by omega)]
        rfl
    · exact ((grown_fresh (r := some g) (below_drew (Below.refl w.heap.size w))).andThen (setCells_grown g _ 1 _) (fun j q => .inr q)).andThen (setCells_grown g _ 0 _) (fun j q => .inr q))
  have hz2 : ¬ ((0 : Int) = (l.length : Int)) := by omega
  have hz3 : ¬ ((c : Int) < (l.length : Int) + 1) := by omega
  have hc63 : (c : Int) ≤ 9223372036854775807 := by unfold maxLen at hcm; omega
  have hw1 : IntKind.i64.wrap ((l.length : Int) + 1) = (l.length : Int) + 1 := by rw [IntKind.wrap_i64]; omega
  have hb0 : (0 : Int) ≤ (l.length : Int) + 1 := by omega
  have hb1 : (1 : Int) ≤ (l.length : Int) + 1 := by omega
  have hb2 : ¬ (c = 1) := by omega
  have hb4 : ¬ (c = 0) := by omega
  have hb5 : ((l.length : Int) + 1).toNat = l.length + 1 := by omega
  have hb6 : 1 ≤ l.length + 1 := by omega
  obtain ⟨W1, hW1⟩ : ∃ W1, W1 = w.drew.setCells g 1 (idL l) := ⟨_, rfl⟩
  have hvo : W1.heap[vb]? = w.heap[vb]? := by
    rw [hW1]
    exact (setCells_grown g (idL l) 1 w.drew).block vb (lt_of_block hvk) (fun q => hvb (by injection q))
  rw [← hW1] at hcp1 hcp2
  rw [← hW1] at hE
  have mixed : Try.prog.follows .mixedOrders = true := by kernel_rfl
  have hwl : IntKind.i64.wrap 1 = 1 := by decide
  clear hcell hg1 hx hcm hnc h hv
  clear hW1
  go_enter Try.func42, Try.ntmps42
  go_wp2_with (simp only [hov])
  go_region_law_o (refine step_copy_runI rfl _ _ 44 44 rfl _ _ (by simp [Act.eval, Act.put]) (by simp [Act.eval, Act.put]) (hcp1 _ _ _) ?_)
  go_wp2_with (at_builtin; refine wpList_copy_runI _ rfl _ _ 44 44 rfl _ _ rfl rfl (hcp2 _ rfl hvo _ _) ?_)
  go_ret
  exact hE.out
set_option maxRecDepth 100000 in
set_option maxHeartbeats 4000000 in
theorem insert42_grow {w : World} {base g c vb vc : Nat} {l : List Id} {x : Id} (h : OwnI w base (.slice (some ⟨g, 0, none⟩) l.length c) l) (hbw : base ≤ w.heap.size) (h0 : 0 < l.length) (hroom : ¬ l.length + 1 ≤ c) (hl : l.length ≤ 1000000) (hv : w.cell? ⟨vb, 0, none⟩ = some (.int .u32 x)) :
    Calls Try.prog 42 #[.slice (some ⟨g, 0, none⟩) l.length c, .int .i64 0, .slice (some ⟨vb, 0, none⟩) 1 vc] w (InsPost w base (some ⟨g, 0, none⟩) c l x) := by
  obtain ⟨hb, hnc, hcm, hil, cur, hg, hs, hx⟩ := own_cells h
  obtain ⟨i0, hi0, hz0, hzs, hzb⟩ := info_parts info24
  have hsz : (Try.prog.info? 33).map (·.size) = some 1 := by rw [hi0]; simp [hzs]
  have hold : (Builtin.firstCells i0.size 0 (.slice (some ⟨g, 0, none⟩) 0 c)).run Try.prog w.drew = .ok ([] : List Value).toArray w.drew := by
    rw [hzs]
    exact run_firstCells_some w.drew 1 0 ⟨g, 0, none⟩ 0 c [] rfl (fun j v hj => by cases hj)
  have hcm2 := grownCap_le_maxLen w (0 + (l.length + 1)) c 33 (by unfold maxLen; omega)
  have hcg := grownCap_ge w (0 + (l.length + 1)) c 33
  have hrun : ∀ ty, (Builtin.append_ #[44, 3] ty #[.slice (some ⟨g, 0, none⟩) 0 c, .int .i64 (((l.length + 1 : Nat) : Int))]).run Try.prog w = _ := fun ty =>
    Lib.run_append_grow_zeros w 44 3 ty 33 i0 _ .i64 .i64 Try.underlying44 Try.underlying3 hi0 hz0 (some ⟨g, 0, none⟩) 0 c [] hold (l.length + 1) (by omega) (by omega) (by omega) (by omega) (by rw [hzb]; omega) (by rw [hzb]; exact growslice_fits (by omega) (by omega))
  rw [show ((l.length + 1 : Nat) : Int) = (l.length : Int) + 1 by omega, Nat.zero_add] at hrun
  rw [Nat.zero_add] at hcm2 hcg
  obtain ⟨G, hG⟩ : ∃ G, G = grownCap w (l.length + 1) c 33 := ⟨_, rfl⟩
  rw [← hG] at hrun hcm2 hcg
  obtain ⟨ROW, hROW⟩ : ∃ ROW : Array Value, ROW = ([] : List Value).toArray ++ Builtin.zeroCells (Value.int .u32 0).cells (l.length + 1) ++ Builtin.zeroCells (Value.int .u32 0).cells (G - (l.length + 1)) := ⟨_, rfl⟩
  have hRs : ROW.size = G := by
    rw [hROW, Array.size_append, Array.size_append, zeroU, zeroU]
    simp
    omega
  rw [← hROW] at hrun
  obtain ⟨N, hN⟩ : ∃ N, N = w.heap.size := ⟨_, rfl⟩
  have hgN : g < N := by rw [hN]; exact lt_of_block hg
  have hvN : vb < N := by rw [hN]; exact World.block_lt_of_cell? w _ hv
  obtain ⟨W1, hW1⟩ : ∃ W1, W1 = w.drew.alloc (.cells ROW 33) := ⟨_, rfl⟩
  have hb1 : Below w.heap.size w W1 := by rw [hW1]; exact (below_drew (Below.refl _ _)).alloc (by exact Nat.le_refl _) _
  have hW1g : W1.heap[N]? = some (.cells ROW 33 (0, 0)) := by rw [hW1, hN]; exact heap_alloc_new w.drew _
  rw [← hN, ← hW1] at hrun
  have hcpA : ∀ (W : World), W.heap[N]? = W1.heap[N]? → W.heap[vb]? = W1.heap[vb]? → ∀ ty n dc, 1 ≤ n → (Builtin.copy_ #[44, 44] ty #[.slice (some ⟨N, 0, none⟩) n dc, .slice (some ⟨vb, 0, none⟩) 1 vc]).run Try.prog W = .ok (goInt 1) (W.setCells N 0 [.int .u32 x]) := fun W hW hV ty n dc hn =>
    run_copy_cells W _ _ ty 33 N 0 _ dc ⟨vb, 0, none⟩ 1 vc [.int .u32 x] Try.underlying44 hsz (by simp only [List.length_cons, List.length_nil, Nat.min_def]; split <;> omega)
      (fun j v hj => by
        match j, hj with
        | 0, hj =>
          simp only [List.getElem?_cons_zero, Option.some.injEq] at hj
          subst hj
          rw [Addr.add_lit, World.cell?_of_block (a := ⟨vb, 0 + 0, none⟩) (hV.trans (hb1.block vb (by rw [← hN]; exact hvN)))]
          exact hv)
      (fun j hj => by
        rw [hW1g] at hW
        rw [cell_of_row W N _ _ 33 (0, 0) hW, Array.getElem?_eq_getElem (by simp at hj; omega)]; rfl)
      (fun j _ => by rw [hW1g] at hW; exact frozen_of_row W N _ _ 33 hW) (by simp [Value.oneCell'])
  have hg2 := setCells_block [.int .u32 x] 0 W1 ROW hW1g
  have hgr2 := setCells_grown N [.int .u32 x] 0 W1
  obtain ⟨W2, hW2⟩ : ∃ W2, W2 = W1.setCells N 0 [.int .u32 x] := ⟨_, rfl⟩
  rw [← hW2] at hg2 hgr2
  have hgW2 : W2.heap[g]? = some (.cells cur 33 (0, 0)) := ((hgr2.block g (Nat.lt_of_lt_of_le (by rw [← hN]; exact hgN) hb1.size) (fun q => by injection q with q; omega)).trans (hb1.block g (by rw [← hN]; exact hgN))).trans hg
  have hcpB : ∀ (W : World), W.heap[N]? = W2.heap[N]? → W.heap[g]? = W2.heap[g]? → ∀ ty n dc sc, l.length ≤ n → (Builtin.copy_ #[44, 44] ty #[.slice (some ⟨N, 1, none⟩) n dc, .slice (some ⟨g, 0, none⟩) l.length sc]).run Try.prog W = .ok (goInt (idL l).length) (W.setCells N 1 (idL l)) := fun W hW hV ty n dc sc hn =>
    run_copy_cells W _ _ ty 33 N 1 _ dc ⟨g, 0, none⟩ l.length sc (idL l) Try.underlying44 hsz (by rw [idL_len]; simp only [Nat.min_def]; split <;> omega)
      (fun j v hj => by
        have hjl : j < l.length := by have := (List.getElem?_eq_some_iff.1 hj).1; rw [idL_len] at this; exact this
        rw [hgW2] at hV
        rw [Addr.add_lit, Nat.zero_add, cell_of_row W g j cur 33 (0, 0) hV, hx j hjl]
        exact hj)
      (fun j hj => by
        rw [hg2] at hW
        rw [idL_len] at hj
        rw [cell_of_row W N _ _ 33 (0, 0) hW, Array.getElem?_eq_getElem (by rw [setsA_size]; omega)]; rfl)
      (fun j _ => by rw [hg2] at hW; exact frozen_of_row W N _ _ 33 hW) (idL_one l)
  have hE : Hid (∀ W3 : World, Below W2.heap.size W2 W3 → InsPost w base (some ⟨g, 0, none⟩) c l x (.returned (.slice (some ⟨N, 0, none⟩) (l.length + 1) G)) (W3.setCells N 1 (idL l))) := Lib.hid (fun W3 hb3 => by
    have hg3 : W3.heap[N]? = _ := (hb3.block N (lt_of_block hg2)).trans hg2
    refine ⟨some ⟨N, 0, none⟩, G, rfl, ?_, ?_, fun b q => .inr (by simp [Value.ownBlock] at q; omega)⟩
    · refine own_of_block (by omega) (setCells_block (idL l) 1 _ _ hg3) (by rw [setsA_size, setsA_size, hRs]) (by simpa using hcg) hcm2 (by rw [idL_len]) (fun j hj => ?_)
      rw [setsA_get _ _ _ (by rw [setsA_size, idL_len]; omega), setsA_get _ _ _ (by simp; omega), idL_len]
      rw [List.length_cons] at hj
      match j, hj with
      | 0, _ => rfl
      | j + 1, hj =>
        rw [if_pos (by omega)]
        rfl
    · have hfin : Below w.heap.size w (W3.setCells N 1 (idL l)) := by
        have h3 : Below w.heap.size w W3 := by
          have h2 : Below w.heap.size w W2 := ⟨hgr2.os.trans hb1.os, hgr2.tape.trans hb1.tape, hgr2.output.trans hb1.output, Nat.le_trans hb1.size hgr2.size, fun k hk => (hgr2.block k (Nat.lt_of_lt_of_le hk hb1.size) (fun q => by injection q with q; omega)).trans (hb1.block k hk)⟩
          exact h2.trans (hb3.mono h2.size)
        have h4 := setCells_grown N (idL l) 1 W3
        exact ⟨h4.os.trans h3.os, h4.tape.trans h3.tape, h4.output.trans h3.output, Nat.le_trans h3.size h4.size, fun k hk => (h4.block k (Nat.lt_of_lt_of_le hk h3.size) (fun q => by injection q with q; omega)).trans (h3.block k hk)⟩
      exact grown_fresh hfin)
  have hz2 : ¬ ((0 : Int) = (l.length : Int)) := by omega
  have hz3 : (c : Int) < (l.length : Int) + 1 := by omega
  have hc63 : (c : Int) ≤ 9223372036854775807 := by unfold maxLen at hcm; omega
  have hG63 : (G : Int) ≤ 9223372036854775807 := by unfold maxLen at hcm2; omega
  have hw1 : IntKind.i64.wrap ((l.length : Int) + 1) = (l.length : Int) + 1 := by rw [IntKind.wrap_i64]; omega
  have hi0 : (0 : Int) ≤ (l.length : Int) + 1 := by omega
  have hi1 : (1 : Int) ≤ (l.length : Int) + 1 := by omega
  have hi2 : ¬ (G = 1) := by omega
  have hi3 : ¬ (G = 0) := by omega
  have hi4 : ¬ (c = 0) := by omega
  have hi5 : ((l.length : Int) + 1).toNat = l.length + 1 := by omega
  have hi6 : 1 ≤ l.length + 1 := by omega
  have hA1 : ∀ ty n dc, 1 ≤ n → (Builtin.copy_ #[44, 44] ty #[.slice (some ⟨N, 0, none⟩) n dc, .slice (some ⟨vb, 0, none⟩) 1 vc]).run Try.prog W1 = .ok (goInt 1) W2 := fun ty n dc hn => by
    rw [hW2]
    exact hcpA W1 rfl rfl ty n dc hn
  have hB1 := fun ty n dc sc hn => hcpB W2.drew rfl rfl ty n dc sc hn
  have hE2 := Lib.hid (hE.out W2.drew (below_drew (Below.refl _ _)))
  have mixed : Try.prog.follows .mixedOrders = true := by kernel_rfl
  have hwl : IntKind.i64.wrap 1 = 1 := by decide
  have hll : l.length ≤ l.length + 1 - 1 := by omega
  clear hold hROW hG hRs hx hcm hcm2 hcg hb1 hW1g hg2 hgW2 hv h hcpA hcpB hE hgr2 hgN hvN
  clear hW2
  clear hW1
  clear hN
  go_enter Try.func42, Try.ntmps42
  go_wp2_with (first
    | (at_builtin; refine Lib.wpList_append_run _ rfl _ _ _ _ rfl _ _ rfl rfl _ _ (hrun _) ?_)
    | (at_builtin; refine wpList_copy_runI _ rfl _ _ 44 44 rfl _ _ rfl rfl (hA1 _ _ _ hi6) ?_))
  go_region_law_o (refine step_copy_runI rfl _ _ 44 44 rfl _ _ (by simp [Act.eval, Act.put]) (by simp [Act.eval, Act.put]) (hB1 _ _ _ _ hll) ?_)
  go_wp2_with fail
  go_ret
  exact hE2.out
/-- Insert at the front of a row of the call's own -/
theorem insert42 {w : World} {base vb vc c : Nat} {A : Option Addr} {l : List Id} {x : Id} {vcur : Array Value} (h : OwnI w base (.slice A l.length c) l) (hz : l = [] → A = none ∧ c = 0) (hbw : base ≤ w.heap.size) (hl : l.length ≤ 1000000) (hvb : (Value.slice A l.length c).ownBlock ≠ some vb) (hvk : w.heap[vb]? = some (.cells vcur 33 (0, 0))) (hv : w.cell? ⟨vb, 0, none⟩ = some (.int .u32 x)) :
    Calls Try.prog 42 #[.slice A l.length c, .int .i64 0, .slice (some ⟨vb, 0, none⟩) 1 vc] w (InsPost w base A c l x) := by
  by_cases h0 : l = []
  · obtain ⟨rfl, rfl⟩ := hz h0
    subst h0
    exact insert42_nil hbw hv
  · have hpos := List.length_pos_iff.2 h0
    obtain ⟨g, cap, e1, _⟩ := own_some h (fun e => by injection e with _ e _; omega)
    injection e1 with e1 _ e3
    subst e1; subst e3
    by_cases hr : l.length + 1 ≤ c
    · exact insert42_room h hpos hr (fun e => hvb (by rw [e]; rfl)) hvk hv
    · exact insert42_grow h hbw hpos hr hl hv
end Go.Proofs.Ytnpgfhoagpeelaa
