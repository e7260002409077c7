/- The lists in which a number does not stand. -/
import Derived.Test.YtijdkgklajdbnaaAK
namespace Go.Proofs.Ytijdkgklajdbnaa
open Go.RowKit
open Go.Sort Go.Lib
theorem contains51 {A : Option Addr} {c : Nat} {l : List Id} {x : Id} {w : World} (h : Ids w A l) (hn : l.length ≤ 1000000) :
    Calls Try.prog 51 #[.slice A l.length c, .int .u32 x] w fun e w' => e = .returned (.bool (decide (x ∈ l))) ∧ w' = w := by
  cases hl : l with
  | nil =>
    have q := AnyE.slices_Contains_empty Try.containsU A c (.int .u32 x) w
    exact q.mono (fun e w' h => ⟨by rw [h.1]; simp, h.2⟩)
  | cons y r =>
    rw [← hl]
    obtain ⟨b, o, rfl, _, hc⟩ := h (by rw [hl]; simp [idL])
    have q := AnyE.slices_Contains Try.containsU (Value.int .u32) (fun x y => decide (x = y)) (EqlAt.intD _ _ _) b o l.length c l x w (Nat.le_refl _) (by omega) (fun j hj => by
      rw [hc j (.int .u32 l[j]) (by unfold idL; rw [List.getElem?_map, List.getElem?_eq_getElem hj]; rfl), getElem!_pos l j hj])
    refine q.mono (fun e w' h => ⟨?_, h.2⟩)
    rw [h.1, List.take_length]
    congr 2
    rw [Bool.eq_iff_iff]
    simp
theorem closure50 {A : Option Addr} {c g : Nat} {l : List Id} {x : Id} {w : World} (h : Ids w A l) (hn : l.length ≤ 1000000) (hg : w.cell? ⟨g, 0, none⟩ = some (.int .u32 x)) :
    Calls Try.prog 50 #[.slice A l.length c, .pointer (some ⟨g, 0, none⟩)] w fun e w' => e = .returned (.bool (decide (x ∈ l))) ∧ w' = w := by
  have HC := Lib.hid (contains51 (c := c) (x := x) h hn)
  generalize decide (x ∈ l) = r at *
  clear h
  go_enter Try.func50, Try.ntmps50
  go_wp2_with fail
  refine Calls.mono HC.out ?_
  rintro e w1 ⟨rfl, rfl⟩
  go_wp2_with fail
  go_ret
  exact ⟨rfl, rfl⟩
theorem index62_none (c : Nat) (f : Value) (w : World) : Calls Try.prog 62 #[.slice none 0 c, f] w fun e w' => e = .returned (.int .i64 (-1)) ∧ w' = w := by
  go_enter Try.func62, Try.ntmps62
  go_wp2_with fail
  refine wp_loop_rounds 1 ?_
  rw [rounds_succ]
  go_wp2_with fail
  go_ret
  exact ⟨rfl, rfl⟩
theorem delete48_none (c : Nat) (f : Value) (w : World) : Calls Try.prog 48 #[.slice none 0 c, f] w fun e w' => e = .returned (.slice none 0 c) ∧ w' = w := by
  have HC := Lib.hid (index62_none c f w)
  go_enter Try.func48, Try.ntmps48
  go_wp2_with fail
  refine Calls.mono HC.out ?_
  rintro e w1 ⟨rfl, rfl⟩
  go_wp2_with fail
  go_ret
  exact ⟨rfl, rfl⟩
def noB (x : Id) (l : List Id) : Bool := !decide (x ∈ l)
def withoutL (ls : List Lst) (x : Id) : List Lst := ls.filter fun l => noB x l.l
theorem inner_without {w : World} {ls : List Lst} {x : Id} (h : Inner w ls) : Inner w (withoutL ls x) := fun l hl => h l ((List.mem_filter.1 hl).1)
/-- the lists that lie in a world -/
abbrev LsQ (w : World) := { x : Lst // Ids w x.A x.l ∧ x.l.length ≤ 1000000 }
instance (w : World) : Inhabited (LsQ w) := ⟨⟨lst0, Ids.nil _ _, Nat.zero_le _⟩⟩
def lqV {w : World} (x : LsQ w) : Value := lsV x.1
theorem lsq_of {w : World} : ∀ (ls : List Lst), Inner w ls → (∀ x ∈ ls, x.l.length ≤ 1000000) → ∃ l : List (LsQ w), l.map (·.1) = ls
  | [], _, _ => ⟨[], rfl⟩
  | f :: s, h, hm => by
    obtain ⟨l, hl⟩ := lsq_of s (fun x hx => h x (List.mem_cons_of_mem _ hx)) (fun x hx => hm x (List.mem_cons_of_mem _ hx))
    exact ⟨⟨f, (h f (List.mem_cons_self ..)).1, hm f (List.mem_cons_self ..)⟩ :: l, by rw [List.map_cons, hl]⟩
theorem lqV_map {w : World} (l : List (LsQ w)) : l.map lqV = lsL (l.map (·.1)) := by
  unfold lsL lqV
  rw [List.map_map]
  rfl
theorem eg50 : ∀ args w, (callFunc 50 args).run Try.prog w = .ok (.enter 50 args) w := enters_of Try.func50 (by kernel_rfl) rfl
set_option maxRecDepth 100000 in
theorem delete48 {w0 w : World} {g g0 cap : Nat} {ls : List Lst} {x : Id} (hb : Below w0.heap.size w0 w) (hg0 : w.cell? ⟨g0, 0, none⟩ = some (.int .u32 x)) (hgl : w0.heap.size ≤ g) (hne : g0 ≠ g) (hg0l : g0 < w.heap.size)
    (ho : w.ownsRow w0.heap.size 30 1 (.slice (some ⟨g, 0, none⟩) ls.length cap) ls.length (lsL ls)) (hi : Inner w0 ls) (hm : ∀ x ∈ ls, x.l.length ≤ 1000000) (hn : ls.length ≤ 1000000) :
    Calls Try.prog 48 #[.slice (some ⟨g, 0, none⟩) ls.length cap, .func (.func 50) #[] #[.pointer (some ⟨g0, 0, none⟩)]] w fun e w' => e = .returned (.slice (some ⟨g, 0, none⟩) (withoutL ls x).length cap) ∧ w'.ownsRow w0.heap.size 30 1 (.slice (some ⟨g, 0, none⟩) (withoutL ls x).length cap) (withoutL ls x).length (lsL (withoutL ls x)) ∧ Below w0.heap.size w0 w' := by
  obtain ⟨l, hl⟩ := lsq_of ls hi hm
  have hll : l.length = ls.length := by rw [← hl, List.length_map]
  have hcap := own_cap ho
  have ho' : w.ownsRow w0.heap.size 30 1 (.slice (some ⟨g, 0, none⟩) ls.length cap) ls.length (l.map lqV) := by rw [lqV_map, hl]; exact ho
  obtain ⟨g', cap', e1, _, hglt, _, _, _, hH⟩ := Lib.holds_of_ownsRow ho' (fun e => by injection e with e _ _; cases e)
  injection e1 with e1 _ e3
  injection e1 with e1
  injection e1 with e1
  subst e1
  have hgive : ∀ (W : World), Below w0.heap.size w0 W → W.cell? ⟨g0, 0, none⟩ = some (.int .u32 x) → ∀ y : LsQ w0, FnGives Try.prog 50 #[.pointer (some ⟨g0, 0, none⟩)] #[lqV y] (.bool (decide (x ∈ y.1.l))) W := fun W hW hc y => by
    show Calls Try.prog 50 #[.slice y.1.A y.1.l.length y.1.c, .pointer (some ⟨g0, 0, none⟩)] W _
    exact (closure50 (y.2.1.below hW) y.2.2 hc).mono (fun e w' h => ⟨h.1, 0, h.2⟩)
  have q := AnyE.slices_DeleteFunc Try.deleteL (lqV (w := w0)) (fun _ => rfl) (fun y => decide (x ∈ y.1.l)) 50 #[.pointer (some ⟨g0, 0, none⟩)] eg50 ⟨lst0, Ids.nil _ _, Nat.zero_le _⟩ (fun w => Try.zeroValue30 w) g 0 cap l.toArray w
    (fun W y hW => hgive W (hb.trans (hW.mono hb.size)) ((hW.cell (p := ⟨g0, 0, none⟩) hg0l).trans hg0) y)
    (fun n os dk y _ => hgive _ (by
      have h1 := Lib.below_putRow (enc := lqV (w := w0)) (q := n) (d := dk) hb hgl
      exact h1.trans ((Gr.below ⟨0, os, rfl⟩).mono h1.size)) (by
      unfold sortWorld
      rw [cell?_grow _ _ _ (by show g0 < (putRow _ _ _ _ _).heap.size; rw [size_putRow]; exact hg0l), cell?_putRow_other _ _ g 0 _ _ (Or.inl hne)]
      exact hg0) y)
    hH (by rw [List.size_toArray, hll]; omega) (by rw [List.size_toArray, hll]; exact hcap)
  change Calls Try.prog 48 _ _ _ at q
  rw [List.size_toArray, hll] at q
  refine q.mono ?_
  rintro e w' ⟨he, qn, rfl⟩
  have hfl : (l.filter fun y => !decide (x ∈ y.1.l)).map (·.1) = withoutL ls x := by
    unfold withoutL noB
    rw [← hl, List.filter_map]
    rfl
  have hlen : (l.filter fun y => !decide (x ∈ y.1.l)).length = (withoutL ls x).length := by rw [← hfl, List.length_map]
  have hle : (l.filter fun y => !decide (x ∈ y.1.l)).length ≤ ls.length := by rw [← hll]; exact List.length_filter_le ..
  refine ⟨by rw [he, ← hlen], ?_, Lib.below_putRow hb hgl⟩
  have h3 := Lib.ownsRow_putRow (q := qn) (k := (withoutL ls x).length) ho' (ys := (l.filter fun y => !decide (x ∈ y.1.l)) ++ List.replicate (ls.length - (l.filter fun y => !decide (x ∈ y.1.l)).length) ⟨lst0, Ids.nil _ _, Nat.zero_le _⟩) (by rw [List.length_append, List.length_replicate]; omega) (by omega)
  rw [List.take_append_of_le_length (by omega), List.take_of_length_le (by omega), lqV_map, hfl] at h3
  exact h3
set_option maxRecDepth 100000 in
theorem clone49 {A : Option Addr} {c : Nat} {ls : List Lst} {w : World} (h : Ls w A ls) (hA : AOk A ls.length) (hn : ls.length ≤ 1000000) :
    Calls Try.prog 49 #[.slice A ls.length c] w fun e w' => (A = none ∧ ls = [] ∧ e = .returned (.slice none 0 0) ∧ w' = w) ∨ ∃ g cap, e = .returned (.slice (some ⟨g, 0, none⟩) ls.length cap) ∧ w'.ownsRow w.heap.size 30 1 (.slice (some ⟨g, 0, none⟩) ls.length cap) ls.length (lsL ls) ∧ Below w.heap.size w w' := by
  rcases hA with ⟨rfl, h0⟩ | ⟨b, o, rfl⟩
  · obtain rfl := List.length_eq_zero_iff.1 h0
    exact (Try.slices_Clone_nil_f49 0 c w).mono (fun e w' h => .inl ⟨rfl, rfl, h.1, h.2⟩)
  · obtain ⟨i0, hi0, hz0, hz1, hz2⟩ := info_parts info30
    have q := Try.slices_Clone_f49 i0 _ 1 24 hi0 hz0 hz1 hz2 (by simp [Value.cells]) (by decide) (fun w => Try.sizeOf30 w) b o ls.length c (lsL ls) w (by rw [lsL_len]; omega) (by unfold maxLen; omega) (by omega) (fun j v hj => by
      obtain ⟨b', o', e, _, hc⟩ := h.1 (fun e => by rw [e] at hj; cases hj)
      injection e with e
      injection e with e1 e2
      subst e1 e2
      exact hc j v hj) (lsL_one ls)
    refine q.mono ?_
    rintro e w' ⟨v, rfl, h1, h2, h3⟩
    obtain ⟨g, cap, rfl, _⟩ := own_some h1 h2
    exact .inr ⟨g, cap, rfl, h1, h3⟩
set_option maxRecDepth 100000 in
set_option maxHeartbeats 1000000 in
theorem without32 {A : Option Addr} {c : Nat} {ls : List Lst} {x : Id} {w : World} (h : Ls w A ls) (hA : AOk A ls.length) (hn : ls.length ≤ 1000000) (hm : ∀ x ∈ ls, x.l.length ≤ 1000000) :
    Calls Try.prog 32 #[.slice A ls.length c, .int .u32 x] w fun e w' => ∃ B d, e = .returned (.slice B (withoutL ls x).length d) ∧ w'.ownsRow w.heap.size 30 1 (.slice B (withoutL ls x).length d) (withoutL ls x).length (lsL (withoutL ls x)) ∧ Below w.heap.size w w' := by
  have HA : Hid (Below w.heap.size w (w.alloc (.cells #[.int .u32 x] 24))) := Lib.hid ((Below.refl _ _).alloc (Nat.le_refl _) _)
  have HC := Lib.hid (clone49 (c := c) (h.below HA.out) hA hn)
  have HI := Lib.hid h.2
  have HM := Lib.hid hm
  have HN := Lib.hid hn
  have HCELL : Hid ((w.alloc (.cells #[.int .u32 x] 24)).cell? ⟨w.heap.size, 0, none⟩ = some (.int .u32 x)) := Lib.hid (by rw [cell_of_row _ _ 0 _ 24 (0, 0) (heap_alloc_new _ _)]; rfl)
  have HSZ : Hid ((w.alloc (.cells #[.int .u32 x] 24)).heap.size = w.heap.size + 1) := Lib.hid (World.size_alloc _ _)
  clear h hA hm hn
  go_enter Try.func32, Try.ntmps32
  go_wp2_with fail
  refine Calls.mono HC.out ?_
  rintro e w1 (⟨rfl, rfl, rfl, rfl⟩ | ⟨g, cap, rfl, ho, hb⟩)
  · have HD := Lib.hid (fun f W => delete48_none 0 f W)
    go_wp2_with fail
    refine Calls.mono (HD.out _ _) ?_
    rintro e w2 ⟨rfl, rfl⟩
    go_wp2_with fail
    go_ret
    exact ⟨none, 0, rfl, World.ownsRow_nil _ _ _ _, HA.out⟩
  · have hge := (own_block ho).1
    have HW1 : Hid (Below w.heap.size w w1) := Lib.hid (HA.out.trans (hb.mono HA.out.size))
    have HD := Lib.hid (delete48 (w0 := w) (g0 := w.heap.size) (x := x) HW1.out ((hb.cell (p := ⟨w.heap.size, 0, none⟩) (by rw [HSZ.out]; exact Nat.lt_succ_self _)).trans HCELL.out) (by rw [HSZ.out] at hge; omega) (by rw [HSZ.out] at hge; omega) (by have := hb.size; rw [HSZ.out] at this; omega) (own_mono ho (by rw [HSZ.out]; omega)) HI.out HM.out HN.out)
    clear ho hb hge
    go_wp2_with fail
    refine Calls.mono HD.out ?_
    rintro e w2 ⟨rfl, ho2, hb2⟩
    have HO2 := Lib.hid ho2
    have HB2 := Lib.hid hb2
    clear ho2 hb2
    go_wp2_with fail
    go_ret
    exact ⟨some ⟨g, 0, none⟩, cap, rfl, HO2.out, HB2.out⟩
end Go.Proofs.Ytijdkgklajdbnaa
