/- The walk over Names. -/
import Derived.Test.YtadagidjppgbkaaM4
import Derived.Test.YtadagidjppgbkaaShelf
import Derived.Maps.RangeWalk
import Derived.Sort.KeysCollected
import Derived.Sort.OwnSorted
import Derived.Maps.AppendAt
namespace Go.Proofs.Ytadagidjppgbkaa
open Go.RowKit Go.Maps Go.Sort
theorem info9 : (Try.prog.info? 9).map (fun i => (i.zero, i.size, i.bytes)) = some (some (.string ⟨#[]⟩), 1, 16) := by kernel_rfl
/-- a map's keys, rising -/
def keysOf (D : DataW Unit) : List (List UInt8) := (strKeys D).mergeSort leB
theorem keysOf_length {w : World} {b n : Nat} {D : DataW Unit} (h : w.ownsMap Try.prog 9 (plainElem Try.prog 9) b n D) : (keysOf D).length = Maps.size D := by
  obtain ⟨es, rfl, _⟩ := h.keysOf
  simp [keysOf, strKeys, Maps.size]
def NamesPost (s : Md) (w : World) (e : Ending) (w' : World) : Prop := ∃ v, e = .returned v ∧ w'.ownsRow w.heap.size 9 1 v (keysOf s.D).length ((keysOf s.D).map encStr) ∧ Below w.heap.size w w'
set_option maxRecDepth 100000 in
set_option maxHeartbeats 1000000 in
theorem names_at {g b : Nat} {s : Md} {w : World} (h : MdAt g b s w) (hmax : Maps.size s.D ≤ 1000000) : Calls Try.prog 20 #[.pointer (some ⟨g, 0, none⟩)] w (NamesPost s w) := by
  obtain ⟨i0, hi, hz0, hz1, hz2⟩ := info_parts info9
  have HM := Lib.hid (made_at h)
  have hown := h.2
  have c0 := h.c0
  have hbl := hown.lt
  clear h
  go_enter Try.func20, Try.ntmps20
  go_wp2_with (first
    | (go_at_call 26; refine HM.out.mono ?_; rintro e w1 ⟨rfl, rfl⟩)
    | (at_range; refine wpList_range_own _ rfl _ 65 rfl 9 9 law9 Try.underlying65 _ b s.n _ rfl hown ?_; intro w0 hrg0 hg0 hs0)
    | go_in)
  go_frame
  go_loopw [3, 4] (fun v _ wr => ∃ (left : Lit → Bool) (cnt : Nat) (ss : List (List UInt8)), wr.ranges Try.prog 9 (plainElem Try.prog 9) b w.heap.size s.n s.D left cnt ∧ ss.length + cnt ≤ Maps.size s.D ∧
      wr.ownsRow w.heap.size 9 1 v ss.length (ss.map encStr) ∧ Collected s.D left ss ∧ Below w.heap.size w wr)
    (fun _ _ wr => wr.rangeLeft b w.heap.size)
  case atStart =>
    exact ⟨_, _, [], hrg0, by simp, World.ownsRow_nil _ _ _ _, Collected.start s.D, (Below.refl _ _).grown hg0 (Nat.le_refl _) (fun j hj => by cases hj)⟩
  case round =>
    obtain ⟨left, cnt, ss, hrg, hcs, hrow, hC, hnx⟩ := hrel
    go_wp2_with (first
      | (at_next; refine wpList_next_ranges _ rfl _ rfl 9 law9 (plainElem Try.prog 9) encStr Value.string (fun key kl hk => by obtain ⟨x, hx, _⟩ := Maps.keyOf_str Try.underlying9 hk; exact ⟨x, hx⟩) (fun v y hv => by obtain ⟨c, rfl, _⟩ := plainElem_string_inv Try.underlying9 hv; exact ⟨c, rfl⟩) b w.heap.size s.n _ _ _ rfl hrg ?_ ?_)
      | go_in)
    · intro hc0 hl0
      have hperm := hC.perm hown law9 Try.underlying9 hl0
      have hks : ss.mergeSort leB = keysOf s.D := mergeSort_of_perm hperm
      rcases hrow.2 with ⟨hnil, h00⟩ | ⟨g', cap, cur, rfl, hbase, hb, h1, h2, h3, h4⟩
      · subst hnil
        obtain rfl : ss = [] := List.eq_nil_of_length_eq_zero h00
        have hks2 : keysOf s.D = [] := by rw [← hks]; simp
        have HKS := Lib.hid hks2
        clear hks hks2 hperm hC hrow
        go_wp2_with (go_at_call 35; refine (Try.slices_Sort_string_none _ _ _).mono ?_; rintro e w' ⟨rfl, rfl⟩)
        go_ret
        refine ⟨_, rfl, ?_, hnx⟩
        rw [HKS.out]
        exact World.ownsRow_nil _ _ _ _
      · have hH : Holds encStr wr g' 0 ss.toArray := holds_of_block hb (by simpa using h4)
        have hgl : g' < wr.heap.size := (Array.getElem?_eq_some_iff.1 hb).1
        have hc := Lib.hid (Try.slices_Sort_string g' 0 cap ss wr hH hgl (by omega))
        have HKS := Lib.hid hks
        have HB := Lib.hid (And.intro hbase (And.intro hb (And.intro h1 (And.intro h2 h3))))
        clear hks hperm hC hrow hH hgl hbase hb h1 h2 h3 h4
        go_wp2_with (go_at_call 35; refine hc.out.mono ?_; rintro e w' ⟨rfl, nn, os, rfl⟩)
        go_ret
        have hl : (keysOf s.D).length = ss.length := by rw [← HKS.out]; simp
        refine ⟨_, rfl, ?_, hnx.grown (grownBy_sorted _) hnx.size (fun j hj => by cases hj; exact HB.out.1)⟩
        rw [hl, ← HKS.out]
        exact ownsRow_sorted (by simp) HB.out.1 HB.out.2.1 HB.out.2.2.1 HB.out.2.2.2.1 HB.out.2.2.2.2
    · intro x c kl yd yp w2 cnt2 hkey hlk hv hat hrg2 hlt hg2 hs2 hen
      obtain ⟨x', ex, rfl, _⟩ := Maps.keyOf_str Try.underlying9 hkey
      obtain rfl : x = x' := encStr_inj ex
      have hrow2 := hrow.kept hg2 (Or.inr (row_ne_iter hrow hrg).symm)
      clear hs2
      go_wp2_with (first
        | (at_builtin; refine wpList_append_own _ rfl _ _ 37 rfl w.heap.size 9 i0 (.string ⟨#[]⟩) 1 16 Try.underlying37 hi hz0 hz1 hz2 rfl (by decide) _ _ _ rfl (hrow2.alloc _) ⟨w2.heap.size, 0, none⟩ 1 1 [encStr x] rfl rfl (cell_one_new _ _ _) (by simp [Value.oneCell', encStr]) (by unfold maxLen at *; omega) (by omega) (by have := hnx.size; have := hg2.size; simp; omega) ?_; intro v' w3 hown' hg3 hnil3; go_frame)
        | go_in)
      have hrg3 := (hrg2.alloc _).kept hg3 (row_ne_low hrow2 hbl) (row_ne_iter hrow2 hrg2)
      go_roundw
      case rel =>
        refine ⟨_, cnt2, ss ++ [x], hrg3, by simp; omega, by simpa using hown', hC.step hlk hat, ?_⟩
        exact ((hnx.grown hg2 hnx.size (fun j hj => by cases hj; exact Nat.le_refl _)).alloc (by have := hnx.size; have := hg2.size; omega) _).grown hg3 (by have := hnx.size; have := hg2.size; simp; omega) (fun j hj => (hrow2.lt j hj).1)
      case measure => rw [hrg3.left_eq, hrg.left_eq]; exact hlt
end Go.Proofs.Ytadagidjppgbkaa
