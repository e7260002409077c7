/- The walks over maps.Clone and Copy. -/
import Derived.Test.YtadagidjppgbkaaW7
import Derived.Shelf.SlMaps.Clone
namespace Go.Proofs.Ytadagidjppgbkaa
open Go.RowKit Go.Maps Go.Sort
set_option maxRecDepth 100000 in
set_option maxHeartbeats 2000000 in
theorem clone36 (b n : Nat) (D : DataW Unit) (w : World) (hown : w.ownsMap Try.prog 9 (plainElem Try.prog 9) b n D) :
    Calls Try.prog 36 #[.map (some b)] w fun e w' => e = .returned (.map (some w.heap.size)) ∧ w'.ownsMap Try.prog 9 (plainElem Try.prog 9) w.heap.size n D ∧ Below w.heap.size w w' := by
  obtain ⟨es, clock, hb, F, hs, hD⟩ := hown
  have HF := Lib.hid (And.intro F (And.intro hs hD))
  have HB := Lib.hid hb
  clear F hs hD hb
  have hq := fun W => run_eql_map_nil_sl (P := Try.prog) W 65 9 9 (some b) Try.underlying65
  go_enter Try.func36, Try.ntmps36
  go_wp2
  rw [run_callFunc_extern Try.func42 (by kernel_rfl) (by kernel_rfl) (by kernel_rfl) (e := Extern.MapsClone.clone) (by kernel_rfl), run_maps_clone_sl w 65 HB.out]
  simp only [Result.andThen]
  rw [Oper.upon_value]
  go_wp2
  rw [run_typeAssert_map_sl _ 65 20 _ _ _ Try.underlying65]
  simp only [Result.andThen]
  rw [Oper.upon_value]
  go_wp2
  go_ret
  exact ⟨rfl, ⟨es, clock, (MapKept.heap_alloc w _).1, HF.out.1, HF.out.2.1, HF.out.2.2⟩, (Below.refl _ w).alloc (Nat.le_refl _) _⟩
def CopyPost (s : Md) (w : World) (e : Ending) (w' : World) : Prop := ∃ g b, e = .returned (.pointer (some ⟨g, 0, none⟩)) ∧ Below w.heap.size w w' ∧ w.heap.size ≤ g ∧ w.heap.size ≤ b ∧ MdAt g b s w'
set_option maxRecDepth 100000 in
set_option maxHeartbeats 2000000 in
theorem copy_at {g b : Nat} {s : Md} {w : World} (h : MdAt g b s w) : Calls Try.prog 21 #[.pointer (some ⟨g, 0, none⟩)] w (CopyPost s w) := by
  have HM := Lib.hid (made_at h)
  have HM0 := Lib.hid h
  have hC : Hid (∀ W, Below w.heap.size w W → Calls Try.prog 36 #[.map (some b)] W fun e w' => e = .returned (.map (some W.heap.size)) ∧ w'.ownsMap Try.prog 9 (plainElem Try.prog 9) W.heap.size s.n s.D ∧ Below W.heap.size W w') := fun W hb => clone36 b s.n s.D W (h.below hb).2
  have hgl := h.lt.1
  have c0 := h.c0
  have c1 := h.c1
  have c2 := h.c2
  have c3 := h.c3
  have f0 := h.fz 0
  clear h
  go_enter Try.func21, Try.ntmps21
  go_wp2_with fail
  refine Calls.mono HM.out ?_
  rintro e w1 ⟨rfl, rfl⟩
  go_wp2_with fail
  have hB0 : Below w.heap.size w (w.alloc (.cells #[.map (some b), .bool s.op, .string s.nm, .string s.by_] 67)) := (Below.refl _ _).alloc (Nat.le_refl _) _
  refine Calls.mono (hC.out _ hB0) ?_
  rintro e w2 ⟨rfl, hown, hb2⟩
  have hbx : w2.heap[w.heap.size]? = some (.cells #[.map (some b), .bool s.op, .string s.nm, .string s.by_] 67) := (hb2.block w.heap.size (by simp)).trans (heap_alloc_new _ _)
  have HX := Lib.hid (And.intro hbx (And.intro hown (hB0.trans (hb2.mono hB0.size))))
  have d0 := cell_of_row w2 w.heap.size 0 _ 67 (0, 0) hbx
  have e0 := frozen_of_row w2 w.heap.size 0 _ 67 hbx
  clear hbx hown hb2
  go_wp2
  go_ret
  obtain ⟨k1, k2, k3⟩ := HX.out
  refine ⟨w.heap.size, w.heap.size + 1, rfl, k3.setCell (by simp) _, Nat.le_refl _, Nat.le_succ _, heap_setCell_same w2 w.heap.size 0 _ 67 _ k1, ?_⟩
  rw [World.size_alloc] at k2
  exact k2.setCell (by simp) _
end Go.Proofs.Ytadagidjppgbkaa
