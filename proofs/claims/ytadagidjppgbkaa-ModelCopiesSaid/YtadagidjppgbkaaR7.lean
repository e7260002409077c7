/- The end of the reference's commit: its result is written into its own variable. -/
import Derived.Test.YtadagidjppgbkaaR5
namespace Go.Proofs.Ytadagidjppgbkaa
open Go.RowKit Go.Maps Go.Sort
/-- a row of names of the call's own reads as names -/
theorem Nms.of_row {w : World} {base g b n : Nat} {v : Value} {L : List Named} (h : w.ownsRow base 49 2 v n (rowsL L)) (hl : L.length = n) (hs : ∀ x ∈ L, x.1.size ≤ maxLen ∧ x.2.size ≤ maxLen) (hg : g < base) (hb : b < base) (hne : v ≠ .slice none 0 0) :
    ∃ r c, v = .slice (some ⟨r, 0, none⟩) n c ∧ n ≤ c ∧ c ≤ maxLen ∧ base ≤ r ∧ Nms w g b (some ⟨r, 0, none⟩) n L := by
  rcases h.2 with ⟨hv, _⟩ | ⟨r, c, cur, hv, hbr, hh, hn, hc, hz, ht⟩
  · exact absurd hv hne
  · subst hv
    have hr := (Array.getElem?_eq_some_iff.1 hh).1
    refine ⟨r, c, rfl, hn, hc, hbr, hl, hs, fun _ => ⟨r, 0, rfl, hr, by omega, by omega, fun i x hi => ?_⟩⟩
    have hg2 := rowsL_get L i
    rw [hi] at hg2
    have c1 := h.cells (g := r) rfl (i * 2) (.string x.1) (by rw [hg2.1]; rfl)
    have c2 := h.cells (g := r) rfl (i * 2 + 1) (.string x.2) (by rw [hg2.2]; rfl)
    rw [Addr.add_mid] at c1 c2
    exact ⟨c1, by rw [show 0 + i * 2 + 1 = 0 + (i * 2 + 1) by omega]; exact c2⟩
def zeroRm : Array Value := #[.slice none 0 0, .bool false, .string ByteArray.empty, .string ByteArray.empty]
theorem commit_box {w wr w5 : World} (hw : w.heap.size + 2 ≤ wr.heap.size) (hb5 : Below wr.heap.size wr w5) (hbox : wr.heap[w.heap.size + 1]? = some (.cells zeroRm 27)) :
    w5.heap[w.heap.size + 1]? = some (.cells zeroRm 27) ∧ (∀ j, w5.frozen? ⟨w.heap.size + 1, j, none⟩ = false) ∧ w5.cell? ⟨w.heap.size + 1, 0, none⟩ = some (.slice none 0 0) ∧ w5.cell? ⟨w.heap.size + 1, 1, none⟩ = some (.bool false) ∧
    w5.cell? ⟨w.heap.size + 1, 2, none⟩ = some (.string ByteArray.empty) ∧ w5.cell? ⟨w.heap.size + 1, 3, none⟩ = some (.string ByteArray.empty) := by
  have h := (hb5.block (w.heap.size + 1) (by omega)).trans hbox
  exact ⟨h, fun j => frozen_of_row w5 _ j _ 27 h, cell_of_row w5 _ 0 _ 27 (0, 0) h, cell_of_row w5 _ 1 _ 27 (0, 0) h, cell_of_row w5 _ 2 _ 27 (0, 0) h, cell_of_row w5 _ 3 _ 27 (0, 0) h⟩
theorem commit_end {w wr w5 : World} {g b n : Nat} {v5 : Value} {L : List Named} (hw : w.heap.size + 2 ≤ wr.heap.size) (hb0 : Below w.heap.size w wr) (hb5 : Below wr.heap.size wr w5) (hbox : wr.heap[w.heap.size + 1]? = some (.cells zeroRm 27))
    {r : Nat} (hr : wr.heap.size ≤ r) (hN : Nms w5 g b (some ⟨r, 0, none⟩) n L) :
    let w6 := (((w5.setCell ⟨w.heap.size + 1, 0, none⟩ v5).setCell ⟨w.heap.size + 1, 1, none⟩ (.bool false)).setCell ⟨w.heap.size + 1, 2, none⟩ (.string ByteArray.empty)).setCell ⟨w.heap.size + 1, 3, none⟩ (.string ByteArray.empty)
    w6.heap[w.heap.size + 1]? = some (.cells #[v5, .bool false, .string ByteArray.empty, .string ByteArray.empty] 27) ∧ Nms w6 g b (some ⟨r, 0, none⟩) n L ∧ Below w.heap.size w w6 := by
  intro w6
  obtain ⟨h, _⟩ := commit_box hw hb5 hbox
  have s1 := heap_setCell_same w5 (w.heap.size + 1) 0 _ 27 v5 h
  have s2 := heap_setCell_same _ (w.heap.size + 1) 1 _ 27 (.bool false) s1
  have s3 := heap_setCell_same _ (w.heap.size + 1) 2 _ 27 (.string ByteArray.empty) s2
  have s4 := heap_setCell_same _ (w.heap.size + 1) 3 _ 27 (.string ByteArray.empty) s3
  have hoth : ∀ k, k ≠ w.heap.size + 1 → w6.heap[k]? = w5.heap[k]? := fun k hk =>
    (heap_setCell_other _ ⟨w.heap.size + 1, 3, none⟩ k _ hk).trans ((heap_setCell_other _ ⟨w.heap.size + 1, 2, none⟩ k _ hk).trans ((heap_setCell_other _ ⟨w.heap.size + 1, 1, none⟩ k _ hk).trans (heap_setCell_other _ ⟨w.heap.size + 1, 0, none⟩ k _ hk)))
  have hsz : w6.heap.size = w5.heap.size := by simp [w6]
  refine ⟨s4, ⟨hN.1, hN.2.1, fun hn => ?_⟩, ?_⟩
  · obtain ⟨r', o, e, hl, h1, h2, hc⟩ := hN.2.2 hn
    injection e with e
    injection e with e1 e2
    subst e1
    subst e2
    have hbk := hoth r (by omega)
    exact ⟨r, 0, rfl, by omega, h1, h2, fun i x hi => ⟨(World.cell?_of_block (a := ⟨r, 0 + i * 2, none⟩) hbk).trans (hc i x hi).1, (World.cell?_of_block (a := ⟨r, 0 + i * 2 + 1, none⟩) hbk).trans (hc i x hi).2⟩⟩
  · have h5 := hb0.trans (hb5.mono hb0.size)
    exact ⟨h5.os, h5.tape, h5.output, by rw [hsz]; exact h5.size, fun k hk => (hoth k (by omega)).trans (h5.block k hk)⟩
end Go.Proofs.Ytadagidjppgbkaa
