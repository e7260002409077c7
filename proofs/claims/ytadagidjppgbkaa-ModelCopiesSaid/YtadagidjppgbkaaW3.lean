/- The walk over ModelDoes. -/
import Derived.Test.YtadagidjppgbkaaW2
namespace Go.Proofs.Ytadagidjppgbkaa
open Go.RowKit Go.Maps Go.Sort
structure ActT where
  op : Int
  nm : ByteArray
  da : ByteArray
  t : Int
  cr : Bool
/-- the slice value reads as acts -/
def Acts (w : World) (B : Nat) (A : Option Addr) (n : Nat) (ls : List ActT) : Prop :=
  ls.length = n ∧ (∀ x ∈ ls, x.nm.size ≤ maxLen ∧ x.da.size ≤ maxLen ∧ 0 ≤ x.t ∧ x.t ≤ 65535) ∧ (0 < n → ∃ b o, A = some ⟨b, o, none⟩ ∧ b < B ∧ ∀ (i : Nat) (x : ActT), ls[i]? = some x →
    w.cell? ⟨b, o + i * 5, none⟩ = some (.int .i64 x.op) ∧ w.cell? ⟨b, o + i * 5 + 1, none⟩ = some (.string x.nm) ∧ w.cell? ⟨b, o + i * 5 + 2, none⟩ = some (.string x.da) ∧ w.cell? ⟨b, o + i * 5 + 3, none⟩ = some (.int .u16 x.t) ∧ w.cell? ⟨b, o + i * 5 + 4, none⟩ = some (.bool x.cr))
theorem Acts.below {w w' : World} {B n : Nat} {A : Option Addr} {ls : List ActT} (h : Acts w B A n ls) (hb : Below B w w') : Acts w' B A n ls :=
  ⟨h.1, h.2.1, fun hn => by
    obtain ⟨b, o, e, hl, hc⟩ := h.2.2 hn
    refine ⟨b, o, e, hl, fun i x hi => ?_⟩
    obtain ⟨h0, h1, h2, h3, h4⟩ := hc i x hi
    exact ⟨(hb.cell (p := ⟨b, o + i * 5, none⟩) hl).trans h0, (hb.cell (p := ⟨b, o + i * 5 + 1, none⟩) hl).trans h1, (hb.cell (p := ⟨b, o + i * 5 + 2, none⟩) hl).trans h2, (hb.cell (p := ⟨b, o + i * 5 + 3, none⟩) hl).trans h3, (hb.cell (p := ⟨b, o + i * 5 + 4, none⟩) hl).trans h4⟩⟩
theorem Nms.turn2 {w w' : World} {g b R : Nat} {s : Md} {A : Option Addr} {n : Nat} {L : List Named} (h : Nms w g R A n L) (hm : MdAt g b s w) (ht : Turn g b w w') : Nms w' g R A n L :=
  ⟨h.1, h.2.1, fun hn => by
    obtain ⟨r, o, e, hl, h1, h2, hc⟩ := h.2.2 hn
    have hrb : r ≠ b := by
      rintro rfl
      obtain ⟨x, hx⟩ : ∃ x, L[0]? = some x := ⟨L[0]'(by rw [h.1]; exact hn), by simp⟩
      have := (hc 0 x hx).1
      obtain ⟨es, clock, hb, _⟩ := hm.2
      simp [World.cell?, hb] at this
    have hb := ht.block r hl h1 hrb
    exact ⟨r, o, e, Nat.lt_of_lt_of_le hl ht.size, h1, h2, fun i x hi => ⟨(World.cell?_of_block (a := ⟨r, o + i * 2, none⟩) hb).trans (hc i x hi).1, (World.cell?_of_block (a := ⟨r, o + i * 2 + 1, none⟩) hb).trans (hc i x hi).2⟩⟩⟩
theorem Nms.map {w : World} {g b R : Nat} {s : Md} {A : Option Addr} {n : Nat} {L : List Named} (h : Nms w g R A n L) (hm : MdAt g b s w) : Nms w g b A n L :=
  ⟨h.1, h.2.1, fun hn => by
    obtain ⟨r, o, e, hl, h1, h2, hc⟩ := h.2.2 hn
    refine ⟨r, o, e, hl, h1, ?_, hc⟩
    rintro rfl
    obtain ⟨x, hx⟩ : ∃ x, L[0]? = some x := ⟨L[0]'(by rw [h.1]; exact hn), by simp⟩
    have := (hc 0 x hx).1
    obtain ⟨es, clock, hb, _⟩ := hm.2
    simp [World.cell?, hb] at this⟩
/-- a model of the call's own, and a variable that holds the reference's -/
structure St (w : World) (g b R : Nat) (s : Md) (r : Rm) (A : Option Addr) (c : Nat) (W : World) : Prop where
  aw : AwAt w g b s W
  box : W.heap[R]? = some (.cells (rmA A c r) 27)
  nms : Nms W g R A r.L.length r.L
  cap : r.L.length ≤ c
  nil : A = none → c = 0
  max : c ≤ 9223372036854775807
  low : w.heap.size ≤ R
  ne : R ≠ g ∧ R ≠ b
section
variable {w W W' : World} {g b R : Nat} {s s' : Md} {r r' : Rm} {A A' : Option Addr} {c c' : Nat}
theorem St.below (h : St w g b R s r A c W) (hb : Below W.heap.size W W') : St w g b R s r A c W' :=
  ⟨h.aw.turn (h.aw.1.below hb) (Turn.of_below hb), (hb.block R (Array.getElem?_eq_some_iff.1 h.box).1).trans h.box, h.nms.below hb, h.cap, h.nil, h.max, h.low, h.ne⟩
theorem St.turn (h : St w g b R s r A c W) (hm : MdAt g b s' W') (ht : Turn g b W W') : St w g b R s' r A c W' :=
  ⟨h.aw.turn hm ht, (ht.block R (Array.getElem?_eq_some_iff.1 h.box).1 h.ne.1 h.ne.2).trans h.box, h.nms.turn2 h.aw.1 ht, h.cap, h.nil, h.max, h.low, h.ne⟩
theorem St.base (h : St w g b R s r A c W) : Below w.heap.size w W := h.aw.2.1
theorem St.lt (h : St w g b R s r A c W) : R < W.heap.size := (Array.getElem?_eq_some_iff.1 h.box).1
theorem St.cells (h : St w g b R s r A c W) : (W.cell? ⟨R, 0, none⟩ = some (.slice A r.L.length c) ∧ W.cell? ⟨R, 1, none⟩ = some (.bool r.op) ∧ W.cell? ⟨R, 2, none⟩ = some (.string r.nm) ∧ W.cell? ⟨R, 3, none⟩ = some (.string r.by_)) ∧
    (W.frozen? ⟨R, 0, none⟩ = false ∧ W.frozen? ⟨R, 1, none⟩ = false ∧ W.frozen? ⟨R, 2, none⟩ = false ∧ W.frozen? ⟨R, 3, none⟩ = false) :=
  ⟨⟨cell_of_row W _ 0 _ 27 (0, 0) h.box, cell_of_row W _ 1 _ 27 (0, 0) h.box, cell_of_row W _ 2 _ 27 (0, 0) h.box, cell_of_row W _ 3 _ 27 (0, 0) h.box⟩, frozen_of_row W _ 0 _ 27 h.box, frozen_of_row W _ 1 _ 27 h.box, frozen_of_row W _ 2 _ 27 h.box, frozen_of_row W _ 3 _ 27 h.box⟩
/-- the reference's next model is stored -/
theorem St.put (h : St w g b R s r A c W) (hN : Nms W g R A' r'.L.length r'.L) (hc : r'.L.length ≤ c') (hA : A' = none → c' = 0) (hm : c' ≤ 9223372036854775807) :
    St w g b R s r' A' c' ((((W.setCell ⟨R, 0, none⟩ (.slice A' r'.L.length c')).setCell ⟨R, 1, none⟩ (.bool r'.op)).setCell ⟨R, 2, none⟩ (.string r'.nm)).setCell ⟨R, 3, none⟩ (.string r'.by_)) := by
  have s1 := heap_setCell_same W R 0 _ 27 (.slice A' r'.L.length c') h.box
  have s2 := heap_setCell_same _ R 1 _ 27 (.bool r'.op) s1
  have s3 := heap_setCell_same _ R 2 _ 27 (.string r'.nm) s2
  have s4 := heap_setCell_same _ R 3 _ 27 (.string r'.by_) s3
  have ho : ∀ k, k ≠ R → ((((W.setCell ⟨R, 0, none⟩ (.slice A' r'.L.length c')).setCell ⟨R, 1, none⟩ (.bool r'.op)).setCell ⟨R, 2, none⟩ (.string r'.nm)).setCell ⟨R, 3, none⟩ (.string r'.by_)).heap[k]? = W.heap[k]? := fun k hk => by
    rw [heap_setCell_other _ ⟨R, 3, none⟩ k _ hk, heap_setCell_other _ ⟨R, 2, none⟩ k _ hk, heap_setCell_other _ ⟨R, 1, none⟩ k _ hk, heap_setCell_other _ ⟨R, 0, none⟩ k _ hk]
  have hb : Below w.heap.size w ((((W.setCell ⟨R, 0, none⟩ (.slice A' r'.L.length c')).setCell ⟨R, 1, none⟩ (.bool r'.op)).setCell ⟨R, 2, none⟩ (.string r'.nm)).setCell ⟨R, 3, none⟩ (.string r'.by_)) :=
    (((h.aw.2.1.setCell h.low _).setCell h.low _).setCell h.low _).setCell h.low _
  refine ⟨⟨⟨(ho g (Ne.symm h.ne.1)).trans h.aw.1.1, ownsMap_block h.aw.1.2 (ho b (Ne.symm h.ne.2))⟩, hb, h.aw.2.2⟩, s4, ⟨hN.1, hN.2.1, fun hn => ?_⟩, hc, hA, hm, h.low, h.ne⟩
  obtain ⟨q, o, e, hl, h1, h2, hcc⟩ := hN.2.2 hn
  have hbk := ho q h2
  exact ⟨q, o, e, by simpa using hl, h1, h2, fun i x hi => ⟨(World.cell?_of_block (a := ⟨q, o + i * 2, none⟩) hbk).trans (hcc i x hi).1, (World.cell?_of_block (a := ⟨q, o + i * 2 + 1, none⟩) hbk).trans (hcc i x hi).2⟩⟩
end
end Go.Proofs.Ytadagidjppgbkaa
