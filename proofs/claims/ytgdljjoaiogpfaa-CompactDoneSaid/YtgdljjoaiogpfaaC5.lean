/- What parts hands back; what a box's slots that live are; the walk of parts. -/
import Derived.Test.YtgdljjoaiogpfaaC4
import Derived.Laws.EntriesVeiled
namespace Go.Proofs.Ytgdljjoaiogpfaa
open Go.RowKit Go.Maps
/-- whatever lay in the elder world lies as it lay -/
structure Old (a w : World) : Prop where
  size : a.heap.size ≤ w.heap.size
  block : ∀ b, b < a.heap.size → w.heap[b]? = a.heap[b]?
theorem Old.refl (a : World) : Old a a := ⟨Nat.le_refl _, fun _ _ => rfl⟩
theorem below_old {a w : World} (h : Below a.heap.size a w) : Old a w := ⟨h.size, h.block⟩
theorem Old.trans {a b c : World} (h : Old a b) (k : Old b c) : Old a c := ⟨Nat.le_trans h.size k.size, fun i hi => (k.block i (Nat.lt_of_lt_of_le hi h.size)).trans (h.block i hi)⟩
theorem Old.cell {a w : World} (h : Old a w) {p : Addr} {v : Value} (hc : a.cell? p = some v) : w.cell? p = some v := (World.cell?_of_block (h.block _ (World.block_lt_of_cell? a p hc))).trans hc
theorem Rows2.old {w w' : World} {n : Nat} {A : Option Addr} {vs : List (Value × Value)} (h : Rows2 w A n vs) (hb : Old w w') : Rows2 w' A n vs :=
  ⟨h.1, fun hn => by
    obtain ⟨b, o, e, hl, hc⟩ := h.2 hn
    exact ⟨b, o, e, Nat.lt_of_lt_of_le hl hb.size, fun i x hi => ⟨hb.cell (hc i x hi).1, hb.cell (hc i x hi).2⟩⟩⟩
theorem Hds.old {w w' : World} {n : Nat} {A : Option Addr} {l : List Hd} (h : Hds w A n l) (hb : Old w w') : Hds w' A n l := ⟨Rows2.old h.1 hb, fun x hx => Rows2.old (h.2 x hx) hb⟩
structure Iter (n1 n2 : Nat) (A : Option Addr) (n c : Nat) (named : List Plc) (W : World) (b1 b2 : Nat) : Prop where
  l1 : n1 ≤ b1
  u1 : b1 < n2
  box1 : Boxed W b1 22 (.slice A n c)
  l2 : n1 ≤ b2
  u2 : b2 < n2
  fn : ∃ b3 bm, n1 ≤ b3 ∧ b3 < n2 ∧ n1 ≤ bm ∧ bm < n2 ∧ Boxed W b2 67 (.func (.func 36) #[] #[.pointer (some ⟨b3, 0, none⟩)]) ∧ W.cell? ⟨b3, 0, none⟩ = some (.map (some bm)) ∧ W.ownsMap Try.prog 39 (plainElem Try.prog 3) bm 1000000 (setAll named)
theorem Iter.keep {n1 n2 : Nat} {A : Option Addr} {n c : Nat} {named : List Plc} {W W' : World} {b1 b2 : Nat} (h : Iter n1 n2 A n c named W b1 b2) (hk : ∀ b, n1 ≤ b → b < n2 → W'.heap[b]? = W.heap[b]?) : Iter n1 n2 A n c named W' b1 b2 := by
  obtain ⟨b3, bm, h1, h2, h3, h4, h5, h6, h7⟩ := h.fn
  refine ⟨h.l1, h.u1, (hk _ h.l1 h.u1).trans h.box1, h.l2, h.u2, b3, bm, h1, h2, h3, h4, (hk _ h.l2 h.u2).trans h5, (World.cell?_of_block (hk b3 h1 h2)).trans h6, ?_⟩
  obtain ⟨es, clock, hb, r⟩ := h7
  exact ⟨es, clock, (hk bm h3 h4).trans hb, r⟩
set_option maxRecDepth 100000 in
set_option maxHeartbeats 1000000 in
theorem parts29 {w : World} {A B : Option Addr} {n c m d : Nat} {l : List Plc} (h : Pls w B m l) (hl : ∀ p ∈ l, PlcOk p) (hm : m ≤ 1000) :
    Calls Try.prog 29 #[.slice A n c, .slice B m d] w fun e w' => ∃ b1 b2, e = .returned (.func (.func 35) #[] #[.pointer (some ⟨b1, 0, none⟩), .pointer (some ⟨b2, 0, none⟩)]) ∧ Below w.heap.size w w' ∧ Iter w.heap.size w'.heap.size A n c l w' b1 b2 := by
  have HX : Hid (∀ W, Below w.heap.size w W → Calls Try.prog 34 #[.slice B m d] W fun e w' => ∃ bb, e = .returned (.func (.func 36) #[] #[.pointer (some ⟨bb, 0, none⟩)]) ∧ Below W.heap.size W w' ∧ Lives W.heap.size w' bb l) := Lib.hid (fun W hb => lives34 (h.below hb) hl hm)
  clear h hl
  go_enter Try.func29, Try.ntmps29
  go_wp2_with fail
  refine Calls.mono (HX.out _ ?hb1) ?_
  case hb1 => exact (Below.refl _ w).alloc (Nat.le_refl _) _
  rintro e w1 ⟨bb, rfl, hb, bm, h1, h2, h3, h4, h5, h6⟩
  have HB := Lib.hid hb
  have H5 := Lib.hid h5
  have H6 := Lib.hid h6
  clear hb h5 h6 HX
  go_wp2_with fail
  go_ret
  have hs0 : w.heap.size + 1 ≤ w1.heap.size := by have := HB.out.size; simpa using this
  have hs1 : w.heap.size + 1 ≤ bb := by simpa using h1
  have hs3 : w.heap.size + 1 ≤ bm := by simpa using h3
  have hbw : Below w.heap.size w w1 := ((Below.refl _ w).alloc (Nat.le_refl _) _).trans (HB.out.mono (by simp))
  have hn : (w1.alloc (.cells #[.func (.func 36) #[] #[.pointer (some ⟨bb, 0, none⟩)]] 67)).heap.size = w1.heap.size + 1 := by simp
  have hbx : Boxed w1 w.heap.size 22 (.slice A n c) := (HB.out.block w.heap.size (by simp)).trans (Boxed.new w 22 (.slice A n c))
  refine ⟨_, _, rfl, hbw.alloc hbw.size _, Nat.le_refl _, by omega, hbx.alloc _, by omega, by omega, bb, bm, by omega, by omega, by omega, by omega, Boxed.new w1 67 _, cell_al _ H5.out, H6.out.alloc _⟩
/-- the slots of a box, up to the m-th, that live or that are dead -/
def partTo (named : List Plc) (h : Hd) (live : Bool) : Nat → List Plc
  | 0 => []
  | m + 1 => partTo named h live m ++ (if decide ((h.id, (m : Int)) ∈ named) = live then [(h.id, (m : Int))] else [])
def lenAt (h : Hd) (m : Nat) : Int := (h.sl[m]?.getD (0, 0)).1
def bytesTo (named : List Plc) (h : Hd) (live : Bool) : Nat → Int
  | 0 => 0
  | m + 1 => bytesTo named h live m + (if decide ((h.id, (m : Int)) ∈ named) = live then lenAt h m else 0)
def part (named : List Plc) (h : Hd) (live : Bool) : List Plc := partTo named h live h.n
def bytes (named : List Plc) (h : Hd) (live : Bool) : Int := bytesTo named h live h.n
theorem partTo_len (named : List Plc) (h : Hd) (live : Bool) : ∀ m, (partTo named h live m).length ≤ m
  | 0 => Nat.le_refl _
  | m + 1 => by
    have := partTo_len named h live m
    simp only [partTo, List.length_append]
    split <;> simp <;> omega
theorem bytesTo_le {named : List Plc} {h : Hd} {live : Bool} (ho : ∀ s ∈ h.sl, SOk s) : ∀ m, 0 ≤ bytesTo named h live m ∧ bytesTo named h live m ≤ 4096 * m
  | 0 => by simp [bytesTo]
  | m + 1 => by
    have ih := bytesTo_le (named := named) (live := live) ho m
    have hl : 0 ≤ lenAt h m ∧ lenAt h m ≤ 4096 := by
      unfold lenAt
      cases hx : h.sl[m]? with
      | none => simp
      | some s =>
        have := ho s (List.mem_of_getElem? hx)
        unfold SOk at this
        simp
        omega
    simp only [bytesTo]
    split <;> (push_cast; omega)
/-- what is handed over of a box -/
structure PV where
  h : Hd
  A1 : Option Addr
  n1 : Nat
  c1 : Nat
  A2 : Option Addr
  n2 : Nat
  c2 : Nat
  b1 : Int
  b2 : Int
def PV.cells (y : PV) : Array Value := #[.int .u32 y.h.id, .slice y.h.A y.h.n y.h.c, .slice y.A1 y.n1 y.c1, .slice y.A2 y.n2 y.c2, .int .i64 y.b1, .int .i64 y.b2]
def PV.val (y : PV) : Value := .agg y.cells
def Ex (named : List Plc) (h : Hd) (y : PV) (W : World) : Prop :=
  y.h = h ∧ Pls W y.A1 y.n1 (part named h true) ∧ Pls W y.A2 y.n2 (part named h false) ∧ y.b1 = bytes named h true ∧ y.b2 = bytes named h false ∧ (y.A1 = none → y.n1 = 0 ∧ y.c1 = 0) ∧ (y.A2 = none → y.n2 = 0 ∧ y.c2 = 0)
theorem Rows2.own {W W' : World} {row : Option Nat} {n : Nat} {A : Option Addr} {vs : List (Value × Value)} (h : Rows2 W A n vs) (hg : W.grownBy W' row) (hr : ∀ r, row = some r → ∃ o : Obj, W.heap[r]? = some o ∧ o.isCells = false) : Rows2 W' A n vs :=
  ⟨h.1, fun hn => by
    obtain ⟨b, o, e, hl, hc⟩ := h.2 hn
    exact ⟨b, o, e, Nat.lt_of_lt_of_le hl hg.size, fun i x hi => ⟨cell_kept (hc i x hi).1 hg hr, cell_kept (hc i x hi).2 hg hr⟩⟩⟩
theorem ex_own (named : List Plc) (h : Hd) (y : PV) : Own (fun (_ : Unit) W => Ex named h y W) := by
  rintro _ W W' row ⟨h1, h2, h3, h4⟩ hg hr
  exact ⟨h1, Rows2.own h2 hg hr, Rows2.own h3 hg hr, h4⟩
open Classical in
noncomputable def okHs (hs : List Hd) : List Hd := if May hs then hs else []
def Xp (n0 n1 n2 : Nat) : Nat → Prop := fun b => b < n0 ∨ (n1 ≤ b ∧ b < n2)
end Go.Proofs.Ytgdljjoaiogpfaa
