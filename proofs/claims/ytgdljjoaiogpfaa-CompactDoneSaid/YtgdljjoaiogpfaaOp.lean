/- The arguments opened: heads, places, IDs. -/
import Derived.Test.YtgdljjoaiogpfaaGen
import Derived.Test.YtgdljjoaiogpfaaL1
import Derived.Test.YtgdljjoaiogpfaaR1
namespace Go.Proofs.Ytgdljjoaiogpfaa
open Go.ChangeShapes Go.WideShapes Go.ChangeAt Go.RowKit Go.Deep
theorem cells45 : Try.prog.cellsOf 45 = 2 := by kernel_rfl
theorem cells48 : Try.prog.cellsOf 48 = 2 := by kernel_rfl
theorem cells43 : Try.prog.cellsOf 43 = 1 := by kernel_rfl
theorem cells33 : Try.prog.cellsOf 33 = 1 := by kernel_rfl
theorem cells3 : Try.prog.cellsOf 3 = 1 := by kernel_rfl
theorem cells39 : Try.prog.cellsOf 39 = 2 := by kernel_rfl
theorem list2 {α : Type} {l : List α} (h : l.length = 2) : ∃ a b, l = [a, b] := by
  match l, h with
  | [a, b], _ => exact ⟨a, b, rfl⟩
def SltQ (cs : List Value) (x : Slt) : Prop := cs = [.int .i64 x.1, .int .u32 x.2] ∧ (Lit.int .i64 x.1).wf = true
def PlcQ (cs : List Value) (x : Plc) : Prop := cs = [.int .u32 x.1, .int .i64 x.2] ∧ PlcOk x
def HdQ (W : World) (cs : List Value) (x : Hd) : Prop := cs = [.int .u32 x.id, .slice x.A x.n x.c] ∧ (Lit.int .u32 x.id).wf = true ∧ Slts W x.A x.n x.sl
theorem rows2_of {α : Type} {W : World} {Q : List Value → α → Prop} {f : α → Value × Value} (hQ : ∀ cs x, Q cs x → cs = [(f x).1, (f x).2]) {A : Option Addr} {n : Nat} {ls : List α} (hr : RowsAt W 2 Q A n ls) : Rows2 W A n (ls.map f) := by
  refine ⟨by rw [List.length_map]; exact hr.1, fun h0 => ?_⟩
  obtain ⟨b, o, e1, hb, hc⟩ := hr.2.2 h0
  refine ⟨b, o, e1, hb, fun i x hi => ?_⟩
  rw [List.getElem?_map] at hi
  cases hl : ls[i]? with
  | none => rw [hl] at hi; cases hi
  | some y =>
    rw [hl] at hi
    cases hi
    obtain ⟨cs, hq, _, hj⟩ := hc i y hl
    rw [hQ cs y hq] at hj
    have j0 := hj 0 _ rfl
    have j1 := hj 1 _ rfl
    exact ⟨by simpa using j0, j1⟩
section
variable {H : Type} {enc : TypeId × Value → H} {W : World} {base : Nat} {sp : Nat → Bool} {held : Bool}
set_option maxRecDepth 100000 in
theorem slt_of_trod {fuel : Nat} {cs : List Value} {x : DataW H × List MemPlace} (h : DataW.trod enc Try.prog W base sp held fuel 48 cs = some x) : ∃ a, SltQ cs a := by
  obtain ⟨xs, n, _, _, hl, hlen, hg⟩ := DataW.trod_struct Try.underlying48 h
  rw [cells48] at hl
  have hlen' : xs.length = 2 := hlen
  obtain ⟨c0, c1, rfl⟩ := list2 hl
  have g0 := hg 0 _ rfl
  have g1 := hg 1 _ rfl
  rw [List.getElem?_eq_getElem (by omega)] at g0 g1
  obtain ⟨n0, e0, _, w0⟩ := DataW.trod_int Try.underlying3 g0
  obtain ⟨n1, e1, _, _⟩ := DataW.trod_int Try.underlying33 g1
  simp [cells3, cells33] at e0 e1
  subst e0
  subst e1
  exact ⟨(n0, n1), rfl, w0⟩
set_option maxRecDepth 100000 in
theorem plc_of_trod {fuel : Nat} {cs : List Value} {x : DataW H × List MemPlace} (h : DataW.trod enc Try.prog W base sp held fuel 39 cs = some x) : ∃ a, PlcQ cs a := by
  obtain ⟨xs, n, _, _, hl, hlen, hg⟩ := DataW.trod_struct Try.underlying39 h
  rw [cells39] at hl
  have hlen' : xs.length = 2 := hlen
  obtain ⟨c0, c1, rfl⟩ := list2 hl
  have g0 := hg 0 _ rfl
  have g1 := hg 1 _ rfl
  rw [List.getElem?_eq_getElem (by omega)] at g0 g1
  obtain ⟨n0, e0, _, w0⟩ := DataW.trod_int Try.underlying33 g0
  obtain ⟨n1, e1, _, w1⟩ := DataW.trod_int Try.underlying3 g1
  simp [cells3, cells33] at e0 e1
  subst e0
  subst e1
  exact ⟨(n0, n1), rfl, w0, w1⟩
set_option maxRecDepth 100000 in
theorem hd_of_trod {fuel : Nat} {cs : List Value} {x : DataW H × List MemPlace} (h : DataW.trod enc Try.prog W base (fun _ => true) held fuel 45 cs = some x) : ∃ a, HdQ W cs a := by
  obtain ⟨xs, n, _, _, hl, hlen, hg⟩ := DataW.trod_struct Try.underlying45 h
  rw [cells45] at hl
  have hlen' : xs.length = 2 := hlen
  obtain ⟨c0, c1, rfl⟩ := list2 hl
  have g0 := hg 0 _ rfl
  have g1 := hg 1 _ rfl
  rw [List.getElem?_eq_getElem (by omega)] at g0 g1
  obtain ⟨n0, e0, _, w0⟩ := DataW.trod_int Try.underlying33 g0
  obtain ⟨A, n1, c, ls, e1, hr, _, _, _⟩ := rows_of_trod (size := 2) rfl Try.underlying43 cells48 (by decide) SltQ (fun fuel cs x h _ => slt_of_trod h) g1
  simp [cells33, cells43] at e0 e1
  subst e0
  subst e1
  exact ⟨⟨n0, A, n1, c, ls⟩, rfl, w0, rows2_of (f := sltV) (fun cs x h => h.1) hr⟩
set_option maxRecDepth 100000 in
theorem open_heads {v : Value} {d : DataW H} {p : List MemPlace} (hv : Value.okWide Try.prog W .any base 22 v) (h : DataW.Trod enc Try.prog W 0 (fun _ => true) held 22 v d p) :
    ∃ A n c hs, v = .slice A n c ∧ Hds W A n hs ∧ (∀ x ∈ hs, (Lit.int .u32 x.id).wf = true) := by
  obtain ⟨A, n, c, ls, e, hr, _, _, _⟩ := open_rows Try.underlying22 cells45 (by decide) (HdQ W) (fun fuel cs x h _ => hd_of_trod h) hv h
  refine ⟨A, n, c, ls, e, ⟨rows2_of (f := hdV) (fun cs x h => h.1) hr, fun x hx => ?_⟩, fun x hx => ?_⟩
  · obtain ⟨cs, hq, _⟩ := hr.2.1 x hx
    exact hq.2.2
  · obtain ⟨cs, hq, _⟩ := hr.2.1 x hx
    exact hq.2.1
set_option maxRecDepth 100000 in
theorem open_places {v : Value} {d : DataW H} {p : List MemPlace} (hv : Value.okWide Try.prog W .any base 23 v) (h : DataW.Trod enc Try.prog W 0 (fun _ => true) held 23 v d p) :
    ∃ A n c l, v = .slice A n c ∧ Pls W A n l ∧ (∀ p ∈ l, PlcOk p) := by
  obtain ⟨A, n, c, ls, e, hr, _, _, _⟩ := open_rows Try.underlying23 cells39 (by decide) PlcQ (fun fuel cs x h _ => plc_of_trod h) hv h
  refine ⟨A, n, c, ls, e, rows2_of (f := plcV) (fun cs x h => h.1) hr, fun x hx => ?_⟩
  obtain ⟨cs, hq, _⟩ := hr.2.1 x hx
  exact hq.2
set_option maxRecDepth 100000 in
theorem open_ids {v : Value} {d : DataW H} {p : List MemPlace} (hv : Value.okWide Try.prog W .any base 30 v) (h : DataW.Trod enc Try.prog W 0 (fun _ => true) held 30 v d p) :
    ∃ A n c l, v = .slice A n c ∧ Ids W A n l ∧ (∀ x ∈ l, (Lit.int .u32 x).wf = true) := by
  obtain ⟨A, n, c, ls, e, hr, _, _, _⟩ := open_rows (size := 1) Try.underlying30 cells33 (by decide) (fun cs (x : Int) => cs = [.int .u32 x] ∧ (Lit.int .u32 x).wf = true) (fun fuel cs x h _ => by
    obtain ⟨n0, e0, _, w0⟩ := DataW.trod_int Try.underlying33 h
    exact ⟨n0, e0, w0⟩) hv h
  refine ⟨A, n, c, ls, e, ⟨hr.1, fun h0 => ?_⟩, fun x hx => ?_⟩
  · obtain ⟨b, o, e1, hb, hc⟩ := hr.2.2 h0
    refine ⟨b, o, e1, hb, fun i x hi => ?_⟩
    obtain ⟨cs, hq, _, hj⟩ := hc i x hi
    rw [hq.1] at hj
    have := hj 0 _ rfl
    simpa using this
  · obtain ⟨cs, hq, _⟩ := hr.2.1 x hx
    exact hq.2
theorem open_u32 {v : Value} {d : DataW H} {p : List MemPlace} (hv : Value.okWide Try.prog W .any base 33 v) (h : DataW.Trod enc Try.prog W 0 (fun _ => true) held 33 v d p) : ∃ a : Int, v = .int .u32 a ∧ (Lit.int .u32 a).wf = true := by
  obtain ⟨a, rfl⟩ := okWide_int Try.underlying33 hv
  obtain ⟨fuel, hf⟩ := h
  obtain ⟨b, e, _, hw⟩ := DataW.trod_int Try.underlying33 hf
  simp [Value.cells] at e
  subst e
  exact ⟨a, rfl, hw⟩
theorem open_i64 {v : Value} {d : DataW H} {p : List MemPlace} (hv : Value.okWide Try.prog W .any base 3 v) (h : DataW.Trod enc Try.prog W 0 (fun _ => true) held 3 v d p) : ∃ a : Int, v = .int .i64 a ∧ (Lit.int .i64 a).wf = true := by
  obtain ⟨a, rfl⟩ := okWide_int Try.underlying3 hv
  obtain ⟨fuel, hf⟩ := h
  obtain ⟨b, e, _, hw⟩ := DataW.trod_int Try.underlying3 hf
  simp [Value.cells] at e
  subst e
  exact ⟨a, rfl, hw⟩
end
end Go.Proofs.Ytgdljjoaiogpfaa
