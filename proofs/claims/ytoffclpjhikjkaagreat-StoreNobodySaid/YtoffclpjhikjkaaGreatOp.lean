/- The arguments opened: a call, a place, settings. -/
import Derived.Test.YtoffclpjhikjkaaGreatRows
import Derived.ProofKit
import Derived.OpenShut
import Derived.ShutString
import Derived.ChangeOld
import Derived.Deep.Slices
namespace Go.Proofs.YtoffclpjhikjkaaGreat
open Go.ChangeShapes Go.WideShapes Go.ChangeAt Go.RowKit Go.Deep
theorem cells22 : Tryz.prog.cellsOf 22 = 1 := by kernel_rfl
theorem cells9 : Tryz.prog.cellsOf 9 = 1 := by kernel_rfl
theorem cells25 : Tryz.prog.cellsOf 25 = 1 := by kernel_rfl
theorem cells3 : Tryz.prog.cellsOf 3 = 1 := by kernel_rfl
theorem list2 {α : Type} {l : List α} (h : l.length = 2) : ∃ a0 a1, l = [a0, a1] := by
  match l, h with
  | [a0, a1], _ => exact ⟨a0, a1, rfl⟩
theorem list3 {α : Type} {l : List α} (h : l.length = 3) : ∃ a0 a1 a2, l = [a0, a1, a2] := by
  match l, h with
  | [a0, a1, a2], _ => exact ⟨a0, a1, a2, rfl⟩
theorem list13 {α : Type} {l : List α} (h : l.length = 13) : ∃ a0 a1 a2 a3 a4 a5 a6 a7 a8 a9 a10 a11 a12, l = [a0, a1, a2, a3, a4, a5, a6, a7, a8, a9, a10, a11, a12] := by
  match l, h with
  | [a0, a1, a2, a3, a4, a5, a6, a7, a8, a9, a10, a11, a12], _ => exact ⟨a0, a1, a2, a3, a4, a5, a6, a7, a8, a9, a10, a11, a12, rfl⟩
section
variable {H : Type} {enc : TypeId × Value → H} {W : World} {base : Nat} {sp : Nat → Bool} {held : Bool}
theorem cells24 : Tryz.prog.cellsOf 24 = 3 := by kernel_rfl
set_option maxRecDepth 100000 in
theorem call_of_trod {fuel : Nat} {cs : List Value} {x : DataW H × List MemPlace} (h : DataW.trod enc Tryz.prog W base sp held fuel 24 cs = some x) :
    ∃ (x0 : Int) (x1 : ByteArray) (x2 : ByteArray), cs = [.int .i64 x0, .string x1, .string x2] := by
  obtain ⟨xs, n, _, _, hl, hlen, hg⟩ := DataW.trod_struct Tryz.underlying24 h
  rw [cells24] at hl
  have hlen' : xs.length = 3 := hlen
  obtain ⟨c0, c1, c2, rfl⟩ := list3 hl
  have g0 := hg 0 _ rfl
  have g1 := hg 1 _ rfl
  have g2 := hg 2 _ rfl
  rw [List.getElem?_eq_getElem (by omega)] at g0 g1 g2
  obtain ⟨n0, e0, _, _⟩ := DataW.trod_int Tryz.underlying22 g0
  obtain ⟨n1, e1, _, _⟩ := DataW.trod_string Tryz.underlying9 g1
  obtain ⟨n2, e2, _, _⟩ := DataW.trod_string Tryz.underlying9 g2
  simp [cells22, cells9] at e0 e1 e2
  subst e0
  subst e1
  subst e2
  exact ⟨n0, n1, n2, rfl⟩
set_option maxRecDepth 100000 in
theorem open_call {v : Value} {d : DataW H} {p : List MemPlace} (hv : Value.okWide Tryz.prog W .any base 24 v) (h : DataW.Trod enc Tryz.prog W 0 sp held 24 v d p) :
    ∃ (x0 : Int) (x1 : ByteArray) (x2 : ByteArray), v = .agg #[.int .i64 x0, .string x1, .string x2] := by
  obtain ⟨cs, rfl, hsz⟩ := okWide_struct Tryz.underlying24 hv
  obtain ⟨fuel, hf⟩ := h
  obtain ⟨x0, x1, x2, hcs⟩ := call_of_trod hf
  simp only [Value.cells] at hcs
  refine ⟨x0, x1, x2, ?_⟩
  obtain ⟨l⟩ := cs
  simp at hcs
  rw [hcs]
theorem cells27 : Tryz.prog.cellsOf 27 = 2 := by kernel_rfl
set_option maxRecDepth 100000 in
theorem place_of_trod {fuel : Nat} {cs : List Value} {x : DataW H × List MemPlace} (h : DataW.trod enc Tryz.prog W base sp held fuel 27 cs = some x) :
    ∃ (x0 : Int) (x1 : Int), cs = [.int .u32 x0, .int .i64 x1] := by
  obtain ⟨xs, n, _, _, hl, hlen, hg⟩ := DataW.trod_struct Tryz.underlying27 h
  rw [cells27] at hl
  have hlen' : xs.length = 2 := hlen
  obtain ⟨c0, c1, rfl⟩ := list2 hl
  have g0 := hg 0 _ rfl
  have g1 := hg 1 _ rfl
  rw [List.getElem?_eq_getElem (by omega)] at g0 g1
  obtain ⟨n0, e0, _, _⟩ := DataW.trod_int Tryz.underlying25 g0
  obtain ⟨n1, e1, _, _⟩ := DataW.trod_int Tryz.underlying3 g1
  simp [cells25, cells3] at e0 e1
  subst e0
  subst e1
  exact ⟨n0, n1, rfl⟩
set_option maxRecDepth 100000 in
theorem open_place {v : Value} {d : DataW H} {p : List MemPlace} (hv : Value.okWide Tryz.prog W .any base 27 v) (h : DataW.Trod enc Tryz.prog W 0 sp held 27 v d p) :
    ∃ (x0 : Int) (x1 : Int), v = .agg #[.int .u32 x0, .int .i64 x1] := by
  obtain ⟨cs, rfl, hsz⟩ := okWide_struct Tryz.underlying27 hv
  obtain ⟨fuel, hf⟩ := h
  obtain ⟨x0, x1, hcs⟩ := place_of_trod hf
  simp only [Value.cells] at hcs
  refine ⟨x0, x1, ?_⟩
  obtain ⟨l⟩ := cs
  simp at hcs
  rw [hcs]
theorem cells29 : Tryz.prog.cellsOf 29 = 13 := by kernel_rfl
set_option maxRecDepth 100000 in
theorem conf_of_trod {fuel : Nat} {cs : List Value} {x : DataW H × List MemPlace} (h : DataW.trod enc Tryz.prog W base sp held fuel 29 cs = some x) :
    ∃ (x0 : Int) (x1 : Int) (x2 : Int) (x3 : Int) (x4 : Int) (x5 : Int) (x6 : Int) (x7 : Int) (x8 : Int) (x9 : Int) (x10 : Int) (x11 : Int) (x12 : Int), cs = [.int .i64 x0, .int .i64 x1, .int .i64 x2, .int .i64 x3, .int .i64 x4, .int .i64 x5, .int .i64 x6, .int .i64 x7, .int .i64 x8, .int .i64 x9, .int .i64 x10, .int .i64 x11, .int .i64 x12] := by
  obtain ⟨xs, n, _, _, hl, hlen, hg⟩ := DataW.trod_struct Tryz.underlying29 h
  rw [cells29] at hl
  have hlen' : xs.length = 13 := hlen
  obtain ⟨c0, c1, c2, c3, c4, c5, c6, c7, c8, c9, c10, c11, c12, rfl⟩ := list13 hl
  have g0 := hg 0 _ rfl
  have g1 := hg 1 _ rfl
  have g2 := hg 2 _ rfl
  have g3 := hg 3 _ rfl
  have g4 := hg 4 _ rfl
  have g5 := hg 5 _ rfl
  have g6 := hg 6 _ rfl
  have g7 := hg 7 _ rfl
  have g8 := hg 8 _ rfl
  have g9 := hg 9 _ rfl
  have g10 := hg 10 _ rfl
  have g11 := hg 11 _ rfl
  have g12 := hg 12 _ rfl
  rw [List.getElem?_eq_getElem (by omega)] at g0 g1 g2 g3 g4 g5 g6 g7 g8 g9 g10 g11 g12
  obtain ⟨n0, e0, _, _⟩ := DataW.trod_int Tryz.underlying3 g0
  obtain ⟨n1, e1, _, _⟩ := DataW.trod_int Tryz.underlying3 g1
  obtain ⟨n2, e2, _, _⟩ := DataW.trod_int Tryz.underlying3 g2
  obtain ⟨n3, e3, _, _⟩ := DataW.trod_int Tryz.underlying3 g3
  obtain ⟨n4, e4, _, _⟩ := DataW.trod_int Tryz.underlying3 g4
  obtain ⟨n5, e5, _, _⟩ := DataW.trod_int Tryz.underlying3 g5
  obtain ⟨n6, e6, _, _⟩ := DataW.trod_int Tryz.underlying3 g6
  obtain ⟨n7, e7, _, _⟩ := DataW.trod_int Tryz.underlying3 g7
  obtain ⟨n8, e8, _, _⟩ := DataW.trod_int Tryz.underlying3 g8
  obtain ⟨n9, e9, _, _⟩ := DataW.trod_int Tryz.underlying3 g9
  obtain ⟨n10, e10, _, _⟩ := DataW.trod_int Tryz.underlying3 g10
  obtain ⟨n11, e11, _, _⟩ := DataW.trod_int Tryz.underlying3 g11
  obtain ⟨n12, e12, _, _⟩ := DataW.trod_int Tryz.underlying3 g12
  simp [cells3] at e0 e1 e2 e3 e4 e5 e6 e7 e8 e9 e10 e11 e12
  subst e0
  subst e1
  subst e2
  subst e3
  subst e4
  subst e5
  subst e6
  subst e7
  subst e8
  subst e9
  subst e10
  subst e11
  subst e12
  exact ⟨n0, n1, n2, n3, n4, n5, n6, n7, n8, n9, n10, n11, n12, rfl⟩
set_option maxRecDepth 100000 in
theorem open_conf {v : Value} {d : DataW H} {p : List MemPlace} (hv : Value.okWide Tryz.prog W .any base 29 v) (h : DataW.Trod enc Tryz.prog W 0 sp held 29 v d p) :
    ∃ (x0 : Int) (x1 : Int) (x2 : Int) (x3 : Int) (x4 : Int) (x5 : Int) (x6 : Int) (x7 : Int) (x8 : Int) (x9 : Int) (x10 : Int) (x11 : Int) (x12 : Int), v = .agg #[.int .i64 x0, .int .i64 x1, .int .i64 x2, .int .i64 x3, .int .i64 x4, .int .i64 x5, .int .i64 x6, .int .i64 x7, .int .i64 x8, .int .i64 x9, .int .i64 x10, .int .i64 x11, .int .i64 x12] := by
  obtain ⟨cs, rfl, hsz⟩ := okWide_struct Tryz.underlying29 hv
  obtain ⟨fuel, hf⟩ := h
  obtain ⟨x0, x1, x2, x3, x4, x5, x6, x7, x8, x9, x10, x11, x12, hcs⟩ := conf_of_trod hf
  simp only [Value.cells] at hcs
  refine ⟨x0, x1, x2, x3, x4, x5, x6, x7, x8, x9, x10, x11, x12, ?_⟩
  obtain ⟨l⟩ := cs
  simp at hcs
  rw [hcs]
end
end Go.Proofs.YtoffclpjhikjkaaGreat
