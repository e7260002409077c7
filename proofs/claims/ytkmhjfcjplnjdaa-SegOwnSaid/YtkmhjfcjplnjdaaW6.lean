/- The walk over awake. -/
import Derived.Test.YtkmhjfcjplnjdaaW5
namespace Go.Proofs.Ytkmhjfcjplnjdaa
open Go.RowKit
def AwakePost (w : World) (e : Ending) (w' : World) : Prop := e = .returned (.bool true) ∧ Below w.heap.size w w'
def zFp : Fp := List.replicate 32 0
theorem zFp_is : IsFp zFp := ⟨by simp [zFp], fun b hb => by simp [zFp] at hb; omega⟩
def z7 : List Fp := List.replicate 7 zFp
def zC : Array Value := madeCells (Array.replicate 32 (.int .u8 0)) (7 * 32)
theorem zC_get (i : Nat) (hi : i < 7 * 32) : zC[i]? = some (.int .u8 0) := by
  have h : i % 32 < 32 := Nat.mod_lt _ (by omega)
  simp [zC, madeCells, hi]
  rw [getElem!_pos _ _ (by simpa using h)]
  simp
def cA : CfX := ⟨⟨1, 3, 1⟩, .int .i64 0, .int .i64 0, .int .i64 0, .int .i64 0, .int .i64 0, .int .i64 0, .int .i64 0, .int .i64 0, .int .i64 0, .int .i64 0⟩
def cB : CfX := ⟨⟨3, 3, 1⟩, .int .i64 0, .int .i64 0, .int .i64 0, .int .i64 0, .int .i64 0, .int .i64 0, .int .i64 0, .int .i64 0, .int .i64 0, .int .i64 0⟩
theorem lensA : (lens (split cA.c z7)).length = 7 := by decide
theorem lensB : (lens (split cB.c z7)).length = 3 := by decide
theorem cutB : cutN cB.c z7 = 3 := by decide
theorem mayA : may cA.c = true := by decide
theorem z7_fps (w : World) (g : Nat) (h : w.heap[g]? = some (.cells zC 37)) (B : Nat) (hB : g < B) : Fps w B (some ⟨g, 0, none⟩) 7 z7 := by
  refine ⟨by simp [z7], fun f hf => by simp [z7] at hf; rw [hf]; exact zFp_is, fun _ => ⟨g, 0, rfl, hB, fun i f hf j v hv => ?_⟩⟩
  have hi : i < 7 := by have := (List.getElem?_eq_some_iff.1 hf).1; simpa [z7] using this
  have hf2 : f = zFp := by
    have := List.mem_of_getElem? hf
    simp [z7] at this
    exact this
  subst hf2
  have hj : j < 32 := by have := (List.getElem?_eq_some_iff.1 hv).1; rwa [fpL_length zFp_is] at this
  have hv2 : v = .int .u8 0 := by
    have := List.mem_of_getElem? hv
    simp [fpL, zFp] at this
    exact this
  rw [cell_of_row w g _ zC 37 (0, 0) h, hv2]
  exact zC_get _ (by omega)
theorem make7 (w : World) : (Instr.makeSlice 22 (.int .i64 7) (.int .i64 7)).run Try.prog w = .ok (.slice (some ⟨w.heap.size, 0, none⟩) 7 7) (w.alloc (.cells zC 37)) := by
  obtain ⟨i, hi, hz, hs, hy⟩ := info_parts info37'
  have hr := run_make (P := Try.prog) w 22 37 i _ Try.underlying22 hi hz .i64 .i64 7 7 (by omega) (by omega) (by rw [hy]; omega) (by omega)
  rw [hs] at hr
  exact hr
/-- what awake made stands there -/
def AwakeBlocks (w : World) (w' : World) : Prop := Below w.heap.size w w' ∧ w'.heap[w.heap.size]? = some (.cells zC 37) ∧ w'.heap[w.heap.size + 1]? = some (.cells cA.A 24) ∧ w'.heap[w.heap.size + 1 + 1]? = some (.cells cB.A 24)
theorem AwakeBlocks.size {w w' : World} (h : AwakeBlocks w w') : w.heap.size + 1 + 1 < w'.heap.size := (Array.getElem?_eq_some_iff.1 h.2.2.2).1
theorem AwakeBlocks.below {w w1 w2 : World} (h : AwakeBlocks w w1) (hb : Below w1.heap.size w1 w2) : AwakeBlocks w w2 :=
  ⟨h.1.trans (hb.mono h.1.size), (hb.block _ (by have := h.size; omega)).trans h.2.1, (hb.block _ (by have := h.size; omega)).trans h.2.2.1, (hb.block _ h.size).trans h.2.2.2⟩
theorem AwakeBlocks.fps {w w' : World} (h : AwakeBlocks w w') : Fps w' w'.heap.size (some ⟨w.heap.size, 0, none⟩) 7 z7 := z7_fps w' _ h.2.1 _ (by have := h.size; omega)
theorem awake_a (w w1 : World) (h : AwakeBlocks w w1) (n : Nat) (hn : (lens (split cA.c z7)).length = n) : Calls Try.prog 14 #[.slice (some ⟨w.heap.size, 0, none⟩) 7 7, .agg cA.A] w1 fun e w2 => ∃ A c, e = .returned (.slice A n c) ∧ AwakeBlocks w w2 :=
  (segAll cA _ 7 7 z7 w1 h.fps (by omega) (by omega)).mono fun e w2 ⟨v, he, hi, hb⟩ => by
    obtain ⟨A, c, hv, _⟩ := hi.ints
    subst hn
    exact ⟨A, c, by rw [he, hv], h.below hb⟩
theorem awake_b (w w1 : World) (h : AwakeBlocks w w1) (n : Nat) (hn : (lens (split cB.c z7)).length = n) : Calls Try.prog 14 #[.slice (some ⟨w.heap.size, 0, none⟩) 7 7, .agg cB.A] w1 fun e w2 => ∃ A c, e = .returned (.slice A n c) ∧ AwakeBlocks w w2 :=
  (segAll cB _ 7 7 z7 w1 h.fps (by omega) (by omega)).mono fun e w2 ⟨v, he, hi, hb⟩ => by
    obtain ⟨A, c, hv, _⟩ := hi.ints
    subst hn
    exact ⟨A, c, by rw [he, hv], h.below hb⟩
theorem cells13 {w : World} {g : Nat} {x : CfX} (h : w.heap[g]? = some (.cells x.A 24)) : w.cell? ⟨g, 0, none⟩ = some (x.a0) ∧ w.cell? ⟨g, 1, none⟩ = some (x.a1) ∧ w.cell? ⟨g, 2, none⟩ = some (x.a2) ∧ w.cell? ⟨g, 3, none⟩ = some (x.a3) ∧ w.cell? ⟨g, 4, none⟩ = some (.int .i64 x.c.mn) ∧ w.cell? ⟨g, 5, none⟩ = some (.int .i64 x.c.mx) ∧ w.cell? ⟨g, 6, none⟩ = some (.int .i64 x.c.dv) ∧ w.cell? ⟨g, 7, none⟩ = some (x.a4) ∧ w.cell? ⟨g, 8, none⟩ = some (x.a5) ∧ w.cell? ⟨g, 9, none⟩ = some (x.a6) ∧ w.cell? ⟨g, 10, none⟩ = some (x.a7) ∧ w.cell? ⟨g, 11, none⟩ = some (x.a8) ∧ w.cell? ⟨g, 12, none⟩ = some (x.a9) :=
  ⟨cell_of_row w g 0 _ 24 (0, 0) h, cell_of_row w g 1 _ 24 (0, 0) h, cell_of_row w g 2 _ 24 (0, 0) h, cell_of_row w g 3 _ 24 (0, 0) h, cell_of_row w g 4 _ 24 (0, 0) h, cell_of_row w g 5 _ 24 (0, 0) h, cell_of_row w g 6 _ 24 (0, 0) h, cell_of_row w g 7 _ 24 (0, 0) h, cell_of_row w g 8 _ 24 (0, 0) h, cell_of_row w g 9 _ 24 (0, 0) h, cell_of_row w g 10 _ 24 (0, 0) h, cell_of_row w g 11 _ 24 (0, 0) h, cell_of_row w g 12 _ 24 (0, 0) h⟩
def AwakeCut (w : World) (e : Ending) (w2 : World) : Prop := e = .returned (.int .i64 3) ∧ AwakeBlocks w w2
theorem awake_c (w w1 : World) (h : AwakeBlocks w w1) : Calls Try.prog 11 #[.slice (some ⟨w.heap.size, 0, none⟩) 7 7, .agg cB.A] w1 (AwakeCut w) :=
  (segCut cB _ 7 7 z7 w1 h.fps (by omega)).mono fun e w2 ⟨he, hb⟩ => ⟨by rw [he, cutB]; rfl, h.below hb⟩
def AwakeMay (w : World) (e : Ending) (w2 : World) : Prop := e = .returned (.bool true) ∧ AwakeBlocks w w2
theorem awake_d (w w1 : World) (h : AwakeBlocks w w1) : Calls Try.prog 9 #[.agg cA.A] w1 (AwakeMay w) :=
  (segMay cA w1).mono fun e w2 ⟨he, hb⟩ => ⟨by rw [he, mayA], by rw [hb]; exact h.below ((Below.refl _ _).alloc (Nat.le_refl _) _)⟩
set_option maxRecDepth 100000 in
set_option maxHeartbeats 1000000 in
theorem awake13 (w : World) : Calls Try.prog 13 #[] w (AwakePost w) := by
  have hmk := make7
  go_enter Try.func13, Try.ntmps13
  go_wp2_with fail
  refine (awake_a w _ ⟨((((Below.refl _ _).alloc (Nat.le_refl _) _).alloc (by simp) _).alloc (by simp; omega) _), ?_, ?_, ?_⟩ 7 lensA).mono ?_
  · exact (Below.heap_alloc _ _ _ (by simp; omega)).trans ((Below.heap_alloc _ _ _ (by simp)).trans (heap_alloc_new _ _))
  · exact (Below.heap_alloc _ _ _ (by simp)).trans (by rw [← World.size_alloc w (.cells zC 37)]; exact heap_alloc_new _ _)
  · rw [← World.size_alloc w (.cells zC 37), ← World.size_alloc (w.alloc (.cells zC 37)) (.cells cA.A 24)]; exact heap_alloc_new _ _
  rintro e w1 ⟨A1, c1, rfl, h1⟩
  have q1 := cells13 h1.2.2.2
  have H1 := Lib.hid h1
  clear h1
  simp only [cB] at q1
  go_wp2_with fail
  refine (awake_b w _ H1.out 3 lensB).mono ?_
  rintro e w2 ⟨A2, c2, rfl, h2⟩
  clear q1
  have q2 := cells13 h2.2.2.2
  have H2 := Lib.hid h2
  clear h2
  simp only [cB] at q2
  go_wp2_with fail
  refine (awake_c w _ H2.out).mono ?_
  rintro e w3 ⟨rfl, h3⟩
  clear q2
  have q3 := cells13 h3.2.2.1
  have H3 := Lib.hid h3
  clear h3
  simp only [cA] at q3
  go_wp2_with fail
  refine (awake_d w _ H3.out).mono ?_
  rintro e w4 ⟨rfl, h4⟩
  have H4 := Lib.hid h4
  clear h4
  go_wp2
  go_ret
  exact ⟨rfl, H4.out.1⟩
end Go.Proofs.Ytkmhjfcjplnjdaa
