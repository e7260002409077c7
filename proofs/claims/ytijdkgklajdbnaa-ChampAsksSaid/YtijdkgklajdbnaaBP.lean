/- The look that keeps what it is asked. -/
import Derived.Test.YtijdkgklajdbnaaBC
namespace Go.Proofs.Ytijdkgklajdbnaa
open Go.RowKit
/-- what has been asked lies in a box behind W0 -/
structure AskW (W0 : World) (done : List Fp) (v : Value) (W : World) : Prop where
  below : Below W0.heap.size W0 W
  box : W.heap[W0.heap.size]? = some (.cells #[v] 22 (0, 0))
  row : W.ownsRow (W0.heap.size + 1) 29 32 v done.length (fsL done)
def AskT (W0 W : World) (b : Nat) : Prop := b ≤ W0.heap.size ∨ ∃ v, W.heap[W0.heap.size]? = some (.cells #[v] 22 (0, 0)) ∧ v.ownBlock = some b
theorem box_one {W : World} {g : Nat} {v v' : Value} (h : W.heap[g]? = some (.cells #[v] 22 (0, 0))) (h' : W.heap[g]? = some (.cells #[v'] 22 (0, 0))) : v = v' := by
  rw [h] at h'
  injection h' with h'
  injection h' with h'
  injection h' with h'
  injection h' with h'
theorem AskW.keep {W0 W W' : World} {done : List Fp} {v : Value} {row : Option Nat} (h : AskW W0 done v W) (hg : W.grownBy W' row) (hr : ∀ b, row = some b → ¬ AskT W0 W b) : AskW W0 done v W' ∧ ∀ b, AskT W0 W' b → AskT W0 W b := by
  have hlt : W0.heap.size < W.heap.size := (Array.getElem?_eq_some_iff.1 h.box).1
  have hbox : W'.heap[W0.heap.size]? = some (.cells #[v] 22 (0, 0)) := by
    rw [hg.block _ hlt (fun e => hr _ e.symm (.inl (Nat.le_refl _)))]
    exact h.box
  refine ⟨⟨h.below.grown hg h.below.size (fun j hj => Nat.le_of_not_lt (fun hl => hr j hj (.inl (Nat.le_of_lt hl)))), hbox, h.row.kept hg ?_⟩, fun b hb => ?_⟩
  · cases hq : v.ownBlock with
    | none => exact .inl rfl
    | some b => exact .inr (fun e => hr b e.symm (.inr ⟨v, h.box, hq⟩))
  · rcases hb with hb | ⟨v', h1, h2⟩
    · exact .inl hb
    · obtain rfl := box_one hbox h1
      exact .inr ⟨v, h.box, h2⟩
set_option maxRecDepth 100000 in
set_option maxHeartbeats 2000000 in
theorem closure22 {W0 W : World} {hs : List Fp} {ls : List Lst} {A B : Option Addr} {c d g1 g2 : Nat} {x : Fp} {done : List Fp} {v : Value} (h : LawSt W0 hs ls A B c d g1 g2) (hw : AskW W0 done v W) (hx : IsFp x) (hd : done.length ≤ 1000) :
    Calls Try.prog 22 #[.agg (fpL x).toArray, .pointer (some ⟨W0.heap.size, 0, none⟩), .pointer (some ⟨g1, 0, none⟩), .pointer (some ⟨g2, 0, none⟩)] W fun e W' => e = .returned (.slice (listG hs ls x).A (listG hs ls x).l.length (listG hs ls x).c) ∧ (∃ v', AskW W0 (done ++ [x]) v' W' ∧ (v'.ownBlock = v.ownBlock ∨ ∃ b, v'.ownBlock = some b ∧ W.heap.size ≤ b)) ∧ W'.os = W.os ∧ W'.tape = W.tape ∧ W'.output = W.output ∧ W.heap.size ≤ W'.heap.size ∧ (∀ b, b < W.heap.size → b ≠ W0.heap.size → v.ownBlock ≠ some b → W'.heap[b]? = W.heap[b]?) := by
  have HL := Lib.hid h
  have HW := Lib.hid hw
  have HXF := Lib.hid hx
  have HIX := Lib.hid (info29f hx)
  have HFX : Hid ((fpL x).length = 32) := Lib.hid (fpL_length hx)
  have hbox : W.cell? ⟨W0.heap.size, 0, none⟩ = some v := by
    unfold World.cell?
    rw [hw.box]
    rfl
  have hfz : W.frozen? ⟨W0.heap.size, 0, none⟩ = false := by
    unfold World.frozen?
    rw [hw.box]
    rfl
  have hlt : W0.heap.size < W.heap.size := (Array.getElem?_eq_some_iff.1 hw.box).1
  obtain ⟨VA, VC, rfl⟩ := own_slice hw.row
  have HRX : Hid ((W.alloc (.cells (fpL x).toArray 29)).rangeAt W.heap.size 0 (fpL x)) := Lib.hid (range_new W x 29 _ rfl)
  obtain ⟨i29, hi, hz0, hz1, hz2⟩ := info_parts info29'
  have I29 := Lib.hid hi
  have Z29 := Lib.hid hz0
  have S29 := Lib.hid hz1
  have Y29 := Lib.hid hz2
  clear h hw hx hi hz0 hz1 hz2
  go_enter Try.func22, Try.ntmps22
  go_wp2_with (first
    | ((with_reducible refine wpList_load_mid (op := ⟨some 7, _, _, _, _, _⟩) rfl 29 (.tmp 4) rfl W.heap.size 0 ?_ (fpL x) _ HRX.out Try.underlying29 rfl HIX.out ?_); rfl)
    | ((with_reducible refine wpList_build_one (op := ⟨some 8, _, _, _, _, _⟩) rfl 22 (.tmp 7) ?_ 29 32 _ (fpL x) ?_ Try.underlying22 Try.sizeOf29 Try.zeroValue29 ?_ ?_ HFX.out ?_); rfl; rfl; decide; decide)
    | (at_builtin; go_loud (refine wpList_append_own_at _ rfl (.tmp 6) (.tmp 8) _ rfl (W0.heap.size + 1) 29 i29 _ 32 32 Try.underlying22 I29.out Z29.out S29.out Y29.out (by simp [Value.cells]) (by decide) _ done.length (fsL done) rfl ((HW.out.row.alloc _).alloc _) _ 1 1 (fpL x) rfl (by rw [HFX.out]) (newF _ x _ (by simp)) fpL_one (by simp only [maxLen]; omega) (by omega) (by simp; omega) ?_)))
  intro v1 w1 ho1 hg1 _ hat1
  obtain ⟨VB, VD, rfl⟩ := own_slice ho1
  have hne : ∀ b, b ≤ W0.heap.size → some b ≠ (Value.slice VA done.length VC).ownBlock := fun b hb e => by have := (HW.out.row.lt b e.symm).1; omega
  have hne1 : ∀ b, b ≤ W0.heap.size → some b ≠ (Value.slice VB (done.length + 1) VD).ownBlock := fun b hb e => by have := (ho1.lt b e.symm).1; omega
  have hA : Below W.heap.size W ((W.alloc (.cells (fpL x).toArray 29)).alloc (.cells (fpL x).toArray 29)) := ((Below.refl _ _).alloc (Nat.le_refl _) _).alloc (by rw [World.size_alloc]; omega) _
  have hs1 := hg1.size
  simp only [World.size_alloc] at hs1
  have hb1 : w1.heap[W0.heap.size]? = some (.cells #[.slice VA done.length VC] 22 (0, 0)) := by
    rw [hg1.block _ (by simp; omega) (hne _ (Nat.le_refl _)), hA.block _ hlt]
    exact HW.out.box
  have hfz1 : w1.frozen? ⟨W0.heap.size, 0, none⟩ = false := by
    unfold World.frozen?
    rw [hb1]
    rfl
  have hcl1 : w1.cell? ⟨W0.heap.size, 0, none⟩ = some (.slice VA done.length VC) := by
    unfold World.cell?
    rw [hb1]
    rfl
  have HBE1 : Hid (Below W0.heap.size W0 w1) := Lib.hid ((HW.out.below.trans (hA.mono HW.out.below.size)).grown hg1 (HW.out.below.trans (hA.mono HW.out.below.size)).size (fun j hj => Nat.le_of_not_lt (fun hl => hne j (Nat.le_of_lt hl) hj.symm)))
  have HOLD : Hid (∀ b, b < W.heap.size → b ≠ W0.heap.size → (Value.slice VA done.length VC).ownBlock ≠ some b → (w1.setCell ⟨W0.heap.size, 0, none⟩ (.slice VB (done.length + 1) VD)).heap[b]? = W.heap[b]?) := Lib.hid (fun b hb h1 h2 => by
    rw [heap_setCell_other _ _ _ _ (fun e => h1 e), hg1.block _ (by simp; omega) (fun e => h2 e.symm), hA.block _ hb])
  have HSET : Hid (w1.grownBy (w1.setCell ⟨W0.heap.size, 0, none⟩ (.slice VB (done.length + 1) VD)) (some W0.heap.size)) := Lib.hid (grown_set ⟨rfl, rfl, rfl, Nat.le_refl _, fun _ _ _ => rfl⟩)
  have HAW2 : Hid (AskW W0 (done ++ [x]) (.slice VB (done.length + 1) VD) (w1.setCell ⟨W0.heap.size, 0, none⟩ (.slice VB (done.length + 1) VD))) := Lib.hid ⟨HBE1.out.grown HSET.out HBE1.out.size (fun j hj => by cases hj; exact Nat.le_refl _), heap_setCell_same w1 W0.heap.size 0 _ 22 _ hb1, by
    rw [fsL_snoc, List.length_append]
    exact ho1.kept HSET.out (by
      cases hq : (Value.slice VB (done.length + 1) VD).ownBlock with
      | none => exact .inl rfl
      | some b => exact .inr (fun e => hne1 _ (Nat.le_refl _) (by rw [hq]; exact e.symm)))⟩
  have HAT : Hid ((Value.slice VB (done.length + 1) VD).ownBlock = (Value.slice VA done.length VC).ownBlock ∨ ∃ b, (Value.slice VB (done.length + 1) VD).ownBlock = some b ∧ W.heap.size ≤ b) := Lib.hid (hat1.elim .inl (fun e => .inr ⟨_, e, by omega⟩))
  have HG : Hid (w1.os = W.os ∧ w1.tape = W.tape ∧ w1.output = W.output ∧ W.heap.size ≤ w1.heap.size) := Lib.hid ⟨hg1.os, hg1.tape, hg1.output, by omega⟩
  have HX := Lib.hid (list12 (c := c) (d := d) (HL.out.fps.below HAW2.out.below) (HL.out.lss.below HAW2.out.below) HL.out.all HXF.out (by have := HL.out.n1; omega))
  obtain ⟨c1, c2⟩ := HL.out.cells HAW2.out.below
  have hrx : Hid (w1.rangeAt W.heap.size 0 (fpL x)) := Lib.hid (fun j u hj => by
    rw [hg1.cell_far ⟨W.heap.size, 0 + j, none⟩ (by simp; omega) (fun e => by have := (HW.out.row.lt _ e.symm).2; simp at this)]
    exact (range_below HRX.out ((Below.refl _ _).alloc (Nat.le_refl _) _) (by simp)) j u hj)
  have HRY : Hid ((w1.setCell ⟨W0.heap.size, 0, none⟩ (.slice VB (done.length + 1) VD)).rangeAt W.heap.size 0 (fpL x)) := Lib.hid (fun j u hj => by
    rw [World.cell?_setCell_far _ _ _ _ (by show W0.heap.size ≠ W.heap.size; omega)]
    exact hrx.out j u hj)
  clear ho1 hg1 hat1 hA hb1 hs1 hrx
  go_wp2_with (first
    | ((with_reducible refine wpList_load_mid (op := ⟨some 12, _, _, _, _, _⟩) rfl 29 (.tmp 4) rfl W.heap.size 0 ?_ (fpL x) _ HRY.out Try.underlying29 rfl HIX.out ?_); rfl)
    | (go_at_call 12; refine Calls.mono HX.out ?_; rintro e w3 ⟨rfl, hb3⟩; have HB3 := Lib.hid hb3; clear hb3))
  go_ret
  have hk := HAW2.out.keep (grown_of_below HB3.out) (fun b e => by cases e)
  refine ⟨rfl, ⟨_, hk.1, HAT.out⟩, HB3.out.os.trans HG.out.1, HB3.out.tape.trans HG.out.2.1, HB3.out.output.trans HG.out.2.2.1, ?_, fun b h1 h2 h3 => ?_⟩
  · have h1 := HB3.out.size
    have h2 := HG.out.2.2.2
    simp at h1
    omega
  · rw [HB3.out.block _ (by have := HG.out.2.2.2; simp; omega)]
    exact HOLD.out b h1 h2 h3
end Go.Proofs.Ytijdkgklajdbnaa
