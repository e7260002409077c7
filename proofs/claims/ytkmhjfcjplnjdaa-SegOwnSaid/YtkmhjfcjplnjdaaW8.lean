/- The walks over SegNobody and the parter. -/
import Derived.Test.YtkmhjfcjplnjdaaW7
namespace Go.Proofs.Ytkmhjfcjplnjdaa
open Go.RowKit
theorem reset_nil (w : World) : Calls Try.prog 19 #[.pointer none] w fun e w' => e = .returned (.tuple #[]) ∧ w = w' := by
  go_enter Try.func19, Try.ntmps19
  go_wp2
  go_end0
  exact ⟨rfl, rfl⟩
set_option maxHeartbeats 1000000 in
theorem put_nil (f : Fp) (w : World) : Calls Try.prog 20 #[.pointer none, .agg (fpA f)] w fun e w' => e = .returned (.bool false) ∧ Below w.heap.size w w' := by
  go_enter Try.func20, Try.ntmps20
  go_wp2
  go_ret
  exact ⟨rfl, (Below.refl _ _).alloc (Nat.le_refl _) _⟩
theorem len_nil (w : World) : Calls Try.prog 21 #[.pointer none] w fun e w' => e = .returned (.int .i64 0) ∧ w = w' := by
  go_enter Try.func21, Try.ntmps21
  go_wp2
  go_ret
  exact ⟨rfl, rfl⟩
set_option maxRecDepth 100000 in
set_option maxHeartbeats 1000000 in
theorem segNobody (f : Fp) (hf : IsFp f) (w : World) : Calls Try.prog 6 #[.agg (fpA f)] w (LawPost w) := by
  have hi37 : (Try.prog.info? 37).map (·.size) = some (fpA f).size := by rw [info37, fpA_size hf]
  have HI := Lib.hid hi37
  clear hi37
  go_enter Try.func6, Try.ntmps6
  go_wp2_with (first
    | (go_at_call 19; refine (reset_nil _).mono ?_; rintro e w1 ⟨rfl, rfl⟩)
    | (go_at_call 20; refine (put_nil f _).mono ?_; rintro e w2 ⟨rfl, hb2⟩)
    | (go_at_call 21; refine (len_nil _).mono ?_; rintro e w3 ⟨rfl, rfl⟩)
    | (go_at_call 13; refine (awake13 _).mono ?_; rintro e w4 ⟨rfl, hb4⟩)
    | ((with_reducible refine wpList_load_new (op := ⟨_, _, _, _, _, _⟩) rfl 37 (.tmp 1) rfl (fpA f) 32 5 ?_ Try.underlying37 HI.out ?_); rfl))
  go_ret
  exact ⟨rfl, ((Below.refl _ _).alloc (Nat.le_refl _) _).trans ((hb2.mono (by simp)).trans (hb4.mono (by have := hb2.size; simp at this; omega)))⟩

/-- a parter in block g, its settings in block b, n that came -/
def partA (b : Nat) (n : Nat) : Array Value := #[.func (.func 25) #[] #[.pointer (some ⟨b, 0, none⟩)], .int .i64 (n : Int)]
def PartAt (x : CfX) (g b n : Nat) (w : World) : Prop := w.heap[g]? = some (.cells (partA b n) 51) ∧ w.heap[b]? = some (.cells x.A 24)
theorem PartAt.ne {x : CfX} {g b n : Nat} {w : World} (h : PartAt x g b n w) : g ≠ b := by
  rintro rfl
  have := h.1.symm.trans h.2
  injection this with this
  injection this with _ h2
  cases h2
theorem PartAt.c0 {x : CfX} {g b n : Nat} {w : World} (h : PartAt x g b n w) : w.cell? ⟨g, 0, none⟩ = some (.func (.func 25) #[] #[.pointer (some ⟨b, 0, none⟩)]) := cell_of_row w g 0 _ 51 (0, 0) h.1
theorem PartAt.c1 {x : CfX} {g b n : Nat} {w : World} (h : PartAt x g b n w) : w.cell? ⟨g, 1, none⟩ = some (.int .i64 (n : Int)) := cell_of_row w g 1 _ 51 (0, 0) h.1
theorem PartAt.fz {x : CfX} {g b n : Nat} {w : World} (h : PartAt x g b n w) : w.frozen? ⟨g, 1, none⟩ = false := frozen_of_row w g 1 _ 51 h.1
theorem PartAt.lt {x : CfX} {g b n : Nat} {w : World} (h : PartAt x g b n w) : g < w.heap.size ∧ b < w.heap.size := ⟨(Array.getElem?_eq_some_iff.1 h.1).1, (Array.getElem?_eq_some_iff.1 h.2).1⟩
theorem PartAt.below {x : CfX} {g b n : Nat} {w w' : World} (h : PartAt x g b n w) (hb : Below w.heap.size w w') : PartAt x g b n w' := ⟨(hb.block _ h.lt.1).trans h.1, (hb.block _ h.lt.2).trans h.2⟩
theorem PartAt.set {x : CfX} {g b n : Nat} {w : World} (h : PartAt x g b n w) (m : Nat) : PartAt x g b m (w.setCell ⟨g, 1, none⟩ (.int .i64 (m : Int))) := by
  refine ⟨?_, (heap_setCell_other w _ b _ (Ne.symm h.ne)).trans h.2⟩
  rw [heap_setCell_same w g 1 _ 51 _ h.1]
  rfl
theorem grownBy_set {w w1 : World} {g : Nat} (hb : Below w.heap.size w w1) (i : Nat) (v : Value) : w.grownBy (w1.setCell ⟨g, i, none⟩ v) (some g) :=
  ⟨hb.os, hb.tape, hb.output, by simpa using hb.size, fun k hk hne => (heap_setCell_other w1 ⟨g, i, none⟩ k v (fun e => hne (by rw [e]))).trans (hb.block k hk)⟩
theorem func_nil (f : Fn) (a b : Array Value) (W : World) : (binOp .eql 46 (.func f a b) .nilFunc).run Try.prog W = .ok (.bool false) W := by
  have h : ∀ d : Nat, (Op.equalIn (d + 1) 46 (.func f a b) .nilFunc).run Try.prog W = .ok false W := fun d => by
    simp [Op.equalIn, run_underlying Try.underlying46]
  simp only [binOp]
  simp [Op.equal, Op.maxDepth, h 9999]
def PutPost (x : CfX) (g b n : Nat) (f : Fp) (w : World) (e : Ending) (w' : World) : Prop :=
  e = .returned (.bool (endB x.c n f)) ∧ w.grownBy w' (some g) ∧ PartAt x g b (if endB x.c n f = true then 0 else n + 1) w'
def NewPost (x : CfX) (w : World) (e : Ending) (w' : World) : Prop :=
  ∃ g b, e = .returned (.tuple #[.pointer (some ⟨g, 0, none⟩), .int .i64 0]) ∧ Below w.heap.size w w' ∧ w.heap.size ≤ g ∧ PartAt x g b 0 w'
set_option maxRecDepth 100000 in
set_option maxHeartbeats 1000000 in
theorem segNew_yes (x : CfX) (hc : may x.c = true) (w : World) : Calls Try.prog 22 #[.agg x.A] w (NewPost x w) := by
  have hM := segMay x
  rw [hc] at hM
  have HM := Lib.hid hM
  clear hM hc
  go_enter Try.func22, Try.ntmps22
  go_wp2_with (first
      | (go_at_call 9; refine (HM.out _).mono ?_; rintro e w1 ⟨rfl, rfl⟩)
      | (go_at_call 23; refine (ender x _).mono ?_; rintro e w2 ⟨rfl, rfl⟩))
  go_ret2
  refine ⟨_, w.heap.size + 1 + 1, rfl, (((Below.refl _ _).alloc (Nat.le_refl _) _).alloc (by simp) _).alloc (by simp; omega) _ |>.alloc (by simp; omega) _, by omega, ?_, ?_⟩
  · rw [← World.size_alloc w (.cells x.A 24), ← World.size_alloc (w.alloc (.cells x.A 24)) (.cells x.A 24), ← World.size_alloc ((w.alloc (.cells x.A 24)).alloc (.cells x.A 24)) (.cells x.A 24)]
    exact heap_alloc_new _ _
  · refine (Below.heap_alloc _ _ _ (by simp)).trans ?_
    rw [← World.size_alloc w (.cells x.A 24), ← World.size_alloc (w.alloc (.cells x.A 24)) (.cells x.A 24)]
    exact heap_alloc_new _ _
set_option maxRecDepth 100000 in
set_option maxHeartbeats 1000000 in
theorem segNew_no (x : CfX) (hc : may x.c = false) (w : World) : Calls Try.prog 22 #[.agg x.A] w fun e w' => e = .returned (.tuple #[.pointer none, .int .i64 1]) ∧ Below w.heap.size w w' := by
  have hM := segMay x
  rw [hc] at hM
  have HM := Lib.hid hM
  clear hM hc
  go_enter Try.func22, Try.ntmps22
  go_wp2_with (first
      | (go_at_call 9; refine (HM.out _).mono ?_; rintro e w1 ⟨rfl, rfl⟩))
  go_ret2
  exact ⟨rfl, ((Below.refl _ _).alloc (Nat.le_refl _) _).alloc (by simp) _⟩
theorem reset_at (x : CfX) (g b n : Nat) (w : World) (h : PartAt x g b n w) : Calls Try.prog 19 #[.pointer (some ⟨g, 0, none⟩)] w fun e w' => e = .returned (.tuple #[]) ∧ w' = w.setCell ⟨g, 1, none⟩ (.int .i64 0) := by
  have c1 := h.c1
  have fz := h.fz
  clear h
  go_enter Try.func19, Try.ntmps19
  go_wp2
  go_end0
  exact ⟨rfl, rfl⟩
theorem len_at (x : CfX) (g b n : Nat) (w : World) (h : PartAt x g b n w) : Calls Try.prog 21 #[.pointer (some ⟨g, 0, none⟩)] w fun e w' => e = .returned (.int .i64 (n : Int)) ∧ w = w' := by
  have c1 := h.c1
  clear h
  go_enter Try.func21, Try.ntmps21
  go_wp2
  go_ret
  exact ⟨rfl, rfl⟩
set_option maxRecDepth 100000 in
set_option maxHeartbeats 1000000 in
theorem put_at (x : CfX) (hc : may x.c = true) (g b n : Nat) (hn : n ≤ 1000000) (f : Fp) (hf : IsFp f) (w : World) (h : PartAt x g b n w) : Calls Try.prog 20 #[.pointer (some ⟨g, 0, none⟩), .agg (fpA f)] w (PutPost x g b n f w) := by
  have c0 := h.c0
  have c1 := h.c1
  have HP := Lib.hid h
  have hlt := h.lt
  clear h
  have hu37 := Try.underlying37
  have hi37 : (Try.prog.info? 37).map (·.size) = some (fpL f).length := by rw [info37, fpL_length hf]
  have HW0 : Hid (PartAt x g b n (w.alloc (.cells (fpA f) 37)).drew) := HP.out.below (((Below.refl _ _).alloc (Nat.le_refl _) _).drew)
  have HS0 : Hid ((w.alloc (.cells (fpA f) 37)).drew.cell? ⟨g, 0, none⟩ = some (.func (.func 25) #[] #[.pointer (some ⟨b, 0, none⟩)]) ∧ (w.alloc (.cells (fpA f) 37)).drew.cell? ⟨g, 1, none⟩ = some (.int .i64 (n : Int)) ∧ (w.alloc (.cells (fpA f) 37)).drew.rangeAt w.heap.size 0 (fpL f)) := by
    refine ⟨HW0.out.c0, HW0.out.c1, fun j v hv => ?_⟩
    rw [World.cell?_drew, World.cell?_alloc_new, Nat.zero_add]
    simpa [fpA] using hv
  have hfn := func_nil (.func 25) #[] #[.pointer (some ⟨b, 0, none⟩)]
  have hE := enderB x hc n hn f hf b _ HW0.out.2
  obtain ⟨B, hB⟩ : ∃ B, endB x.c n f = B := ⟨_, rfl⟩
  rw [hB] at hE
  have HE := Lib.hid hE
  have HB := Lib.hid hB
  clear hE hc hB
  have hnn : (n : Int) + 1 ≤ 1000001 := by omega
  cases B
  all_goals
    go_enter Try.func20, Try.ntmps20
    go_wp2
    go_region_held3 (fun w' => w'.cell? ⟨g, 0, none⟩ = some (.func (.func 25) #[] #[.pointer (some ⟨b, 0, none⟩)]) ∧ w'.cell? ⟨g, 1, none⟩ = some (.int .i64 (n : Int)) ∧ w'.rangeAt w.heap.size 0 (fpL f)) (first | exact HS0.out | exact HS1.out)
      (first | (go_at_call 25; refine HE.out.mono ?_; rintro e w1 ⟨rfl, hb1⟩; have HW1 := Lib.hid (HW0.out.below hb1); have HS1 : Hid (w1.cell? ⟨g, 0, none⟩ = some (.func (.func 25) #[] #[.pointer (some ⟨b, 0, none⟩)]) ∧ w1.cell? ⟨g, 1, none⟩ = some (.int .i64 (n : Int)) ∧ w1.rangeAt w.heap.size 0 (fpL f)) := ⟨HW1.out.c0, HW1.out.c1, fun j v hv => (hb1.cell (p := ⟨w.heap.size, 0 + j, none⟩) (by simp)).trans (HS0.out.2.2 j v hv)⟩))
    have k0 := HW1.out.c0
    have k1 := HW1.out.c1
    have kz := HW1.out.fz
    have hbb : Below w.heap.size w w1 := (((Below.refl _ _).alloc (Nat.le_refl _) _).drew).trans (hb1.mono (by simp))
    go_wp2
    go_ret
  · refine ⟨by rw [HB.out]; rfl, grownBy_set hbb _ _, ?_⟩
    rw [if_neg (by rw [HB.out]; simp)]
    exact HW1.out.set (n + 1)
  · refine ⟨by rw [HB.out]; rfl, grownBy_set hbb _ _, ?_⟩
    rw [if_pos HB.out]
    exact HW1.out.set 0
end Go.Proofs.Ytkmhjfcjplnjdaa
