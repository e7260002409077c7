/- bytes.Compare, order, and the closure by which a set is sorted. -/
import Derived.Test.YtnpgfhoagpeelaaA4
import Derived.Deep.DeepCutAuto
import Derived.Shelf.GgSortFunc.InsertionK
namespace Go.Proofs.Ytnpgfhoagpeelaa
open Go.RowKit
open Go.Sort (grow)
theorem alloc_grow (w : World) (o : Obj) : w.alloc o = grow w #[o] := by
  unfold World.alloc grow
  simp
theorem grow_twice (w : World) (a b : Array Obj) : grow (grow w a) b = grow w (a ++ b) := by
  unfold grow
  simp [Array.append_assoc]
theorem grow_drewN (w : World) (a : Array Obj) (n : Nat) : (grow w a).drewN n = grow (w.drewN n) a := rfl
/-- the world has drawn, and blocks lie behind -/
def Gr (w w' : World) : Prop := ∃ q os, w' = grow (w.drewN q) os
theorem grow_none (w : World) : grow w #[] = w := by unfold grow; simp
theorem Gr.refl (w : World) : Gr w w := ⟨0, #[], (grow_none w).symm⟩
theorem Gr.alloc {w w' : World} (h : Gr w w') (o : Obj) : Gr w (w'.alloc o) := by
  obtain ⟨q, os, rfl⟩ := h
  exact ⟨q, os ++ #[o], by rw [alloc_grow, grow_twice]⟩
theorem Gr.drewN {w w' : World} (h : Gr w w') (n : Nat) : Gr w (w'.drewN n) := by
  obtain ⟨q, os, rfl⟩ := h
  exact ⟨q + n, os, by rw [grow_drewN, World.drewN_drewN]⟩
theorem Gr.trans {a b c : World} (h : Gr a b) (k : Gr b c) : Gr a c := by
  obtain ⟨q, os, rfl⟩ := h
  obtain ⟨q2, os2, rfl⟩ := k
  exact ⟨q + q2, os ++ os2, by rw [grow_drewN, grow_twice, World.drewN_drewN]⟩
theorem Gr.below {w w' : World} (h : Gr w w') : Below w.heap.size w w' := by
  obtain ⟨q, os, rfl⟩ := h
  refine ⟨rfl, rfl, rfl, ?_, fun k hk => ?_⟩
  · show w.heap.size ≤ (w.heap ++ os).size
    rw [Array.size_append]; omega
  · show (w.heap ++ os)[k]? = w.heap[k]?
    exact Array.getElem?_append_left hk
theorem run_compareSlice {P : Program} (w : World) (b1 b2 c1 c2 n1 n2 : Nat) (f g : Fp) (hf : ∀ b ∈ f, 0 ≤ b ∧ b ≤ 255) (hg : ∀ b ∈ g, 0 ≤ b ∧ b ≤ 255) (h1 : w.rangeAt b1 0 (fpL f)) (h2 : w.rangeAt b2 0 (fpL g)) (e1 : f.length = n1) (e2 : g.length = n2) :
    (Extern.BytealgCompare.compare #[.slice (some ⟨b1, 0, none⟩) n1 c1, .slice (some ⟨b2, 0, none⟩) n2 c2]).run P w = .ok (.int .i64 (cmpF f g)) w := by
  have key : ∀ (b : Nat) (f : Fp), w.rangeAt b 0 (fpL f) → (Extern.Bytes.loadBytes ⟨b, 0, none⟩ f.length .empty).run P w = .ok ⟨(Lib.bytesOf f).toArray⟩ w := fun b f h => by
    have hl := Lib.run_loadBytesX (P := P) w f ⟨b, 0, none⟩ .empty (fun j x hj => by
      have e : (⟨b, 0, none⟩ : Addr).add j = ⟨b, 0 + j, none⟩ := by unfold Addr.add; split <;> simp_all
      rw [e]
      exact h j _ (by unfold fpL; rw [List.getElem?_map, hj]; rfl))
    have he : (⟨ByteArray.empty.data ++ (Lib.bytesOf f).toArray⟩ : ByteArray) = ⟨(Lib.bytesOf f).toArray⟩ := by
      apply ByteArray.ext
      show (#[] : Array UInt8) ++ (Lib.bytesOf f).toArray = (Lib.bytesOf f).toArray
      simp
    rw [he] at hl
    exact hl
  have k1 := key b1 f h1
  have k2 := key b2 g h2
  rw [e1] at k1
  rw [e2] at k2
  change Sem.run P (do pure (goInt (Extern.BytealgCompare.cmp (← Extern.Bytes.bytesOf (.slice (some ⟨b1, 0, none⟩) n1 c1)) (← Extern.Bytes.bytesOf (.slice (some ⟨b2, 0, none⟩) n2 c2))))) w = _
  simp only [Extern.Bytes.bytesOf, Sem.run_bind, Sem.run_pure, Result.andThen, k1, k2]
  rw [Lib.cmp_eq]
  show Result.ok (goInt (Lib.compareBytes (Lib.bytesOf f) (Lib.bytesOf g))) w = _
  rw [cmp_bytes hf hg]
  rfl
set_option maxRecDepth 100000 in
set_option maxHeartbeats 2000000 in
theorem compare84 {f g : Fp} {w : World} {b1 b2 : Nat} (hf : IsFp f) (hg : IsFp g) (h1 : w.rangeAt b1 0 (fpL f)) (h2 : w.rangeAt b2 0 (fpL g)) :
    Calls Try.prog 48 #[.slice (some ⟨b1, 0, none⟩) 32 32, .slice (some ⟨b2, 0, none⟩) 32 32] w fun e w' => e = .returned (.int .i64 (cmpF f g)) ∧ w' = w := by
  have hr := run_compareSlice (P := Try.prog) w b1 b2 32 32 32 32 f g hf.2 hg.2 h1 h2 hf.1 hg.1
  clear h1 h2
  go_enter Try.func48, Try.ntmps48
  go_wp2
  rw [run_callFunc_extern Try.func62 (by kernel_rfl) (by kernel_rfl) (by kernel_rfl) (e := Extern.BytealgCompare.compare) (by kernel_rfl), hr]
  simp only [Result.andThen]
  rw [Oper.upon_value]
  go_wp2
  go_ret
  exact ⟨rfl, rfl⟩
set_option maxRecDepth 100000 in
set_option maxHeartbeats 2000000 in
theorem order60 {f g : Fp} {w : World} (hf : IsFp f) (hg : IsFp g) :
    Calls Try.prog 40 #[.agg (fpL f).toArray, .agg (fpL g).toArray] w fun e w' => e = .returned (.int .i64 (cmpF f g)) ∧ Gr w w' := by
  have HF := Lib.hid hf
  have HG := Lib.hid hg
  have HBX : Hid (Gr w ((w.alloc (.cells (fpL f).toArray 47)).alloc (.cells (fpL g).toArray 47))) := Lib.hid (((Gr.refl w).alloc _).alloc _)
  have HR1 : Hid (((w.alloc (.cells (fpL f).toArray 47)).alloc (.cells (fpL g).toArray 47)).rangeAt w.heap.size 0 (fpL f)) := Lib.hid (range_below (range_new w f 47 _ rfl) ((Below.refl _ _).alloc (Nat.le_refl _) _) (by rw [World.size_alloc]; omega))
  have HR2 : Hid (((w.alloc (.cells (fpL f).toArray 47)).alloc (.cells (fpL g).toArray 47)).rangeAt (w.heap.size + 1) 0 (fpL g)) := Lib.hid (range_new _ g 47 _ (by rw [World.size_alloc]))
  have HIF := Lib.hid (info29f hf)
  have HIG := Lib.hid (info29f hg)
  have hq := fp_eq hf hg
  have HC := Lib.hid (fun (W : World) (b1 b2 : Nat) => compare84 (w := W) (b1 := b1) (b2 := b2) hf hg)
  have HY : Hid (f = g → cmpF f g = 0) := Lib.hid (fun h => by rw [h, cmpF_self])
  clear hf hg
  generalize cmpF f g = r at *
  by_cases hfg : f = g
  · rw [decide_eq_true hfg] at hq
    have hr := HY.out hfg
    subst hr
    clear hfg
    go_enter Try.func40, Try.ntmps40
    go_upto_region 1 with fail
    obtain ⟨w1, hw1⟩ : ∃ w1, (w.alloc (.cells (fpL f).toArray 47)).alloc (.cells (fpL g).toArray 47) = w1 := ⟨_, rfl⟩
    rw [hw1] at HBX HR1 HR2 ⊢
    obtain ⟨b, hb⟩ : ∃ b, w.heap.size = b := ⟨_, rfl⟩
    rw [hb] at HR1 HR2 ⊢
    clear hw1 hb
    go_wp2_with (first
      | ((with_reducible refine wpList_load_mid (op := ⟨some 5, _, _, _, _, _⟩) rfl 47 (.tmp 2) rfl b 0 ?_ (fpL f) _ HR1.out Try.underlying47 rfl HIF.out ?_); rfl)
      | ((with_reducible refine wpList_load_mid (op := ⟨some 6, _, _, _, _, _⟩) rfl 47 (.tmp 3) rfl (b + 1) 0 ?_ (fpL g) _ HR2.out Try.underlying47 rfl HIG.out ?_); rfl))
    go_ret
    exact ⟨rfl, HBX.out⟩
  · rw [decide_eq_false hfg] at hq
    clear hfg HY
    go_enter Try.func40, Try.ntmps40
    go_upto_region 1 with fail
    obtain ⟨w1, hw1⟩ : ∃ w1, (w.alloc (.cells (fpL f).toArray 47)).alloc (.cells (fpL g).toArray 47) = w1 := ⟨_, rfl⟩
    rw [hw1] at HBX HR1 HR2 ⊢
    obtain ⟨b, hb⟩ : ∃ b, w.heap.size = b := ⟨_, rfl⟩
    rw [hb] at HR1 HR2 ⊢
    clear hw1 hb
    have HCQ : Hid (∀ m, Calls Try.prog 48 #[.slice (some ⟨b, 0, none⟩) 32 32, .slice (some ⟨b + 1, 0, none⟩) 32 32] (w1.drewN m) fun e w' => e = .returned (.int .i64 r) ∧ w' = w1.drewN m) := Lib.hid (fun m => HC.out _ _ _ (fun j v hv => HR1.out j v hv) (fun j v hv => HR2.out j v hv))
    go_wp2_with (first
      | ((with_reducible refine wpList_load_mid (op := ⟨some 5, _, _, _, _, _⟩) rfl 47 (.tmp 2) rfl b 0 ?_ (fpL f) _ HR1.out Try.underlying47 rfl HIF.out ?_); rfl)
      | ((with_reducible refine wpList_load_mid (op := ⟨some 6, _, _, _, _, _⟩) rfl 47 (.tmp 3) rfl (b + 1) 0 ?_ (fpL g) _ HR2.out Try.underlying47 rfl HIG.out ?_); rfl))
    go_quiet ((go_at_call 48; refine Calls.quiet_of_same (HCQ.out _)))
    go_wp2_with fail
    go_ret
    exact ⟨rfl, HBX.out.drewN _⟩
set_option maxRecDepth 100000 in
set_option maxHeartbeats 2000000 in
theorem closure59 {f g : Fp} {w : World} (hf : IsFp f) (hg : IsFp g) :
    Calls Try.prog 39 #[.agg (fpL f).toArray, .agg (fpL g).toArray] w fun e w' => e = .returned (.int .i64 (cmpF f g)) ∧ Gr w w' := by
  have HBX : Hid (Gr w ((w.alloc (.cells (fpL f).toArray 47)).alloc (.cells (fpL g).toArray 47))) := Lib.hid (((Gr.refl w).alloc _).alloc _)
  have HR1 : Hid (((w.alloc (.cells (fpL f).toArray 47)).alloc (.cells (fpL g).toArray 47)).rangeAt w.heap.size 0 (fpL f)) := Lib.hid (range_below (range_new w f 47 _ rfl) ((Below.refl _ _).alloc (Nat.le_refl _) _) (by rw [World.size_alloc]; omega))
  have HR2 : Hid (((w.alloc (.cells (fpL f).toArray 47)).alloc (.cells (fpL g).toArray 47)).rangeAt (w.heap.size + 1) 0 (fpL g)) := Lib.hid (range_new _ g 47 _ (by rw [World.size_alloc]))
  have HIF := Lib.hid (info29f hf)
  have HIG := Lib.hid (info29f hg)
  have HC := Lib.hid (fun (W : World) => order60 (w := W) hf hg)
  clear hf hg
  go_enter Try.func39, Try.ntmps39
  go_upto_region 1 with fail
  obtain ⟨w1, hw1⟩ : ∃ w1, (w.alloc (.cells (fpL f).toArray 47)).alloc (.cells (fpL g).toArray 47) = w1 := ⟨_, rfl⟩
  rw [hw1] at HBX HR1 HR2 ⊢
  obtain ⟨b, hb⟩ : ∃ b, w.heap.size = b := ⟨_, rfl⟩
  rw [hb] at HR1 HR2 ⊢
  clear hw1 hb
  go_wp2_with (first
    | ((with_reducible refine wpList_load_mid (op := ⟨some 5, _, _, _, _, _⟩) rfl 47 (.tmp 2) rfl b 0 ?_ (fpL f) _ HR1.out Try.underlying47 rfl HIF.out ?_); rfl)
    | ((with_reducible refine wpList_load_mid (op := ⟨some 6, _, _, _, _, _⟩) rfl 47 (.tmp 3) rfl (b + 1) 0 ?_ (fpL g) _ HR2.out Try.underlying47 rfl HIG.out ?_); rfl))
  refine Calls.mono (HC.out _) ?_
  rintro e w2 ⟨rfl, hw2⟩
  have HW2 := Lib.hid hw2
  clear hw2
  go_wp2_with fail
  go_ret
  exact ⟨rfl, HBX.out.trans HW2.out⟩
end Go.Proofs.Ytnpgfhoagpeelaa
