/- The walks over Line, over slices.Equal at truths. -/
import Derived.Test.YtjakkmioofbcaaaDoorB9
namespace Go.Proofs.YtjakkmioofbcaaaDoor
open Go.RowKit
def lineV (s : St) : Value := .tuple #[.string (str (if mayB s then lineL s else [])), .int .i64 (if mayB s then 0 else 1)]
theorem may_just {s : St} (h : mayB s = true) : justB s = true ∧ (0 ≤ s.n ∧ s.n ≤ 9999) ∧ (∀ i, 0 ≤ s.c i ∧ s.c i ≤ 2147483647) := by
  simp only [mayB, Bool.and_eq_true, decide_eq_true_eq] at h
  obtain ⟨⟨⟨⟨⟨⟨⟨⟨h1, h2⟩, h3⟩, h4⟩, _⟩, _⟩, _⟩, _⟩, _⟩ := h
  exact ⟨h1, ⟨h2, h3⟩, small_spec h4⟩
set_option maxRecDepth 100000 in
set_option maxHeartbeats 4000000 in
theorem line9 (s : St) (A : Option Addr) (cap : Nat) (w : World) (hk : Kp w (.slice A s.kp.length cap) s.kp) (hf : Fits s) :
    Calls Tryd.prog 26 #[.agg (s.A (.slice A s.kp.length cap))] w fun e w' => e = .returned (lineV s) ∧ Below w.heap.size w w' := by
  have HC : Hid (∀ w', Below w.heap.size w w' → Calls Tryd.prog 28 #[.agg (s.A (.slice A s.kp.length cap))] w' fun e w'' => e = .returned (.int .i64 (if mayB s then 0 else 1)) ∧ Below w'.heap.size w' w'') := Lib.hid (fun w' hb => check11 s A cap w' (hk.below hb) hf)
  have HL : Hid (∀ w', Below w.heap.size w w' → mayB s = true → Calls Tryd.prog 31 #[.agg (s.A (.slice A s.kp.length cap))] w' fun e w'' => e = .returned (.string (str (lineL s))) ∧ Below w'.heap.size w' w'') := Lib.hid (fun w' hb hm => line22 s A cap w' (hk.below hb) hf (just_k (may_just hm).1) (fun _ => ⟨(may_just hm).2.1.1, by have := (may_just hm).2.1.2; omega⟩) (fun _ => (may_just hm).2.2))
  rw [show s.A (.slice A s.kp.length cap) = (stL s.k s.op s.nm s.dt s.n (.slice A s.kp.length cap) s.c).toArray from rfl] at *
  have HB0 : Hid (Below w.heap.size w (w.alloc (.cells (stL s.k s.op s.nm s.dt s.n (.slice A s.kp.length cap) s.c).toArray 44))) := Lib.hid ((Below.refl _ _).alloc (Nat.le_refl _) _)
  have HI : Hid ((Tryd.prog.info? 44).map (·.size) = some (stL s.k s.op s.nm s.dt s.n (.slice A s.kp.length cap) s.c).length) := Lib.hid info30
  have HR : Hid (∀ w', Below (w.heap.size + 1) (w.alloc (.cells (stL s.k s.op s.nm s.dt s.n (.slice A s.kp.length cap) s.c).toArray 44)) w' → w'.rangeAt w.heap.size 0 (stL s.k s.op s.nm s.dt s.n (.slice A s.kp.length cap) s.c)) := Lib.hid (fun w' hb => range_of_row ((hb.block w.heap.size (by omega)).trans (heap_alloc_new w _)))
  generalize stL s.k s.op s.nm s.dt s.n (.slice A s.kp.length cap) s.c = L at *
  have HR0 := Lib.hid (HR.out (w.alloc (.cells L.toArray 44)) (Below.refl _ _))
  have HV : Hid (lineV s = .tuple #[.string (str (if mayB s then lineL s else [])), .int .i64 (if mayB s then 0 else 1)]) := Lib.hid rfl
  have HX := HC.out _ HB0.out
  clear hk
  cases hm : mayB s
  · rw [HV.out, hm]
    rw [hm] at HX
    have HX := Lib.hid HX
    clear HC HL HV hm
    go_enter Tryd.func26, Tryd.ntmps26
    go_wp2_with (first
      | ((with_reducible refine wpList_load_midg (op := ⟨some 5, _, _, _, _, _⟩) ?_ 44 (.tmp 1) rfl w.heap.size 0 ?_ L _ HR0.out Tryd.underlying44 rfl HI.out ?_); kernel_rfl; rfl)
      | (go_at_call 28; refine HX.out.mono ?_; rintro e w2 ⟨rfl, hb⟩))
    go_ret2
    exact ⟨rfl, HB0.out.trans (hb.mono HB0.out.size)⟩
  · rw [HV.out, hm]
    rw [hm] at HX
    have HX := Lib.hid HX
    have HMM := Lib.hid hm
    clear HC HV hm
    go_enter Tryd.func26, Tryd.ntmps26
    go_wp2_with (first
      | ((with_reducible refine wpList_load_midg (op := ⟨some 5, _, _, _, _, _⟩) ?_ 44 (.tmp 1) rfl w.heap.size 0 ?_ L _ HR0.out Tryd.underlying44 rfl HI.out ?_); kernel_rfl; rfl)
      | (go_at_call 28; refine HX.out.mono ?_; rintro e w2 ⟨rfl, hb⟩; have HB2 : Hid (Below (w.heap.size + 1) (w.alloc (.cells L.toArray 44)) w2) := Lib.hid (hb.mono (by simp)); have HR2 := Lib.hid (HR.out w2 HB2.out); clear hb)
      | ((with_reducible refine wpList_load_midg (op := ⟨some 10, _, _, _, _, _⟩) ?_ 44 (.tmp 1) rfl w.heap.size 0 ?_ L _ HR2.out Tryd.underlying44 rfl HI.out ?_); kernel_rfl; rfl)
      | (go_at_call 31; refine (HL.out _ (HB0.out.trans (HB2.out.mono (by omega))) HMM.out).mono ?_; rintro e w3 ⟨rfl, hb3⟩))
    go_ret2
    exact ⟨rfl, (HB0.out.trans (HB2.out.mono (by omega))).trans (hb3.mono (HB0.out.trans (HB2.out.mono (by omega))).size)⟩
end Go.Proofs.YtjakkmioofbcaaaDoor
