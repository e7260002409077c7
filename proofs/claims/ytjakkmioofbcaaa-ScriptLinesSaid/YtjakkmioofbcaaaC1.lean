/- The walks over Line, over slices.Equal at truths. -/
import Derived.Test.YtjakkmioofbcaaaB9
namespace Go.Proofs.Ytjakkmioofbcaaa
open Go.RowKit
def lineV (s : St) : Value := .tuple #[.string (str (if mayB s then lineL s else [])), .int .i64 (if mayB s then 0 else 1)]
theorem may_just {s : St} (h : mayB s = true) : justB s = true ∧ (0 ≤ s.n ∧ s.n ≤ 9999) ∧ (∀ i, 0 ≤ s.c i ∧ s.c i ≤ 2147483647) := by
  simp only [mayB, Bool.and_eq_true, decide_eq_true_eq] at h
  obtain ⟨⟨⟨⟨⟨⟨⟨⟨h1, h2⟩, h3⟩, h4⟩, _⟩, _⟩, _⟩, _⟩, _⟩ := h
  exact ⟨h1, ⟨h2, h3⟩, small_spec h4⟩
set_option maxRecDepth 100000 in
set_option maxHeartbeats 4000000 in
theorem line9 (s : St) (A : Option Addr) (cap : Nat) (w : World) (hk : Kp w (.slice A s.kp.length cap) s.kp) (hf : Fits s) :
    Calls Try.prog 9 #[.agg (s.A (.slice A s.kp.length cap))] w fun e w' => e = .returned (lineV s) ∧ Below w.heap.size w w' := by
  have HC : Hid (∀ w', Below w.heap.size w w' → Calls Try.prog 11 #[.agg (s.A (.slice A s.kp.length cap))] w' fun e w'' => e = .returned (.int .i64 (if mayB s then 0 else 1)) ∧ Below w'.heap.size w' w'') := Lib.hid (fun w' hb => check11 s A cap w' (hk.below hb) hf)
  have HL : Hid (∀ w', Below w.heap.size w w' → mayB s = true → Calls Try.prog 22 #[.agg (s.A (.slice A s.kp.length cap))] w' fun e w'' => e = .returned (.string (str (lineL s))) ∧ Below w'.heap.size w' w'') := Lib.hid (fun w' hb hm => line22 s A cap w' (hk.below hb) hf (just_k (may_just hm).1) (fun _ => ⟨(may_just hm).2.1.1, by have := (may_just hm).2.1.2; omega⟩) (fun _ => (may_just hm).2.2))
  rw [show s.A (.slice A s.kp.length cap) = (stL s.k s.op s.nm s.dt s.n (.slice A s.kp.length cap) s.c).toArray from rfl] at *
  have HB0 : Hid (Below w.heap.size w (w.alloc (.cells (stL s.k s.op s.nm s.dt s.n (.slice A s.kp.length cap) s.c).toArray 30))) := Lib.hid ((Below.refl _ _).alloc (Nat.le_refl _) _)
  have HI : Hid ((Try.prog.info? 30).map (·.size) = some (stL s.k s.op s.nm s.dt s.n (.slice A s.kp.length cap) s.c).length) := Lib.hid info30
  have HR : Hid (∀ w', Below (w.heap.size + 1) (w.alloc (.cells (stL s.k s.op s.nm s.dt s.n (.slice A s.kp.length cap) s.c).toArray 30)) w' → w'.rangeAt w.heap.size 0 (stL s.k s.op s.nm s.dt s.n (.slice A s.kp.length cap) s.c)) := Lib.hid (fun w' hb => range_of_row ((hb.block w.heap.size (by omega)).trans (heap_alloc_new w _)))
  generalize stL s.k s.op s.nm s.dt s.n (.slice A s.kp.length cap) s.c = L at *
  have HR0 := Lib.hid (HR.out (w.alloc (.cells L.toArray 30)) (Below.refl _ _))
  have HV : Hid (lineV s = .tuple #[.string (str (if mayB s then lineL s else [])), .int .i64 (if mayB s then 0 else 1)]) := Lib.hid rfl
  have HX := HC.out _ HB0.out
  clear hk
  cases hm : mayB s
  · rw [HV.out, hm]
    rw [hm] at HX
    have HX := Lib.hid HX
    clear HC HL HV hm
    go_enter Try.func9, Try.ntmps9
    go_wp2_with (first
      | ((with_reducible refine wpList_load_midg (op := ⟨some 5, _, _, _, _, _⟩) ?_ 30 (.tmp 1) rfl w.heap.size 0 ?_ L _ HR0.out Try.underlying30 rfl HI.out ?_); kernel_rfl; rfl)
      | (go_at_call 11; refine HX.out.mono ?_; rintro e w2 ⟨rfl, hb⟩))
    go_ret2
    exact ⟨rfl, HB0.out.trans (hb.mono HB0.out.size)⟩
  · rw [HV.out, hm]
    rw [hm] at HX
    have HX := Lib.hid HX
    have HMM := Lib.hid hm
    clear HC HV hm
    go_enter Try.func9, Try.ntmps9
    go_wp2_with (first
      | ((with_reducible refine wpList_load_midg (op := ⟨some 5, _, _, _, _, _⟩) ?_ 30 (.tmp 1) rfl w.heap.size 0 ?_ L _ HR0.out Try.underlying30 rfl HI.out ?_); kernel_rfl; rfl)
      | (go_at_call 11; refine HX.out.mono ?_; rintro e w2 ⟨rfl, hb⟩; have HB2 : Hid (Below (w.heap.size + 1) (w.alloc (.cells L.toArray 30)) w2) := Lib.hid (hb.mono (by simp)); have HR2 := Lib.hid (HR.out w2 HB2.out); clear hb)
      | ((with_reducible refine wpList_load_midg (op := ⟨some 10, _, _, _, _, _⟩) ?_ 30 (.tmp 1) rfl w.heap.size 0 ?_ L _ HR2.out Try.underlying30 rfl HI.out ?_); kernel_rfl; rfl)
      | (go_at_call 22; refine (HL.out _ (HB0.out.trans (HB2.out.mono (by omega))) HMM.out).mono ?_; rintro e w3 ⟨rfl, hb3⟩))
    go_ret2
    exact ⟨rfl, (HB0.out.trans (HB2.out.mono (by omega))).trans (hb3.mono (HB0.out.trans (HB2.out.mono (by omega))).size)⟩
set_option maxRecDepth 100000 in
set_option maxHeartbeats 2000000 in
theorem eq26 (v u : Value) (xs ys : List Bool) (w : World) (h1 : Kp w v xs) (h2 : Kp w u ys) (hn : xs.length ≤ 1000000) (hm : ys.length ≤ 1000000) :
    Calls Try.prog 26 #[v, u] w fun e w' => e = .returned (.bool (decide (xs = ys))) ∧ Below w.heap.size w w' := by
  obtain ⟨A, c, rfl⟩ := h1.1
  obtain ⟨B, d, rfl⟩ := h2.1
  have H1 := Lib.hid h1
  have H2 := Lib.hid h2
  clear h1 h2
  by_cases hnm : xs.length = ys.length
  · have HNM := Lib.hid hnm
    have hnn : ((xs.length : Int) != (ys.length : Int)) = false := by simp; omega
    clear hnm
    go_enter Try.func26, Try.ntmps26
    go_wp2_with fail
    go_loopg [13] xs.length (fun gk i wr => ∃ k : Nat, k ≤ xs.length ∧ gk = xs.length - k ∧ i = .int .i64 k ∧ Below w.heap.size w wr ∧ xs.take k = ys.take k)
    case atStart => exact ⟨0, Nat.zero_le _, rfl, rfl, Below.refl _ _, by simp⟩
    case round =>
      obtain ⟨k, hk, hgk, rfl, hbw, htk⟩ := hrel
      have HK := Lib.hid hgk
      have HBW := Lib.hid hbw
      have HTK := Lib.hid htk
      clear hgk htk
      by_cases hlt : k < xs.length
      · obtain ⟨b1, o1, c1, e1, hb1, hc1⟩ := H1.out.2 (by intro e; subst e; simp at hlt)
        obtain ⟨b2, o2, c2, e2, hb2, hc2⟩ := H2.out.2 (by intro e; have := HNM.out; rw [e] at this; simp at this; rw [this] at hlt; simp at hlt)
        injection e1 with e1 _ e3
        injection e2 with e2 _ e4
        subst e1
        subst e2
        subst e3
        subst e4
        have q1 := (hbw.cell (p := ⟨b1, o1 + k, none⟩) hb1).trans (hc1 k hlt)
        have q2 := (hbw.cell (p := ⟨b2, o2 + k, none⟩) hb2).trans (hc2 k (by have := HNM.out; omega))
        have HX : Hid (xs[k]? = some (xs.getD k false)) := Lib.hid (by simp [List.getD, hlt])
        have HY : Hid (ys[k]? = some (ys.getD k false)) := Lib.hid (by have := HNM.out; simp [List.getD, show k < ys.length by omega])
        generalize xs.getD k false = x at *
        generalize ys.getD k false = y at *
        have hk0 : (0 : Int) ≤ (k : Int) := by omega
        have hk1 : (k : Int) < (xs.length : Int) := by omega
        have hk2 : (k : Int) < (ys.length : Int) := by have := HNM.out; omega
        clear hc1 hc2 hbw
        by_cases hxy : x = y
        · have HTK2 : Hid (xs.take (k + 1) = ys.take (k + 1)) := by
            show _ = _
            rw [List.take_add_one, List.take_add_one, HTK.out, HX.out, HY.out, hxy]
          subst hxy
          have hbb : (x != x) = false := by simp
          go_wp2
          go_quiet (fail)
          go_wp2
          go_roundg (xs.length - (k + 1))
          case measure => rw [HK.out]; omega
          case rel => exact ⟨k + 1, by omega, rfl, by go_num, below_drewN HBW.out _, HTK2.out⟩
        · have hne : decide (xs = ys) = false := by
            simp only [decide_eq_false_iff_not]
            intro e
            have h := HX.out
            rw [e, HY.out] at h
            injection h with h
            exact hxy h.symm
          have HNE := Lib.hid hne
          have hbb : (x == y) = false := by simpa using hxy
          clear hxy hne
          go_wp2
          go_quiet (fail)
          go_wp2
          go_ret
          exact ⟨by rw [HNE.out]; rfl, below_drewN HBW.out _⟩
      · have he : decide (xs = ys) = true := by
          have := HTK.out
          have h3 := HNM.out
          rw [List.take_of_length_le (by omega), List.take_of_length_le (by omega)] at this
          simpa using this
        have HE := Lib.hid he
        clear he
        go_wp2
        go_ret
        exact ⟨by rw [HE.out]; rfl, HBW.out⟩
  · have hnn : ((xs.length : Int) != (ys.length : Int)) = true := by simp only [bne_iff_ne, ne_eq]; omega
    have hne : decide (xs = ys) = false := by
      simp only [decide_eq_false_iff_not]
      rintro rfl
      exact hnm rfl
    rw [hne]
    clear hnm hne
    go_enter Try.func26, Try.ntmps26
    go_wp2
    go_ret
    exact ⟨rfl, Below.refl _ _⟩
end Go.Proofs.Ytjakkmioofbcaaa
