/- The walks over Same, the program's and the reference's. -/
import Derived.Test.YtjakkmioofbcaaaDoorC1
namespace Go.Proofs.YtjakkmioofbcaaaDoor
open Go.RowKit
def sameB (s t : St) : Bool := decide (s.k = t.k) && decide (s.op = t.op ∧ s.nm = t.nm ∧ s.dt = t.dt) && decide (s.n = t.n) && decide (s.kp = t.kp) && decide (s.c = t.c)
theorem sameB_iff (s t : St) : sameB s t = true ↔ s = t := by
  obtain ⟨k, op, nm, dt, n, kp, c⟩ := s
  obtain ⟨k', op', nm', dt', n', kp', c'⟩ := t
  simp only [sameB, Bool.and_eq_true, decide_eq_true_eq, St.mk.injEq]
  constructor
  · rintro ⟨⟨⟨⟨h1, h2, h3, h4⟩, h5⟩, h6⟩, h7⟩
    exact ⟨h1, h2, h3, h4, h5, h6, h7⟩
  · rintro ⟨h1, h2, h3, h4, h5, h6, h7⟩
    exact ⟨⟨⟨⟨h1, h2, h3, h4⟩, h5⟩, h6⟩, h7⟩
theorem eq28b (c d : Fin 13 → Int) (r : Bool) (h : decide (c = d) = r) (W : World) : (binOp .eql 23 (.agg (cfL c).toArray) (.agg (cfL d).toArray)).run Tryd.prog W = .ok (.bool r) W := by
  subst h; exact eq28 c d W
theorem neq28b (c d : Fin 13 → Int) (r : Bool) (h : decide (c = d) = r) (W : World) : (binOp .neq 23 (.agg (cfL c).toArray) (.agg (cfL d).toArray)).run Tryd.prog W = .ok (.bool (!r)) W := by
  subst h; exact neq28 c d W
theorem eq25b (o p : Int) (a b c d : List UInt8) (r : Bool) (h : decide (o = p ∧ a = c ∧ b = d) = r) (W : World) : (binOp .eql 41 (.agg #[.int .i64 o, .string (str a), .string (str b)]) (.agg #[.int .i64 p, .string (str c), .string (str d)])).run Tryd.prog W = .ok (.bool r) W := by
  subst h; exact eq25 o p a b c d W
theorem neq25b (o p : Int) (a b c d : List UInt8) (r : Bool) (h : decide (o = p ∧ a = c ∧ b = d) = r) (W : World) : (binOp .neq 41 (.agg #[.int .i64 o, .string (str a), .string (str b)]) (.agg #[.int .i64 p, .string (str c), .string (str d)])).run Tryd.prog W = .ok (.bool (!r)) W := by
  subst h; exact neq25 o p a b c d W
set_option maxRecDepth 100000 in
set_option maxHeartbeats 4000000 in
theorem rsame6 (s t : St) (A B : Option Addr) (ca cb : Nat) (w : World) (hs : Kp w (.slice A s.kp.length ca) s.kp) (ht : Kp w (.slice B t.kp.length cb) t.kp) (hf : s.kp.length ≤ 1000000) (hg : t.kp.length ≤ 1000000) :
    Calls Tryd.prog 25 #[.agg (s.A (.slice A s.kp.length ca)), .agg (t.A (.slice B t.kp.length cb))] w fun e w' => e = .returned (.bool (sameB s t)) ∧ Below w.heap.size w w' := by
  obtain ⟨k, op, nm, dt, n, kp, c⟩ := s
  obtain ⟨k', op', nm', dt', n', kp', c'⟩ := t
  simp only [St.A] at *
  rw [stA_eq, stA_eq]
  have HSV : Hid (sameB ⟨k, op, nm, dt, n, kp, c⟩ ⟨k', op', nm', dt', n', kp', c'⟩ = (decide (k = k') && decide (op = op' ∧ nm = nm' ∧ dt = dt') && decide (n = n') && decide (kp = kp') && decide (c = c'))) := Lib.hid rfl
  rw [HSV.out]
  clear HSV
  have HB0 : Hid (Below w.heap.size w ((w.alloc (.cells (stL k op nm dt n (.slice A kp.length ca) c).toArray 44)).alloc (.cells (stL k' op' nm' dt' n' (.slice B kp'.length cb) c').toArray 44))) := Lib.hid (((Below.refl _ _).alloc (Nat.le_refl _) _).alloc (by simp) _)
  have HBX : Hid (∀ w', Below (w.heap.size + 2) ((w.alloc (.cells (stL k op nm dt n (.slice A kp.length ca) c).toArray 44)).alloc (.cells (stL k' op' nm' dt' n' (.slice B kp'.length cb) c').toArray 44)) w' → BoxAt w' w.heap.size k op nm dt n (.slice A kp.length ca) (stL k op nm dt n (.slice A kp.length ca) c) (cfL c) ∧ BoxAt w' (w.heap.size + 1) k' op' nm' dt' n' (.slice B kp'.length cb) (stL k' op' nm' dt' n' (.slice B kp'.length cb) c') (cfL c')) := Lib.hid (fun w' hb => ⟨boxAt_of ((hb.block w.heap.size (by omega)).trans ((Below.heap_alloc _ _ _ (by simp)).trans (heap_alloc_new w _))), boxAt_of ((hb.block (w.heap.size + 1) (by omega)).trans (by
    have := heap_alloc_new (w.alloc (.cells (stL k op nm dt n (.slice A kp.length ca) c).toArray 44)) (.cells (stL k' op' nm' dt' n' (.slice B kp'.length cb) c').toArray 44)
    rwa [World.size_alloc] at this))⟩)
  have HK1 : Hid (∀ w', Below w.heap.size w w' → Kp w' (.slice A kp.length ca) kp) := Lib.hid (fun w' hb => hs.below hb)
  have HK2 : Hid (∀ w', Below w.heap.size w w' → Kp w' (.slice B kp'.length cb) kp') := Lib.hid (fun w' hb => ht.below hb)
  have HIC : Hid ((Tryd.prog.info? 23).map (·.size) = some (cfL c).length) := Lib.hid info28
  have HID : Hid ((Tryd.prog.info? 23).map (·.size) = some (cfL c').length) := Lib.hid info28
  have h25 := neq25b op op' nm dt nm' dt' _ rfl
  have h28 := neq28b c c' _ rfl
  have g25 := guard25
  have g28 := guard28
  clear hs ht
  generalize decide (op = op' ∧ nm = nm' ∧ dt = dt') = bc at *
  generalize decide (c = c') = bd at *
  generalize stL k op nm dt n (.slice A kp.length ca) c = L at *
  generalize stL k' op' nm' dt' n' (.slice B kp'.length cb) c' = M at *
  generalize cfL c = CL at *
  generalize cfL c' = CM at *
  obtain ⟨⟨b0, b1, b2, b3, b4, b5, r0, r6⟩, ⟨d0, d1, d2, d3, d4, d5, t0, t6⟩⟩ := HBX.out ((w.alloc (.cells L.toArray 44)).alloc (.cells M.toArray 44)) (Below.refl _ _)
  have HR6 := Lib.hid r6
  have HT6 := Lib.hid t6
  clear r0 t0 r6 t6
  by_cases h1 : k = k'
  case neg =>
    have e1 : (k != k') = true := by simpa using h1
    rw [show decide (k = k') = false by simpa using h1]
    clear h1
    go_enter Tryd.func25, Tryd.ntmps25
    go_wp2
    go_ret
    exact ⟨by simp, HB0.out⟩
  subst h1
  have e1 : (k != k) = false := by simp
  cases bc
  case false =>
    go_enter Tryd.func25, Tryd.ntmps25
    go_wp2
    go_ret
    exact ⟨by simp, HB0.out⟩
  by_cases h3 : n = n'
  case neg =>
    have e2 : (n != n') = true := by simpa using h3
    rw [show decide (n = n') = false by simpa using h3]
    clear h3
    go_enter Tryd.func25, Tryd.ntmps25
    go_wp2
    go_ret
    exact ⟨by simp, HB0.out⟩
  subst h3
  have e2 : (n != n) = false := by simp
  cases bd
  case false =>
    go_enter Tryd.func25, Tryd.ntmps25
    go_wp2_with (first
      | ((with_reducible refine wpList_load_midg (op := ⟨some 27, _, _, _, _, _⟩) ?_ 23 (.tmp 26) rfl w.heap.size 6 ?_ CL _ HR6.out Tryd.underlying23 rfl HIC.out ?_); kernel_rfl; rfl)
      | ((with_reducible refine wpList_load_midg (op := ⟨some 29, _, _, _, _, _⟩) ?_ 23 (.tmp 28) rfl (w.heap.size + 1) 6 ?_ CM _ HT6.out Tryd.underlying23 rfl HID.out ?_); kernel_rfl; rfl))
    go_ret
    exact ⟨by simp, HB0.out⟩
  by_cases h4 : kp.length = kp'.length
  case neg =>
    have e3 : ((kp.length : Int) != (kp'.length : Int)) = true := by simp only [bne_iff_ne, ne_eq]; omega
    rw [show decide (kp = kp') = false by simp only [decide_eq_false_iff_not]; rintro rfl; exact h4 rfl]
    clear h4
    go_enter Tryd.func25, Tryd.ntmps25
    go_wp2_with (first
      | ((with_reducible refine wpList_load_midg (op := ⟨some 27, _, _, _, _, _⟩) ?_ 23 (.tmp 26) rfl w.heap.size 6 ?_ CL _ HR6.out Tryd.underlying23 rfl HIC.out ?_); kernel_rfl; rfl)
      | ((with_reducible refine wpList_load_midg (op := ⟨some 29, _, _, _, _, _⟩) ?_ 23 (.tmp 28) rfl (w.heap.size + 1) 6 ?_ CM _ HT6.out Tryd.underlying23 rfl HID.out ?_); kernel_rfl; rfl))
    go_ret
    exact ⟨by simp, HB0.out⟩
  have e3 : ((kp.length : Int) != (kp'.length : Int)) = false := by simp; omega
  have HNM := Lib.hid h4
  clear h4
  go_enter Tryd.func25, Tryd.ntmps25
  go_wp2_with (first
    | ((with_reducible refine wpList_load_midg (op := ⟨some 27, _, _, _, _, _⟩) ?_ 23 (.tmp 26) rfl w.heap.size 6 ?_ CL _ HR6.out Tryd.underlying23 rfl HIC.out ?_); kernel_rfl; rfl)
    | ((with_reducible refine wpList_load_midg (op := ⟨some 29, _, _, _, _, _⟩) ?_ 23 (.tmp 28) rfl (w.heap.size + 1) 6 ?_ CM _ HT6.out Tryd.underlying23 rfl HID.out ?_); kernel_rfl; rfl))
  go_loopg [5] kp.length (fun gk i wr => ∃ q : Nat, q ≤ kp.length ∧ gk = kp.length - q ∧ i = .int .i64 q ∧ Below (w.heap.size + 2) ((w.alloc (.cells L.toArray 44)).alloc (.cells M.toArray 44)) wr ∧ kp.take q = kp'.take q)
  case atStart => exact ⟨0, Nat.zero_le _, rfl, rfl, Below.refl _ _, by simp⟩
  case round =>
    obtain ⟨q, hq, hgk, rfl, hbw, htk⟩ := hrel
    have HK := Lib.hid hgk
    have HBW := Lib.hid hbw
    have HTK := Lib.hid htk
    have HB1 := Lib.hid (HB0.out.trans (hbw.mono (by omega)))
    have hk1 := HK1.out wr HB1.out
    have hk2 := HK2.out wr HB1.out
    obtain ⟨⟨_, _, _, _, _, f5, _, _⟩, ⟨_, _, _, _, _, g5, _, _⟩⟩ := HBX.out wr hbw
    clear hgk htk hbw
    by_cases hlt : q < kp.length
    · obtain ⟨b1, o1, c1, e1', hb1, hc1⟩ := hk1.2 (by intro e; subst e; simp at hlt)
      obtain ⟨b2, o2, c2, e2', hb2, hc2⟩ := hk2.2 (by intro e; have := HNM.out; rw [e] at this; simp at this; rw [this] at hlt; simp at hlt)
      injection e1' with e4 _ e6
      injection e2' with e5 _ e7
      subst e4
      subst e5
      have q1 := hc1 q hlt
      have q2 := hc2 q (by have := HNM.out; omega)
      have HX : Hid (kp[q]? = some (kp.getD q false)) := Lib.hid (by simp [List.getD, hlt])
      have HY : Hid (kp'[q]? = some (kp'.getD q false)) := Lib.hid (by have := HNM.out; simp [List.getD, show q < kp'.length by omega])
      generalize kp.getD q false = x at *
      generalize kp'.getD q false = y at *
      have hk0 : (0 : Int) ≤ (q : Int) := by omega
      have hk3 : (q : Int) < (kp.length : Int) := by omega
      have hk4 : (q : Int) < (kp'.length : Int) := by have := HNM.out; omega
      clear hc1 hc2 hk1 hk2 e6 e7 hb1 hb2
      by_cases hxy : x = y
      · have HTK2 : Hid (kp.take (q + 1) = kp'.take (q + 1)) := by
          show _ = _
          rw [List.take_add_one, List.take_add_one, HTK.out, HX.out, HY.out, hxy]
        subst hxy
        go_wp2
        go_quiet (fail)
        go_wp2
        go_roundg (kp.length - (q + 1))
        case measure => rw [HK.out]; omega
        case rel => exact ⟨q + 1, by omega, rfl, by go_num, below_drewN HBW.out _, HTK2.out⟩
      · have hne : decide (kp = kp') = false := by
          simp only [decide_eq_false_iff_not]
          intro e
          have h := HX.out
          rw [e, HY.out] at h
          injection h with h
          exact hxy h.symm
        have HNE := Lib.hid hne
        have hbb : (x == y) = false := by simpa using hxy
        clear hxy hne
        go_wp2
        go_quiet (fail)
        go_wp2
        go_ret
        exact ⟨by rw [HNE.out]; simp, below_drewN HB1.out _⟩
    · have he : decide (kp = kp') = true := by
        have := HTK.out
        have h3 := HNM.out
        rw [List.take_of_length_le (by omega), List.take_of_length_le (by omega)] at this
        simpa using this
      have HE := Lib.hid he
      clear he hk1 hk2
      go_wp2
      go_ret
      exact ⟨by rw [HE.out]; simp, HB1.out⟩
end Go.Proofs.YtjakkmioofbcaaaDoor
