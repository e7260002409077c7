/- The walk over the reference's May. -/
import Derived.Test.YtjakkmioofbcaaaDoorC5
import Derived.Deep.WholeRow
namespace Go.Proofs.YtjakkmioofbcaaaDoor
open Go.RowKit
/-- a whole value goes into the block that was made last -/
theorem wpList_store_new {P : Program} {ops : Array Oper} {rest : List Oper} {op : Oper} {a : Act} {w : World} {Q : Exit → Act → World → Prop} (hgd : op.guard = none) (ty : TypeId) (x y : Operand) (ho : op.op = .store ty x y)
    (g : Nat) (c c' : Array Value) (hg : g = w.heap.size) (hx : a.eval x = .pointer (some ⟨g, 0, none⟩)) (hy : a.eval y = .agg c') (hi : (P.info? ty).map (·.size) = some c'.size) (hs : c.size = c'.size) (h1 : c'.all (·.oneCell') = true)
    (h : wpList P ops Q rest (a.put op.dst undef) (w.alloc (.cells c' ty))) : wpList P ops Q (op :: rest) a (w.alloc (.cells c ty)) :=
  wpList_plain hgd fun _ hK => by
    subst hg
    have hr := run_storeAt_new (P := P) w ty c c' hi hs h1
    unfold Oper.wp execOp
    simp only [ho, hx, hy, hr, Sem.run_bind, Sem.run_pure, Result.andThen_ok]
    exact hK _ _ h
def onlyS (s : St) : St := if s.k = 1 then ⟨1, s.op, s.nm, s.dt, 0, [], c0⟩ else if s.k = 2 then ⟨2, 0, [], [], s.n, [], c0⟩ else if s.k = 3 then ⟨3, 0, [], [], 0, s.kp, c0⟩ else ⟨s.k, 0, [], [], 0, [], s.c⟩
def mayR (s : St) : Bool :=
  if s.k = 1 then sameB (onlyS s) s && rcallB s.op s.nm s.dt && decide ((lineL s).length ≤ 65536)
  else if s.k = 2 then sameB (onlyS s) s && decide (0 ≤ s.n) && decide (s.n ≤ 9999)
  else if s.k = 3 then sameB (onlyS s) s && decide ((lineL s).length ≤ 65536)
  else if s.k = 4 then sameB (onlyS s) s && fitB (cfI s.c)
  else false
set_option maxRecDepth 100000 in
set_option maxHeartbeats 4000000 in
theorem rmay15_1 (s : St) (A : Option Addr) (cap : Nat) (w : World) (hk : Kp w (.slice A s.kp.length cap) s.kp) (hf : Fits s) (hkk : s.k = 1) :
    Calls Tryd.prog 36 #[.agg (s.A (.slice A s.kp.length cap))] w fun e w' => e = .returned (.bool (mayR s)) ∧ Below w.heap.size w w' := by
  obtain ⟨k, op, nm, dt, n, kp, c⟩ := s
  simp only [St.A, Fits] at *
  rw [stA_eq]
  have HKP : Hid (∀ w', Below w.heap.size w w' → Kp w' (.slice A kp.length cap) kp) := Lib.hid (fun w' hb => hk.below hb)
  have HBX : Hid (∀ w', Below (w.heap.size + 1) (w.alloc (.cells (stL k op nm dt n (.slice A kp.length cap) c).toArray 44)) w' → BoxAt w' w.heap.size k op nm dt n (.slice A kp.length cap) (stL k op nm dt n (.slice A kp.length cap) c) (cfL c)) := Lib.hid (fun w' hb => boxAt_of ((hb.block w.heap.size (by omega)).trans (heap_alloc_new w _)))
  have HI : Hid ((Tryd.prog.info? 44).map (·.size) = some (stL k op nm dt n (.slice A kp.length cap) c).length) := Lib.hid info30
  have HIC : Hid ((Tryd.prog.info? 23).map (·.size) = some (cfL c).length) := Lib.hid info28
  have HLN : Hid ((1 ≤ k ∧ k ≤ 4) → (k = 2 → 0 ≤ n ∧ n ≤ 2147483647) → (k = 4 → ∀ i, 0 ≤ c i ∧ c i ≤ 2147483647) → ∀ w', Below w.heap.size w w' → Calls Tryd.prog 37 #[.agg (stL k op nm dt n (.slice A kp.length cap) c).toArray] w' fun e w'' => e = .returned (.string (str (lineL ⟨k, op, nm, dt, n, kp, c⟩))) ∧ Below w'.heap.size w' w'') := Lib.hid (fun h1 h2 h3 w' hb => rline21 ⟨k, op, nm, dt, n, kp, c⟩ A cap w' (hk.below hb) hf h1 h2 h3)
  have HSM : Hid (∀ (t : St) (B : Option Addr) (cb : Nat) w', Below w.heap.size w w' → Kp w' (.slice B t.kp.length cb) t.kp → t.kp.length ≤ 1000000 → Calls Tryd.prog 25 #[.agg (t.A (.slice B t.kp.length cb)), .agg (stL k op nm dt n (.slice A kp.length cap) c).toArray] w' fun e w'' => e = .returned (.bool (sameB t ⟨k, op, nm, dt, n, kp, c⟩)) ∧ Below w'.heap.size w' w'') := Lib.hid (fun t B cb w' hb h1 h2 => rsame6 t ⟨k, op, nm, dt, n, kp, c⟩ B A cb cap w' h1 (hk.below hb) h2 (by have := hf.2.2; show kp.length ≤ 1000000; omega))
  have HNM : Hid (∀ w, Calls Tryd.prog 35 #[.agg (cfL c).toArray] w fun e w' => ∃ v, e = .returned v ∧ Is w' v (cfI c) ∧ Below w.heap.size w w') := Lib.hid (fun w => rnumbers29 c w)
  have hls : (str (lineL ⟨k, op, nm, dt, n, kp, c⟩)).size = (lineL ⟨k, op, nm, dt, n, kp, c⟩).length := str_size _
  have HF := Lib.hid hf
  clear hk hf
  have k1 : k = 1 := hkk
  clear hkk
  case' _ =>
    subst k1
    have HMR : Hid (mayR ⟨1, op, nm, dt, n, kp, c⟩ = (sameB ⟨1, op, nm, dt, 0, [], c0⟩ ⟨1, op, nm, dt, n, kp, c⟩ && rcallB op nm dt && decide ((lineL ⟨1, op, nm, dt, n, kp, c⟩).length ≤ 65536))) := Lib.hid rfl
    rw [HMR.out]
    clear HMR
    generalize stL 1 op nm dt n (.slice A kp.length cap) c = L at *
    generalize cfL c = CL at *
    have HB : Hid (Below w.heap.size w ((w.alloc (.cells L.toArray 44)).alloc (.cells #[.int .i64 1, .int .i64 op, .string (str nm), .string (str dt), .int .i64 0, .slice none 0 0, .int .i64 0, .int .i64 0, .int .i64 0, .int .i64 0, .int .i64 0, .int .i64 0, .int .i64 0, .int .i64 0, .int .i64 0, .int .i64 0, .int .i64 0, .int .i64 0, .int .i64 0] 44))) := Lib.hid (((Below.refl _ _).alloc (Nat.le_refl _) _).alloc (by simp) _)
    have HB1 : Hid (Below (w.heap.size + 1) (w.alloc (.cells L.toArray 44)) ((w.alloc (.cells L.toArray 44)).alloc (.cells #[.int .i64 1, .int .i64 op, .string (str nm), .string (str dt), .int .i64 0, .slice none 0 0, .int .i64 0, .int .i64 0, .int .i64 0, .int .i64 0, .int .i64 0, .int .i64 0, .int .i64 0, .int .i64 0, .int .i64 0, .int .i64 0, .int .i64 0, .int .i64 0, .int .i64 0] 44))) := Lib.hid ((Below.refl _ _).alloc (by simp) _)
    have HS := Lib.hid (HSM.out ⟨1, op, nm, dt, 0, [], c0⟩ none 0 ((w.alloc (.cells L.toArray 44)).alloc (.cells #[.int .i64 1, .int .i64 op, .string (str nm), .string (str dt), .int .i64 0, .slice none 0 0, .int .i64 0, .int .i64 0, .int .i64 0, .int .i64 0, .int .i64 0, .int .i64 0, .int .i64 0, .int .i64 0, .int .i64 0, .int .i64 0, .int .i64 0, .int .i64 0, .int .i64 0] 44)) HB.out (Kp.nil _) (by simp))
    have HR3 : Hid (((w.alloc (.cells L.toArray 44)).alloc (.cells #[.int .i64 1, .int .i64 op, .string (str nm), .string (str dt), .int .i64 0, .slice none 0 0, .int .i64 0, .int .i64 0, .int .i64 0, .int .i64 0, .int .i64 0, .int .i64 0, .int .i64 0, .int .i64 0, .int .i64 0, .int .i64 0, .int .i64 0, .int .i64 0, .int .i64 0] 44)).rangeAt (w.heap.size + 1) 0 (stL 1 op nm dt 0 (.slice none 0 0) c0)) := Lib.hid (range_of_row (by have := heap_alloc_new (w.alloc (.cells L.toArray 44)) (.cells (stL 1 op nm dt 0 (.slice none 0 0) c0).toArray 44); rwa [World.size_alloc] at this))
    have HI3 : Hid ((Tryd.prog.info? 44).map (·.size) = some (stL 1 op nm dt 0 (.slice none 0 0) c0).length) := Lib.hid info30
    have HS2 : Hid (Calls Tryd.prog 25 #[.agg (stL 1 op nm dt 0 (.slice none 0 0) c0).toArray, .agg L.toArray] ((w.alloc (.cells L.toArray 44)).alloc (.cells #[.int .i64 1, .int .i64 op, .string (str nm), .string (str dt), .int .i64 0, .slice none 0 0, .int .i64 0, .int .i64 0, .int .i64 0, .int .i64 0, .int .i64 0, .int .i64 0, .int .i64 0, .int .i64 0, .int .i64 0, .int .i64 0, .int .i64 0, .int .i64 0, .int .i64 0] 44)) fun e w'' => e = .returned (.bool (sameB ⟨1, op, nm, dt, 0, [], c0⟩ ⟨1, op, nm, dt, n, kp, c⟩)) ∧ Below (w.heap.size + 2) ((w.alloc (.cells L.toArray 44)).alloc (.cells #[.int .i64 1, .int .i64 op, .string (str nm), .string (str dt), .int .i64 0, .slice none 0 0, .int .i64 0, .int .i64 0, .int .i64 0, .int .i64 0, .int .i64 0, .int .i64 0, .int .i64 0, .int .i64 0, .int .i64 0, .int .i64 0, .int .i64 0, .int .i64 0, .int .i64 0] 44)) w'') := Lib.hid (HS.out.mono fun e w'' h => ⟨h.1, h.2.mono (by simp)⟩)
    generalize stL 1 op nm dt 0 (.slice none 0 0) c0 = M at *
    generalize sameB ⟨1, op, nm, dt, 0, [], c0⟩ ⟨1, op, nm, dt, n, kp, c⟩ = bs at *
    obtain ⟨b0, b1, b2, b3, b4, b5, r0, r6⟩ := HBX.out (w.alloc (.cells L.toArray 44)) (Below.refl _ _)
    have HR0 := Lib.hid (HBX.out _ HB1.out).r0
    obtain ⟨a0, a1, a2, a3, a4, a5, s0, s6⟩ := HBX.out ((w.alloc (.cells L.toArray 44)).alloc (.cells #[.int .i64 1, .int .i64 0, .string ⟨#[]⟩, .string ⟨#[]⟩, .int .i64 0, .slice none 0 0, .int .i64 0, .int .i64 0, .int .i64 0, .int .i64 0, .int .i64 0, .int .i64 0, .int .i64 0, .int .i64 0, .int .i64 0, .int .i64 0, .int .i64 0, .int .i64 0, .int .i64 0] 44)) ((Below.refl _ _).alloc (by simp) _)
    clear r0 r6 s0 s6 HS HSM
    have HO : Hid ((#[.int .i64 1, .int .i64 0, .string ⟨#[]⟩, .string ⟨#[]⟩, .int .i64 0, .slice none 0 0, .int .i64 0, .int .i64 0, .int .i64 0, .int .i64 0, .int .i64 0, .int .i64 0, .int .i64 0, .int .i64 0, .int .i64 0, .int .i64 0, .int .i64 0, .int .i64 0, .int .i64 0] : Array Value).all (·.oneCell') = true) := Lib.hid (by simp [Value.oneCell'])
    generalize lineL ⟨1, op, nm, dt, n, kp, c⟩ = LL at *
    cases bs
    case false =>
      go_enter Tryd.func36, Tryd.ntmps36
      go_wp2_with (first
        | ((with_reducible refine wpList_store_new (op := ⟨none, _, _, _, _, _⟩) rfl 44 (.tmp 3) (.tmp 6) rfl (w.heap.size + 1) _ _ ?_ ?_ ?_ ?_ ?_ HO.out ?_); exact (World.size_alloc _ _).symm; rfl; rfl; exact info30; rfl)
        | ((with_reducible refine wpList_load_midg (op := ⟨some 14, _, _, _, _, _⟩) ?_ 44 (.tmp 3) rfl (w.heap.size + 1) 0 ?_ M _ HR3.out Tryd.underlying44 rfl HI3.out ?_); kernel_rfl; rfl)
        | ((with_reducible refine wpList_load_midg (op := ⟨some 15, _, _, _, _, _⟩) ?_ 44 (.tmp 1) rfl w.heap.size 0 ?_ L _ HR0.out Tryd.underlying44 rfl HI.out ?_); kernel_rfl; rfl)
        | (go_at_call 25; refine HS2.out.mono ?_; rintro e w2 ⟨rfl, hb⟩; have HB2 := Lib.hid (HB.out.trans (hb.mono (by omega))); have HB3 := Lib.hid (HB1.out.trans (hb.mono (by omega))); obtain ⟨d0, d1, d2, d3, d4, d5, t0, t6⟩ := HBX.out w2 HB3.out; have HT0 := Lib.hid t0; have HT6 := Lib.hid t6; clear hb t0 t6))
      go_ret
      exact ⟨by simp, HB2.out⟩
    have HC := Lib.hid (rcall27 op nm dt)
    generalize rcallB op nm dt = bc at *
    cases bc
    case false =>
      go_enter Tryd.func36, Tryd.ntmps36
      go_wp2_with (first
        | ((with_reducible refine wpList_store_new (op := ⟨none, _, _, _, _, _⟩) rfl 44 (.tmp 3) (.tmp 6) rfl (w.heap.size + 1) _ _ ?_ ?_ ?_ ?_ ?_ HO.out ?_); exact (World.size_alloc _ _).symm; rfl; rfl; exact info30; rfl)
        | ((with_reducible refine wpList_load_midg (op := ⟨some 14, _, _, _, _, _⟩) ?_ 44 (.tmp 3) rfl (w.heap.size + 1) 0 ?_ M _ HR3.out Tryd.underlying44 rfl HI3.out ?_); kernel_rfl; rfl)
        | ((with_reducible refine wpList_load_midg (op := ⟨some 15, _, _, _, _, _⟩) ?_ 44 (.tmp 1) rfl w.heap.size 0 ?_ L _ HR0.out Tryd.underlying44 rfl HI.out ?_); kernel_rfl; rfl)
        | (go_at_call 25; refine HS2.out.mono ?_; rintro e w2 ⟨rfl, hb⟩; have HB2 := Lib.hid (HB.out.trans (hb.mono (by omega))); have HB3 := Lib.hid (HB1.out.trans (hb.mono (by omega))); obtain ⟨d0, d1, d2, d3, d4, d5, t0, t6⟩ := HBX.out w2 HB3.out; have HT0 := Lib.hid t0; have HT6 := Lib.hid t6; clear hb t0 t6)
        | (go_at_call 58; refine (HC.out _).mono ?_; rintro e w3 ⟨rfl, hb3⟩; have HB4 := Lib.hid (HB2.out.trans (hb3.mono HB2.out.size)); have HB5 := Lib.hid (HB3.out.trans (hb3.mono (by have := HB3.out.size; simpa using this))); have HU0 := Lib.hid (HBX.out w3 HB5.out).r0; clear hb3))
      go_ret
      exact ⟨by simp, HB4.out⟩
    by_cases hl : LL.length ≤ 65536
    case neg =>
      rw [show decide (LL.length ≤ 65536) = false by simpa using hl]
      have m1 : decide ((LL.length : Int) ≤ (65536 : Int)) = false := by simp; omega
      clear hl
      go_enter Tryd.func36, Tryd.ntmps36
      go_wp2_with (first
        | ((with_reducible refine wpList_store_new (op := ⟨none, _, _, _, _, _⟩) rfl 44 (.tmp 3) (.tmp 6) rfl (w.heap.size + 1) _ _ ?_ ?_ ?_ ?_ ?_ HO.out ?_); exact (World.size_alloc _ _).symm; rfl; rfl; exact info30; rfl)
        | ((with_reducible refine wpList_load_midg (op := ⟨some 14, _, _, _, _, _⟩) ?_ 44 (.tmp 3) rfl (w.heap.size + 1) 0 ?_ M _ HR3.out Tryd.underlying44 rfl HI3.out ?_); kernel_rfl; rfl)
        | ((with_reducible refine wpList_load_midg (op := ⟨some 15, _, _, _, _, _⟩) ?_ 44 (.tmp 1) rfl w.heap.size 0 ?_ L _ HR0.out Tryd.underlying44 rfl HI.out ?_); kernel_rfl; rfl)
        | (go_at_call 25; refine HS2.out.mono ?_; rintro e w2 ⟨rfl, hb⟩; have HB2 := Lib.hid (HB.out.trans (hb.mono (by omega))); have HB3 := Lib.hid (HB1.out.trans (hb.mono (by omega))); obtain ⟨d0, d1, d2, d3, d4, d5, t0, t6⟩ := HBX.out w2 HB3.out; have HT0 := Lib.hid t0; have HT6 := Lib.hid t6; clear hb t0 t6)
        | (go_at_call 58; refine (HC.out _).mono ?_; rintro e w3 ⟨rfl, hb3⟩; have HB4 := Lib.hid (HB2.out.trans (hb3.mono HB2.out.size)); have HB5 := Lib.hid (HB3.out.trans (hb3.mono (by have := HB3.out.size; simpa using this))); have HU0 := Lib.hid (HBX.out w3 HB5.out).r0; clear hb3)
        | ((with_reducible refine wpList_load_midg (op := ⟨some 23, _, _, _, _, _⟩) ?_ 44 (.tmp 1) rfl w.heap.size 0 ?_ L _ HU0.out Tryd.underlying44 rfl HI.out ?_); kernel_rfl; rfl)
        | (go_at_call 37; refine (HLN.out (by omega) (by omega) (by omega) _ HB4.out).mono ?_; rintro e w4 ⟨rfl, hb4⟩))
      go_ret
      exact ⟨by simp, HB4.out.trans (hb4.mono HB4.out.size)⟩
    rw [show decide (LL.length ≤ 65536) = true by simpa using hl]
    have m1 : decide ((LL.length : Int) ≤ (65536 : Int)) = true := by simp; omega
    clear hl
    go_enter Tryd.func36, Tryd.ntmps36
    go_wp2_with (first
      | ((with_reducible refine wpList_store_new (op := ⟨none, _, _, _, _, _⟩) rfl 44 (.tmp 3) (.tmp 6) rfl (w.heap.size + 1) _ _ ?_ ?_ ?_ ?_ ?_ HO.out ?_); exact (World.size_alloc _ _).symm; rfl; rfl; exact info30; rfl)
      | ((with_reducible refine wpList_load_midg (op := ⟨some 14, _, _, _, _, _⟩) ?_ 44 (.tmp 3) rfl (w.heap.size + 1) 0 ?_ M _ HR3.out Tryd.underlying44 rfl HI3.out ?_); kernel_rfl; rfl)
      | ((with_reducible refine wpList_load_midg (op := ⟨some 15, _, _, _, _, _⟩) ?_ 44 (.tmp 1) rfl w.heap.size 0 ?_ L _ HR0.out Tryd.underlying44 rfl HI.out ?_); kernel_rfl; rfl)
      | (go_at_call 25; refine HS2.out.mono ?_; rintro e w2 ⟨rfl, hb⟩; have HB2 := Lib.hid (HB.out.trans (hb.mono (by omega))); have HB3 := Lib.hid (HB1.out.trans (hb.mono (by omega))); obtain ⟨d0, d1, d2, d3, d4, d5, t0, t6⟩ := HBX.out w2 HB3.out; have HT0 := Lib.hid t0; have HT6 := Lib.hid t6; clear hb t0 t6)
      | (go_at_call 58; refine (HC.out _).mono ?_; rintro e w3 ⟨rfl, hb3⟩; have HB4 := Lib.hid (HB2.out.trans (hb3.mono HB2.out.size)); have HB5 := Lib.hid (HB3.out.trans (hb3.mono (by have := HB3.out.size; simpa using this))); have HU0 := Lib.hid (HBX.out w3 HB5.out).r0; clear hb3)
      | ((with_reducible refine wpList_load_midg (op := ⟨some 23, _, _, _, _, _⟩) ?_ 44 (.tmp 1) rfl w.heap.size 0 ?_ L _ HU0.out Tryd.underlying44 rfl HI.out ?_); kernel_rfl; rfl)
      | (go_at_call 37; refine (HLN.out (by omega) (by omega) (by omega) _ HB4.out).mono ?_; rintro e w4 ⟨rfl, hb4⟩))
    go_ret
    exact ⟨by simp, HB4.out.trans (hb4.mono HB4.out.size)⟩
set_option maxRecDepth 100000 in
set_option maxHeartbeats 4000000 in
theorem rmay15_2 (s : St) (A : Option Addr) (cap : Nat) (w : World) (hk : Kp w (.slice A s.kp.length cap) s.kp) (hf : Fits s) (hkk : s.k = 2) :
    Calls Tryd.prog 36 #[.agg (s.A (.slice A s.kp.length cap))] w fun e w' => e = .returned (.bool (mayR s)) ∧ Below w.heap.size w w' := by
  obtain ⟨k, op, nm, dt, n, kp, c⟩ := s
  simp only [St.A, Fits] at *
  rw [stA_eq]
  have HKP : Hid (∀ w', Below w.heap.size w w' → Kp w' (.slice A kp.length cap) kp) := Lib.hid (fun w' hb => hk.below hb)
  have HBX : Hid (∀ w', Below (w.heap.size + 1) (w.alloc (.cells (stL k op nm dt n (.slice A kp.length cap) c).toArray 44)) w' → BoxAt w' w.heap.size k op nm dt n (.slice A kp.length cap) (stL k op nm dt n (.slice A kp.length cap) c) (cfL c)) := Lib.hid (fun w' hb => boxAt_of ((hb.block w.heap.size (by omega)).trans (heap_alloc_new w _)))
  have HI : Hid ((Tryd.prog.info? 44).map (·.size) = some (stL k op nm dt n (.slice A kp.length cap) c).length) := Lib.hid info30
  have HIC : Hid ((Tryd.prog.info? 23).map (·.size) = some (cfL c).length) := Lib.hid info28
  have HLN : Hid ((1 ≤ k ∧ k ≤ 4) → (k = 2 → 0 ≤ n ∧ n ≤ 2147483647) → (k = 4 → ∀ i, 0 ≤ c i ∧ c i ≤ 2147483647) → ∀ w', Below w.heap.size w w' → Calls Tryd.prog 37 #[.agg (stL k op nm dt n (.slice A kp.length cap) c).toArray] w' fun e w'' => e = .returned (.string (str (lineL ⟨k, op, nm, dt, n, kp, c⟩))) ∧ Below w'.heap.size w' w'') := Lib.hid (fun h1 h2 h3 w' hb => rline21 ⟨k, op, nm, dt, n, kp, c⟩ A cap w' (hk.below hb) hf h1 h2 h3)
  have HSM : Hid (∀ (t : St) (B : Option Addr) (cb : Nat) w', Below w.heap.size w w' → Kp w' (.slice B t.kp.length cb) t.kp → t.kp.length ≤ 1000000 → Calls Tryd.prog 25 #[.agg (t.A (.slice B t.kp.length cb)), .agg (stL k op nm dt n (.slice A kp.length cap) c).toArray] w' fun e w'' => e = .returned (.bool (sameB t ⟨k, op, nm, dt, n, kp, c⟩)) ∧ Below w'.heap.size w' w'') := Lib.hid (fun t B cb w' hb h1 h2 => rsame6 t ⟨k, op, nm, dt, n, kp, c⟩ B A cb cap w' h1 (hk.below hb) h2 (by have := hf.2.2; show kp.length ≤ 1000000; omega))
  have HNM : Hid (∀ w, Calls Tryd.prog 35 #[.agg (cfL c).toArray] w fun e w' => ∃ v, e = .returned v ∧ Is w' v (cfI c) ∧ Below w.heap.size w w') := Lib.hid (fun w => rnumbers29 c w)
  have hls : (str (lineL ⟨k, op, nm, dt, n, kp, c⟩)).size = (lineL ⟨k, op, nm, dt, n, kp, c⟩).length := str_size _
  have HF := Lib.hid hf
  clear hk hf
  have k2 : k = 2 := hkk
  clear hkk
  case' _ =>
    subst k2
    have HMR : Hid (mayR ⟨2, op, nm, dt, n, kp, c⟩ = (sameB ⟨2, 0, [], [], n, [], c0⟩ ⟨2, op, nm, dt, n, kp, c⟩ && decide (0 ≤ n) && decide (n ≤ 9999))) := Lib.hid rfl
    rw [HMR.out]
    clear HMR
    generalize stL 2 op nm dt n (.slice A kp.length cap) c = L at *
    generalize cfL c = CL at *
    have HB : Hid (Below w.heap.size w ((w.alloc (.cells L.toArray 44)).alloc (.cells #[.int .i64 2, .int .i64 0, .string ⟨#[]⟩, .string ⟨#[]⟩, .int .i64 n, .slice none 0 0, .int .i64 0, .int .i64 0, .int .i64 0, .int .i64 0, .int .i64 0, .int .i64 0, .int .i64 0, .int .i64 0, .int .i64 0, .int .i64 0, .int .i64 0, .int .i64 0, .int .i64 0] 44))) := Lib.hid (((Below.refl _ _).alloc (Nat.le_refl _) _).alloc (by simp) _)
    have HB1 : Hid (Below (w.heap.size + 1) (w.alloc (.cells L.toArray 44)) ((w.alloc (.cells L.toArray 44)).alloc (.cells #[.int .i64 2, .int .i64 0, .string ⟨#[]⟩, .string ⟨#[]⟩, .int .i64 n, .slice none 0 0, .int .i64 0, .int .i64 0, .int .i64 0, .int .i64 0, .int .i64 0, .int .i64 0, .int .i64 0, .int .i64 0, .int .i64 0, .int .i64 0, .int .i64 0, .int .i64 0, .int .i64 0] 44))) := Lib.hid ((Below.refl _ _).alloc (by simp) _)
    have HS := Lib.hid (HSM.out ⟨2, 0, [], [], n, [], c0⟩ none 0 ((w.alloc (.cells L.toArray 44)).alloc (.cells #[.int .i64 2, .int .i64 0, .string ⟨#[]⟩, .string ⟨#[]⟩, .int .i64 n, .slice none 0 0, .int .i64 0, .int .i64 0, .int .i64 0, .int .i64 0, .int .i64 0, .int .i64 0, .int .i64 0, .int .i64 0, .int .i64 0, .int .i64 0, .int .i64 0, .int .i64 0, .int .i64 0] 44)) HB.out (Kp.nil _) (by simp))
    have HR3 : Hid (((w.alloc (.cells L.toArray 44)).alloc (.cells #[.int .i64 2, .int .i64 0, .string ⟨#[]⟩, .string ⟨#[]⟩, .int .i64 n, .slice none 0 0, .int .i64 0, .int .i64 0, .int .i64 0, .int .i64 0, .int .i64 0, .int .i64 0, .int .i64 0, .int .i64 0, .int .i64 0, .int .i64 0, .int .i64 0, .int .i64 0, .int .i64 0] 44)).rangeAt (w.heap.size + 1) 0 (stL 2 0 [] [] n (.slice none 0 0) c0)) := Lib.hid (range_of_row (by have := heap_alloc_new (w.alloc (.cells L.toArray 44)) (.cells (stL 2 0 [] [] n (.slice none 0 0) c0).toArray 44); rwa [World.size_alloc] at this))
    have HI3 : Hid ((Tryd.prog.info? 44).map (·.size) = some (stL 2 0 [] [] n (.slice none 0 0) c0).length) := Lib.hid info30
    have HS2 : Hid (Calls Tryd.prog 25 #[.agg (stL 2 0 [] [] n (.slice none 0 0) c0).toArray, .agg L.toArray] ((w.alloc (.cells L.toArray 44)).alloc (.cells #[.int .i64 2, .int .i64 0, .string ⟨#[]⟩, .string ⟨#[]⟩, .int .i64 n, .slice none 0 0, .int .i64 0, .int .i64 0, .int .i64 0, .int .i64 0, .int .i64 0, .int .i64 0, .int .i64 0, .int .i64 0, .int .i64 0, .int .i64 0, .int .i64 0, .int .i64 0, .int .i64 0] 44)) fun e w'' => e = .returned (.bool (sameB ⟨2, 0, [], [], n, [], c0⟩ ⟨2, op, nm, dt, n, kp, c⟩)) ∧ Below (w.heap.size + 2) ((w.alloc (.cells L.toArray 44)).alloc (.cells #[.int .i64 2, .int .i64 0, .string ⟨#[]⟩, .string ⟨#[]⟩, .int .i64 n, .slice none 0 0, .int .i64 0, .int .i64 0, .int .i64 0, .int .i64 0, .int .i64 0, .int .i64 0, .int .i64 0, .int .i64 0, .int .i64 0, .int .i64 0, .int .i64 0, .int .i64 0, .int .i64 0] 44)) w'') := Lib.hid (HS.out.mono fun e w'' h => ⟨h.1, h.2.mono (by simp)⟩)
    generalize stL 2 0 [] [] n (.slice none 0 0) c0 = M at *
    generalize sameB ⟨2, 0, [], [], n, [], c0⟩ ⟨2, op, nm, dt, n, kp, c⟩ = bs at *
    obtain ⟨b0, b1, b2, b3, b4, b5, r0, r6⟩ := HBX.out (w.alloc (.cells L.toArray 44)) (Below.refl _ _)
    have HR0 := Lib.hid (HBX.out _ HB1.out).r0
    obtain ⟨a0, a1, a2, a3, a4, a5, s0, s6⟩ := HBX.out ((w.alloc (.cells L.toArray 44)).alloc (.cells #[.int .i64 2, .int .i64 0, .string ⟨#[]⟩, .string ⟨#[]⟩, .int .i64 0, .slice none 0 0, .int .i64 0, .int .i64 0, .int .i64 0, .int .i64 0, .int .i64 0, .int .i64 0, .int .i64 0, .int .i64 0, .int .i64 0, .int .i64 0, .int .i64 0, .int .i64 0, .int .i64 0] 44)) ((Below.refl _ _).alloc (by simp) _)
    clear r0 r6 s0 s6 HS HSM
    have HO : Hid ((#[.int .i64 2, .int .i64 0, .string ⟨#[]⟩, .string ⟨#[]⟩, .int .i64 0, .slice none 0 0, .int .i64 0, .int .i64 0, .int .i64 0, .int .i64 0, .int .i64 0, .int .i64 0, .int .i64 0, .int .i64 0, .int .i64 0, .int .i64 0, .int .i64 0, .int .i64 0, .int .i64 0] : Array Value).all (·.oneCell') = true) := Lib.hid (by simp [Value.oneCell'])
    generalize lineL ⟨2, op, nm, dt, n, kp, c⟩ = LL at *
    cases bs
    case false =>
      go_enter Tryd.func36, Tryd.ntmps36
      go_wp2_with (first
        | ((with_reducible refine wpList_store_new (op := ⟨none, _, _, _, _, _⟩) rfl 44 (.tmp 3) (.tmp 6) rfl (w.heap.size + 1) _ _ ?_ ?_ ?_ ?_ ?_ HO.out ?_); exact (World.size_alloc _ _).symm; rfl; rfl; exact info30; rfl)
        | ((with_reducible refine wpList_load_midg (op := ⟨some 33, _, _, _, _, _⟩) ?_ 44 (.tmp 3) rfl (w.heap.size + 1) 0 ?_ M _ HR3.out Tryd.underlying44 rfl HI3.out ?_); kernel_rfl; rfl)
        | ((with_reducible refine wpList_load_midg (op := ⟨some 34, _, _, _, _, _⟩) ?_ 44 (.tmp 1) rfl w.heap.size 0 ?_ L _ HR0.out Tryd.underlying44 rfl HI.out ?_); kernel_rfl; rfl)
        | (go_at_call 25; refine HS2.out.mono ?_; rintro e w2 ⟨rfl, hb⟩; have HB2 := Lib.hid (HB.out.trans (hb.mono (by omega))); have HB3 := Lib.hid (HB1.out.trans (hb.mono (by omega))); obtain ⟨d0, d1, d2, d3, d4, d5, t0, t6⟩ := HBX.out w2 HB3.out; have HT0 := Lib.hid t0; have HT6 := Lib.hid t6; clear hb t0 t6))
      go_ret
      exact ⟨by simp, HB2.out⟩
    by_cases n0 : 0 ≤ n
    case neg =>
      rw [show decide (0 ≤ n) = false by simpa using n0]
      have m0 : decide (0 ≤ n) = false := by simpa using n0
      clear n0
      go_enter Tryd.func36, Tryd.ntmps36
      go_wp2_with (first
        | ((with_reducible refine wpList_store_new (op := ⟨none, _, _, _, _, _⟩) rfl 44 (.tmp 3) (.tmp 6) rfl (w.heap.size + 1) _ _ ?_ ?_ ?_ ?_ ?_ HO.out ?_); exact (World.size_alloc _ _).symm; rfl; rfl; exact info30; rfl)
        | ((with_reducible refine wpList_load_midg (op := ⟨some 33, _, _, _, _, _⟩) ?_ 44 (.tmp 3) rfl (w.heap.size + 1) 0 ?_ M _ HR3.out Tryd.underlying44 rfl HI3.out ?_); kernel_rfl; rfl)
        | ((with_reducible refine wpList_load_midg (op := ⟨some 34, _, _, _, _, _⟩) ?_ 44 (.tmp 1) rfl w.heap.size 0 ?_ L _ HR0.out Tryd.underlying44 rfl HI.out ?_); kernel_rfl; rfl)
        | (go_at_call 25; refine HS2.out.mono ?_; rintro e w2 ⟨rfl, hb⟩; have HB2 := Lib.hid (HB.out.trans (hb.mono (by omega))); have HB3 := Lib.hid (HB1.out.trans (hb.mono (by omega))); obtain ⟨d0, d1, d2, d3, d4, d5, t0, t6⟩ := HBX.out w2 HB3.out; have HT0 := Lib.hid t0; have HT6 := Lib.hid t6; clear hb t0 t6))
      go_ret
      exact ⟨by simp, HB2.out⟩
    rw [show decide (0 ≤ n) = true by simpa using n0]
    have m0 : decide (0 ≤ n) = true := by simpa using n0
    clear n0
    by_cases n1 : n ≤ 9999
    case neg =>
      rw [show decide (n ≤ 9999) = false by simpa using n1]
      have m1 : decide (n ≤ 9999) = false := by simpa using n1
      clear n1
      go_enter Tryd.func36, Tryd.ntmps36
      go_wp2_with (first
        | ((with_reducible refine wpList_store_new (op := ⟨none, _, _, _, _, _⟩) rfl 44 (.tmp 3) (.tmp 6) rfl (w.heap.size + 1) _ _ ?_ ?_ ?_ ?_ ?_ HO.out ?_); exact (World.size_alloc _ _).symm; rfl; rfl; exact info30; rfl)
        | ((with_reducible refine wpList_load_midg (op := ⟨some 33, _, _, _, _, _⟩) ?_ 44 (.tmp 3) rfl (w.heap.size + 1) 0 ?_ M _ HR3.out Tryd.underlying44 rfl HI3.out ?_); kernel_rfl; rfl)
        | ((with_reducible refine wpList_load_midg (op := ⟨some 34, _, _, _, _, _⟩) ?_ 44 (.tmp 1) rfl w.heap.size 0 ?_ L _ HR0.out Tryd.underlying44 rfl HI.out ?_); kernel_rfl; rfl)
        | (go_at_call 25; refine HS2.out.mono ?_; rintro e w2 ⟨rfl, hb⟩; have HB2 := Lib.hid (HB.out.trans (hb.mono (by omega))); have HB3 := Lib.hid (HB1.out.trans (hb.mono (by omega))); obtain ⟨d0, d1, d2, d3, d4, d5, t0, t6⟩ := HBX.out w2 HB3.out; have HT0 := Lib.hid t0; have HT6 := Lib.hid t6; clear hb t0 t6))
      go_ret
      exact ⟨by simp, HB2.out⟩
    rw [show decide (n ≤ 9999) = true by simpa using n1]
    have m1 : decide (n ≤ 9999) = true := by simpa using n1
    clear n1
    go_enter Tryd.func36, Tryd.ntmps36
    go_wp2_with (first
      | ((with_reducible refine wpList_store_new (op := ⟨none, _, _, _, _, _⟩) rfl 44 (.tmp 3) (.tmp 6) rfl (w.heap.size + 1) _ _ ?_ ?_ ?_ ?_ ?_ HO.out ?_); exact (World.size_alloc _ _).symm; rfl; rfl; exact info30; rfl)
      | ((with_reducible refine wpList_load_midg (op := ⟨some 33, _, _, _, _, _⟩) ?_ 44 (.tmp 3) rfl (w.heap.size + 1) 0 ?_ M _ HR3.out Tryd.underlying44 rfl HI3.out ?_); kernel_rfl; rfl)
      | ((with_reducible refine wpList_load_midg (op := ⟨some 34, _, _, _, _, _⟩) ?_ 44 (.tmp 1) rfl w.heap.size 0 ?_ L _ HR0.out Tryd.underlying44 rfl HI.out ?_); kernel_rfl; rfl)
      | (go_at_call 25; refine HS2.out.mono ?_; rintro e w2 ⟨rfl, hb⟩; have HB2 := Lib.hid (HB.out.trans (hb.mono (by omega))); have HB3 := Lib.hid (HB1.out.trans (hb.mono (by omega))); obtain ⟨d0, d1, d2, d3, d4, d5, t0, t6⟩ := HBX.out w2 HB3.out; have HT0 := Lib.hid t0; have HT6 := Lib.hid t6; clear hb t0 t6))
    go_ret
    exact ⟨by simp, HB2.out⟩
set_option maxRecDepth 100000 in
set_option maxHeartbeats 4000000 in
theorem rmay15_3 (s : St) (A : Option Addr) (cap : Nat) (w : World) (hk : Kp w (.slice A s.kp.length cap) s.kp) (hf : Fits s) (hkk : s.k = 3) :
    Calls Tryd.prog 36 #[.agg (s.A (.slice A s.kp.length cap))] w fun e w' => e = .returned (.bool (mayR s)) ∧ Below w.heap.size w w' := by
  obtain ⟨k, op, nm, dt, n, kp, c⟩ := s
  simp only [St.A, Fits] at *
  rw [stA_eq]
  have HKP : Hid (∀ w', Below w.heap.size w w' → Kp w' (.slice A kp.length cap) kp) := Lib.hid (fun w' hb => hk.below hb)
  have HBX : Hid (∀ w', Below (w.heap.size + 1) (w.alloc (.cells (stL k op nm dt n (.slice A kp.length cap) c).toArray 44)) w' → BoxAt w' w.heap.size k op nm dt n (.slice A kp.length cap) (stL k op nm dt n (.slice A kp.length cap) c) (cfL c)) := Lib.hid (fun w' hb => boxAt_of ((hb.block w.heap.size (by omega)).trans (heap_alloc_new w _)))
  have HI : Hid ((Tryd.prog.info? 44).map (·.size) = some (stL k op nm dt n (.slice A kp.length cap) c).length) := Lib.hid info30
  have HIC : Hid ((Tryd.prog.info? 23).map (·.size) = some (cfL c).length) := Lib.hid info28
  have HLN : Hid ((1 ≤ k ∧ k ≤ 4) → (k = 2 → 0 ≤ n ∧ n ≤ 2147483647) → (k = 4 → ∀ i, 0 ≤ c i ∧ c i ≤ 2147483647) → ∀ w', Below w.heap.size w w' → Calls Tryd.prog 37 #[.agg (stL k op nm dt n (.slice A kp.length cap) c).toArray] w' fun e w'' => e = .returned (.string (str (lineL ⟨k, op, nm, dt, n, kp, c⟩))) ∧ Below w'.heap.size w' w'') := Lib.hid (fun h1 h2 h3 w' hb => rline21 ⟨k, op, nm, dt, n, kp, c⟩ A cap w' (hk.below hb) hf h1 h2 h3)
  have HSM : Hid (∀ (t : St) (B : Option Addr) (cb : Nat) w', Below w.heap.size w w' → Kp w' (.slice B t.kp.length cb) t.kp → t.kp.length ≤ 1000000 → Calls Tryd.prog 25 #[.agg (t.A (.slice B t.kp.length cb)), .agg (stL k op nm dt n (.slice A kp.length cap) c).toArray] w' fun e w'' => e = .returned (.bool (sameB t ⟨k, op, nm, dt, n, kp, c⟩)) ∧ Below w'.heap.size w' w'') := Lib.hid (fun t B cb w' hb h1 h2 => rsame6 t ⟨k, op, nm, dt, n, kp, c⟩ B A cb cap w' h1 (hk.below hb) h2 (by have := hf.2.2; show kp.length ≤ 1000000; omega))
  have HNM : Hid (∀ w, Calls Tryd.prog 35 #[.agg (cfL c).toArray] w fun e w' => ∃ v, e = .returned v ∧ Is w' v (cfI c) ∧ Below w.heap.size w w') := Lib.hid (fun w => rnumbers29 c w)
  have hls : (str (lineL ⟨k, op, nm, dt, n, kp, c⟩)).size = (lineL ⟨k, op, nm, dt, n, kp, c⟩).length := str_size _
  have HF := Lib.hid hf
  clear hk hf
  have k3 : k = 3 := hkk
  clear hkk
  case' _ =>
    subst k3
    have HMR : Hid (mayR ⟨3, op, nm, dt, n, kp, c⟩ = (sameB ⟨3, 0, [], [], 0, kp, c0⟩ ⟨3, op, nm, dt, n, kp, c⟩ && decide ((lineL ⟨3, op, nm, dt, n, kp, c⟩).length ≤ 65536))) := Lib.hid rfl
    rw [HMR.out]
    clear HMR
    generalize stL 3 op nm dt n (.slice A kp.length cap) c = L at *
    generalize cfL c = CL at *
    have HB : Hid (Below w.heap.size w ((w.alloc (.cells L.toArray 44)).alloc (.cells #[.int .i64 3, .int .i64 0, .string ⟨#[]⟩, .string ⟨#[]⟩, .int .i64 0, .slice A kp.length cap, .int .i64 0, .int .i64 0, .int .i64 0, .int .i64 0, .int .i64 0, .int .i64 0, .int .i64 0, .int .i64 0, .int .i64 0, .int .i64 0, .int .i64 0, .int .i64 0, .int .i64 0] 44))) := Lib.hid (((Below.refl _ _).alloc (Nat.le_refl _) _).alloc (by simp) _)
    have HB1 : Hid (Below (w.heap.size + 1) (w.alloc (.cells L.toArray 44)) ((w.alloc (.cells L.toArray 44)).alloc (.cells #[.int .i64 3, .int .i64 0, .string ⟨#[]⟩, .string ⟨#[]⟩, .int .i64 0, .slice A kp.length cap, .int .i64 0, .int .i64 0, .int .i64 0, .int .i64 0, .int .i64 0, .int .i64 0, .int .i64 0, .int .i64 0, .int .i64 0, .int .i64 0, .int .i64 0, .int .i64 0, .int .i64 0] 44))) := Lib.hid ((Below.refl _ _).alloc (by simp) _)
    have HS := Lib.hid (HSM.out ⟨3, 0, [], [], 0, kp, c0⟩ A cap ((w.alloc (.cells L.toArray 44)).alloc (.cells #[.int .i64 3, .int .i64 0, .string ⟨#[]⟩, .string ⟨#[]⟩, .int .i64 0, .slice A kp.length cap, .int .i64 0, .int .i64 0, .int .i64 0, .int .i64 0, .int .i64 0, .int .i64 0, .int .i64 0, .int .i64 0, .int .i64 0, .int .i64 0, .int .i64 0, .int .i64 0, .int .i64 0] 44)) HB.out (HKP.out _ HB.out) (by have := HF.out.2.2; show kp.length ≤ 1000000; omega))
    have HR3 : Hid (((w.alloc (.cells L.toArray 44)).alloc (.cells #[.int .i64 3, .int .i64 0, .string ⟨#[]⟩, .string ⟨#[]⟩, .int .i64 0, .slice A kp.length cap, .int .i64 0, .int .i64 0, .int .i64 0, .int .i64 0, .int .i64 0, .int .i64 0, .int .i64 0, .int .i64 0, .int .i64 0, .int .i64 0, .int .i64 0, .int .i64 0, .int .i64 0] 44)).rangeAt (w.heap.size + 1) 0 (stL 3 0 [] [] 0 (.slice A kp.length cap) c0)) := Lib.hid (range_of_row (by have := heap_alloc_new (w.alloc (.cells L.toArray 44)) (.cells (stL 3 0 [] [] 0 (.slice A kp.length cap) c0).toArray 44); rwa [World.size_alloc] at this))
    have HI3 : Hid ((Tryd.prog.info? 44).map (·.size) = some (stL 3 0 [] [] 0 (.slice A kp.length cap) c0).length) := Lib.hid info30
    have HS2 : Hid (Calls Tryd.prog 25 #[.agg (stL 3 0 [] [] 0 (.slice A kp.length cap) c0).toArray, .agg L.toArray] ((w.alloc (.cells L.toArray 44)).alloc (.cells #[.int .i64 3, .int .i64 0, .string ⟨#[]⟩, .string ⟨#[]⟩, .int .i64 0, .slice A kp.length cap, .int .i64 0, .int .i64 0, .int .i64 0, .int .i64 0, .int .i64 0, .int .i64 0, .int .i64 0, .int .i64 0, .int .i64 0, .int .i64 0, .int .i64 0, .int .i64 0, .int .i64 0] 44)) fun e w'' => e = .returned (.bool (sameB ⟨3, 0, [], [], 0, kp, c0⟩ ⟨3, op, nm, dt, n, kp, c⟩)) ∧ Below (w.heap.size + 2) ((w.alloc (.cells L.toArray 44)).alloc (.cells #[.int .i64 3, .int .i64 0, .string ⟨#[]⟩, .string ⟨#[]⟩, .int .i64 0, .slice A kp.length cap, .int .i64 0, .int .i64 0, .int .i64 0, .int .i64 0, .int .i64 0, .int .i64 0, .int .i64 0, .int .i64 0, .int .i64 0, .int .i64 0, .int .i64 0, .int .i64 0, .int .i64 0] 44)) w'') := Lib.hid (HS.out.mono fun e w'' h => ⟨h.1, h.2.mono (by simp)⟩)
    generalize stL 3 0 [] [] 0 (.slice A kp.length cap) c0 = M at *
    generalize sameB ⟨3, 0, [], [], 0, kp, c0⟩ ⟨3, op, nm, dt, n, kp, c⟩ = bs at *
    obtain ⟨b0, b1, b2, b3, b4, b5, r0, r6⟩ := HBX.out (w.alloc (.cells L.toArray 44)) (Below.refl _ _)
    have HR0 := Lib.hid (HBX.out _ HB1.out).r0
    obtain ⟨a0, a1, a2, a3, a4, a5, s0, s6⟩ := HBX.out ((w.alloc (.cells L.toArray 44)).alloc (.cells #[.int .i64 3, .int .i64 0, .string ⟨#[]⟩, .string ⟨#[]⟩, .int .i64 0, .slice none 0 0, .int .i64 0, .int .i64 0, .int .i64 0, .int .i64 0, .int .i64 0, .int .i64 0, .int .i64 0, .int .i64 0, .int .i64 0, .int .i64 0, .int .i64 0, .int .i64 0, .int .i64 0] 44)) ((Below.refl _ _).alloc (by simp) _)
    clear r0 r6 s0 s6 HS HSM
    have HO : Hid ((#[.int .i64 3, .int .i64 0, .string ⟨#[]⟩, .string ⟨#[]⟩, .int .i64 0, .slice none 0 0, .int .i64 0, .int .i64 0, .int .i64 0, .int .i64 0, .int .i64 0, .int .i64 0, .int .i64 0, .int .i64 0, .int .i64 0, .int .i64 0, .int .i64 0, .int .i64 0, .int .i64 0] : Array Value).all (·.oneCell') = true) := Lib.hid (by simp [Value.oneCell'])
    generalize lineL ⟨3, op, nm, dt, n, kp, c⟩ = LL at *
    cases bs
    case false =>
      go_enter Tryd.func36, Tryd.ntmps36
      go_wp2_with (first
        | ((with_reducible refine wpList_store_new (op := ⟨none, _, _, _, _, _⟩) rfl 44 (.tmp 3) (.tmp 6) rfl (w.heap.size + 1) _ _ ?_ ?_ ?_ ?_ ?_ HO.out ?_); exact (World.size_alloc _ _).symm; rfl; rfl; exact info30; rfl)
        | ((with_reducible refine wpList_load_midg (op := ⟨some 51, _, _, _, _, _⟩) ?_ 44 (.tmp 3) rfl (w.heap.size + 1) 0 ?_ M _ HR3.out Tryd.underlying44 rfl HI3.out ?_); kernel_rfl; rfl)
        | ((with_reducible refine wpList_load_midg (op := ⟨some 52, _, _, _, _, _⟩) ?_ 44 (.tmp 1) rfl w.heap.size 0 ?_ L _ HR0.out Tryd.underlying44 rfl HI.out ?_); kernel_rfl; rfl)
        | (go_at_call 25; refine HS2.out.mono ?_; rintro e w2 ⟨rfl, hb⟩; have HB2 := Lib.hid (HB.out.trans (hb.mono (by omega))); have HB3 := Lib.hid (HB1.out.trans (hb.mono (by omega))); obtain ⟨d0, d1, d2, d3, d4, d5, t0, t6⟩ := HBX.out w2 HB3.out; have HT0 := Lib.hid t0; have HT6 := Lib.hid t6; clear hb t0 t6))
      go_ret
      exact ⟨by simp, HB2.out⟩
    by_cases hl : LL.length ≤ 65536
    case neg =>
      rw [show decide (LL.length ≤ 65536) = false by simpa using hl]
      have m1 : decide ((LL.length : Int) ≤ (65536 : Int)) = false := by simp; omega
      clear hl
      go_enter Tryd.func36, Tryd.ntmps36
      go_wp2_with (first
        | ((with_reducible refine wpList_store_new (op := ⟨none, _, _, _, _, _⟩) rfl 44 (.tmp 3) (.tmp 6) rfl (w.heap.size + 1) _ _ ?_ ?_ ?_ ?_ ?_ HO.out ?_); exact (World.size_alloc _ _).symm; rfl; rfl; exact info30; rfl)
        | ((with_reducible refine wpList_load_midg (op := ⟨some 51, _, _, _, _, _⟩) ?_ 44 (.tmp 3) rfl (w.heap.size + 1) 0 ?_ M _ HR3.out Tryd.underlying44 rfl HI3.out ?_); kernel_rfl; rfl)
        | ((with_reducible refine wpList_load_midg (op := ⟨some 52, _, _, _, _, _⟩) ?_ 44 (.tmp 1) rfl w.heap.size 0 ?_ L _ HR0.out Tryd.underlying44 rfl HI.out ?_); kernel_rfl; rfl)
        | (go_at_call 25; refine HS2.out.mono ?_; rintro e w2 ⟨rfl, hb⟩; have HB2 := Lib.hid (HB.out.trans (hb.mono (by omega))); have HB3 := Lib.hid (HB1.out.trans (hb.mono (by omega))); obtain ⟨d0, d1, d2, d3, d4, d5, t0, t6⟩ := HBX.out w2 HB3.out; have HT0 := Lib.hid t0; have HT6 := Lib.hid t6; clear hb t0 t6)
        | ((with_reducible refine wpList_load_midg (op := ⟨some 55, _, _, _, _, _⟩) ?_ 44 (.tmp 1) rfl w.heap.size 0 ?_ L _ HT0.out Tryd.underlying44 rfl HI.out ?_); kernel_rfl; rfl)
        | (go_at_call 37; refine (HLN.out (by omega) (by omega) (by omega) _ HB2.out).mono ?_; rintro e w4 ⟨rfl, hb4⟩))
      go_ret
      exact ⟨by simp, HB2.out.trans (hb4.mono HB2.out.size)⟩
    rw [show decide (LL.length ≤ 65536) = true by simpa using hl]
    have m1 : decide ((LL.length : Int) ≤ (65536 : Int)) = true := by simp; omega
    clear hl
    go_enter Tryd.func36, Tryd.ntmps36
    go_wp2_with (first
      | ((with_reducible refine wpList_store_new (op := ⟨none, _, _, _, _, _⟩) rfl 44 (.tmp 3) (.tmp 6) rfl (w.heap.size + 1) _ _ ?_ ?_ ?_ ?_ ?_ HO.out ?_); exact (World.size_alloc _ _).symm; rfl; rfl; exact info30; rfl)
      | ((with_reducible refine wpList_load_midg (op := ⟨some 51, _, _, _, _, _⟩) ?_ 44 (.tmp 3) rfl (w.heap.size + 1) 0 ?_ M _ HR3.out Tryd.underlying44 rfl HI3.out ?_); kernel_rfl; rfl)
      | ((with_reducible refine wpList_load_midg (op := ⟨some 52, _, _, _, _, _⟩) ?_ 44 (.tmp 1) rfl w.heap.size 0 ?_ L _ HR0.out Tryd.underlying44 rfl HI.out ?_); kernel_rfl; rfl)
      | (go_at_call 25; refine HS2.out.mono ?_; rintro e w2 ⟨rfl, hb⟩; have HB2 := Lib.hid (HB.out.trans (hb.mono (by omega))); have HB3 := Lib.hid (HB1.out.trans (hb.mono (by omega))); obtain ⟨d0, d1, d2, d3, d4, d5, t0, t6⟩ := HBX.out w2 HB3.out; have HT0 := Lib.hid t0; have HT6 := Lib.hid t6; clear hb t0 t6)
      | ((with_reducible refine wpList_load_midg (op := ⟨some 55, _, _, _, _, _⟩) ?_ 44 (.tmp 1) rfl w.heap.size 0 ?_ L _ HT0.out Tryd.underlying44 rfl HI.out ?_); kernel_rfl; rfl)
      | (go_at_call 37; refine (HLN.out (by omega) (by omega) (by omega) _ HB2.out).mono ?_; rintro e w4 ⟨rfl, hb4⟩))
    go_ret
    exact ⟨by simp, HB2.out.trans (hb4.mono HB2.out.size)⟩
set_option maxRecDepth 100000 in
set_option maxHeartbeats 4000000 in
theorem rmay15_4 (s : St) (A : Option Addr) (cap : Nat) (w : World) (hk : Kp w (.slice A s.kp.length cap) s.kp) (hf : Fits s) (hkk : s.k = 4) :
    Calls Tryd.prog 36 #[.agg (s.A (.slice A s.kp.length cap))] w fun e w' => e = .returned (.bool (mayR s)) ∧ Below w.heap.size w w' := by
  obtain ⟨k, op, nm, dt, n, kp, c⟩ := s
  simp only [St.A, Fits] at *
  rw [stA_eq]
  have HKP : Hid (∀ w', Below w.heap.size w w' → Kp w' (.slice A kp.length cap) kp) := Lib.hid (fun w' hb => hk.below hb)
  have HBX : Hid (∀ w', Below (w.heap.size + 1) (w.alloc (.cells (stL k op nm dt n (.slice A kp.length cap) c).toArray 44)) w' → BoxAt w' w.heap.size k op nm dt n (.slice A kp.length cap) (stL k op nm dt n (.slice A kp.length cap) c) (cfL c)) := Lib.hid (fun w' hb => boxAt_of ((hb.block w.heap.size (by omega)).trans (heap_alloc_new w _)))
  have HI : Hid ((Tryd.prog.info? 44).map (·.size) = some (stL k op nm dt n (.slice A kp.length cap) c).length) := Lib.hid info30
  have HIC : Hid ((Tryd.prog.info? 23).map (·.size) = some (cfL c).length) := Lib.hid info28
  have HLN : Hid ((1 ≤ k ∧ k ≤ 4) → (k = 2 → 0 ≤ n ∧ n ≤ 2147483647) → (k = 4 → ∀ i, 0 ≤ c i ∧ c i ≤ 2147483647) → ∀ w', Below w.heap.size w w' → Calls Tryd.prog 37 #[.agg (stL k op nm dt n (.slice A kp.length cap) c).toArray] w' fun e w'' => e = .returned (.string (str (lineL ⟨k, op, nm, dt, n, kp, c⟩))) ∧ Below w'.heap.size w' w'') := Lib.hid (fun h1 h2 h3 w' hb => rline21 ⟨k, op, nm, dt, n, kp, c⟩ A cap w' (hk.below hb) hf h1 h2 h3)
  have HSM : Hid (∀ (t : St) (B : Option Addr) (cb : Nat) w', Below w.heap.size w w' → Kp w' (.slice B t.kp.length cb) t.kp → t.kp.length ≤ 1000000 → Calls Tryd.prog 25 #[.agg (t.A (.slice B t.kp.length cb)), .agg (stL k op nm dt n (.slice A kp.length cap) c).toArray] w' fun e w'' => e = .returned (.bool (sameB t ⟨k, op, nm, dt, n, kp, c⟩)) ∧ Below w'.heap.size w' w'') := Lib.hid (fun t B cb w' hb h1 h2 => rsame6 t ⟨k, op, nm, dt, n, kp, c⟩ B A cb cap w' h1 (hk.below hb) h2 (by have := hf.2.2; show kp.length ≤ 1000000; omega))
  have HNM : Hid (∀ w, Calls Tryd.prog 35 #[.agg (cfL c).toArray] w fun e w' => ∃ v, e = .returned v ∧ Is w' v (cfI c) ∧ Below w.heap.size w w') := Lib.hid (fun w => rnumbers29 c w)
  have hls : (str (lineL ⟨k, op, nm, dt, n, kp, c⟩)).size = (lineL ⟨k, op, nm, dt, n, kp, c⟩).length := str_size _
  have HF := Lib.hid hf
  clear hk hf
  have k4 : k = 4 := hkk
  clear hkk
  case' _ =>
    subst k4
    have HMR : Hid (mayR ⟨4, op, nm, dt, n, kp, c⟩ = (sameB ⟨4, 0, [], [], 0, [], c⟩ ⟨4, op, nm, dt, n, kp, c⟩ && fitB (cfI c))) := Lib.hid rfl
    rw [HMR.out]
    clear HMR
    generalize stL 4 op nm dt n (.slice A kp.length cap) c = L at *
    have HB : Hid (Below w.heap.size w ((w.alloc (.cells L.toArray 44)).alloc (.cells #[.int .i64 4, .int .i64 0, .string ⟨#[]⟩, .string ⟨#[]⟩, .int .i64 0, .slice none 0 0, .int .i64 (c 0), .int .i64 (c 1), .int .i64 (c 2), .int .i64 (c 3), .int .i64 (c 4), .int .i64 (c 5), .int .i64 (c 6), .int .i64 (c 7), .int .i64 (c 8), .int .i64 (c 9), .int .i64 (c 10), .int .i64 (c 11), .int .i64 (c 12)] 44))) := Lib.hid (((Below.refl _ _).alloc (Nat.le_refl _) _).alloc (by simp) _)
    have HB1 : Hid (Below (w.heap.size + 1) (w.alloc (.cells L.toArray 44)) ((w.alloc (.cells L.toArray 44)).alloc (.cells #[.int .i64 4, .int .i64 0, .string ⟨#[]⟩, .string ⟨#[]⟩, .int .i64 0, .slice none 0 0, .int .i64 (c 0), .int .i64 (c 1), .int .i64 (c 2), .int .i64 (c 3), .int .i64 (c 4), .int .i64 (c 5), .int .i64 (c 6), .int .i64 (c 7), .int .i64 (c 8), .int .i64 (c 9), .int .i64 (c 10), .int .i64 (c 11), .int .i64 (c 12)] 44))) := Lib.hid ((Below.refl _ _).alloc (by simp) _)
    have HS := Lib.hid (HSM.out ⟨4, 0, [], [], 0, [], c⟩ none 0 ((w.alloc (.cells L.toArray 44)).alloc (.cells #[.int .i64 4, .int .i64 0, .string ⟨#[]⟩, .string ⟨#[]⟩, .int .i64 0, .slice none 0 0, .int .i64 (c 0), .int .i64 (c 1), .int .i64 (c 2), .int .i64 (c 3), .int .i64 (c 4), .int .i64 (c 5), .int .i64 (c 6), .int .i64 (c 7), .int .i64 (c 8), .int .i64 (c 9), .int .i64 (c 10), .int .i64 (c 11), .int .i64 (c 12)] 44)) HB.out (Kp.nil _) (by simp))
    have HR3 : Hid (((w.alloc (.cells L.toArray 44)).alloc (.cells #[.int .i64 4, .int .i64 0, .string ⟨#[]⟩, .string ⟨#[]⟩, .int .i64 0, .slice none 0 0, .int .i64 (c 0), .int .i64 (c 1), .int .i64 (c 2), .int .i64 (c 3), .int .i64 (c 4), .int .i64 (c 5), .int .i64 (c 6), .int .i64 (c 7), .int .i64 (c 8), .int .i64 (c 9), .int .i64 (c 10), .int .i64 (c 11), .int .i64 (c 12)] 44)).rangeAt (w.heap.size + 1) 0 (stL 4 0 [] [] 0 (.slice none 0 0) c)) := Lib.hid (range_of_row (by have := heap_alloc_new (w.alloc (.cells L.toArray 44)) (.cells (stL 4 0 [] [] 0 (.slice none 0 0) c).toArray 44); rwa [World.size_alloc] at this))
    have HI3 : Hid ((Tryd.prog.info? 44).map (·.size) = some (stL 4 0 [] [] 0 (.slice none 0 0) c).length) := Lib.hid info30
    have HS2 : Hid (Calls Tryd.prog 25 #[.agg (stL 4 0 [] [] 0 (.slice none 0 0) c).toArray, .agg L.toArray] ((w.alloc (.cells L.toArray 44)).alloc (.cells #[.int .i64 4, .int .i64 0, .string ⟨#[]⟩, .string ⟨#[]⟩, .int .i64 0, .slice none 0 0, .int .i64 (c 0), .int .i64 (c 1), .int .i64 (c 2), .int .i64 (c 3), .int .i64 (c 4), .int .i64 (c 5), .int .i64 (c 6), .int .i64 (c 7), .int .i64 (c 8), .int .i64 (c 9), .int .i64 (c 10), .int .i64 (c 11), .int .i64 (c 12)] 44)) fun e w'' => e = .returned (.bool (sameB ⟨4, 0, [], [], 0, [], c⟩ ⟨4, op, nm, dt, n, kp, c⟩)) ∧ Below (w.heap.size + 2) ((w.alloc (.cells L.toArray 44)).alloc (.cells #[.int .i64 4, .int .i64 0, .string ⟨#[]⟩, .string ⟨#[]⟩, .int .i64 0, .slice none 0 0, .int .i64 (c 0), .int .i64 (c 1), .int .i64 (c 2), .int .i64 (c 3), .int .i64 (c 4), .int .i64 (c 5), .int .i64 (c 6), .int .i64 (c 7), .int .i64 (c 8), .int .i64 (c 9), .int .i64 (c 10), .int .i64 (c 11), .int .i64 (c 12)] 44)) w'') := Lib.hid (HS.out.mono fun e w'' h => ⟨h.1, h.2.mono (by simp)⟩)
    generalize stL 4 0 [] [] 0 (.slice none 0 0) c = M at *
    generalize sameB ⟨4, 0, [], [], 0, [], c⟩ ⟨4, op, nm, dt, n, kp, c⟩ = bs at *
    obtain ⟨b0, b1, b2, b3, b4, b5, r0, r6⟩ := HBX.out (w.alloc (.cells L.toArray 44)) (Below.refl _ _)
    have HR0 := Lib.hid (HBX.out _ HB1.out).r0
    obtain ⟨a0, a1, a2, a3, a4, a5, s0, s6⟩ := HBX.out ((w.alloc (.cells L.toArray 44)).alloc (.cells #[.int .i64 4, .int .i64 0, .string ⟨#[]⟩, .string ⟨#[]⟩, .int .i64 0, .slice none 0 0, .int .i64 0, .int .i64 0, .int .i64 0, .int .i64 0, .int .i64 0, .int .i64 0, .int .i64 0, .int .i64 0, .int .i64 0, .int .i64 0, .int .i64 0, .int .i64 0, .int .i64 0] 44)) ((Below.refl _ _).alloc (by simp) _)
    have HR6b : Hid (((w.alloc (.cells L.toArray 44)).alloc (.cells #[.int .i64 4, .int .i64 0, .string ⟨#[]⟩, .string ⟨#[]⟩, .int .i64 0, .slice none 0 0, .int .i64 0, .int .i64 0, .int .i64 0, .int .i64 0, .int .i64 0, .int .i64 0, .int .i64 0, .int .i64 0, .int .i64 0, .int .i64 0, .int .i64 0, .int .i64 0, .int .i64 0] 44)).rangeAt w.heap.size 6 [.int .i64 (c 0), .int .i64 (c 1), .int .i64 (c 2), .int .i64 (c 3), .int .i64 (c 4), .int .i64 (c 5), .int .i64 (c 6), .int .i64 (c 7), .int .i64 (c 8), .int .i64 (c 9), .int .i64 (c 10), .int .i64 (c 11), .int .i64 (c 12)]) := Lib.hid s6
    have HICe : Hid ((Tryd.prog.info? 23).map (·.size) = some ([.int .i64 (c 0), .int .i64 (c 1), .int .i64 (c 2), .int .i64 (c 3), .int .i64 (c 4), .int .i64 (c 5), .int .i64 (c 6), .int .i64 (c 7), .int .i64 (c 8), .int .i64 (c 9), .int .i64 (c 10), .int .i64 (c 11), .int .i64 (c 12)] : List Value).length) := Lib.hid info28
    clear r0 r6 s0 s6 HS HSM
    have HO : Hid ((#[.int .i64 4, .int .i64 0, .string ⟨#[]⟩, .string ⟨#[]⟩, .int .i64 0, .slice none 0 0, .int .i64 0, .int .i64 0, .int .i64 0, .int .i64 0, .int .i64 0, .int .i64 0, .int .i64 0, .int .i64 0, .int .i64 0, .int .i64 0, .int .i64 0, .int .i64 0, .int .i64 0] : Array Value).all (·.oneCell') = true) := Lib.hid (by simp [Value.oneCell'])
    generalize lineL ⟨4, op, nm, dt, n, kp, c⟩ = LL at *
    cases bs
    case false =>
      go_enter Tryd.func36, Tryd.ntmps36
      go_wp2_with (first
        | ((with_reducible refine wpList_store_new (op := ⟨none, _, _, _, _, _⟩) rfl 44 (.tmp 3) (.tmp 6) rfl (w.heap.size + 1) _ _ ?_ ?_ ?_ ?_ ?_ HO.out ?_); exact (World.size_alloc _ _).symm; rfl; rfl; exact info30; rfl)
        | ((with_reducible refine wpList_load_midg (op := ⟨some 63, _, _, _, _, _⟩) ?_ 23 (.tmp 62) rfl w.heap.size 6 ?_ [.int .i64 (c 0), .int .i64 (c 1), .int .i64 (c 2), .int .i64 (c 3), .int .i64 (c 4), .int .i64 (c 5), .int .i64 (c 6), .int .i64 (c 7), .int .i64 (c 8), .int .i64 (c 9), .int .i64 (c 10), .int .i64 (c 11), .int .i64 (c 12)] _ HR6b.out Tryd.underlying23 rfl HICe.out ?_); kernel_rfl; rfl)
        | ((with_reducible refine wpList_load_midg (op := ⟨some 65, _, _, _, _, _⟩) ?_ 44 (.tmp 3) rfl (w.heap.size + 1) 0 ?_ M _ HR3.out Tryd.underlying44 rfl HI3.out ?_); kernel_rfl; rfl)
        | ((with_reducible refine wpList_load_midg (op := ⟨some 66, _, _, _, _, _⟩) ?_ 44 (.tmp 1) rfl w.heap.size 0 ?_ L _ HR0.out Tryd.underlying44 rfl HI.out ?_); kernel_rfl; rfl)
        | (go_at_call 25; refine HS2.out.mono ?_; rintro e w2 ⟨rfl, hb⟩; have HB2 := Lib.hid (HB.out.trans (hb.mono (by omega))); have HB3 := Lib.hid (HB1.out.trans (hb.mono (by omega))); obtain ⟨d0, d1, d2, d3, d4, d5, t0, t6⟩ := HBX.out w2 HB3.out; have HT0 := Lib.hid t0; have HT6 := Lib.hid t6; clear hb t0 t6))
      go_ret
      exact ⟨by simp, HB2.out⟩
    have HFT := Lib.hid (fun w v h => rfit28 v (cfI c) (by simp [cfI]) w h)
    generalize fitB (cfI c) = bf at *
    go_enter Tryd.func36, Tryd.ntmps36
    go_wp2_with (first
      | ((with_reducible refine wpList_store_new (op := ⟨none, _, _, _, _, _⟩) rfl 44 (.tmp 3) (.tmp 6) rfl (w.heap.size + 1) _ _ ?_ ?_ ?_ ?_ ?_ HO.out ?_); exact (World.size_alloc _ _).symm; rfl; rfl; exact info30; rfl)
      | ((with_reducible refine wpList_load_midg (op := ⟨some 63, _, _, _, _, _⟩) ?_ 23 (.tmp 62) rfl w.heap.size 6 ?_ [.int .i64 (c 0), .int .i64 (c 1), .int .i64 (c 2), .int .i64 (c 3), .int .i64 (c 4), .int .i64 (c 5), .int .i64 (c 6), .int .i64 (c 7), .int .i64 (c 8), .int .i64 (c 9), .int .i64 (c 10), .int .i64 (c 11), .int .i64 (c 12)] _ HR6b.out Tryd.underlying23 rfl HICe.out ?_); kernel_rfl; rfl)
      | ((with_reducible refine wpList_load_midg (op := ⟨some 65, _, _, _, _, _⟩) ?_ 44 (.tmp 3) rfl (w.heap.size + 1) 0 ?_ M _ HR3.out Tryd.underlying44 rfl HI3.out ?_); kernel_rfl; rfl)
      | ((with_reducible refine wpList_load_midg (op := ⟨some 66, _, _, _, _, _⟩) ?_ 44 (.tmp 1) rfl w.heap.size 0 ?_ L _ HR0.out Tryd.underlying44 rfl HI.out ?_); kernel_rfl; rfl)
      | (go_at_call 25; refine HS2.out.mono ?_; rintro e w2 ⟨rfl, hb⟩; have HB2 := Lib.hid (HB.out.trans (hb.mono (by omega))); have HB3 := Lib.hid (HB1.out.trans (hb.mono (by omega))); obtain ⟨d0, d1, d2, d3, d4, d5, t0, t6⟩ := HBX.out w2 HB3.out; have HT0 := Lib.hid t0; have HT6 := Lib.hid t6; clear hb t0 t6)
      | ((with_reducible refine wpList_load_midg (op := ⟨some 70, _, _, _, _, _⟩) ?_ 23 (.tmp 69) rfl w.heap.size 6 ?_ (cfL c) _ HT6.out Tryd.underlying23 rfl HIC.out ?_); kernel_rfl; rfl)
      | (go_at_call 35; refine (HNM.out _).mono ?_; rintro e w3 ⟨v, rfl, hi, hb3⟩; have HIS := Lib.hid hi; clear hi)
      | (go_at_call 34; refine (HFT.out _ _ HIS.out).mono ?_; rintro e w4 ⟨rfl, rfl⟩))
    go_ret
    exact ⟨by simp, HB2.out.trans (hb3.mono HB2.out.size)⟩
set_option maxRecDepth 100000 in
set_option maxHeartbeats 4000000 in
theorem rmay15_0 (s : St) (A : Option Addr) (cap : Nat) (w : World) (hk : Kp w (.slice A s.kp.length cap) s.kp) (hf : Fits s) (hkk : s.k ≠ 1 ∧ s.k ≠ 2 ∧ s.k ≠ 3 ∧ s.k ≠ 4) :
    Calls Tryd.prog 36 #[.agg (s.A (.slice A s.kp.length cap))] w fun e w' => e = .returned (.bool (mayR s)) ∧ Below w.heap.size w w' := by
  obtain ⟨k, op, nm, dt, n, kp, c⟩ := s
  simp only [St.A, Fits] at *
  rw [stA_eq]
  have HKP : Hid (∀ w', Below w.heap.size w w' → Kp w' (.slice A kp.length cap) kp) := Lib.hid (fun w' hb => hk.below hb)
  have HBX : Hid (∀ w', Below (w.heap.size + 1) (w.alloc (.cells (stL k op nm dt n (.slice A kp.length cap) c).toArray 44)) w' → BoxAt w' w.heap.size k op nm dt n (.slice A kp.length cap) (stL k op nm dt n (.slice A kp.length cap) c) (cfL c)) := Lib.hid (fun w' hb => boxAt_of ((hb.block w.heap.size (by omega)).trans (heap_alloc_new w _)))
  have HI : Hid ((Tryd.prog.info? 44).map (·.size) = some (stL k op nm dt n (.slice A kp.length cap) c).length) := Lib.hid info30
  have HIC : Hid ((Tryd.prog.info? 23).map (·.size) = some (cfL c).length) := Lib.hid info28
  have HLN : Hid ((1 ≤ k ∧ k ≤ 4) → (k = 2 → 0 ≤ n ∧ n ≤ 2147483647) → (k = 4 → ∀ i, 0 ≤ c i ∧ c i ≤ 2147483647) → ∀ w', Below w.heap.size w w' → Calls Tryd.prog 37 #[.agg (stL k op nm dt n (.slice A kp.length cap) c).toArray] w' fun e w'' => e = .returned (.string (str (lineL ⟨k, op, nm, dt, n, kp, c⟩))) ∧ Below w'.heap.size w' w'') := Lib.hid (fun h1 h2 h3 w' hb => rline21 ⟨k, op, nm, dt, n, kp, c⟩ A cap w' (hk.below hb) hf h1 h2 h3)
  have HSM : Hid (∀ (t : St) (B : Option Addr) (cb : Nat) w', Below w.heap.size w w' → Kp w' (.slice B t.kp.length cb) t.kp → t.kp.length ≤ 1000000 → Calls Tryd.prog 25 #[.agg (t.A (.slice B t.kp.length cb)), .agg (stL k op nm dt n (.slice A kp.length cap) c).toArray] w' fun e w'' => e = .returned (.bool (sameB t ⟨k, op, nm, dt, n, kp, c⟩)) ∧ Below w'.heap.size w' w'') := Lib.hid (fun t B cb w' hb h1 h2 => rsame6 t ⟨k, op, nm, dt, n, kp, c⟩ B A cb cap w' h1 (hk.below hb) h2 (by have := hf.2.2; show kp.length ≤ 1000000; omega))
  have HNM : Hid (∀ w, Calls Tryd.prog 35 #[.agg (cfL c).toArray] w fun e w' => ∃ v, e = .returned v ∧ Is w' v (cfI c) ∧ Below w.heap.size w w') := Lib.hid (fun w => rnumbers29 c w)
  have hls : (str (lineL ⟨k, op, nm, dt, n, kp, c⟩)).size = (lineL ⟨k, op, nm, dt, n, kp, c⟩).length := str_size _
  have HF := Lib.hid hf
  clear hk hf
  obtain ⟨k1, k2, k3, k4⟩ := hkk
  have hm : mayR ⟨k, op, nm, dt, n, kp, c⟩ = false := by simp only [mayR, k1, k2, k3, k4, if_false]
  rw [hm]
  clear hm
  have j1 : (k == 1) = false := by simpa using k1
  have j2 : (k == 2) = false := by simpa using k2
  have j3 : (k == 3) = false := by simpa using k3
  have j4 : (k == 4) = false := by simpa using k4
  clear k1 k2 k3 k4 HSM HLN
  have b0 := (HBX.out (w.alloc (.cells (stL k op nm dt n (.slice A kp.length cap) c).toArray 44)) (Below.refl _ _)).b0
  have a0 := (HBX.out ((w.alloc (.cells (stL k op nm dt n (.slice A kp.length cap) c).toArray 44)).alloc (.cells #[.int .i64 k, .int .i64 0, .string ⟨#[]⟩, .string ⟨#[]⟩, .int .i64 0, .slice none 0 0, .int .i64 0, .int .i64 0, .int .i64 0, .int .i64 0, .int .i64 0, .int .i64 0, .int .i64 0, .int .i64 0, .int .i64 0, .int .i64 0, .int .i64 0, .int .i64 0, .int .i64 0] 44)) ((Below.refl _ _).alloc (by simp) _)).b0
  generalize stL k op nm dt n (.slice A kp.length cap) c = L at *
  have HB : Hid (Below w.heap.size w ((w.alloc (.cells L.toArray 44)).alloc (.cells #[.int .i64 k, .int .i64 0, .string ⟨#[]⟩, .string ⟨#[]⟩, .int .i64 0, .slice none 0 0, .int .i64 0, .int .i64 0, .int .i64 0, .int .i64 0, .int .i64 0, .int .i64 0, .int .i64 0, .int .i64 0, .int .i64 0, .int .i64 0, .int .i64 0, .int .i64 0, .int .i64 0] 44))) := Lib.hid (((Below.refl _ _).alloc (Nat.le_refl _) _).alloc (by simp) _)
  have HO : Hid ((#[.int .i64 k, .int .i64 0, .string ⟨#[]⟩, .string ⟨#[]⟩, .int .i64 0, .slice none 0 0, .int .i64 0, .int .i64 0, .int .i64 0, .int .i64 0, .int .i64 0, .int .i64 0, .int .i64 0, .int .i64 0, .int .i64 0, .int .i64 0, .int .i64 0, .int .i64 0, .int .i64 0] : Array Value).all (·.oneCell') = true) := Lib.hid (by simp [Value.oneCell'])
  go_enter Tryd.func36, Tryd.ntmps36
  go_wp2_with (first
    | ((with_reducible refine wpList_store_new (op := ⟨none, _, _, _, _, _⟩) rfl 44 (.tmp 3) (.tmp 6) rfl (w.heap.size + 1) _ _ ?_ ?_ ?_ ?_ ?_ HO.out ?_); exact (World.size_alloc _ _).symm; rfl; rfl; exact info30; rfl))
  go_ret
  exact ⟨rfl, HB.out⟩
theorem rmay15 (s : St) (A : Option Addr) (cap : Nat) (w : World) (hk : Kp w (.slice A s.kp.length cap) s.kp) (hf : Fits s) :
    Calls Tryd.prog 36 #[.agg (s.A (.slice A s.kp.length cap))] w fun e w' => e = .returned (.bool (mayR s)) ∧ Below w.heap.size w w' := by
  by_cases k1 : s.k = 1
  · exact rmay15_1 s A cap w hk hf k1
  · by_cases k2 : s.k = 2
    · exact rmay15_2 s A cap w hk hf k2
    · by_cases k3 : s.k = 3
      · exact rmay15_3 s A cap w hk hf k3
      · by_cases k4 : s.k = 4
        · exact rmay15_4 s A cap w hk hf k4
        · exact rmay15_0 s A cap w hk hf ⟨k1, k2, k3, k4⟩
end Go.Proofs.YtjakkmioofbcaaaDoor
