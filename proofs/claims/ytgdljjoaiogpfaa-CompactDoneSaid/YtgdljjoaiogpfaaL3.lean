/- The walk over the law's awake. -/
import Derived.Test.YtgdljjoaiogpfaaL2
import Derived.Deep.RegionHeld3
namespace Go.Proofs.Ytgdljjoaiogpfaa
open Go.RowKit Go.Maps
theorem in0 {w V : World} (hV : Below (w.heap.size + 1 + 1 + 1) (((w.alloc (.cells #[.int .i64 5, .int .u32 0, .int .i64 5, .int .u32 0, .int .i64 5, .int .u32 0] 48)).alloc (.cells #[.int .u32 4, .slice (some ⟨w.heap.size, 0, none⟩) 3 3] 45)).alloc (.cells #[.int .u32 4, .int .i64 1] 39)) V) :
    InOk V (some ⟨w.heap.size + 1, 0, none⟩) 1 (hs0 w.heap.size) (some ⟨w.heap.size + 1 + 1, 0, none⟩) 1 nm0 := by
  have k0 : V.heap[w.heap.size]? = some (.cells #[.int .i64 5, .int .u32 0, .int .i64 5, .int .u32 0, .int .i64 5, .int .u32 0] 48 (0, 0)) := (hV.block _ (by omega)).trans ((heap_alloc_old _ _ (by simp; omega)).trans ((heap_alloc_old _ _ (by simp)).trans (heap_alloc_new w _)))
  have k1 : V.heap[w.heap.size + 1]? = some (.cells #[.int .u32 4, .slice (some ⟨w.heap.size, 0, none⟩) 3 3] 45 (0, 0)) := by
    have q := heap_alloc_new (w.alloc (.cells #[.int .i64 5, .int .u32 0, .int .i64 5, .int .u32 0, .int .i64 5, .int .u32 0] 48)) (.cells #[.int .u32 4, .slice (some ⟨w.heap.size, 0, none⟩) 3 3] 45)
    rw [World.size_alloc] at q
    exact (hV.block _ (by omega)).trans ((heap_alloc_old _ _ (by simp)).trans q)
  have k2 : V.heap[w.heap.size + 1 + 1]? = some (.cells #[.int .u32 4, .int .i64 1] 39 (0, 0)) := by
    have q := heap_alloc_new ((w.alloc (.cells #[.int .i64 5, .int .u32 0, .int .i64 5, .int .u32 0, .int .i64 5, .int .u32 0] 48)).alloc (.cells #[.int .u32 4, .slice (some ⟨w.heap.size, 0, none⟩) 3 3] 45)) (.cells #[.int .u32 4, .int .i64 1] 39)
    simp only [World.size_alloc] at q
    exact (hV.block _ (by omega)).trans q
  refine ⟨⟨⟨rfl, fun _ => ⟨_, 0, rfl, (Array.getElem?_eq_some_iff.1 k1).1, fun i x hi => ?_⟩⟩, fun x hx => ⟨?_, fun _ => ⟨w.heap.size, 0, ?_, (Array.getElem?_eq_some_iff.1 k0).1, fun i s hi => ?_⟩⟩⟩, ⟨by simp [hs0], by simp [hs0, x0]⟩, by simp [hs0, x0]; decide, ⟨rfl, fun _ => ⟨_, 0, rfl, (Array.getElem?_eq_some_iff.1 k2).1, fun i x hi => ?_⟩⟩, fun p hp => ?_, by omega⟩
  · rcases i with _ | i
    · simp [hs0, hdV, x0] at hi
      subst hi
      exact ⟨cell_of_row _ _ 0 _ 45 (0, 0) k1, cell_of_row _ _ 1 _ 45 (0, 0) k1⟩
    · simp [hs0] at hi
  · simp [hs0] at hx; subst hx; rfl
  · simp [hs0] at hx; subst hx; rfl
  · simp [hs0] at hx
    subst hx
    rcases i with _ | _ | _ | i
    · simp [sltV, x0] at hi; subst hi; exact ⟨cell_of_row _ _ 0 _ 48 (0, 0) k0, cell_of_row _ _ 1 _ 48 (0, 0) k0⟩
    · simp [sltV, x0] at hi; subst hi; exact ⟨cell_of_row _ _ 2 _ 48 (0, 0) k0, cell_of_row _ _ 3 _ 48 (0, 0) k0⟩
    · simp [sltV, x0] at hi; subst hi; exact ⟨cell_of_row _ _ 4 _ 48 (0, 0) k0, cell_of_row _ _ 5 _ 48 (0, 0) k0⟩
    · simp [sltV, x0] at hi
  · rcases i with _ | i
    · simp [nm0, plcV] at hi
      subst hi
      exact ⟨cell_of_row _ _ 0 _ 39 (0, 0) k2, cell_of_row _ _ 1 _ 39 (0, 0) k2⟩
    · simp [nm0] at hi
  · simp [nm0] at hp
    subst hp
    exact ⟨by decide, by decide⟩
set_option maxRecDepth 100000 in
set_option maxHeartbeats 8000000 in
theorem awake8 (w : World) : Calls Try.prog 8 #[] w fun e w' => e = .returned (.bool true) ∧ Below w.heap.size w w' := by
  have hq := eql39
  have hg := guard39
  go_enter Try.func8, Try.ntmps8
  go_wp2_with fail
  obtain ⟨W0, hW0⟩ : ∃ W0, ((w.alloc (.cells #[.int .i64 5, .int .u32 0, .int .i64 5, .int .u32 0, .int .i64 5, .int .u32 0] 48)).alloc (.cells #[.int .u32 4, .slice (some ⟨w.heap.size, 0, none⟩) 3 3] 45)).alloc (.cells #[.int .u32 4, .int .i64 1] 39) = W0 := ⟨_, rfl⟩
  rw [hW0]
  have HBW : Hid (Below w.heap.size w W0) := Lib.hid (hW0 ▸ (((Below.refl _ w).alloc (Nat.le_refl _) _).alloc (by simp) _).alloc (by simp; omega) _)
  have HIN : Hid (∀ V, Below W0.heap.size W0 V → InOk V (some ⟨w.heap.size + 1, 0, none⟩) 1 (hs0 w.heap.size) (some ⟨w.heap.size + 1 + 1, 0, none⟩) 1 nm0) := Lib.hid (fun V hV => in0 (by
    subst hW0
    simpa using hV))
  clear hW0
  obtain ⟨n0, hn0⟩ : ∃ n0, w.heap.size + 1 = n0 := ⟨_, rfl⟩
  rw [hn0] at HIN ⊢
  obtain ⟨n1, hn1⟩ : ∃ n1, n0 + 1 = n1 := ⟨_, rfl⟩
  rw [hn1] at HIN ⊢
  obtain ⟨n2, hn2⟩ : ∃ n2, w.heap.size = n2 := ⟨_, rfl⟩
  have HN2 := Lib.hid hn2
  rw [hn2] at HIN ⊢
  clear hn0 hn1 hn2
  refine Calls.mono (sizes18 (HIN.out _ (Below.refl _ _))) ?_
  rintro e W1 ⟨rfl, hb1⟩
  rw [(sum0 n2).1, (sum0 n2).2]
  have HB1 := Lib.hid hb1
  clear hb1
  go_wp2_with fail
  have HBA : Hid (Below W0.heap.size W0 (W1.alloc (.cells #[.int .u32 4] 33))) := Lib.hid (HB1.out.alloc HB1.out.size _)
  have hgs : Ids (W1.alloc (.cells #[.int .u32 4] 33)) (some ⟨W1.heap.size, 0, none⟩) 1 [4] := ⟨rfl, fun _ => ⟨_, 0, rfl, by simp, fun i x hi => by
    rcases i with _ | i
    · simp at hi; subst hi; exact cell_of_row _ _ 0 _ 33 (0, 0) (heap_alloc_new W1 _)
    · simp at hi⟩⟩
  refine Calls.mono (succ14 (HIN.out _ HBA.out) hgs (by simp; decide) (by omega) 9) ?_
  rintro e W2 ⟨v1, v2, rfl, hb2, hr1, hr2⟩
  have hby := by0 n2
  rw [hby] at hr1 hr2
  obtain ⟨g1, c1, rfl, hg1c, hr1'⟩ : ∃ g1 c1, v1 = .slice (some ⟨g1, 0, none⟩) 1 c1 ∧ g1 < W2.heap.size ∧ W2.ownsRow (W1.alloc (.cells #[.int .u32 4] 33)).heap.size 39 2 (.slice (some ⟨g1, 0, none⟩) 1 c1) 1 [.int .u32 4, .int .i64 1] := by
    rcases hr1.2 with ⟨_, h0⟩ | ⟨g, cap, cur, rfl, _, hg0, _⟩
    · simp at h0
    · exact ⟨g, cap, rfl, (Array.getElem?_eq_some_iff.1 hg0).1, hr1⟩
  obtain ⟨g2, c2, rfl, hg2c, hr2'⟩ : ∃ g2 c2, v2 = .slice (some ⟨g2, 0, none⟩) 1 c2 ∧ g2 < W2.heap.size ∧ W2.ownsRow (W1.alloc (.cells #[.int .u32 4] 33)).heap.size 41 4 (.slice (some ⟨g2, 0, none⟩) 1 c2) 1 [.int .u32 4, .int .i64 1, .int .u32 9, .int .i64 0] := by
    rcases hr2.2 with ⟨_, h0⟩ | ⟨g, cap, cur, rfl, _, hg0, _⟩
    · simp at h0
    · exact ⟨g, cap, rfl, (Array.getElem?_eq_some_iff.1 hg0).1, hr2⟩
  have HB2 : Hid (Below W0.heap.size W0 W2) := Lib.hid (HBA.out.trans (hb2.mono HBA.out.size))
  obtain ⟨pb, po, hpe, hp0, hp1⟩ := (HIN.out _ HB2.out).pl.get (k := 0) (p := (4, 1)) rfl
  obtain ⟨rfl, rfl⟩ : n1 = pb ∧ 0 = po := by simpa using hpe
  have q0 := hr1'.cellAt 0 (by omega)
  have q1 := hr1'.cellAt 1 (by omega)
  have q2 := hr2'.cellAt 2 (by omega)
  have q3 := hr2'.cellAt 3 (by omega)
  simp at q0 q1 q2 q3 hp0 hp1
  have HC : Hid (∀ V, Below W2.heap.size W2 V → V.cell? ⟨g1, 0, none⟩ = some (.int .u32 4) ∧ V.cell? ⟨g1, 1, none⟩ = some (.int .i64 1) ∧ V.cell? ⟨n1, 0, none⟩ = some (.int .u32 4) ∧ V.cell? ⟨n1, 1, none⟩ = some (.int .i64 1) ∧ V.cell? ⟨g2, 2, none⟩ = some (.int .u32 9) ∧ V.cell? ⟨g2, 3, none⟩ = some (.int .i64 0)) :=
    Lib.hid (fun V hV => ⟨below_cell hV q0, below_cell hV q1, below_cell hV hp0, below_cell hV hp1, below_cell hV q2, below_cell hV q3⟩)
  have HC23 : Hid (∀ V, Below W2.heap.size W2 V → Calls Try.prog 23 #[.slice (some ⟨n0, 0, none⟩) 1 1, .slice (some ⟨n1, 0, none⟩) 1 1] V fun e w' => ∃ v, e = .returned v ∧ Below V.heap.size V w' ∧ w'.ownsRow V.heap.size 33 1 v 1 ((pick isMixed nm0 (okHs (hs0 n2))).map idV)) := Lib.hid (fun V hV => by
    have q := mixed23 (c := 1) (d := 1) (HIN.out V (HB2.out.trans (hV.mono HB2.out.size)))
    have e := pick0 n2
    refine q.mono ?_
    rintro e1 w' ⟨v, h1, h2, h3⟩
    rw [e] at h3
    exact ⟨v, h1, h2, h3⟩)
  have HC19 : Hid (∀ V, Below W2.heap.size W2 V → Calls Try.prog 19 #[.slice (some ⟨n0, 0, none⟩) 1 1, .slice (some ⟨n1, 0, none⟩) 1 1] V fun e w' => e = .returned (.bool false) ∧ Below V.heap.size V w') := Lib.hid (fun V hV => by
    have q := done19 (c := 1) (d := 1) (HIN.out V (HB2.out.trans (hV.mono HB2.out.size)))
    rw [done0 n2] at q
    exact q)
  have HC24 : Hid (∀ V, Below W2.heap.size W2 V → Calls Try.prog 24 #[.slice (some ⟨n0, 0, none⟩) 1 1] V fun e w' => e = .returned (.int .i64 0) ∧ Below V.heap.size V w') := Lib.hid (fun V hV => by
    have h := HIN.out V (HB2.out.trans (hV.mono HB2.out.size))
    have q := check24 (c := 1) h.hd h.lim
    rw [chk0 n2] at q
    exact q)
  have HC9 : Hid (∀ V, Below W2.heap.size W2 V → Calls Try.prog 9 #[.slice (some ⟨n0, 0, none⟩) 1 1, .slice (some ⟨n1, 0, none⟩) 1 1, .int .i64 1, .int .i64 1] V fun e w' => ∃ A c, e = .returned (.slice A 1 c) ∧ Below V.heap.size V w') := Lib.hid (fun V hV => by
    have q := groups9 (c := 1) (d := 1) (HIN.out V (HB2.out.trans (hV.mono HB2.out.size))) 1 1
    have e := grp0 n2
    refine q.mono ?_
    rintro e1 w' ⟨v, us, h1, h2, h3⟩
    have h4 := h3.row
    rw [e] at h4
    obtain ⟨A, c, rfl⟩ := own_slice h4
    exact ⟨A, c, h1, h2⟩)
  have HBW2 : Hid (Below w.heap.size w W2) := Lib.hid (HBW.out.trans (HB2.out.mono HBW.out.size))
  clear hgs hb2 hr1 hr2 hr1' hr2' hby hpe hg1c hg2c
  go_wp2_with fail
  go_region_held3 (fun w' => w'.cell? ⟨g1, 0, none⟩ = some (.int .u32 4) ∧ w'.cell? ⟨g1, 1, none⟩ = some (.int .i64 1) ∧ w'.cell? ⟨n1, 0, none⟩ = some (.int .u32 4) ∧ w'.cell? ⟨n1, 1, none⟩ = some (.int .i64 1) ∧ w'.cell? ⟨g2, 2, none⟩ = some (.int .u32 9) ∧ w'.cell? ⟨g2, 3, none⟩ = some (.int .i64 0))
    (first | (refine ⟨?_, ?_, ?_, ?_, ?_, ?_⟩ <;> with_reducible assumption) | go_keep)
    (first
      | (go_at_call 23; refine Calls.mono (HC23.out _ (below_drew (Below.refl _ W2))) ?_; rintro e W3 ⟨v3, rfl, hb3, hr3⟩; obtain ⟨A3, ac3, hv3⟩ := own_slice hr3; subst hv3; have HB3 : Hid (Below W2.heap.size W2 W3) := Lib.hid ((below_drew (Below.refl _ W2)).trans hb3); obtain ⟨s0, s1, s2, s3, s4, s5⟩ := HC.out _ HB3.out; clear hr3 hb3)
      | (go_at_call 19; refine Calls.mono (HC19.out _ HB3.out) ?_; rintro e W4 ⟨rfl, hb4⟩; have HB4 : Hid (Below W2.heap.size W2 W4) := Lib.hid (HB3.out.trans (hb4.mono HB3.out.size)); obtain ⟨t0, t1, t2, t3, t4, t5⟩ := HC.out _ HB4.out; clear hb4 s0 s1 s2 s3 s4 s5)
      | (go_at_call 24; refine Calls.mono (HC24.out _ HB4.out) ?_; rintro e W5 ⟨rfl, hb5⟩; have HB5 : Hid (Below W2.heap.size W2 W5) := Lib.hid (HB4.out.trans (hb5.mono HB4.out.size)); obtain ⟨s0, s1, s2, s3, s4, s5⟩ := HC.out _ HB5.out; clear hb5 t0 t1 t2 t3 t4 t5)
      | (go_at_call 9; refine Calls.mono (HC9.out _ HB5.out) ?_; rintro e W6 ⟨A6, c6, rfl, hb6⟩; have HB6 : Hid (Below W2.heap.size W2 W6) := Lib.hid (HB5.out.trans (hb6.mono HB5.out.size)); obtain ⟨t0, t1, t2, t3, t4, t5⟩ := HC.out _ HB6.out; clear hb6 s0 s1 s2 s3 s4 s5))
  go_wp2
  go_ret
  exact ⟨rfl, HBW2.out.trans (HB6.out.mono HBW2.out.size)⟩
end Go.Proofs.Ytgdljjoaiogpfaa
