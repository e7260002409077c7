/- The walks over ChampCovers, ChampChooses. -/
import Derived.Test.YtijdkgklajdbnaaBA
namespace Go.Proofs.Ytijdkgklajdbnaa
open Go.RowKit
theorem Ids.take {w : World} {A : Option Addr} {l : List Id} (h : Ids w A l) (m : Nat) : Ids w A (l.take m) := fun hx => by
  have hsub : ∀ (j : Nat) (u : Value), (idL (l.take m))[j]? = some u → (idL l)[j]? = some u := fun j u hj => by
    unfold idL at hj ⊢
    rw [List.map_take, List.getElem?_take] at hj
    split at hj
    · exact hj
    · cases hj
  obtain ⟨b, o, e, hb, hc⟩ := h (fun e => hx (by unfold idL at e ⊢; rw [List.map_eq_nil_iff] at e; rw [e]; simp))
  exact ⟨b, o, e, hb, fun j u hj => hc j u (hsub j u hj)⟩
theorem coverW {W0 W : World} {hs : List Fp} {ls : List Lst} {A B C : Option Addr} {c d q g1 g2 : Nat} {ch : List Id} (h : LawSt W0 hs ls A B c d g1 g2) (hw : Below W0.heap.size W0 W) (hc : Ids W0 C ch) (hn : ch.length ≤ 1000000) :
    Calls Try.prog 15 #[.slice A hs.length c, .func (.func 16) #[] #[.pointer (some ⟨g1, 0, none⟩), .pointer (some ⟨g2, 0, none⟩)], .slice C ch.length q] W fun e w' => e = .returned (.int .i64 (coverN (ids (toldL hs ls)) ch : Nat)) ∧ Below W0.heap.size W0 w' :=
  cover15 (asked16 h hw) (below_ok W0) h.told.1 (fun _ hW => hc.below hW) hn
theorem rcoverW {W0 W : World} {hs : List Fp} {ls : List Lst} {A B C : Option Addr} {c d q g1 g2 : Nat} {ch : List Id} (h : LawSt W0 hs ls A B c d g1 g2) (hw : Below W0.heap.size W0 W) (hc : Ids W0 C ch) (hn : ch.length ≤ 1000000) :
    Calls Try.prog 17 #[.slice A hs.length c, .slice B ls.length d, .slice C ch.length q] W fun e w' => e = .returned (.int .i64 (coverN (ids (toldL hs ls)) ch : Nat)) ∧ Below W0.heap.size W0 w' :=
  (cover17 (h.fps.below hw) (h.lss.below hw) h.all (by have := h.n1; omega) (hc.below hw) (fun x hx => by have := (h.inn x hx).2.1; omega) hn).mono (fun _ _ q => ⟨q.1, hw.trans (q.2.mono hw.size)⟩)
theorem chooseW {W0 W : World} {hs : List Fp} {ls : List Lst} {A B : Option Addr} {c d g1 g2 : Nat} {most : Int} (n : Nat) (h : LawSt W0 hs ls A B c d g1 g2) (ha : Asked A hs.length c (.func (.func n) #[] #[.pointer (some ⟨g1, 0, none⟩), .pointer (some ⟨g2, 0, none⟩)]) W (askP (ids (toldL hs ls))) (fun W => Below W0.heap.size W0 W)) :
    Calls Try.prog 18 #[.slice A hs.length c, .func (.func n) #[] #[.pointer (some ⟨g1, 0, none⟩), .pointer (some ⟨g2, 0, none⟩)], .int .i64 most] W fun e w' => ∃ C q, e = .returned (.slice C (refChoose (ids (toldL hs ls)) most).length q) ∧ Ids w' C (refChoose (ids (toldL hs ls)) most) ∧ (refChoose (ids (toldL hs ls)) most).length ≤ 64 ∧ (refChoose (ids (toldL hs ls)) most).length ≤ q ∧ Below W0.heap.size W0 w' := by
  have := choose18 (most := most) (of := allN (ids (toldL hs ls))) ha (below_ok W0) h.told.2 (by rw [askP, List.length_map]; exact h.told.1) (fun x hx => allN_ask hx)
  rw [choose_prog] at this
  exact this
theorem rchooseW {W0 W : World} {hs : List Fp} {ls : List Lst} {A B : Option Addr} {c d g1 g2 : Nat} {most : Int} (h : LawSt W0 hs ls A B c d g1 g2) (hw : Below W0.heap.size W0 W) :
    Calls Try.prog 21 #[.slice A hs.length c, .slice B ls.length d, .int .i64 most] W fun e w' => ∃ C q, e = .returned (.slice C (refChoose (ids (toldL hs ls)) most).length q) ∧ Ids w' C (refChoose (ids (toldL hs ls)) most) ∧ Below W.heap.size W w' :=
  (rchoose21 (h.fps.below hw) (h.lss.below hw) h.all (by have := h.n1; omega) (fun x hx => by have := (h.inn x hx).2.1; omega)).mono (fun _ _ ⟨C, q, h1, h2, _, _, h3⟩ => ⟨C, q, h1, h2, h3⟩)
set_option maxRecDepth 100000 in
set_option maxHeartbeats 4000000 in
theorem covers4 {A B C : Option Addr} {c d q : Nat} {hs : List Fp} {ls : List Lst} {ch : List Id} {w : World} (h : Fps w A hs) (hl : Ls w B ls) (ha : AllFp hs) (hlo : ∀ x ∈ ls, AOkc x) (hid : ∀ x ∈ ls, ∀ y ∈ x.l, IdOk y) (hch : Ids w C ch) (hco : AOkc ⟨C, q, ch⟩) (hcq : ch.length ≤ q) :
    Calls Try.prog 4 #[.slice A hs.length c, .slice B ls.length d, .slice C ch.length q] w fun e w' => e = .returned (.bool true) ∧ Below w.heap.size w w' := by
  obtain ⟨m, hmm⟩ : ∃ m, min ch.length 20 = m := ⟨_, rfl⟩
  have hlen : (ch.take m).length = m := by rw [List.length_take]; omega
  have HMM := Lib.hid hmm
  have HLEN := Lib.hid hlen
  have HC := Lib.hid (few9 (c := c) (d := d) h hl ha hlo)
  have HA := Lib.hid ha
  have HID := Lib.hid hid
  have HCH := Lib.hid hch
  clear h hl ha hlo hid hch hmm hlen
  go_enter Try.func4, Try.ntmps4
  go_wp2_with fail
  refine Calls.mono HC.out ?_
  intro e w1 hp
  obtain ⟨XA, Xc, VA, Vc, F, vs, rfl, hlaw, hbw⟩ := few_law hp HA.out HID.out
  have HL := Lib.hid hlaw
  have HBW := Lib.hid hbw
  clear hp hlaw hbw HC HA HID
  go_upto_region 2 with fail
  have hg2 : w1.heap.size + 1 = w1.heap.size + 1 := rfl
  generalize (w1.alloc (.cells #[.slice XA F.length Xc] 22)).alloc (.cells #[.slice VA vs.length Vc] 23) = W0 at *
  generalize w1.heap.size = g1 at *
  clear hg2
  have HCS : Hid (∀ W, Below W0.heap.size W0 W → W.cell? ⟨g1, 0, none⟩ = some (.slice XA F.length Xc) ∧ W.cell? ⟨g1 + 1, 0, none⟩ = some (.slice VA vs.length Vc)) := Lib.hid (fun W hW => HL.out.cells hW)
  have HI0 : Hid (Ids W0 C (ch.take m)) := Lib.hid ((HCH.out.below HBW.out).take m)
  have HC15 := Lib.hid (fun (W : World) (hw : Below W0.heap.size W0 W) => coverW (q := q) HL.out hw HI0.out (by have := HLEN.out; have := HMM.out; omega))
  have HC17 := Lib.hid (fun (W : World) (hw : Below W0.heap.size W0 W) => rcoverW (q := q) HL.out hw HI0.out (by have := HLEN.out; have := HMM.out; omega))
  rw [HLEN.out] at HC15 HC17
  have HR0 : Hid (Below W0.heap.size W0 W0.drew) := Lib.hid (below_drew (Below.refl _ _))
  generalize coverN (ids (toldL F vs)) (ch.take m) = SC at *
  rcases hco with ⟨q1, q2, q3⟩ | ⟨ca, q1⟩
  · simp only at q1 q2 q3
    subst q1; subst q2; subst q3
    obtain rfl : m = 0 := by have := HMM.out; simp at this; omega
    have hm00 : min (0 : Int) 20 = 0 := by decide
    go_wp2_with fail
    refine wp_region_held_drew (S := (fun W => W.cell? ⟨g1, 0, none⟩ = some (.slice XA F.length Xc) ∧ W.cell? ⟨g1 + 1, 0, none⟩ = some (.slice VA vs.length Vc))) (by kernel_rfl) ?_ (fun hSx => ?_)
    · exact HCS.out _ HR0.out
    refine wpAnyH_take (i := 0) (oi := ⟨some 20, _, _, _, _, none⟩) (v := ?_) rfl (by kernel_rfl) (by kernel_rfl) (by kernel_rfl) (fun _ _ _ h => h) (Or.inl ⟨by kernel_rfl, ?_⟩) hSx ?_
    rotate_left 1
    focus (intro wx hSw; obtain ⟨s0, s1⟩ := hSw; go_simp; first | done | with_reducible rfl)
    try simp only [Act.put, List.setIfInBounds_toArray, List.set_cons_zero, List.set_cons_succ]
    refine wpAnyH_take (i := 1) (oi := ⟨some 21, _, _, _, _, none⟩) (v := ?_) rfl (by kernel_rfl) (by kernel_rfl) (by kernel_rfl) (fun _ _ _ h => h) (Or.inl ⟨by kernel_rfl, ?_⟩) hSx ?_
    rotate_left 1
    focus (intro wx hSw; obtain ⟨s0, s1⟩ := hSw; go_simp; first | done | with_reducible rfl)
    try simp only [Act.put, List.setIfInBounds_toArray, List.set_cons_zero, List.set_cons_succ]
    refine wpAnyH_take (i := 2) (oi := ⟨some 22, _, _, _, _, none⟩) (v := ?_) rfl (by kernel_rfl) (by kernel_rfl) (by kernel_rfl) (fun _ _ _ h => h) (Or.inl ⟨by kernel_rfl, ?_⟩) hSx ?_
    rotate_left 1
    focus (intro wx hSw; obtain ⟨s0, s1⟩ := hSw; go_simp; first | done | with_reducible rfl)
    try simp only [Act.put, List.setIfInBounds_toArray, List.set_cons_zero, List.set_cons_succ]
    refine wpAnyH_take (i := 4) (oi := ⟨some 24, _, _, _, _, none⟩) (v := ?_) rfl (by kernel_rfl) (by kernel_rfl) (by kernel_rfl) (fun _ _ _ h => h) (Or.inl ⟨by kernel_rfl, ?_⟩) hSx ?_
    rotate_left 1
    focus (intro wx hSw; obtain ⟨s0, s1⟩ := hSw; go_simp; first | done | with_reducible rfl)
    try simp only [Act.put, List.setIfInBounds_toArray, List.set_cons_zero, List.set_cons_succ]
    refine wpAnyH_take (i := 5) (oi := ⟨some 25, _, _, _, _, none⟩) (v := ?_) rfl (by kernel_rfl) (by kernel_rfl) (by kernel_rfl) (fun _ _ _ h => h) (Or.inl ⟨by kernel_rfl, ?_⟩) hSx ?_
    rotate_left 1
    focus (intro wx hSw; obtain ⟨s0, s1⟩ := hSw; go_simp; first | done | with_reducible rfl)
    try simp only [Act.put, List.setIfInBounds_toArray, List.set_cons_zero, List.set_cons_succ]
    refine wpAnyH_take (i := 6) (oi := ⟨some 26, _, _, _, _, none⟩) (v := ?_) rfl (by kernel_rfl) (by kernel_rfl) (by kernel_rfl) (fun _ _ _ h => h) (Or.inl ⟨by kernel_rfl, ?_⟩) hSx ?_
    rotate_left 1
    focus (intro wx hSw; obtain ⟨s0, s1⟩ := hSw; go_simp; first | done | with_reducible rfl)
    try simp only [Act.put, List.setIfInBounds_toArray, List.set_cons_zero, List.set_cons_succ]
    refine wpAnyH_ready (rs := [3]) (by kernel_rfl) (by simp) ?_
    refine AllReadyH.cons (o := ⟨some 23, _, _, _, _, none⟩) rfl (fun KK hKK => ?_) AllReadyH.nil
    go_simp
    with_reducible refine Calls.mono (HC15.out _ HR0.out) ?_
    rintro e z1 ⟨rfl, hq⟩
    have HR1 := Lib.hid hq
    clear hq
    refine hKK.out _ _ (HCS.out _ HR1.out) (fun hSy => ?_)
    clear hKK hSx
    have hSx := hSy
    clear hSy KK
    try simp only [Act.put, List.setIfInBounds_toArray, List.set_cons_zero, List.set_cons_succ]
    refine wpAnyH_ready (rs := [7]) (by kernel_rfl) (by simp) ?_
    refine AllReadyH.cons (o := ⟨some 27, _, _, _, _, none⟩) rfl (fun KK hKK => ?_) AllReadyH.nil
    go_simp
    with_reducible refine Calls.mono (HC17.out _ HR1.out) ?_
    rintro e z2 ⟨rfl, hq⟩
    have HR2 := Lib.hid hq
    clear hq
    refine hKK.out _ _ (HCS.out _ HR2.out) (fun hSy => ?_)
    clear hKK hSx
    have hSx := hSy
    clear hSy KK
    try simp only [Act.put, List.setIfInBounds_toArray, List.set_cons_zero, List.set_cons_succ]
    refine wpAnyH_take (i := 8) (oi := ⟨some 28, _, _, _, _, none⟩) (v := ?_) rfl (by kernel_rfl) (by kernel_rfl) (by kernel_rfl) (fun _ _ _ h => h) (Or.inl ⟨by kernel_rfl, ?_⟩) hSx ?_
    rotate_left 1
    focus (intro wx hSw; obtain ⟨s0, s1⟩ := hSw; go_simp; first | done | with_reducible rfl)
    try simp only [Act.put, List.setIfInBounds_toArray, List.set_cons_zero, List.set_cons_succ]
    refine wpAnyH_take (i := 9) (oi := ⟨some 29, _, _, _, _, none⟩) (v := ?_) rfl (by kernel_rfl) (by kernel_rfl) (by kernel_rfl) (fun _ _ _ h => h) (Or.inl ⟨by kernel_rfl, ?_⟩) hSx ?_
    rotate_left 1
    focus (intro wx hSw; obtain ⟨s0, s1⟩ := hSw; go_simp; first | done | with_reducible rfl)
    try simp only [Act.put, List.setIfInBounds_toArray, List.set_cons_zero, List.set_cons_succ]
    refine wpAnyH_ready (rs := [10]) (by kernel_rfl) (by simp) ?_
    refine AllReadyH.cons (o := ⟨some 30, _, _, _, _, some (9, true)⟩) rfl (fun KK hKK => ?_) AllReadyH.nil
    go_simp
    with_reducible refine Calls.mono (awakeW HR2.out) ?_
    rintro e z3 ⟨rfl, hq⟩
    have HR3 := Lib.hid hq
    clear hq
    refine hKK.out _ _ (HCS.out _ HR3.out) (fun hSy => ?_)
    clear hKK hSx
    have hSx := hSy
    clear hSy KK
    try simp only [Act.put, List.setIfInBounds_toArray, List.set_cons_zero, List.set_cons_succ]
    refine wpAnyH_take (i := 11) (oi := ⟨some 31, _, _, _, _, none⟩) (v := ?_) rfl (by kernel_rfl) (by kernel_rfl) (by kernel_rfl) (fun _ _ _ h => h) (Or.inl ⟨by kernel_rfl, ?_⟩) hSx ?_
    rotate_left 1
    focus (intro wx hSw; obtain ⟨s0, s1⟩ := hSw; go_simp; first | done | with_reducible rfl)
    try simp only [Act.put, List.setIfInBounds_toArray, List.set_cons_zero, List.set_cons_succ]
    refine wpAnyH_take (i := 12) (oi := ⟨some 6, _, _, _, _, none⟩) (v := ?_) rfl (by kernel_rfl) (by kernel_rfl) (by kernel_rfl) (fun _ _ _ h => h) (Or.inl ⟨by kernel_rfl, ?_⟩) hSx ?_
    rotate_left 1
    focus (intro wx hSw; obtain ⟨s0, s1⟩ := hSw; go_simp; first | done | with_reducible rfl)
    try simp only [Act.put, List.setIfInBounds_toArray, List.set_cons_zero, List.set_cons_succ]
    refine wpAnyH_done (by kernel_rfl) ?_ _
    go_wp2_with fail
    go_ret
    exact ⟨rfl, HBW.out.trans (HR3.out.mono HBW.out.size)⟩
  · simp only at q1
    subst q1
    have hmm := HMM.out
    have hmi : min (ch.length : Int) 20 = (m : Int) := by omega
    have hm0 : (0 : Int) ≤ (m : Int) := by omega
    have hm1 : m ≤ q := by omega
    clear hcq
    go_wp2_with fail
    refine wp_region_held_drew (S := (fun W => W.cell? ⟨g1, 0, none⟩ = some (.slice XA F.length Xc) ∧ W.cell? ⟨g1 + 1, 0, none⟩ = some (.slice VA vs.length Vc))) (by kernel_rfl) ?_ (fun hSx => ?_)
    · exact HCS.out _ HR0.out
    refine wpAnyH_take (i := 0) (oi := ⟨some 20, _, _, _, _, none⟩) (v := ?_) rfl (by kernel_rfl) (by kernel_rfl) (by kernel_rfl) (fun _ _ _ h => h) (Or.inl ⟨by kernel_rfl, ?_⟩) hSx ?_
    rotate_left 1
    focus (intro wx hSw; obtain ⟨s0, s1⟩ := hSw; go_simp; first | done | with_reducible rfl)
    try simp only [Act.put, List.setIfInBounds_toArray, List.set_cons_zero, List.set_cons_succ]
    refine wpAnyH_take (i := 1) (oi := ⟨some 21, _, _, _, _, none⟩) (v := ?_) rfl (by kernel_rfl) (by kernel_rfl) (by kernel_rfl) (fun _ _ _ h => h) (Or.inl ⟨by kernel_rfl, ?_⟩) hSx ?_
    rotate_left 1
    focus (intro wx hSw; obtain ⟨s0, s1⟩ := hSw; go_simp; first | done | with_reducible rfl)
    try simp only [Act.put, List.setIfInBounds_toArray, List.set_cons_zero, List.set_cons_succ]
    refine wpAnyH_take (i := 2) (oi := ⟨some 22, _, _, _, _, none⟩) (v := ?_) rfl (by kernel_rfl) (by kernel_rfl) (by kernel_rfl) (fun _ _ _ h => h) (Or.inl ⟨by kernel_rfl, ?_⟩) hSx ?_
    rotate_left 1
    focus (intro wx hSw; obtain ⟨s0, s1⟩ := hSw; go_simp; first | done | with_reducible rfl)
    try simp only [Act.put, List.setIfInBounds_toArray, List.set_cons_zero, List.set_cons_succ]
    refine wpAnyH_take (i := 4) (oi := ⟨some 24, _, _, _, _, none⟩) (v := ?_) rfl (by kernel_rfl) (by kernel_rfl) (by kernel_rfl) (fun _ _ _ h => h) (Or.inl ⟨by kernel_rfl, ?_⟩) hSx ?_
    rotate_left 1
    focus (intro wx hSw; obtain ⟨s0, s1⟩ := hSw; go_simp; first | done | with_reducible rfl)
    try simp only [Act.put, List.setIfInBounds_toArray, List.set_cons_zero, List.set_cons_succ]
    refine wpAnyH_take (i := 5) (oi := ⟨some 25, _, _, _, _, none⟩) (v := ?_) rfl (by kernel_rfl) (by kernel_rfl) (by kernel_rfl) (fun _ _ _ h => h) (Or.inl ⟨by kernel_rfl, ?_⟩) hSx ?_
    rotate_left 1
    focus (intro wx hSw; obtain ⟨s0, s1⟩ := hSw; go_simp; first | done | with_reducible rfl)
    try simp only [Act.put, List.setIfInBounds_toArray, List.set_cons_zero, List.set_cons_succ]
    refine wpAnyH_take (i := 6) (oi := ⟨some 26, _, _, _, _, none⟩) (v := ?_) rfl (by kernel_rfl) (by kernel_rfl) (by kernel_rfl) (fun _ _ _ h => h) (Or.inl ⟨by kernel_rfl, ?_⟩) hSx ?_
    rotate_left 1
    focus (intro wx hSw; obtain ⟨s0, s1⟩ := hSw; go_simp; first | done | with_reducible rfl)
    try simp only [Act.put, List.setIfInBounds_toArray, List.set_cons_zero, List.set_cons_succ]
    refine wpAnyH_ready (rs := [3]) (by kernel_rfl) (by simp) ?_
    refine AllReadyH.cons (o := ⟨some 23, _, _, _, _, none⟩) rfl (fun KK hKK => ?_) AllReadyH.nil
    go_simp
    with_reducible refine Calls.mono (HC15.out _ HR0.out) ?_
    rintro e z1 ⟨rfl, hq⟩
    have HR1 := Lib.hid hq
    clear hq
    refine hKK.out _ _ (HCS.out _ HR1.out) (fun hSy => ?_)
    clear hKK hSx
    have hSx := hSy
    clear hSy KK
    try simp only [Act.put, List.setIfInBounds_toArray, List.set_cons_zero, List.set_cons_succ]
    refine wpAnyH_ready (rs := [7]) (by kernel_rfl) (by simp) ?_
    refine AllReadyH.cons (o := ⟨some 27, _, _, _, _, none⟩) rfl (fun KK hKK => ?_) AllReadyH.nil
    go_simp
    with_reducible refine Calls.mono (HC17.out _ HR1.out) ?_
    rintro e z2 ⟨rfl, hq⟩
    have HR2 := Lib.hid hq
    clear hq
    refine hKK.out _ _ (HCS.out _ HR2.out) (fun hSy => ?_)
    clear hKK hSx
    have hSx := hSy
    clear hSy KK
    try simp only [Act.put, List.setIfInBounds_toArray, List.set_cons_zero, List.set_cons_succ]
    refine wpAnyH_take (i := 8) (oi := ⟨some 28, _, _, _, _, none⟩) (v := ?_) rfl (by kernel_rfl) (by kernel_rfl) (by kernel_rfl) (fun _ _ _ h => h) (Or.inl ⟨by kernel_rfl, ?_⟩) hSx ?_
    rotate_left 1
    focus (intro wx hSw; obtain ⟨s0, s1⟩ := hSw; go_simp; first | done | with_reducible rfl)
    try simp only [Act.put, List.setIfInBounds_toArray, List.set_cons_zero, List.set_cons_succ]
    refine wpAnyH_take (i := 9) (oi := ⟨some 29, _, _, _, _, none⟩) (v := ?_) rfl (by kernel_rfl) (by kernel_rfl) (by kernel_rfl) (fun _ _ _ h => h) (Or.inl ⟨by kernel_rfl, ?_⟩) hSx ?_
    rotate_left 1
    focus (intro wx hSw; obtain ⟨s0, s1⟩ := hSw; go_simp; first | done | with_reducible rfl)
    try simp only [Act.put, List.setIfInBounds_toArray, List.set_cons_zero, List.set_cons_succ]
    refine wpAnyH_ready (rs := [10]) (by kernel_rfl) (by simp) ?_
    refine AllReadyH.cons (o := ⟨some 30, _, _, _, _, some (9, true)⟩) rfl (fun KK hKK => ?_) AllReadyH.nil
    go_simp
    with_reducible refine Calls.mono (awakeW HR2.out) ?_
    rintro e z3 ⟨rfl, hq⟩
    have HR3 := Lib.hid hq
    clear hq
    refine hKK.out _ _ (HCS.out _ HR3.out) (fun hSy => ?_)
    clear hKK hSx
    have hSx := hSy
    clear hSy KK
    try simp only [Act.put, List.setIfInBounds_toArray, List.set_cons_zero, List.set_cons_succ]
    refine wpAnyH_take (i := 11) (oi := ⟨some 31, _, _, _, _, none⟩) (v := ?_) rfl (by kernel_rfl) (by kernel_rfl) (by kernel_rfl) (fun _ _ _ h => h) (Or.inl ⟨by kernel_rfl, ?_⟩) hSx ?_
    rotate_left 1
    focus (intro wx hSw; obtain ⟨s0, s1⟩ := hSw; go_simp; first | done | with_reducible rfl)
    try simp only [Act.put, List.setIfInBounds_toArray, List.set_cons_zero, List.set_cons_succ]
    refine wpAnyH_take (i := 12) (oi := ⟨some 6, _, _, _, _, none⟩) (v := ?_) rfl (by kernel_rfl) (by kernel_rfl) (by kernel_rfl) (fun _ _ _ h => h) (Or.inl ⟨by kernel_rfl, ?_⟩) hSx ?_
    rotate_left 1
    focus (intro wx hSw; obtain ⟨s0, s1⟩ := hSw; go_simp; first | done | with_reducible rfl)
    try simp only [Act.put, List.setIfInBounds_toArray, List.set_cons_zero, List.set_cons_succ]
    refine wpAnyH_done (by kernel_rfl) ?_ _
    go_wp2_with fail
    go_ret
    exact ⟨rfl, HBW.out.trans (HR3.out.mono HBW.out.size)⟩
end Go.Proofs.Ytijdkgklajdbnaa
