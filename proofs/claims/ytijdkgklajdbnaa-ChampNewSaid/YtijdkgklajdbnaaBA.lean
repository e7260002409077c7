/- The walk over ChampScores. -/
import Derived.Test.YtijdkgklajdbnaaAZ
namespace Go.Proofs.Ytijdkgklajdbnaa
open Go.RowKit
theorem few_law {w w1 : World} {hs : List Fp} {ls : List Lst} {e : Ending} (h : FewPost w hs (ids ls) e w1) (ha : AllFp hs) (hid : ∀ x ∈ ls, ∀ y ∈ x.l, IdOk y) :
    ∃ XA Xc VA Vc F vs, e = .returned (.tuple #[.slice XA F.length Xc, .slice VA vs.length Vc]) ∧ LawSt ((w1.alloc (.cells #[.slice XA F.length Xc] 22)).alloc (.cells #[.slice VA vs.length Vc] 23)) F vs XA VA Xc Vc w1.heap.size (w1.heap.size + 1) ∧ Below w.heap.size w ((w1.alloc (.cells #[.slice XA F.length Xc] 22)).alloc (.cells #[.slice VA vs.length Vc] 23)) := by
  obtain ⟨N, XA, Xc, VA, Vc, vs, hN, he, hvl, hids, hro, hst⟩ := h
  have hF : AllFp (hs.take N) := fun x hx => ha x (List.mem_of_mem_take hx)
  have h20 : (hs.take N).length ≤ 20 := by rw [List.length_take]; omega
  have hin : ∀ x ∈ vs, AOk x.A x.l.length ∧ x.l.length ≤ 12 ∧ ∀ y ∈ x.l, IdOk y := fun x hx => by
    have hx2 : x.l ∈ cutL (ids ls) N := by rw [← hids]; exact List.mem_map.2 ⟨x, hx, rfl⟩
    obtain ⟨m, hm, hm2⟩ := List.mem_map.1 hx2
    obtain ⟨z, hz, rfl⟩ := List.mem_map.1 (List.mem_of_mem_take hm)
    refine ⟨hst.aok x hx, by rw [← hm2, List.length_take]; omega, fun y hy => ?_⟩
    rw [← hm2] at hy
    exact hid z hz y (List.mem_of_mem_take hy)
  generalize hs.take N = F at *
  have b1 : Below w1.heap.size w1 (w1.alloc (.cells #[.slice XA F.length Xc] 22)) := (Below.refl _ _).alloc (Nat.le_refl _) _
  have b2 := b1.alloc b1.size (.cells #[.slice VA vs.length Vc] 23)
  refine ⟨XA, Xc, VA, Vc, F, vs, he, ⟨?_, ?_, (row_own hro : Fps w1 XA F).below b2, hst.ls.below b2, hF, h20, hvl, aok_own hro, hin⟩, hst.below.trans (b2.mono hst.below.size)⟩
  · simp
  · simp
theorem LawSt.cells {W0 W : World} {hs : List Fp} {ls : List Lst} {A B : Option Addr} {c d g1 g2 : Nat} (h : LawSt W0 hs ls A B c d g1 g2) (hw : Below W0.heap.size W0 W) : W.cell? ⟨g1, 0, none⟩ = some (.slice A hs.length c) ∧ W.cell? ⟨g2, 0, none⟩ = some (.slice B ls.length d) :=
  ⟨(hw.cell (p := ⟨g1, 0, none⟩) (World.block_lt_of_cell? W0 _ h.c1)).trans h.c1, (hw.cell (p := ⟨g2, 0, none⟩) (World.block_lt_of_cell? W0 _ h.c2)).trans h.c2⟩
theorem awakeW {W0 W : World} (hw : Below W0.heap.size W0 W) : Calls Try.prog 14 #[] W fun e w' => e = .returned (.bool true) ∧ Below W0.heap.size W0 w' :=
  (awake14 W).mono (fun _ _ h => ⟨h.1, hw.trans (h.2.mono hw.size)⟩)
theorem scoreW {W0 W : World} {hs : List Fp} {ls : List Lst} {A B : Option Addr} {c d g1 g2 : Nat} {man : Id} (h : LawSt W0 hs ls A B c d g1 g2) (hw : Below W0.heap.size W0 W) (hm : IdOk man) :
    Calls Try.prog 10 #[.slice A hs.length c, .func (.func 11) #[] #[.pointer (some ⟨g1, 0, none⟩), .pointer (some ⟨g2, 0, none⟩)], .int .u32 man] W fun e w' => e = .returned (.int .i64 (scoreN (ids (toldL hs ls)) man [] : Nat)) ∧ Below W0.heap.size W0 w' := by
  have := score10 (asked11 h hw) (below_ok W0) h.told.2 (by rw [askP, List.length_map]; exact h.told.1) hm
  rw [cnt_all] at this
  exact this
theorem rscoreW {W0 W : World} {hs : List Fp} {ls : List Lst} {A B : Option Addr} {c d g1 g2 : Nat} {man : Id} (h : LawSt W0 hs ls A B c d g1 g2) (hw : Below W0.heap.size W0 W) :
    Calls Try.prog 13 #[.slice A hs.length c, .slice B ls.length d, .int .u32 man] W fun e w' => e = .returned (.int .i64 (scoreN (ids (toldL hs ls)) man [] : Nat)) ∧ Below W0.heap.size W0 w' :=
  (rscore13 (h.fps.below hw) (h.lss.below hw) h.all (by have := h.n1; omega) (fun x hx => by have := (h.inn x hx).2.1; omega)).mono (fun _ _ q => ⟨q.1, hw.trans (q.2.mono hw.size)⟩)
set_option maxRecDepth 100000 in
set_option maxHeartbeats 4000000 in
theorem scores3 {A B : Option Addr} {c d : Nat} {hs : List Fp} {ls : List Lst} {man : Id} {w : World} (h : Fps w A hs) (hl : Ls w B ls) (ha : AllFp hs) (hlo : ∀ x ∈ ls, AOkc x) (hid : ∀ x ∈ ls, ∀ y ∈ x.l, IdOk y) (hman : IdOk man) :
    Calls Try.prog 3 #[.slice A hs.length c, .slice B ls.length d, .int .u32 man] w fun e w' => e = .returned (.bool true) ∧ Below w.heap.size w w' := by
  have HC := Lib.hid (few9 (c := c) (d := d) h hl ha hlo)
  have HA := Lib.hid ha
  have HID := Lib.hid hid
  have HMAN := Lib.hid hman
  clear h hl ha hlo hid hman
  go_enter Try.func3, Try.ntmps3
  go_wp2_with fail
  refine Calls.mono HC.out ?_
  intro e w1 hp
  obtain ⟨XA, Xc, VA, Vc, F, vs, rfl, hlaw, hbw⟩ := few_law hp HA.out HID.out
  have HL := Lib.hid hlaw
  have HBW := Lib.hid hbw
  clear hp hlaw hbw HC HA HID
  go_wp2_with fail
  have hg2 : w1.heap.size + 1 = w1.heap.size + 1 := rfl
  generalize (w1.alloc (.cells #[.slice XA F.length Xc] 22)).alloc (.cells #[.slice VA vs.length Vc] 23) = W0 at *
  generalize w1.heap.size = g1 at *
  clear hg2
  have HCS : Hid (∀ W, Below W0.heap.size W0 W → W.cell? ⟨g1, 0, none⟩ = some (.slice XA F.length Xc) ∧ W.cell? ⟨g1 + 1, 0, none⟩ = some (.slice VA vs.length Vc)) := Lib.hid (fun W hW => HL.out.cells hW)
  have HC10 := Lib.hid (fun (W : World) (hw : Below W0.heap.size W0 W) => scoreW HL.out hw HMAN.out)
  have HC13 := Lib.hid (fun (W : World) (hw : Below W0.heap.size W0 W) => rscoreW (man := man) HL.out hw)
  have HR0 : Hid (Below W0.heap.size W0 W0.drew) := Lib.hid (below_drew (Below.refl _ _))
  generalize scoreN (ids (toldL F vs)) man [] = SC at *
  refine wp_region_held_drew (S := (fun W => W.cell? ⟨g1, 0, none⟩ = some (.slice XA F.length Xc) ∧ W.cell? ⟨g1 + 1, 0, none⟩ = some (.slice VA vs.length Vc))) (by kernel_rfl) ?_ (fun hSx => ?_)
  · exact HCS.out _ HR0.out
  refine wpAnyH_take (i := 0) (oi := ⟨some 15, _, _, _, _, none⟩) (v := ?_) rfl (by kernel_rfl) (by kernel_rfl) (by kernel_rfl) (fun _ _ _ h => h) (Or.inl ⟨by kernel_rfl, ?_⟩) hSx ?_
  rotate_left 1
  focus (intro wx hSw; obtain ⟨s0, s1⟩ := hSw; go_simp; first | done | with_reducible rfl)
  try simp only [Act.put, List.setIfInBounds_toArray, List.set_cons_zero, List.set_cons_succ]
  refine wpAnyH_take (i := 1) (oi := ⟨some 16, _, _, _, _, none⟩) (v := ?_) rfl (by kernel_rfl) (by kernel_rfl) (by kernel_rfl) (fun _ _ _ h => h) (Or.inl ⟨by kernel_rfl, ?_⟩) hSx ?_
  rotate_left 1
  focus (intro wx hSw; obtain ⟨s0, s1⟩ := hSw; go_simp; first | done | with_reducible rfl)
  try simp only [Act.put, List.setIfInBounds_toArray, List.set_cons_zero, List.set_cons_succ]
  refine wpAnyH_take (i := 2) (oi := ⟨some 17, _, _, _, _, none⟩) (v := ?_) rfl (by kernel_rfl) (by kernel_rfl) (by kernel_rfl) (fun _ _ _ h => h) (Or.inl ⟨by kernel_rfl, ?_⟩) hSx ?_
  rotate_left 1
  focus (intro wx hSw; obtain ⟨s0, s1⟩ := hSw; go_simp; first | done | with_reducible rfl)
  try simp only [Act.put, List.setIfInBounds_toArray, List.set_cons_zero, List.set_cons_succ]
  refine wpAnyH_take (i := 4) (oi := ⟨some 19, _, _, _, _, none⟩) (v := ?_) rfl (by kernel_rfl) (by kernel_rfl) (by kernel_rfl) (fun _ _ _ h => h) (Or.inl ⟨by kernel_rfl, ?_⟩) hSx ?_
  rotate_left 1
  focus (intro wx hSw; obtain ⟨s0, s1⟩ := hSw; go_simp; first | done | with_reducible rfl)
  try simp only [Act.put, List.setIfInBounds_toArray, List.set_cons_zero, List.set_cons_succ]
  refine wpAnyH_take (i := 5) (oi := ⟨some 20, _, _, _, _, none⟩) (v := ?_) rfl (by kernel_rfl) (by kernel_rfl) (by kernel_rfl) (fun _ _ _ h => h) (Or.inl ⟨by kernel_rfl, ?_⟩) hSx ?_
  rotate_left 1
  focus (intro wx hSw; obtain ⟨s0, s1⟩ := hSw; go_simp; first | done | with_reducible rfl)
  try simp only [Act.put, List.setIfInBounds_toArray, List.set_cons_zero, List.set_cons_succ]
  refine wpAnyH_take (i := 6) (oi := ⟨some 21, _, _, _, _, none⟩) (v := ?_) rfl (by kernel_rfl) (by kernel_rfl) (by kernel_rfl) (fun _ _ _ h => h) (Or.inl ⟨by kernel_rfl, ?_⟩) hSx ?_
  rotate_left 1
  focus (intro wx hSw; obtain ⟨s0, s1⟩ := hSw; go_simp; first | done | with_reducible rfl)
  try simp only [Act.put, List.setIfInBounds_toArray, List.set_cons_zero, List.set_cons_succ]
  refine wpAnyH_ready (rs := [3]) (by kernel_rfl) (by simp) ?_
  refine AllReadyH.cons (o := ⟨some 18, _, _, _, _, none⟩) rfl (fun KK hKK => ?_) AllReadyH.nil
  go_simp
  with_reducible refine Calls.mono (HC10.out _ HR0.out) ?_
  rintro e z1 ⟨rfl, hq⟩
  have HR1 := Lib.hid hq
  clear hq
  refine hKK.out _ _ (HCS.out _ HR1.out) (fun hSy => ?_)
  clear hKK hSx
  have hSx := hSy
  clear hSy KK
  try simp only [Act.put, List.setIfInBounds_toArray, List.set_cons_zero, List.set_cons_succ]
  refine wpAnyH_ready (rs := [7]) (by kernel_rfl) (by simp) ?_
  refine AllReadyH.cons (o := ⟨some 22, _, _, _, _, none⟩) rfl (fun KK hKK => ?_) AllReadyH.nil
  go_simp
  with_reducible refine Calls.mono (HC13.out _ HR1.out) ?_
  rintro e z2 ⟨rfl, hq⟩
  have HR2 := Lib.hid hq
  clear hq
  refine hKK.out _ _ (HCS.out _ HR2.out) (fun hSy => ?_)
  clear hKK hSx
  have hSx := hSy
  clear hSy KK
  try simp only [Act.put, List.setIfInBounds_toArray, List.set_cons_zero, List.set_cons_succ]
  refine wpAnyH_take (i := 8) (oi := ⟨some 23, _, _, _, _, none⟩) (v := ?_) rfl (by kernel_rfl) (by kernel_rfl) (by kernel_rfl) (fun _ _ _ h => h) (Or.inl ⟨by kernel_rfl, ?_⟩) hSx ?_
  rotate_left 1
  focus (intro wx hSw; obtain ⟨s0, s1⟩ := hSw; go_simp; first | done | with_reducible rfl)
  try simp only [Act.put, List.setIfInBounds_toArray, List.set_cons_zero, List.set_cons_succ]
  refine wpAnyH_take (i := 9) (oi := ⟨some 24, _, _, _, _, none⟩) (v := ?_) rfl (by kernel_rfl) (by kernel_rfl) (by kernel_rfl) (fun _ _ _ h => h) (Or.inl ⟨by kernel_rfl, ?_⟩) hSx ?_
  rotate_left 1
  focus (intro wx hSw; obtain ⟨s0, s1⟩ := hSw; go_simp; first | done | with_reducible rfl)
  try simp only [Act.put, List.setIfInBounds_toArray, List.set_cons_zero, List.set_cons_succ]
  refine wpAnyH_ready (rs := [10]) (by kernel_rfl) (by simp) ?_
  refine AllReadyH.cons (o := ⟨some 25, _, _, _, _, some (9, true)⟩) rfl (fun KK hKK => ?_) AllReadyH.nil
  go_simp
  with_reducible refine Calls.mono (awakeW HR2.out) ?_
  rintro e z3 ⟨rfl, hq⟩
  have HR3 := Lib.hid hq
  clear hq
  refine hKK.out _ _ (HCS.out _ HR3.out) (fun hSy => ?_)
  clear hKK hSx
  have hSx := hSy
  clear hSy KK
  try simp only [Act.put, List.setIfInBounds_toArray, List.set_cons_zero, List.set_cons_succ]
  refine wpAnyH_take (i := 11) (oi := ⟨some 26, _, _, _, _, none⟩) (v := ?_) rfl (by kernel_rfl) (by kernel_rfl) (by kernel_rfl) (fun _ _ _ h => h) (Or.inl ⟨by kernel_rfl, ?_⟩) hSx ?_
  rotate_left 1
  focus (intro wx hSw; obtain ⟨s0, s1⟩ := hSw; go_simp; first | done | with_reducible rfl)
  try simp only [Act.put, List.setIfInBounds_toArray, List.set_cons_zero, List.set_cons_succ]
  refine wpAnyH_take (i := 12) (oi := ⟨some 6, _, _, _, _, none⟩) (v := ?_) rfl (by kernel_rfl) (by kernel_rfl) (by kernel_rfl) (fun _ _ _ h => h) (Or.inl ⟨by kernel_rfl, ?_⟩) hSx ?_
  rotate_left 1
  focus (intro wx hSw; obtain ⟨s0, s1⟩ := hSw; go_simp; first | done | with_reducible rfl)
  try simp only [Act.put, List.setIfInBounds_toArray, List.set_cons_zero, List.set_cons_succ]
  refine wpAnyH_done (by kernel_rfl) ?_ _
  go_wp2_with fail
  go_ret
  exact ⟨rfl, HBW.out.trans (HR3.out.mono HBW.out.size)⟩
end Go.Proofs.Ytijdkgklajdbnaa
