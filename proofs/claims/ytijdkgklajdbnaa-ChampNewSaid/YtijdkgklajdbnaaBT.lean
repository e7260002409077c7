/- The walk over ChampNew. -/
import Derived.Test.YtijdkgklajdbnaaBS
namespace Go.Proofs.Ytijdkgklajdbnaa
open Go.RowKit
theorem rcoverV {W0 W : World} {hs : List Fp} {ls : List Lst} {A B C : Option Addr} {c d q g1 g2 : Nat} {ch : List Id} (h : LawSt W0 hs ls A B c d g1 g2) (hw : Below W0.heap.size W0 W) (hc : Ids W C ch) (hn : ch.length ≤ 1000000) :
    Calls Try.prog 17 #[.slice A hs.length c, .slice B ls.length d, .slice C ch.length q] W fun e w' => e = .returned (.int .i64 (coverN (ids (toldL hs ls)) ch : Nat)) ∧ Below W.heap.size W w' :=
  cover17 (h.fps.below hw) (h.lss.below hw) h.all (by have := h.n1; omega) hc (fun x hx => by have := (h.inn x hx).2.1; omega) hn
theorem rscoreV {W0 W : World} {hs : List Fp} {ls : List Lst} {A B : Option Addr} {c d g1 g2 : Nat} {man : Id} (h : LawSt W0 hs ls A B c d g1 g2) (hw : Below W0.heap.size W0 W) :
    Calls Try.prog 13 #[.slice A hs.length c, .slice B ls.length d, .int .u32 man] W fun e w' => e = .returned (.int .i64 (scoreN (ids (toldL hs ls)) man [] : Nat)) ∧ Below W.heap.size W w' :=
  rscore13 (h.fps.below hw) (h.lss.below hw) h.all (by have := h.n1; omega) (fun x hx => by have := (h.inn x hx).2.1; omega)
set_option maxRecDepth 100000 in
set_option maxHeartbeats 4000000 in
theorem new7 {A B : Option Addr} {c d : Nat} {hs : List Fp} {ls : List Lst} {most : Int} {w : World} (h : Fps w A hs) (hl : Ls w B ls) (ha : AllFp hs) (hlo : ∀ x ∈ ls, AOkc x) (hid : ∀ x ∈ ls, ∀ y ∈ x.l, IdOk y) (hm0 : 0 ≤ most) (hm1 : most ≤ 255) :
    Calls Try.prog 7 #[.slice A hs.length c, .slice B ls.length d, .int .u8 most] w fun e w' => e = .returned (.bool true) ∧ Below w.heap.size w w' := by
  have HC := Lib.hid (few9 (c := c) (d := d) h hl ha hlo)
  have HA := Lib.hid ha
  have HID := Lib.hid hid
  clear h hl ha hlo hid
  go_enter Try.func7, Try.ntmps7
  go_wp2_with fail
  refine Calls.mono HC.out ?_
  intro e w1 hp
  obtain ⟨XA, Xc, VA, Vc, F, vs, rfl, hlaw, hbw⟩ := few_law hp HA.out HID.out
  have HL := Lib.hid hlaw
  have HBW := Lib.hid hbw
  clear hp hlaw hbw HC HA HID
  go_upto_region 2 with fail
  have hg2 : w1.heap.size + 1 = w1.heap.size + 1 := rfl
  generalize (w1.alloc (.cells #[.slice XA F.length Xc] 22)).alloc (.cells #[.slice VA vs.length Vc] 23) = W0 at *
  generalize w1.heap.size = g1 at *
  clear hg2
  have HCS : Hid (∀ W, Below W0.heap.size W0 W → W.cell? ⟨g1, 0, none⟩ = some (.slice XA F.length Xc) ∧ W.cell? ⟨g1 + 1, 0, none⟩ = some (.slice VA vs.length Vc)) := Lib.hid (fun W hW => HL.out.cells hW)
  have c1 := HL.out.c1
  have c2 := HL.out.c2
  have hcv : IntKind.i64.wrap most = most := by rw [IntWalk.i64_in _ (by omega)]
  have HC18 := Lib.hid (chooseW (most := most) 25 HL.out (asked25 HL.out (Below.refl _ _)))
  have HGD : Hid (GoodC (ids (toldL F vs)) (refChoose (ids (toldL F vs)) most) ∧ ((refChoose (ids (toldL F vs)) most).length : Int) ≤ max most 0 ∧ (refChoose (ids (toldL F vs)) most).length ≤ 64 ∧ (¬ (((refChoose (ids (toldL F vs)) most).length : Int) < most ∧ ((refChoose (ids (toldL F vs)) most).length : Int) < 64) ∨ ∀ y, scoreN (ids (toldL F vs)) y (refChoose (ids (toldL F vs)) most) = 0)) := Lib.hid (choose_good (ids (toldL F vs)) most 65 [] (fun i x hx => by cases hx) (by simp) (by simp) (by simp; omega))
  go_wp2_with fail
  refine Calls.mono HC18.out ?_
  rintro e w2 ⟨C, q, rfl, hri, h64, hrq, hb2⟩
  have HRI := Lib.hid hri
  have HB2 := Lib.hid hb2
  have hlm := HGD.out.2.1
  have HC17 : Hid (∀ W m, Below w2.heap.size w2 W → m ≤ (refChoose (ids (toldL F vs)) most).length → Calls Try.prog 17 #[.slice XA F.length Xc, .slice VA vs.length Vc, .slice C m q] W fun e w' => e = .returned (.int .i64 (coverN (ids (toldL F vs)) ((refChoose (ids (toldL F vs)) most).take m) : Nat)) ∧ Below w2.heap.size w2 w') := Lib.hid (fun W m hW hm => by
    have hq := rcoverV (q := q) HL.out (HB2.out.trans (hW.mono HB2.out.size)) ((HRI.out.below hW).take m) (by rw [List.length_take]; omega)
    rw [List.length_take, Nat.min_eq_left hm] at hq
    exact hq.mono (fun _ _ h => ⟨h.1, hW.trans (h.2.mono hW.size)⟩))
  have HC13 : Hid (∀ W x, Below w2.heap.size w2 W → Calls Try.prog 13 #[.slice XA F.length Xc, .slice VA vs.length Vc, .int .u32 x] W fun e w' => e = .returned (.int .i64 (scoreN (ids (toldL F vs)) x [] : Nat)) ∧ Below w2.heap.size w2 w') := Lib.hid (fun W x hW =>
    (rscoreV HL.out (HB2.out.trans (hW.mono HB2.out.size))).mono (fun _ _ h => ⟨h.1, hW.trans (h.2.mono hW.size)⟩))
  generalize refChoose (ids (toldL F vs)) most = R at *
  clear hri hb2
  have hle : ¬ min most 64 < (R.length : Int) := by omega
  obtain ⟨c1, c2⟩ := HCS.out w2 HB2.out
  go_wp2_with fail
  have HLTH : Hid (∀ k, k < R.length → coverN (ids (toldL F vs)) (R.take k) < coverN (ids (toldL F vs)) (R.take (k + 1))) := Lib.hid (fun k hk => by
    obtain ⟨x, hx⟩ : ∃ x, R[k]? = some x := ⟨_, List.getElem?_eq_getElem hk⟩
    rw [show R.take (k + 1) = R.take k ++ [x] by rw [List.take_add_one, hx]; rfl, cover_snoc]
    have := (HGD.out.1 k x hx).1
    omega)
  have HSLE : Hid (∀ (k : Nat) (x x0 : Id), R[k]? = some x → R[0]? = some x0 → scoreN (ids (toldL F vs)) x [] ≤ scoreN (ids (toldL F vs)) x0 []) := Lib.hid (fun k x x0 _ h0 => by
    have := (HGD.out.1 0 x0 h0).2 x
    simpa using this)
  have HFIN : Hid (¬ ((R.length : Int) < most ∧ (R.length : Int) < 64) ∨ coverN (ids (toldL F vs)) R = (ids (toldL F vs)).countP (fun l => decide (0 < l.length))) := Lib.hid (HGD.out.2.2.2.elim .inl (fun h => .inr (cover_rest h)))
  clear c1 c2
  go_loopg [10] R.length (fun gk i wr => ∃ k : Nat, k ≤ R.length ∧ gk = R.length - k ∧ i = .int .i64 k ∧ Below w2.heap.size w2 wr)
  case atStart => exact ⟨0, Nat.zero_le _, rfl, rfl, Below.refl _ _⟩
  case round =>
    obtain ⟨k, hk, hgk, rfl, hb⟩ := hrel
    have HK := Lib.hid hgk
    have HB := Lib.hid hb
    clear hgk hb
    have hk0 : (0 : Int) ≤ (k : Int) := by omega
    by_cases hlt : k < R.length
    · obtain ⟨x, hx⟩ : ∃ x, R[k]? = some x := ⟨_, List.getElem?_eq_getElem hlt⟩
      obtain ⟨x0, hx0⟩ : ∃ x0, R[0]? = some x0 := ⟨_, List.getElem?_eq_getElem (by omega)⟩
      have HGX : Hid (∀ W, Below w2.heap.size w2 W → ∃ b o, C = some ⟨b, o, none⟩ ∧ W.cell? ⟨b, o + k, none⟩ = some (.int .u32 x) ∧ W.cell? ⟨b, o, none⟩ = some (.int .u32 x0)) := Lib.hid (fun W hW => by
        obtain ⟨b, o, e, _, q1⟩ := (HRI.out.below hW).get hx
        obtain ⟨b', o', e', _, q2⟩ := (HRI.out.below hW).get hx0
        rw [e] at e'
        simp only [Option.some.injEq, Addr.mk.injEq] at e'
        obtain ⟨r1, r2, _⟩ := e'
        exact ⟨b, o, e, q1, by rw [r1, r2]; simpa using q2⟩)
      obtain ⟨rb, ro, rfl, _⟩ := HGX.out wr HB.out
      have HSS : Hid (∀ W, Below w2.heap.size w2 W → W.cell? ⟨g1, 0, none⟩ = some (.slice XA F.length Xc) ∧ W.cell? ⟨g1 + 1, 0, none⟩ = some (.slice VA vs.length Vc) ∧ W.cell? ⟨rb, ro + k, none⟩ = some (.int .u32 x) ∧ W.cell? ⟨rb, ro, none⟩ = some (.int .u32 x0)) := Lib.hid (fun W hW => by
        obtain ⟨b', o', e', q1, q2⟩ := HGX.out W hW
        simp only [Option.some.injEq, Addr.mk.injEq] at e'
        obtain ⟨r1, r2, _⟩ := e'
        have hc := HCS.out W (HB2.out.trans (hW.mono HB2.out.size))
        exact ⟨hc.1, hc.2, by rw [r1, r2]; exact q1, by rw [r1, r2]; exact q2⟩)
      obtain ⟨m1, hm1⟩ : ∃ m1, m1 = k + 1 := ⟨_, rfl⟩
      have hcv1 := HLTH.out k hlt
      rw [← hm1] at hcv1
      have hsc := HSLE.out k x x0 hx hx0
      have HA1 := Lib.hid (fun (W : World) (hW : Below w2.heap.size w2 W) => HC17.out W m1 hW (by omega))
      have HA2 := Lib.hid (fun (W : World) (hW : Below w2.heap.size w2 W) => HC17.out W k hW (by omega))
      have HA3 := Lib.hid (fun (W : World) (hW : Below w2.heap.size w2 W) => HC13.out W x hW)
      have HA4 := Lib.hid (fun (W : World) (hW : Below w2.heap.size w2 W) => HC13.out W x0 hW)
      generalize coverN (ids (toldL F vs)) (R.take m1) = K1 at *
      generalize coverN (ids (toldL F vs)) (R.take k) = K0 at *
      generalize scoreN (ids (toldL F vs)) x [] = S1 at *
      generalize scoreN (ids (toldL F vs)) x0 [] = S0 at *
      have hki : ¬ (K1 : Int) ≤ (K0 : Int) := by omega
      have hsi : ¬ (S0 : Int) < (S1 : Int) := by omega
      have hkd : decide ((K1 : Int) ≤ (K0 : Int)) = false := decide_eq_false hki
      have hkn : ¬ K1 ≤ K0 := by omega
      have hkR : (k : Int) < (R.length : Int) := by omega
      have hk1q : m1 ≤ q := by omega
      have hkq : k ≤ q := by omega
      have hm10 : (0 : Int) ≤ (m1 : Int) := by omega
      have hwk : IntKind.i64.wrap ((k : Int) + 1) = (m1 : Int) := by rw [IntWalk.i64_in _ (by omega)]; omega
      have HR0 : Hid (Below w2.heap.size w2 wr.drew) := Lib.hid (below_drew HB.out)
      have h0R : 0 < R.length := by omega
      have HM1 := Lib.hid hm1
      clear hx hx0 hm1
      go_wp2_with fail
      refine wp_region_held_drew (S := (fun W => W.cell? ⟨g1, 0, none⟩ = some (.slice XA F.length Xc) ∧ W.cell? ⟨g1 + 1, 0, none⟩ = some (.slice VA vs.length Vc) ∧ W.cell? ⟨rb, ro + k, none⟩ = some (.int .u32 x) ∧ W.cell? ⟨rb, ro, none⟩ = some (.int .u32 x0))) (by kernel_rfl) ?_ (fun hSx => ?_)
      · exact HSS.out _ HR0.out
      refine wpAnyH_take (i := 0) (oi := ⟨some 37, _, _, _, _, none⟩) (v := ?_) rfl (by kernel_rfl) (by kernel_rfl) (by kernel_rfl) (fun _ _ _ h => h) (Or.inl ⟨by kernel_rfl, ?_⟩) hSx ?_
      rotate_left 1
      focus (intro wx hSw; obtain ⟨s0, s1, s2, s3⟩ := hSw; go_simp; first | done | with_reducible rfl)
      try simp only [Act.put, List.setIfInBounds_toArray, List.set_cons_zero, List.set_cons_succ]
      refine wpAnyH_take (i := 1) (oi := ⟨some 38, _, _, _, _, none⟩) (v := ?_) rfl (by kernel_rfl) (by kernel_rfl) (by kernel_rfl) (fun _ _ _ h => h) (Or.inl ⟨by kernel_rfl, ?_⟩) hSx ?_
      rotate_left 1
      focus (intro wx hSw; obtain ⟨s0, s1, s2, s3⟩ := hSw; go_simp; first | done | with_reducible rfl)
      try simp only [Act.put, List.setIfInBounds_toArray, List.set_cons_zero, List.set_cons_succ]
      refine wpAnyH_take (i := 2) (oi := ⟨some 39, _, _, _, _, none⟩) (v := ?_) rfl (by kernel_rfl) (by kernel_rfl) (by kernel_rfl) (fun _ _ _ h => h) (Or.inl ⟨by kernel_rfl, ?_⟩) hSx ?_
      rotate_left 1
      focus (intro wx hSw; obtain ⟨s0, s1, s2, s3⟩ := hSw; go_simp; first | done | with_reducible rfl)
      try simp only [Act.put, List.setIfInBounds_toArray, List.set_cons_zero, List.set_cons_succ]
      refine wpAnyH_take (i := 3) (oi := ⟨some 40, _, _, _, _, none⟩) (v := ?_) rfl (by kernel_rfl) (by kernel_rfl) (by kernel_rfl) (fun _ _ _ h => h) (Or.inl ⟨by kernel_rfl, ?_⟩) hSx ?_
      rotate_left 1
      focus (intro wx hSw; obtain ⟨s0, s1, s2, s3⟩ := hSw; go_simp; first | done | with_reducible rfl)
      try simp only [Act.put, List.setIfInBounds_toArray, List.set_cons_zero, List.set_cons_succ]
      refine wpAnyH_take (i := 4) (oi := ⟨some 41, _, _, _, _, none⟩) (v := ?_) rfl (by kernel_rfl) (by kernel_rfl) (by kernel_rfl) (fun _ _ _ h => h) (Or.inl ⟨by kernel_rfl, ?_⟩) hSx ?_
      rotate_left 1
      focus (intro wx hSw; obtain ⟨s0, s1, s2, s3⟩ := hSw; go_simp; first | done | with_reducible rfl)
      try simp only [Act.put, List.setIfInBounds_toArray, List.set_cons_zero, List.set_cons_succ]
      refine wpAnyH_take (i := 5) (oi := ⟨some 42, _, _, _, _, none⟩) (v := ?_) rfl (by kernel_rfl) (by kernel_rfl) (by kernel_rfl) (fun _ _ _ h => h) (Or.inl ⟨by kernel_rfl, ?_⟩) hSx ?_
      rotate_left 1
      focus (intro wx hSw; obtain ⟨s0, s1, s2, s3⟩ := hSw; go_simp; first | done | with_reducible rfl)
      try simp only [Act.put, List.setIfInBounds_toArray, List.set_cons_zero, List.set_cons_succ]
      refine wpAnyH_take (i := 7) (oi := ⟨some 44, _, _, _, _, none⟩) (v := ?_) rfl (by kernel_rfl) (by kernel_rfl) (by kernel_rfl) (fun _ _ _ h => h) (Or.inl ⟨by kernel_rfl, ?_⟩) hSx ?_
      rotate_left 1
      focus (intro wx hSw; obtain ⟨s0, s1, s2, s3⟩ := hSw; go_simp; first | done | with_reducible rfl)
      try simp only [Act.put, List.setIfInBounds_toArray, List.set_cons_zero, List.set_cons_succ]
      refine wpAnyH_take (i := 8) (oi := ⟨some 45, _, _, _, _, none⟩) (v := ?_) rfl (by kernel_rfl) (by kernel_rfl) (by kernel_rfl) (fun _ _ _ h => h) (Or.inl ⟨by kernel_rfl, ?_⟩) hSx ?_
      rotate_left 1
      focus (intro wx hSw; obtain ⟨s0, s1, s2, s3⟩ := hSw; go_simp; first | done | with_reducible rfl)
      try simp only [Act.put, List.setIfInBounds_toArray, List.set_cons_zero, List.set_cons_succ]
      refine wpAnyH_take (i := 9) (oi := ⟨some 46, _, _, _, _, none⟩) (v := ?_) rfl (by kernel_rfl) (by kernel_rfl) (by kernel_rfl) (fun _ _ _ h => h) (Or.inl ⟨by kernel_rfl, ?_⟩) hSx ?_
      rotate_left 1
      focus (intro wx hSw; obtain ⟨s0, s1, s2, s3⟩ := hSw; go_simp; first | done | with_reducible rfl)
      try simp only [Act.put, List.setIfInBounds_toArray, List.set_cons_zero, List.set_cons_succ]
      refine wpAnyH_take (i := 10) (oi := ⟨some 47, _, _, _, _, none⟩) (v := ?_) rfl (by kernel_rfl) (by kernel_rfl) (by kernel_rfl) (fun _ _ _ h => h) (Or.inl ⟨by kernel_rfl, ?_⟩) hSx ?_
      rotate_left 1
      focus (intro wx hSw; obtain ⟨s0, s1, s2, s3⟩ := hSw; go_simp; first | done | with_reducible rfl)
      try simp only [Act.put, List.setIfInBounds_toArray, List.set_cons_zero, List.set_cons_succ]
      refine wpAnyH_take (i := 11) (oi := ⟨some 48, _, _, _, _, none⟩) (v := ?_) rfl (by kernel_rfl) (by kernel_rfl) (by kernel_rfl) (fun _ _ _ h => h) (Or.inl ⟨by kernel_rfl, ?_⟩) hSx ?_
      rotate_left 1
      focus (intro wx hSw; obtain ⟨s0, s1, s2, s3⟩ := hSw; go_simp; first | done | with_reducible rfl)
      try simp only [Act.put, List.setIfInBounds_toArray, List.set_cons_zero, List.set_cons_succ]
      refine wpAnyH_ready (rs := [6]) (by kernel_rfl) (by simp) ?_
      refine AllReadyH.cons (o := ⟨some 43, _, _, _, _, none⟩) rfl (fun KK hKK => ?_) AllReadyH.nil
      go_simp
      with_reducible refine Calls.mono (HA1.out _ HR0.out) ?_
      rintro e z1 ⟨rfl, hq⟩
      have HR1 := Lib.hid hq
      clear hq
      refine hKK.out _ _ (HSS.out _ HR1.out) (fun hSy => ?_)
      clear hKK hSx
      have hSx := hSy
      clear hSy KK
      try simp only [Act.put, List.setIfInBounds_toArray, List.set_cons_zero, List.set_cons_succ]
      refine wpAnyH_ready (rs := [12]) (by kernel_rfl) (by simp) ?_
      refine AllReadyH.cons (o := ⟨some 49, _, _, _, _, none⟩) rfl (fun KK hKK => ?_) AllReadyH.nil
      go_simp
      with_reducible refine Calls.mono (HA2.out _ HR1.out) ?_
      rintro e z2 ⟨rfl, hq⟩
      have HR2 := Lib.hid hq
      clear hq
      refine hKK.out _ _ (HSS.out _ HR2.out) (fun hSy => ?_)
      clear hKK hSx
      have hSx := hSy
      clear hSy KK
      try simp only [Act.put, List.setIfInBounds_toArray, List.set_cons_zero, List.set_cons_succ]
      refine wpAnyH_take (i := 13) (oi := ⟨some 50, _, _, _, _, none⟩) (v := ?_) rfl (by kernel_rfl) (by kernel_rfl) (by kernel_rfl) (fun _ _ _ h => h) (Or.inl ⟨by kernel_rfl, ?_⟩) hSx ?_
      rotate_left 1
      focus (intro wx hSw; obtain ⟨s0, s1, s2, s3⟩ := hSw; go_simp; first | done | with_reducible rfl)
      try simp only [Act.put, List.setIfInBounds_toArray, List.set_cons_zero, List.set_cons_succ]
      refine wpAnyH_take (i := 14) (oi := ⟨some 51, _, _, _, _, none⟩) (v := ?_) rfl (by kernel_rfl) (by kernel_rfl) (by kernel_rfl) (fun _ _ _ h => h) (Or.inl ⟨by kernel_rfl, ?_⟩) hSx ?_
      rotate_left 1
      focus (intro wx hSw; obtain ⟨s0, s1, s2, s3⟩ := hSw; go_simp; first | done | with_reducible rfl)
      try simp only [Act.put, List.setIfInBounds_toArray, List.set_cons_zero, List.set_cons_succ]
      refine wpAnyH_take (i := 15) (oi := ⟨some 52, _, _, _, _, some (14, false)⟩) (v := ?_) rfl (by kernel_rfl) (by kernel_rfl) (by kernel_rfl) (fun _ _ _ h => h) (Or.inl ⟨by kernel_rfl, ?_⟩) hSx ?_
      rotate_left 1
      focus (intro wx hSw; obtain ⟨s0, s1, s2, s3⟩ := hSw; go_simp; first | done | with_reducible rfl)
      try simp only [Act.put, List.setIfInBounds_toArray, List.set_cons_zero, List.set_cons_succ]
      refine wpAnyH_take (i := 16) (oi := ⟨some 53, _, _, _, _, some (14, false)⟩) (v := ?_) rfl (by kernel_rfl) (by kernel_rfl) (by kernel_rfl) (fun _ _ _ h => h) (Or.inl ⟨by kernel_rfl, ?_⟩) hSx ?_
      rotate_left 1
      focus (intro wx hSw; obtain ⟨s0, s1, s2, s3⟩ := hSw; go_simp; first | done | with_reducible rfl)
      try simp only [Act.put, List.setIfInBounds_toArray, List.set_cons_zero, List.set_cons_succ]
      refine wpAnyH_take (i := 17) (oi := ⟨some 54, _, _, _, _, some (14, false)⟩) (v := ?_) rfl (by kernel_rfl) (by kernel_rfl) (by kernel_rfl) (fun _ _ _ h => h) (Or.inl ⟨by kernel_rfl, ?_⟩) hSx ?_
      rotate_left 1
      focus (intro wx hSw; obtain ⟨s0, s1, s2, s3⟩ := hSw; go_simp; first | done | with_reducible rfl)
      try simp only [Act.put, List.setIfInBounds_toArray, List.set_cons_zero, List.set_cons_succ]
      refine wpAnyH_take (i := 18) (oi := ⟨some 55, _, _, _, _, some (14, false)⟩) (v := ?_) rfl (by kernel_rfl) (by kernel_rfl) (by kernel_rfl) (fun _ _ _ h => h) (Or.inl ⟨by kernel_rfl, ?_⟩) hSx ?_
      rotate_left 1
      focus (intro wx hSw; obtain ⟨s0, s1, s2, s3⟩ := hSw; go_simp; first | done | with_reducible rfl)
      try simp only [Act.put, List.setIfInBounds_toArray, List.set_cons_zero, List.set_cons_succ]
      refine wpAnyH_take (i := 19) (oi := ⟨some 56, _, _, _, _, some (14, false)⟩) (v := ?_) rfl (by kernel_rfl) (by kernel_rfl) (by kernel_rfl) (fun _ _ _ h => h) (Or.inl ⟨by kernel_rfl, ?_⟩) hSx ?_
      rotate_left 1
      focus (intro wx hSw; obtain ⟨s0, s1, s2, s3⟩ := hSw; go_simp; first | done | with_reducible rfl)
      try simp only [Act.put, List.setIfInBounds_toArray, List.set_cons_zero, List.set_cons_succ]
      refine wpAnyH_take (i := 20) (oi := ⟨some 57, _, _, _, _, some (14, false)⟩) (v := ?_) rfl (by kernel_rfl) (by kernel_rfl) (by kernel_rfl) (fun _ _ _ h => h) (Or.inl ⟨by kernel_rfl, ?_⟩) hSx ?_
      rotate_left 1
      focus (intro wx hSw; obtain ⟨s0, s1, s2, s3⟩ := hSw; go_simp; first | done | with_reducible rfl)
      try simp only [Act.put, List.setIfInBounds_toArray, List.set_cons_zero, List.set_cons_succ]
      refine wpAnyH_take (i := 22) (oi := ⟨some 59, _, _, _, _, some (14, false)⟩) (v := ?_) rfl (by kernel_rfl) (by kernel_rfl) (by kernel_rfl) (fun _ _ _ h => h) (Or.inl ⟨by kernel_rfl, ?_⟩) hSx ?_
      rotate_left 1
      focus (intro wx hSw; obtain ⟨s0, s1, s2, s3⟩ := hSw; go_simp; first | done | with_reducible rfl)
      try simp only [Act.put, List.setIfInBounds_toArray, List.set_cons_zero, List.set_cons_succ]
      refine wpAnyH_take (i := 23) (oi := ⟨some 60, _, _, _, _, some (14, false)⟩) (v := ?_) rfl (by kernel_rfl) (by kernel_rfl) (by kernel_rfl) (fun _ _ _ h => h) (Or.inl ⟨by kernel_rfl, ?_⟩) hSx ?_
      rotate_left 1
      focus (intro wx hSw; obtain ⟨s0, s1, s2, s3⟩ := hSw; go_simp; first | done | with_reducible rfl)
      try simp only [Act.put, List.setIfInBounds_toArray, List.set_cons_zero, List.set_cons_succ]
      refine wpAnyH_take (i := 24) (oi := ⟨some 61, _, _, _, _, some (14, false)⟩) (v := ?_) rfl (by kernel_rfl) (by kernel_rfl) (by kernel_rfl) (fun _ _ _ h => h) (Or.inl ⟨by kernel_rfl, ?_⟩) hSx ?_
      rotate_left 1
      focus (intro wx hSw; obtain ⟨s0, s1, s2, s3⟩ := hSw; go_simp; first | done | with_reducible rfl)
      try simp only [Act.put, List.setIfInBounds_toArray, List.set_cons_zero, List.set_cons_succ]
      refine wpAnyH_take (i := 25) (oi := ⟨some 62, _, _, _, _, some (14, false)⟩) (v := ?_) rfl (by kernel_rfl) (by kernel_rfl) (by kernel_rfl) (fun _ _ _ h => h) (Or.inl ⟨by kernel_rfl, ?_⟩) hSx ?_
      rotate_left 1
      focus (intro wx hSw; obtain ⟨s0, s1, s2, s3⟩ := hSw; go_simp; first | done | with_reducible rfl)
      try simp only [Act.put, List.setIfInBounds_toArray, List.set_cons_zero, List.set_cons_succ]
      refine wpAnyH_take (i := 26) (oi := ⟨some 63, _, _, _, _, some (14, false)⟩) (v := ?_) rfl (by kernel_rfl) (by kernel_rfl) (by kernel_rfl) (fun _ _ _ h => h) (Or.inl ⟨by kernel_rfl, ?_⟩) hSx ?_
      rotate_left 1
      focus (intro wx hSw; obtain ⟨s0, s1, s2, s3⟩ := hSw; go_simp; first | done | with_reducible rfl)
      try simp only [Act.put, List.setIfInBounds_toArray, List.set_cons_zero, List.set_cons_succ]
      refine wpAnyH_ready (rs := [21]) (by kernel_rfl) (by simp) ?_
      refine AllReadyH.cons (o := ⟨some 58, _, _, _, _, some (14, false)⟩) rfl (fun KK hKK => ?_) AllReadyH.nil
      go_simp
      with_reducible refine Calls.mono (HA3.out _ HR2.out) ?_
      rintro e z3 ⟨rfl, hq⟩
      have HR3 := Lib.hid hq
      clear hq
      refine hKK.out _ _ (HSS.out _ HR3.out) (fun hSy => ?_)
      clear hKK hSx
      have hSx := hSy
      clear hSy KK
      try simp only [Act.put, List.setIfInBounds_toArray, List.set_cons_zero, List.set_cons_succ]
      refine wpAnyH_ready (rs := [27]) (by kernel_rfl) (by simp) ?_
      refine AllReadyH.cons (o := ⟨some 64, _, _, _, _, some (14, false)⟩) rfl (fun KK hKK => ?_) AllReadyH.nil
      go_simp
      with_reducible refine Calls.mono (HA4.out _ HR3.out) ?_
      rintro e z4 ⟨rfl, hq⟩
      have HR4 := Lib.hid hq
      clear hq
      refine hKK.out _ _ (HSS.out _ HR4.out) (fun hSy => ?_)
      clear hKK hSx
      have hSx := hSy
      clear hSy KK
      try simp only [Act.put, List.setIfInBounds_toArray, List.set_cons_zero, List.set_cons_succ]
      refine wpAnyH_take (i := 28) (oi := ⟨some 65, _, _, _, _, some (14, false)⟩) (v := ?_) rfl (by kernel_rfl) (by kernel_rfl) (by kernel_rfl) (fun _ _ _ h => h) (Or.inl ⟨by kernel_rfl, ?_⟩) hSx ?_
      rotate_left 1
      focus (intro wx hSw; obtain ⟨s0, s1, s2, s3⟩ := hSw; go_simp; first | done | with_reducible rfl)
      try simp only [Act.put, List.setIfInBounds_toArray, List.set_cons_zero, List.set_cons_succ]
      refine wpAnyH_take (i := 29) (oi := ⟨some 66, _, _, _, _, none⟩) (v := ?_) rfl (by kernel_rfl) (by kernel_rfl) (by kernel_rfl) (fun _ _ _ h => h) (Or.inl ⟨by kernel_rfl, ?_⟩) hSx ?_
      rotate_left 1
      focus (intro wx hSw; obtain ⟨s0, s1, s2, s3⟩ := hSw; go_simp; first | done | with_reducible rfl)
      try simp only [Act.put, List.setIfInBounds_toArray, List.set_cons_zero, List.set_cons_succ]
      refine wpAnyH_done (by kernel_rfl) ?_ _
      go_wp2_with fail
      go_roundg (R.length - (k + 1))
      case measure => rw [HK.out]; omega
      case rel => exact ⟨k + 1, by omega, rfl, by rw [HM1.out], HR4.out⟩
    · obtain rfl : k = R.length := by omega
      have HBW0 : Hid (Below W0.heap.size W0 wr) := Lib.hid (HB2.out.trans (HB.out.mono HB2.out.size))
      obtain ⟨c1, c2⟩ := HCS.out wr HBW0.out
      have HC24 := Lib.hid (rset24 (c := Xc) (HL.out.fps.below HBW0.out) HL.out.all (by have := HL.out.n1; omega))
      go_wp2_with fail
      refine Calls.mono HC24.out ?_
      rintro e w4 ⟨SB, sd, rfl, hsf, _, _, hb4⟩
      have HSF := Lib.hid hsf
      have HB4 : Hid (Below W0.heap.size W0 w4) := Lib.hid (HBW0.out.trans (hb4.mono HBW0.out.size))
      have HB45 := Lib.hid hb4
      have HRI4 := Lib.hid ((HRI.out.below HB.out).below hb4)
      have HFS := Lib.hid (setF_fp HL.out.all)
      have hsl : (setF F).length ≤ 20 := by have := setF_len F; have := HL.out.n1; omega
      have HCP : Hid (∀ (k : Nat) (x : Fp), (setF F)[k]? = some x → ((setF F).take (k + 1)).countP (fun x => decide (0 < (listG F vs x).l.length)) = ((setF F).take k).countP (fun x => decide (0 < (listG F vs x).l.length)) + if 0 < (listG F vs x).l.length then 1 else 0) := Lib.hid (fun k x h => by
        rw [List.take_add_one, h, List.countP_append]
        by_cases e : 0 < (listG F vs x).l.length <;> simp [e])
      have HCE : Hid (((setF F).take (setF F).length).countP (fun x => decide (0 < (listG F vs x).l.length)) = (ids (toldL F vs)).countP (fun l => decide (0 < l.length))) := Lib.hid (by
        rw [List.take_length, toldL_ids, List.countP_map]
        rfl)
      have HCL : Hid (∀ k, ((setF F).take k).countP (fun x => decide (0 < (listG F vs x).l.length)) ≤ 20) := Lib.hid (fun k => Nat.le_trans (List.countP_le_length ..) (by rw [List.length_take]; omega))
      have HC12 : Hid (∀ W x, Below W0.heap.size W0 W → IsFp x → Calls Try.prog 12 #[.slice XA F.length Xc, .slice VA vs.length Vc, .agg (fpL x).toArray] W fun e w' => e = .returned (.slice (listG F vs x).A (listG F vs x).l.length (listG F vs x).c) ∧ Below W.heap.size W w') := Lib.hid (fun W x hW hx => list12 (HL.out.fps.below hW) (HL.out.lss.below hW) HL.out.all hx (by have := HL.out.n1; omega))
      clear hsf hb4 c1 c2
      go_wp2_with fail
      go_loopg [11, 13] (setF F).length (fun gj n i wr => ∃ j : Nat, j ≤ (setF F).length ∧ gj = (setF F).length - j ∧ i = .int .i64 j ∧ n = .int .i64 (((setF F).take j).countP (fun x => decide (0 < (listG F vs x).l.length)) : Nat) ∧ Below w4.heap.size w4 wr)
      case atStart => exact ⟨0, Nat.zero_le _, rfl, rfl, rfl, Below.refl _ _⟩
      case round =>
        obtain ⟨j, hj, hgj, rfl, rfl, hbj⟩ := hrel
        have HJ := Lib.hid hgj
        have HBJ := Lib.hid hbj
        have hcl := HCL.out j
        clear hgj hbj
        have hj0 : (0 : Int) ≤ (j : Int) := by omega
        by_cases hlj : j < (setF F).length
        · obtain ⟨x, hx⟩ : ∃ x, (setF F)[j]? = some x := ⟨_, List.getElem?_eq_getElem hlj⟩
          have hxf := HFS.out x (List.mem_of_getElem? hx)
          have HIX := Lib.hid (info29f hxf)
          have HGX : Hid (∀ W, Below w4.heap.size w4 W → ∃ b o, SB = some ⟨b, o, none⟩ ∧ b < W.heap.size ∧ W.rangeAt b (o + j * 32) (fpL x)) := Lib.hid (fun W hW => (HSF.out.below hW).get HFS.out hx)
          obtain ⟨sb, so, rfl, _⟩ := HGX.out wr HBJ.out
          have HSS : Hid (∀ W, Below w4.heap.size w4 W → W.cell? ⟨g1, 0, none⟩ = some (.slice XA F.length Xc) ∧ W.cell? ⟨g1 + 1, 0, none⟩ = some (.slice VA vs.length Vc) ∧ W.rangeAt sb (so + j * 32) (fpL x)) := Lib.hid (fun W hW => by
            obtain ⟨b', o', e', _, q1⟩ := HGX.out W hW
            simp only [Option.some.injEq, Addr.mk.injEq] at e'
            obtain ⟨r1, r2, _⟩ := e'
            have hc := HCS.out W (HB4.out.trans (hW.mono HB4.out.size))
            exact ⟨hc.1, hc.2, by rw [r1, r2]; exact q1⟩)
          have HCN := Lib.hid (HCP.out j x hx)
          have HCX : Hid (∀ W, Below w4.heap.size w4 W → Calls Try.prog 12 #[.slice XA F.length Xc, .slice VA vs.length Vc, .agg (fpL x).toArray] W fun e w' => e = .returned (.slice (listG F vs x).A (listG F vs x).l.length (listG F vs x).c) ∧ Below w4.heap.size w4 w') := Lib.hid (fun W hW => (HC12.out W x (HB4.out.trans (hW.mono HB4.out.size)) hxf).mono (fun _ _ h => ⟨h.1, hW.trans (h.2.mono hW.size)⟩))
          have HR0 : Hid (Below w4.heap.size w4 wr.drew) := Lib.hid (below_drew HBJ.out)
          have hji : (j : Int) < ((setF F).length : Int) := by omega
          clear hx hxf
          generalize listG F vs x = lx at *
          generalize ((setF F).take j).countP (fun x => decide (0 < (listG F vs x).l.length)) = N at *
          by_cases h0 : 0 < lx.l.length
          · have h0i : (0 : Int) < (lx.l.length : Int) := by omega
            have hcn := HCN.out
            rw [if_pos h0] at hcn
            have HNE := Lib.hid hcn
            clear hcn
            go_wp2_with fail
            refine wp_region_held_drew (S := (fun W => W.cell? ⟨g1, 0, none⟩ = some (.slice XA F.length Xc) ∧ W.cell? ⟨g1 + 1, 0, none⟩ = some (.slice VA vs.length Vc) ∧ W.rangeAt sb (so + j * 32) (fpL x))) (by kernel_rfl) ?_ (fun hSx => ?_)
            · exact HSS.out _ HR0.out
            refine wpAnyH_take (i := 0) (oi := ⟨some 75, _, _, _, _, none⟩) (v := ?_) rfl (by kernel_rfl) (by kernel_rfl) (by kernel_rfl) (fun _ _ _ h => h) (Or.inl ⟨by kernel_rfl, ?_⟩) hSx ?_
            rotate_left 1
            focus (intro wx hSw; obtain ⟨s0, s1, s2⟩ := hSw; go_simp; first | done | with_reducible rfl)
            try simp only [Act.put, List.setIfInBounds_toArray, List.set_cons_zero, List.set_cons_succ]
            refine wpAnyH_take (i := 1) (oi := ⟨some 76, _, _, _, _, none⟩) (v := ?_) rfl (by kernel_rfl) (by kernel_rfl) (by kernel_rfl) (fun _ _ _ h => h) (Or.inl ⟨by kernel_rfl, ?_⟩) hSx ?_
            rotate_left 1
            focus (intro wx hSw; obtain ⟨s0, s1, s2⟩ := hSw; go_simp; first | done | with_reducible rfl)
            try simp only [Act.put, List.setIfInBounds_toArray, List.set_cons_zero, List.set_cons_succ]
            refine wpAnyH_take (i := 2) (oi := ⟨some 77, _, _, _, _, none⟩) (v := ?_) rfl (by kernel_rfl) (by kernel_rfl) (by kernel_rfl) (fun _ _ _ h => h) (Or.inl ⟨by kernel_rfl, ?_⟩) hSx ?_
            rotate_left 1
            focus (intro wx hSw; obtain ⟨s0, s1, s2⟩ := hSw; go_simp; first | done | with_reducible rfl)
            try simp only [Act.put, List.setIfInBounds_toArray, List.set_cons_zero, List.set_cons_succ]
            refine wpAnyH_take (i := 3) (oi := ⟨some 78, _, _, _, _, none⟩) (v := ?_) rfl (by kernel_rfl) (by kernel_rfl) (by kernel_rfl) (fun _ _ _ h => h) (Or.inl ⟨by kernel_rfl, ?_⟩) hSx ?_
            rotate_left 1
            focus (intro wx hSw; obtain ⟨s0, s1, s2⟩ := hSw; go_simp; first | done | with_reducible rfl)
            try simp only [Act.put, List.setIfInBounds_toArray, List.set_cons_zero, List.set_cons_succ]
            refine wpAnyH_take (i := 4) (oi := ⟨some 79, _, _, _, _, none⟩) (v := ?_) rfl (by kernel_rfl) (by kernel_rfl) (by kernel_rfl) (fun _ _ _ h => h) (Or.inl ⟨by kernel_rfl, ?_⟩) hSx ?_
            rotate_left 1
            focus (intro wx hSw; obtain ⟨s0, s1, s2⟩ := hSw; go_simp; first | done | with_reducible rfl)
            try simp only [Act.put, List.setIfInBounds_toArray, List.set_cons_zero, List.set_cons_succ]
            refine wpAnyH_take (i := 5) (oi := ⟨some 80, _, _, _, _, none⟩) (v := .agg (fpL x).toArray) rfl (by kernel_rfl) (by kernel_rfl) (by kernel_rfl) (fun _ _ _ h => h) (yieldsIf_load_mid (by kernel_rfl) 29 (.tmp 79) rfl (sb) (so + j * 32) rfl (fpL x) _ (fun _ h => h.2.2) Try.underlying29 rfl HIX.out) hSx ?_
            try simp only [Act.put, List.setIfInBounds_toArray, List.set_cons_zero, List.set_cons_succ]
            refine wpAnyH_ready (rs := [6]) (by kernel_rfl) (by simp) ?_
            refine AllReadyH.cons (o := ⟨some 81, _, _, _, _, none⟩) rfl (fun KK hKK => ?_) AllReadyH.nil
            go_simp
            with_reducible refine Calls.mono (HCX.out _ HR0.out) ?_
            rintro e z1 ⟨rfl, hq⟩
            have HR1 := Lib.hid hq
            clear hq
            refine hKK.out _ _ (HSS.out _ HR1.out) (fun hSy => ?_)
            clear hKK hSx
            have hSx := hSy
            clear hSy KK
            try simp only [Act.put, List.setIfInBounds_toArray, List.set_cons_zero, List.set_cons_succ]
            refine wpAnyH_take (i := 7) (oi := ⟨some 82, _, _, _, _, none⟩) (v := ?_) rfl (by kernel_rfl) (by kernel_rfl) (by kernel_rfl) (fun _ _ _ h => h) (Or.inl ⟨by kernel_rfl, ?_⟩) hSx ?_
            rotate_left 1
            focus (intro wx hSw; obtain ⟨s0, s1, s2⟩ := hSw; go_simp; first | done | with_reducible rfl)
            try simp only [Act.put, List.setIfInBounds_toArray, List.set_cons_zero, List.set_cons_succ]
            refine wpAnyH_take (i := 8) (oi := ⟨some 83, _, _, _, _, none⟩) (v := ?_) rfl (by kernel_rfl) (by kernel_rfl) (by kernel_rfl) (fun _ _ _ h => h) (Or.inl ⟨by kernel_rfl, ?_⟩) hSx ?_
            rotate_left 1
            focus (intro wx hSw; obtain ⟨s0, s1, s2⟩ := hSw; go_simp; first | done | with_reducible rfl)
            try simp only [Act.put, List.setIfInBounds_toArray, List.set_cons_zero, List.set_cons_succ]
            refine wpAnyH_done (by kernel_rfl) ?_ _
            go_wp2_with fail
            go_roundg ((setF F).length - (j + 1))
            case measure => rw [HJ.out]; omega
            case rel => exact ⟨j + 1, by omega, rfl, by go_num, by rw [HNE.out]; go_num, HR1.out⟩
          · have h0i : ¬ (0 : Int) < (lx.l.length : Int) := by omega
            have hcn := HCN.out
            rw [if_neg h0] at hcn
            have HNE := Lib.hid hcn
            clear hcn
            go_wp2_with fail
            refine wp_region_held_drew (S := (fun W => W.cell? ⟨g1, 0, none⟩ = some (.slice XA F.length Xc) ∧ W.cell? ⟨g1 + 1, 0, none⟩ = some (.slice VA vs.length Vc) ∧ W.rangeAt sb (so + j * 32) (fpL x))) (by kernel_rfl) ?_ (fun hSx => ?_)
            · exact HSS.out _ HR0.out
            refine wpAnyH_take (i := 0) (oi := ⟨some 75, _, _, _, _, none⟩) (v := ?_) rfl (by kernel_rfl) (by kernel_rfl) (by kernel_rfl) (fun _ _ _ h => h) (Or.inl ⟨by kernel_rfl, ?_⟩) hSx ?_
            rotate_left 1
            focus (intro wx hSw; obtain ⟨s0, s1, s2⟩ := hSw; go_simp; first | done | with_reducible rfl)
            try simp only [Act.put, List.setIfInBounds_toArray, List.set_cons_zero, List.set_cons_succ]
            refine wpAnyH_take (i := 1) (oi := ⟨some 76, _, _, _, _, none⟩) (v := ?_) rfl (by kernel_rfl) (by kernel_rfl) (by kernel_rfl) (fun _ _ _ h => h) (Or.inl ⟨by kernel_rfl, ?_⟩) hSx ?_
            rotate_left 1
            focus (intro wx hSw; obtain ⟨s0, s1, s2⟩ := hSw; go_simp; first | done | with_reducible rfl)
            try simp only [Act.put, List.setIfInBounds_toArray, List.set_cons_zero, List.set_cons_succ]
            refine wpAnyH_take (i := 2) (oi := ⟨some 77, _, _, _, _, none⟩) (v := ?_) rfl (by kernel_rfl) (by kernel_rfl) (by kernel_rfl) (fun _ _ _ h => h) (Or.inl ⟨by kernel_rfl, ?_⟩) hSx ?_
            rotate_left 1
            focus (intro wx hSw; obtain ⟨s0, s1, s2⟩ := hSw; go_simp; first | done | with_reducible rfl)
            try simp only [Act.put, List.setIfInBounds_toArray, List.set_cons_zero, List.set_cons_succ]
            refine wpAnyH_take (i := 3) (oi := ⟨some 78, _, _, _, _, none⟩) (v := ?_) rfl (by kernel_rfl) (by kernel_rfl) (by kernel_rfl) (fun _ _ _ h => h) (Or.inl ⟨by kernel_rfl, ?_⟩) hSx ?_
            rotate_left 1
            focus (intro wx hSw; obtain ⟨s0, s1, s2⟩ := hSw; go_simp; first | done | with_reducible rfl)
            try simp only [Act.put, List.setIfInBounds_toArray, List.set_cons_zero, List.set_cons_succ]
            refine wpAnyH_take (i := 4) (oi := ⟨some 79, _, _, _, _, none⟩) (v := ?_) rfl (by kernel_rfl) (by kernel_rfl) (by kernel_rfl) (fun _ _ _ h => h) (Or.inl ⟨by kernel_rfl, ?_⟩) hSx ?_
            rotate_left 1
            focus (intro wx hSw; obtain ⟨s0, s1, s2⟩ := hSw; go_simp; first | done | with_reducible rfl)
            try simp only [Act.put, List.setIfInBounds_toArray, List.set_cons_zero, List.set_cons_succ]
            refine wpAnyH_take (i := 5) (oi := ⟨some 80, _, _, _, _, none⟩) (v := .agg (fpL x).toArray) rfl (by kernel_rfl) (by kernel_rfl) (by kernel_rfl) (fun _ _ _ h => h) (yieldsIf_load_mid (by kernel_rfl) 29 (.tmp 79) rfl (sb) (so + j * 32) rfl (fpL x) _ (fun _ h => h.2.2) Try.underlying29 rfl HIX.out) hSx ?_
            try simp only [Act.put, List.setIfInBounds_toArray, List.set_cons_zero, List.set_cons_succ]
            refine wpAnyH_ready (rs := [6]) (by kernel_rfl) (by simp) ?_
            refine AllReadyH.cons (o := ⟨some 81, _, _, _, _, none⟩) rfl (fun KK hKK => ?_) AllReadyH.nil
            go_simp
            with_reducible refine Calls.mono (HCX.out _ HR0.out) ?_
            rintro e z1 ⟨rfl, hq⟩
            have HR1 := Lib.hid hq
            clear hq
            refine hKK.out _ _ (HSS.out _ HR1.out) (fun hSy => ?_)
            clear hKK hSx
            have hSx := hSy
            clear hSy KK
            try simp only [Act.put, List.setIfInBounds_toArray, List.set_cons_zero, List.set_cons_succ]
            refine wpAnyH_take (i := 7) (oi := ⟨some 82, _, _, _, _, none⟩) (v := ?_) rfl (by kernel_rfl) (by kernel_rfl) (by kernel_rfl) (fun _ _ _ h => h) (Or.inl ⟨by kernel_rfl, ?_⟩) hSx ?_
            rotate_left 1
            focus (intro wx hSw; obtain ⟨s0, s1, s2⟩ := hSw; go_simp; first | done | with_reducible rfl)
            try simp only [Act.put, List.setIfInBounds_toArray, List.set_cons_zero, List.set_cons_succ]
            refine wpAnyH_take (i := 8) (oi := ⟨some 83, _, _, _, _, none⟩) (v := ?_) rfl (by kernel_rfl) (by kernel_rfl) (by kernel_rfl) (fun _ _ _ h => h) (Or.inl ⟨by kernel_rfl, ?_⟩) hSx ?_
            rotate_left 1
            focus (intro wx hSw; obtain ⟨s0, s1, s2⟩ := hSw; go_simp; first | done | with_reducible rfl)
            try simp only [Act.put, List.setIfInBounds_toArray, List.set_cons_zero, List.set_cons_succ]
            refine wpAnyH_done (by kernel_rfl) ?_ _
            go_wp2_with fail
            go_roundg ((setF F).length - (j + 1))
            case measure => rw [HJ.out]; omega
            case rel => exact ⟨j + 1, by omega, rfl, by go_num, by rw [HNE.out]; rfl, HR1.out⟩
        · obtain rfl : j = (setF F).length := by omega
          rw [HCE.out] at hcl ⊢
          have HBE : Hid (Below W0.heap.size W0 wr) := Lib.hid (HB4.out.trans (HBJ.out.mono HB4.out.size))
          have HBE2 : Hid (Below w2.heap.size w2 wr) := Lib.hid (HB.out.trans ((HB45.out.trans (HBJ.out.mono HB45.out.size)).mono HB.out.size))
          obtain ⟨c1, c2⟩ := HCS.out wr HBE.out
          have HAW := Lib.hid (fun (W : World) (hW : Below W0.heap.size W0 W) => awakeW hW)
          by_cases heq : (R.length : Int) = min most 64
          · have hmin : min most 64 = (R.length : Int) := heq.symm
            clear heq
            go_wp2_with fail
            refine Calls.mono (HAW.out _ HBE.out) ?_
            rintro e z1 ⟨rfl, hq⟩
            have HQ := Lib.hid hq
            clear hq
            go_wp2_with fail
            go_ret
            exact ⟨rfl, HBW.out.trans (HQ.out.mono HBW.out.size)⟩
          · have hlr := HGD.out.2.1
            have hlr2 := HGD.out.2.2.1
            have hcc : coverN (ids (toldL F vs)) R = (ids (toldL F vs)).countP (fun l => decide (0 < l.length)) := HFIN.out.resolve_left (by omega)
            have HC7 := Lib.hid (HC17.out wr R.length HBE2.out (Nat.le_refl _))
            rw [List.take_length, hcc] at HC7
            have hdq : decide ((R.length : Int) = min most 64) = false := decide_eq_false heq
            generalize (ids (toldL F vs)).countP (fun l => decide (0 < l.length)) = N at *
            clear hcc hlr hlr2
            go_wp2_with fail
            refine Calls.mono HC7.out ?_
            rintro e z1 ⟨rfl, hq⟩
            have HQ : Hid (Below W0.heap.size W0 z1) := Lib.hid (HB2.out.trans (hq.mono HB2.out.size))
            clear hq
            go_wp2_with fail
            refine Calls.mono (HAW.out _ HQ.out) ?_
            rintro e z2 ⟨rfl, hq⟩
            have HQ2 := Lib.hid hq
            clear hq
            go_wp2_with fail
            go_ret
            exact ⟨rfl, HBW.out.trans (HQ2.out.mono HBW.out.size)⟩
end Go.Proofs.Ytijdkgklajdbnaa
