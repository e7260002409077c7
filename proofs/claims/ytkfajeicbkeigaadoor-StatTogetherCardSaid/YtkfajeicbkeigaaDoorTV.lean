/- The walk over the reference's Order. -/
import Derived.Test.YtkfajeicbkeigaaDoorTU
import Derived.Laws.AppendOwnNone
namespace Go.Proofs.YtkfajeicbkeigaaDoor
open Go.RowKit Go.Maps
def keyR (vs : List Us) (s : Nm) : Int := sumT (pl (prs vs)) (fun p => byB vs p [s]) (pl (prs vs)).length
theorem out_cells {W : World} {base g cap n : Nat} {P S : List Nm} (h : SRow W base g cap n (P ++ S)) (hn : (P ++ S).length = n) :
    (∀ j u, (strV P)[j]? = some u → W.cell? ((⟨g, 0, none⟩ : Addr).add j) = some u) ∧ (∀ j u, (strV S)[j]? = some u → W.cell? ((⟨g, P.length, none⟩ : Addr).add j) = some u) := by
  have key : ∀ j s, (P ++ S)[j]? = some s → W.cell? ⟨g, j, none⟩ = some (.string (str s)) := fun j s hj => h.get hj hn
  refine ⟨fun j u hu => ?_, fun j u hu => ?_⟩
  · unfold strV at hu
    rw [List.getElem?_map, Option.map_eq_some_iff] at hu
    obtain ⟨s, hs, rfl⟩ := hu
    rw [Lib.add_plain, Nat.zero_add]
    refine key j s ?_
    rw [List.getElem?_append_left (List.getElem?_eq_some_iff.1 hs).1]
    exact hs
  · unfold strV at hu
    rw [List.getElem?_map, Option.map_eq_some_iff] at hu
    obtain ⟨s, hs, rfl⟩ := hu
    rw [Lib.add_plain]
    refine key _ s ?_
    rw [List.getElem?_append_right (Nat.le_add_right _ _), Nat.add_sub_cancel_left]
    exact hs
theorem strV_one (l : List Nm) : ∀ u ∈ strV l, u.oneCell' = true := by
  intro u hu
  unfold strV at hu
  obtain ⟨s, _, rfl⟩ := List.mem_map.1 hu
  rfl
theorem own_mono {w : World} {b b' e size n : Nat} {v : Value} {xs : List Value} (h : w.ownsRow b e size v n xs) (hb : b' ≤ b) : w.ownsRow b' e size v n xs :=
  ⟨h.1, h.2.imp id (fun ⟨g, cap, cur, h1, h2, h3⟩ => ⟨g, cap, cur, h1, Nat.le_trans hb h2, h3⟩)⟩
theorem empty_own (W : World) : (W.alloc (.cells #[] 9)).ownsRow W.heap.size 9 1 (.slice (some ⟨W.heap.size, 0, none⟩) 0 0) 0 [] :=
  ⟨rfl, .inr ⟨W.heap.size, 0, #[], rfl, Nat.le_refl _, heap_alloc_new _ _, Nat.le_refl _, Nat.zero_le _, rfl, rfl⟩⟩
set_option maxRecDepth 100000 in
set_option maxHeartbeats 8000000 in
theorem rorder31 {A : Option Addr} {c : Nat} {vs : List Us} {w : World} (h : Uss w A vs) (hl : Lim vs) (hc : chk vs = 0) :
    Calls Tryd.prog 31 #[.slice A vs.length c] w fun e w' => ∃ B d, e = .returned (.slice B (ord (keyR vs) (nmsU vs)).length d) ∧ Nms w' B (ord (keyR vs) (nmsU vs)) ∧ Below w.heap.size w w' := by
  have H := Lib.hid h
  have hvl := hl.1
  have HKS : Hid (∀ s, 0 ≤ keyR vs s ∧ keyR vs s ≤ 1000000) := Lib.hid (fun s => by
    have hp : ∀ c ∈ pl (prs vs), 1 ≤ c.2 ∧ c.2 ≤ 4096 := fun c hc' => by
      obtain ⟨x, hx, rfl⟩ := pl_of c hc'
      obtain ⟨u, hu, c', hc2, rfl⟩ := mem_prs.1 hx
      exact chk_ok hc u hu c' hc2
    have h1 := sumT_span (g := fun p => byB vs p [s]) hp _ (Nat.le_refl _)
    have h2 := pl_few hl
    unfold keyR
    omega)
  have HG : Hid (∀ W g s, Below w.heap.size w W → W.heap[g]? = some (.cells #[.string (str s)] 9) → Calls Tryd.prog 29 #[.slice A vs.length c, .slice (some ⟨g, 0, none⟩) 1 1] W fun e w' => e = .returned (.int .i64 (keyR vs s)) ∧ Below W.heap.size W w') := Lib.hid (fun W g s hb hg => rgains29 (ns := [s]) (cc := 1) (NA := some ⟨g, 0, none⟩) (h.below hb) hl hc (fun _ => ⟨g, 0, rfl, (Array.getElem?_eq_some_iff.1 hg).1, fun j v hj => by
    rw [Nat.zero_add, cell_of_row W g j _ 9 (0, 0) hg]
    simpa using hj⟩) (by simp))
  generalize keyR vs = key at *
  obtain ⟨i0, hi0, hz0, hz1, hz2⟩ := info_parts info9
  have I0 := Lib.hid hi0
  have Z0 := Lib.hid hz0
  have S0 := Lib.hid hz1
  have Y0 := Lib.hid hz2
  clear h hl hc hi0 hz0 hz1 hz2
  go_enter Tryd.func31, Tryd.ntmps31
  go_wp2_with fail
  go_loopg [3, 4] vs.length (fun gk v i wr => ∃ k : Nat, k ≤ vs.length ∧ gk = vs.length - k ∧ i = .int .i64 k ∧ wr.ownsRow w.heap.size 9 1 v k (strV (ord key (nmsU (vs.take k)))) ∧ Below w.heap.size w wr)
  case atStart => exact ⟨0, Nat.zero_le _, rfl, rfl, World.ownsRow_nil _ _ _ _, Below.refl _ _⟩
  case round =>
    obtain ⟨k, hk, hgk, rfl, hown, hb⟩ := hrel
    obtain ⟨VA, VC, rfl⟩ := own_slice hown
    have HK := Lib.hid hgk
    have HO := Lib.hid hown
    have HB := Lib.hid hb
    clear hgk hown hb
    by_cases hlt : k < vs.length
    · obtain ⟨u, hu⟩ : ∃ u, vs[k]? = some u := ⟨vs[k]'hlt, by simp⟩
      have HGU : Hid (∀ W, Below w.heap.size w W → ∃ b o, A = some ⟨b, o, none⟩ ∧ b < W.heap.size ∧ W.rangeAt b (o + k * 2) (usV u) ∧ Cks W u.A u.cs) := Lib.hid (fun W hb => (H.out.below hb).get hu)
      obtain ⟨b, o, hA, _, _, _⟩ := HGU.out w (Below.refl _ _)
      subst hA
      have HGV : Hid (∀ W, Below w.heap.size w W → W.cell? ⟨b, o + k * 2, none⟩ = some (.string (str u.nm))) := Lib.hid (fun W hb => by
        obtain ⟨b', o', e, _, h2, h3⟩ := HGU.out W hb
        injection e with e
        injection e with e1 e2
        subst e1 e2
        exact h2 0 _ rfl)
      have HTK : Hid (nmsU (vs.take (k + 1)) = nmsU (vs.take k) ++ [u.nm]) := Lib.hid (by unfold nmsU; rw [List.take_add_one, hu, List.map_append]; rfl)
      have HOL : Hid ((ord key (nmsU (vs.take k))).length = k) := Lib.hid (by rw [ord_len, nmsU, List.length_map, List.length_take]; omega)
      have HOE : Hid (ord key (nmsU (vs.take (k + 1))) = ins key (ord key (nmsU (vs.take k))) u.nm) := Lib.hid (by rw [HTK.out, ord_snoc])
      obtain ⟨nm, uA, uc, cs⟩ := u
      simp only at *
      generalize ord key (nmsU (vs.take k)) = O at *
      have c0 := HGV.out _ HB.out
      have hk0 : (0 : Int) ≤ (k : Int) := by omega
      have hk1 : (k : Int) < (vs.length : Int) := by omega
      clear hu
      have HB1 : Hid (Below w.heap.size w (wr.alloc (.cells #[.string (str nm)] 9))) := Lib.hid (HB.out.alloc HB.out.size _)
      have HC1 := Lib.hid (HG.out (wr.alloc (.cells #[.string (str nm)] 9)) wr.heap.size nm HB1.out (heap_alloc_new _ _))
      go_wp2_with fail
      refine Calls.mono HC1.out ?_
      rintro e w2 ⟨rfl, hb2⟩
      have HB2 : Hid (Below w.heap.size w w2) := Lib.hid (HB1.out.trans (hb2.mono HB1.out.size))
      have HO2 := Lib.hid (own_below (own_below HO.out ((Below.refl _ _).alloc (Nat.le_refl _) (.cells #[.string (str nm)] 9))) hb2)
      have hkn := HKS.out nm
      clear hb2 c0
      go_wp2_with fail
      go_loopg [5] k (fun gj j wQ => ∃ P S : List Nm, gj = P.length ∧ j = .int .i64 (P.length : Nat) ∧ P ++ S = O ∧ (∀ s ∈ S, key s < key nm) ∧ wQ.ownsRow w.heap.size 9 1 (.slice VA k VC) k (strV O) ∧ Below w.heap.size w wQ)
      case atStart => exact ⟨O, [], HOL.out.symm, by rw [HOL.out], List.append_nil O, (fun s hs => by cases hs), HO2.out, HB2.out⟩
      case round =>
        obtain ⟨P, S, hgj, rfl, hPS, hS, hown, hb3⟩ := hrel
        have HJ := Lib.hid hgj
        have HPS := Lib.hid hPS
        have HSS := Lib.hid hS
        have HO3 := Lib.hid hown
        have HB3 := Lib.hid hb3
        have hPk : P.length ≤ k := by
          have e := congrArg List.length hPS
          rw [List.length_append, HOL.out] at e
          omega
        clear hgj hPS hS hown hb3
        obtain ⟨m, hm⟩ : ∃ m, P.length = m := ⟨_, rfl⟩
        have HM := Lib.hid hm
        rw [hm] at hPk ⊢
        clear hm
        rcases HO3.out.2 with ⟨hv, hk0'⟩ | ⟨g, cap, cur, hv, hg, hh, hkc, hcm, hcs, htk⟩
        · injection hv with hv1 hv2 hv3
          subst hv1
          subst hv3
          obtain rfl : k = 0 := by simpa using hk0'
          have hm0 : m = 0 := by omega
          subst hm0
          have hP0 : P = [] := List.length_eq_zero_iff.1 HM.out
          have hS0 : S = [] := by
            have e := congrArg List.length HPS.out
            rw [List.length_append, HOL.out] at e
            exact List.length_eq_zero_iff.1 (by omega)
          have HINS : Hid (ord key (nmsU (vs.take (0 + 1))) = [nm]) := Lib.hid (by rw [HOE.out, ← HPS.out, hP0, hS0]; rfl)
          obtain ⟨X, hX⟩ : ∃ X, wr.heap.size = X := ⟨_, rfl⟩
          have HX := Lib.hid hX
          have HE0 : Hid ((wr.alloc (.cells #[] 9)).ownsRow X 9 1 (.slice (some ⟨X, 0, none⟩) 0 0) 0 []) := Lib.hid (by subst hX; exact empty_own wr)
          have HBe : Hid (Below X wr (wr.alloc (.cells #[] 9))) := Lib.hid (by subst hX; exact (Below.refl _ _).alloc (Nat.le_refl _) _)
          have c5 := HGV.out _ (HB3.out.alloc HB3.out.size (.cells #[] 9))
          rw [show o + 0 * 2 = o by omega] at c5
          have HXS : Hid (X ≤ (wr.alloc (.cells #[] 9)).heap.size) := Lib.hid (by subst hX; simp)
          clear hX hP0 hS0
          go_wp2_with (first
            | (at_builtin; rw [HX.out]; (refine wpList_append_own _ rfl (.tmp 45) (.tmp 51) _ rfl X 9 i0 _ 1 16 Tryd.underlying40 I0.out Z0.out S0.out Y0.out rfl (by decide) _ 0 _ rfl (HE0.out.alloc _) _ 1 1 [.string (str nm)] rfl rfl (new1 _ _ _ _ (by rw [← HX.out]; simp)) (by simp [Value.oneCell']) (by unfold maxLen; omega) (by omega) (by rw [← HX.out]; simp; omega) ?_)))
          intro v6 w6 hown6 hg6 _
          obtain ⟨V6, C6, rfl⟩ := own_slice hown6
          have HO6 := Lib.hid hown6
          have HB6 : Hid (Below X wr w6) := Lib.hid ((HBe.out.alloc HXS.out _).grown hg6 (by rw [← HX.out]; simp; omega) (fun j e => (HE0.out.lt j e).1))
          clear hown6 hg6 c5
          go_wp2_with (first
            | (at_builtin; refine wpList_append_own_none rfl (.tmp 53) (.tmp 56) _ rfl X 9 i0 1 Tryd.underlying40 I0.out _ 1 _ rfl HO6.out rfl ?_))
          go_roundg (vs.length - (0 + 1))
          case measure => rw [HK.out]; omega
          case rel => exact ⟨0 + 1, by omega, rfl, by go_num, by
            rw [HINS.out]
            have h1 := own_mono HO6.out (b' := w.heap.size) (by rw [← HX.out]; exact HB3.out.size)
            simpa [strV] using h1, HB3.out.trans (HB6.out.mono (by rw [← HX.out]; exact HB3.out.size))⟩
        · injection hv with hv1 hv2 hv3
          subst hv1
          subst hv3
          have hcI : (k : Int) ≤ (VC : Int) := by omega
          clear hg hh hcs htk
          rcases Nat.eq_zero_or_pos m with hmz | hmz
          · have HBX := HB3
            have HOX := HO3
            have HEX : Hid (P = [] ∨ ∃ A' y, P = A' ++ [y] ∧ ¬ key y < key nm) := Lib.hid (.inl (List.length_eq_zero_iff.1 (by rw [HM.out]; exact hmz)))
            have hj0 : ¬ (0 : Int) < (m : Int) := by omega
            clear hmz
            have HSR : Hid (∀ V, Below wr.heap.size wr V → (∀ j u, (strV P)[j]? = some u → V.cell? ((⟨g, 0, none⟩ : Addr).add j) = some u) ∧ (∀ j u, (strV S)[j]? = some u → V.cell? ((⟨g, m, none⟩ : Addr).add j) = some u)) := Lib.hid (fun V hb => by
              have h1 : SRow V w.heap.size g VC k (P ++ S) := by rw [HPS.out]; exact own_below HOX.out hb
              have := out_cells h1 (by rw [HPS.out]; exact HOL.out)
              rwa [HM.out] at this)
            have HSL : Hid ((strV P).length = m ∧ (strV S).length = k - m) := Lib.hid (by
              have e := congrArg List.length HPS.out
              rw [List.length_append, HOL.out] at e
              rw [strV_len, strV_len]
              have := HM.out
              omega)
            have HINS : Hid (ord key (nmsU (vs.take (k + 1))) = P ++ nm :: S) := Lib.hid (by rw [HOE.out, ← HPS.out]; exact ins_at HSS.out HEX.out)
            obtain ⟨X, hX⟩ : ∃ X, wr.heap.size = X := ⟨_, rfl⟩
            have HX := Lib.hid hX
            have HE0 : Hid ((wr.alloc (.cells #[] 9)).ownsRow X 9 1 (.slice (some ⟨X, 0, none⟩) 0 0) 0 []) := Lib.hid (by subst hX; exact empty_own wr)
            have HBe : Hid (Below X wr (wr.alloc (.cells #[] 9))) := Lib.hid (by subst hX; exact (Below.refl _ _).alloc (Nat.le_refl _) _)
            have HSRX : Hid (∀ V, Below X wr V → (∀ j u, (strV P)[j]? = some u → V.cell? ((⟨g, 0, none⟩ : Addr).add j) = some u) ∧ (∀ j u, (strV S)[j]? = some u → V.cell? ((⟨g, m, none⟩ : Addr).add j) = some u)) := Lib.hid (by subst hX; exact HSR.out)
            have HCX : Hid (∀ V, Below X wr V → V.cell? ⟨b, o + k * 2, none⟩ = some (.string (str nm))) := Lib.hid (fun V hb => HGV.out V (HBX.out.trans (by subst hX; exact hb.mono HBX.out.size)))
            have HXS : Hid (X ≤ (wr.alloc (.cells #[] 9)).heap.size) := Lib.hid (by subst hX; simp)
            clear hX HSR
            have hmI : (m : Int) ≤ (k : Int) := by omega
            have hm0 : (0 : Int) ≤ (m : Int) := by omega
            have hmn : (m : Int).toNat = m := by omega
            have hkm : ((k : Int) - (m : Int)).toNat = k - m := by omega
            have hcm2 : ((VC : Int) - (m : Int)).toNat = VC - m := by omega
            go_wp2_with (first
              | (at_builtin; rw [HX.out]; refine wpList_append_own _ rfl (.tmp 40) (.tmp 43) _ rfl X 9 i0 _ 1 16 Tryd.underlying40 I0.out Z0.out S0.out Y0.out rfl (by decide) _ 0 _ rfl HE0.out ⟨g, 0, none⟩ m VC (strV P) rfl (by rw [HSL.out.1]; omega) ((HSRX.out _ HBe.out).1) (strV_one P) (by unfold maxLen; omega) (by omega) HXS.out ?_))
            intro v5 w5 hown5 hg5 _
            obtain ⟨V5, C5, rfl⟩ := own_slice hown5
            have HO5 := Lib.hid hown5
            have HB5 : Hid (Below X wr w5) := Lib.hid (HBe.out.grown hg5 HXS.out (fun j e => (HE0.out.lt j e).1))
            have HX5 : Hid (X ≤ w5.heap.size) := Lib.hid (by have h1 := HXS.out; have h2 := hg5.size; omega)
            clear hown5 hg5
            have c5 := HCX.out _ HB5.out
            go_wp2_with (first
              | (at_builtin; refine wpList_append_own _ rfl (.tmp 45) (.tmp 51) _ rfl X 9 i0 _ 1 16 Tryd.underlying40 I0.out Z0.out S0.out Y0.out rfl (by decide) _ m _ rfl (HO5.out.alloc _) _ 1 1 [.string (str nm)] rfl rfl (new1 _ _ _ _ rfl) (by simp [Value.oneCell']) (by unfold maxLen; omega) (by omega) (by have := HX5.out; simp; omega) ?_))
            intro v6 w6 hown6 hg6 _
            obtain ⟨V6, C6, rfl⟩ := own_slice hown6
            have HO6 := Lib.hid hown6
            have HB6 : Hid (Below X wr w6) := Lib.hid ((HB5.out.alloc HX5.out _).grown hg6 (by have := HX5.out; simp; omega) (fun j e => (HO5.out.lt j e).1))
            have HX6 : Hid (X ≤ w6.heap.size) := Lib.hid (by have h1 := HX5.out; have h2 := hg6.size; simp at h2; omega)
            clear hown6 hg6 c5
            by_cases hmv : m = VC
            · have HSL0 : Hid (S.length = 0) := Lib.hid (by have := HSL.out.2; rw [strV_len] at this; omega)
              have hmv2 := Lib.hid hmv
              go_wp2_with (first
                | (at_builtin; refine wpList_append_own _ rfl (.tmp 53) (.tmp 56) _ rfl X 9 i0 _ 1 16 Tryd.underlying40 I0.out Z0.out S0.out Y0.out rfl (by decide) _ (m + 1) _ rfl HO6.out ⟨g, 0, none⟩ 0 0 [] rfl rfl (fun j u h => by simp at h) (fun u h => by cases h) (by unfold maxLen; omega) (by omega) HX6.out ?_))
              intro v7 w7 hown7 hg7 _
              rw [show VC + 1 = k + 1 by omega] at hown7
              obtain ⟨V7, C7, rfl⟩ := own_slice hown7
              have HO7 := Lib.hid hown7
              have HB7 : Hid (Below X wr w7) := Lib.hid (HB6.out.grown hg7 HX6.out (fun j e => (HO6.out.lt j (by rw [hmv2.out]; exact e)).1))
              clear hown7 hg7
              go_wp2_with fail
              go_roundg (vs.length - (k + 1))
              case measure => rw [HK.out]; omega
              case rel => exact ⟨k + 1, by omega, rfl, by go_num, by
                rw [HINS.out, List.length_eq_zero_iff.1 (HSL0.out)]
                have h1 := own_mono HO7.out (b' := w.heap.size) (by rw [← HX.out]; exact HBX.out.size)
                simpa [strV] using h1, HBX.out.trans (HB7.out.mono (by rw [← HX.out]; exact HBX.out.size))⟩
            · go_wp2_with (first
                | (at_builtin; refine wpList_append_own _ rfl (.tmp 53) (.tmp 56) _ rfl X 9 i0 _ 1 16 Tryd.underlying40 I0.out Z0.out S0.out Y0.out rfl (by decide) _ (m + 1) _ rfl HO6.out ⟨g, m, none⟩ (k - m) (VC - m) (strV S) rfl (by rw [HSL.out.2]; omega) ((HSRX.out _ HB6.out).2) (strV_one S) (by unfold maxLen; omega) (by omega) HX6.out ?_))
              intro v7 w7 hown7 hg7 _
              rw [show m + 1 + (k - m) = k + 1 by omega] at hown7
              obtain ⟨V7, C7, rfl⟩ := own_slice hown7
              have HO7 := Lib.hid hown7
              have HB7 : Hid (Below X wr w7) := Lib.hid (HB6.out.grown hg7 HX6.out (fun j e => (HO6.out.lt j e).1))
              clear hown7 hg7
              go_wp2_with fail
              go_roundg (vs.length - (k + 1))
              case measure => rw [HK.out]; omega
              case rel => exact ⟨k + 1, by omega, rfl, by go_num, by
                rw [HINS.out]
                have h1 := own_mono HO7.out (b' := w.heap.size) (by rw [← HX.out]; exact HBX.out.size)
                simpa [strV] using h1, HBX.out.trans (HB7.out.mono (by rw [← HX.out]; exact HBX.out.size))⟩
          · obtain ⟨P', y, hPy⟩ : ∃ P' y, P = P' ++ [y] := by
              rcases List.eq_nil_or_concat P with hP | ⟨P', y, hP⟩
              · have := HM.out; rw [hP] at this; simp at this; omega
              · exact ⟨P', y, by rw [hP, List.concat_eq_append]⟩
            have HPY := Lib.hid hPy
            have HPL : Hid (P'.length = m - 1) := Lib.hid (by have := HM.out; rw [hPy] at this; simp at this; omega)
            have cy : ∀ V, Below wr.heap.size wr V → V.cell? ⟨g, m - 1, none⟩ = some (.string (str y)) := fun V hb => by
              have h1 : SRow V w.heap.size g VC k (P ++ S) := by rw [HPS.out]; exact own_below HO3.out hb
              refine h1.get ?_ (by rw [HPS.out]; exact HOL.out)
              rw [hPy, ← HPL.out]
              simp
            have HCY := Lib.hid cy
            have cy0 := cy _ (Below.refl _ _)
            have hj0 : (0 : Int) < (m : Int) := by omega
            have hj1 : (m : Int) - 1 < (k : Int) := by omega
            have hj2 : ((m : Int) - 1).toNat = m - 1 := by omega
            have hj3 : (0 : Int) ≤ (m : Int) - 1 := by omega
            have hmk : (m : Int) ≤ (k : Int) := by omega
            clear hPy cy
            have HB4a : Hid (Below w.heap.size w (wr.alloc (.cells #[.string (str y)] 9))) := Lib.hid (HB3.out.alloc HB3.out.size _)
            have HCC := Lib.hid (HG.out (wr.alloc (.cells #[.string (str y)] 9)) wr.heap.size y HB4a.out (heap_alloc_new _ _))
            go_wp2_with fail
            refine Calls.mono HCC.out ?_
            rintro e w4 ⟨rfl, hb4⟩
            have HB4 : Hid (Below wr.heap.size wr w4) := Lib.hid (((Below.refl _ _).alloc (Nat.le_refl _) _).trans (hb4.mono (by simp)))
            have HOX := Lib.hid (own_below HO3.out HB4.out)
            have HBX : Hid (Below w.heap.size w w4) := Lib.hid (HB3.out.trans (HB4.out.mono HB3.out.size))
            have hky := HKS.out y
            clear hb4 cy0
            by_cases hlt2 : key y < key nm
            · go_wp2_with fail
              go_roundg (m - 1)
              case measure => rw [HJ.out, HM.out]; omega
              case rel => exact ⟨P', y :: S, HPL.out.symm, by rw [HPL.out]; go_num, by rw [← HPS.out, HPY.out, List.append_assoc]; rfl, (fun s hs => by
                  rcases List.mem_cons.1 hs with rfl | hs
                  · exact hlt2
                  · exact HSS.out s hs), HOX.out, HBX.out⟩
            · have HEX : Hid (P = [] ∨ ∃ A' y, P = A' ++ [y] ∧ ¬ key y < key nm) := Lib.hid (.inr ⟨P', y, HPY.out, hlt2⟩)
              have HSR : Hid (∀ V, Below w4.heap.size w4 V → (∀ j u, (strV P)[j]? = some u → V.cell? ((⟨g, 0, none⟩ : Addr).add j) = some u) ∧ (∀ j u, (strV S)[j]? = some u → V.cell? ((⟨g, m, none⟩ : Addr).add j) = some u)) := Lib.hid (fun V hb => by
                have h1 : SRow V w.heap.size g VC k (P ++ S) := by rw [HPS.out]; exact own_below HOX.out hb
                have := out_cells h1 (by rw [HPS.out]; exact HOL.out)
                rwa [HM.out] at this)
              have HSL : Hid ((strV P).length = m ∧ (strV S).length = k - m) := Lib.hid (by
                have e := congrArg List.length HPS.out
                rw [List.length_append, HOL.out] at e
                rw [strV_len, strV_len]
                have := HM.out
                omega)
              have HINS : Hid (ord key (nmsU (vs.take (k + 1))) = P ++ nm :: S) := Lib.hid (by rw [HOE.out, ← HPS.out]; exact ins_at HSS.out HEX.out)
              obtain ⟨X, hX⟩ : ∃ X, w4.heap.size = X := ⟨_, rfl⟩
              have HX := Lib.hid hX
              have HE0 : Hid ((w4.alloc (.cells #[] 9)).ownsRow X 9 1 (.slice (some ⟨X, 0, none⟩) 0 0) 0 []) := Lib.hid (by subst hX; exact empty_own w4)
              have HBe : Hid (Below X w4 (w4.alloc (.cells #[] 9))) := Lib.hid (by subst hX; exact (Below.refl _ _).alloc (Nat.le_refl _) _)
              have HSRX : Hid (∀ V, Below X w4 V → (∀ j u, (strV P)[j]? = some u → V.cell? ((⟨g, 0, none⟩ : Addr).add j) = some u) ∧ (∀ j u, (strV S)[j]? = some u → V.cell? ((⟨g, m, none⟩ : Addr).add j) = some u)) := Lib.hid (by subst hX; exact HSR.out)
              have HCX : Hid (∀ V, Below X w4 V → V.cell? ⟨b, o + k * 2, none⟩ = some (.string (str nm))) := Lib.hid (fun V hb => HGV.out V (HBX.out.trans (by subst hX; exact hb.mono HBX.out.size)))
              have HXS : Hid (X ≤ (w4.alloc (.cells #[] 9)).heap.size) := Lib.hid (by subst hX; simp)
              clear hX HSR
              have hmI : (m : Int) ≤ (k : Int) := by omega
              have hm0 : (0 : Int) ≤ (m : Int) := by omega
              have hmn : (m : Int).toNat = m := by omega
              have hkm : ((k : Int) - (m : Int)).toNat = k - m := by omega
              have hcm2 : ((VC : Int) - (m : Int)).toNat = VC - m := by omega
              go_wp2_with (first
                | (at_builtin; rw [HX.out]; refine wpList_append_own _ rfl (.tmp 40) (.tmp 43) _ rfl X 9 i0 _ 1 16 Tryd.underlying40 I0.out Z0.out S0.out Y0.out rfl (by decide) _ 0 _ rfl HE0.out ⟨g, 0, none⟩ m VC (strV P) rfl (by rw [HSL.out.1]; omega) ((HSRX.out _ HBe.out).1) (strV_one P) (by unfold maxLen; omega) (by omega) HXS.out ?_))
              intro v5 w5 hown5 hg5 _
              obtain ⟨V5, C5, rfl⟩ := own_slice hown5
              have HO5 := Lib.hid hown5
              have HB5 : Hid (Below X w4 w5) := Lib.hid (HBe.out.grown hg5 HXS.out (fun j e => (HE0.out.lt j e).1))
              have HX5 : Hid (X ≤ w5.heap.size) := Lib.hid (by have h1 := HXS.out; have h2 := hg5.size; omega)
              clear hown5 hg5
              have c5 := HCX.out _ HB5.out
              go_wp2_with (first
                | (at_builtin; refine wpList_append_own _ rfl (.tmp 45) (.tmp 51) _ rfl X 9 i0 _ 1 16 Tryd.underlying40 I0.out Z0.out S0.out Y0.out rfl (by decide) _ m _ rfl (HO5.out.alloc _) _ 1 1 [.string (str nm)] rfl rfl (new1 _ _ _ _ rfl) (by simp [Value.oneCell']) (by unfold maxLen; omega) (by omega) (by have := HX5.out; simp; omega) ?_))
              intro v6 w6 hown6 hg6 _
              obtain ⟨V6, C6, rfl⟩ := own_slice hown6
              have HO6 := Lib.hid hown6
              have HB6 : Hid (Below X w4 w6) := Lib.hid ((HB5.out.alloc HX5.out _).grown hg6 (by have := HX5.out; simp; omega) (fun j e => (HO5.out.lt j e).1))
              have HX6 : Hid (X ≤ w6.heap.size) := Lib.hid (by have h1 := HX5.out; have h2 := hg6.size; simp at h2; omega)
              clear hown6 hg6 c5
              by_cases hmv : m = VC
              · have HSL0 : Hid (S.length = 0) := Lib.hid (by have := HSL.out.2; rw [strV_len] at this; omega)
                have hmv2 := Lib.hid hmv
                go_wp2_with (first
                  | (at_builtin; refine wpList_append_own _ rfl (.tmp 53) (.tmp 56) _ rfl X 9 i0 _ 1 16 Tryd.underlying40 I0.out Z0.out S0.out Y0.out rfl (by decide) _ (m + 1) _ rfl HO6.out ⟨g, 0, none⟩ 0 0 [] rfl rfl (fun j u h => by simp at h) (fun u h => by cases h) (by unfold maxLen; omega) (by omega) HX6.out ?_))
                intro v7 w7 hown7 hg7 _
                rw [show VC + 1 = k + 1 by omega] at hown7
                obtain ⟨V7, C7, rfl⟩ := own_slice hown7
                have HO7 := Lib.hid hown7
                have HB7 : Hid (Below X w4 w7) := Lib.hid (HB6.out.grown hg7 HX6.out (fun j e => (HO6.out.lt j (by rw [hmv2.out]; exact e)).1))
                clear hown7 hg7
                go_wp2_with fail
                go_roundg (vs.length - (k + 1))
                case measure => rw [HK.out]; omega
                case rel => exact ⟨k + 1, by omega, rfl, by go_num, by
                  rw [HINS.out, List.length_eq_zero_iff.1 (HSL0.out)]
                  have h1 := own_mono HO7.out (b' := w.heap.size) (by rw [← HX.out]; exact HBX.out.size)
                  simpa [strV] using h1, HBX.out.trans (HB7.out.mono (by rw [← HX.out]; exact HBX.out.size))⟩
              · go_wp2_with (first
                  | (at_builtin; refine wpList_append_own _ rfl (.tmp 53) (.tmp 56) _ rfl X 9 i0 _ 1 16 Tryd.underlying40 I0.out Z0.out S0.out Y0.out rfl (by decide) _ (m + 1) _ rfl HO6.out ⟨g, m, none⟩ (k - m) (VC - m) (strV S) rfl (by rw [HSL.out.2]; omega) ((HSRX.out _ HB6.out).2) (strV_one S) (by unfold maxLen; omega) (by omega) HX6.out ?_))
                intro v7 w7 hown7 hg7 _
                rw [show m + 1 + (k - m) = k + 1 by omega] at hown7
                obtain ⟨V7, C7, rfl⟩ := own_slice hown7
                have HO7 := Lib.hid hown7
                have HB7 : Hid (Below X w4 w7) := Lib.hid (HB6.out.grown hg7 HX6.out (fun j e => (HO6.out.lt j e).1))
                clear hown7 hg7
                go_wp2_with fail
                go_roundg (vs.length - (k + 1))
                case measure => rw [HK.out]; omega
                case rel => exact ⟨k + 1, by omega, rfl, by go_num, by
                  rw [HINS.out]
                  have h1 := own_mono HO7.out (b' := w.heap.size) (by rw [← HX.out]; exact HBX.out.size)
                  simpa [strV] using h1, HBX.out.trans (HB7.out.mono (by rw [← HX.out]; exact HBX.out.size))⟩
    · obtain rfl : k = vs.length := by omega
      have HEND : Hid (nmsU (vs.take vs.length) = nmsU vs) := Lib.hid (by rw [List.take_length])
      rw [HEND.out] at HO
      go_wp2_with fail
      go_ret
      exact ⟨VA, VC, by rw [ord_len]; simp [nmsU], row_own HO.out, HB.out⟩
end Go.Proofs.YtkfajeicbkeigaaDoor
