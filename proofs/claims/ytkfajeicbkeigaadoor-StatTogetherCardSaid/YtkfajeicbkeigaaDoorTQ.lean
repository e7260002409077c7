/- The walks over the reference's Check and Places. -/
import Derived.Test.YtkfajeicbkeigaaDoorTP
namespace Go.Proofs.YtkfajeicbkeigaaDoor
open Go.RowKit Go.Maps
set_option maxRecDepth 100000 in
set_option maxHeartbeats 4000000 in
theorem rcheck19 {A : Option Addr} {c : Nat} {vs : List Us} {w : World} (h : Uss w A vs) (hl : Lim vs) :
    Calls Tryd.prog 19 #[.slice A vs.length c] w fun e w' => e = .returned (.int .i64 (chk vs)) ∧ w' = w := by
  have H := Lib.hid h
  have hn := hl.1
  have HL := Lib.hid hl.2
  have HNC : Hid (∀ k, numC (vs.take k) ≤ 120) := Lib.hid (fun k => by
    have := numC_le (us := vs.take k) (fun u hu => (hl.2 u (List.mem_of_mem_take hu)).1)
    have h2 : (vs.take k).length ≤ 10 := by rw [List.length_take]; omega
    omega)
  clear h hl
  go_enter Tryd.func19, Tryd.ntmps19
  go_wp2_with fail
  go_loopg [3, 4] vs.length (fun gk r i wr => ∃ k : Nat, k ≤ vs.length ∧ gk = vs.length - k ∧ i = .int .i64 k ∧ r = .int .i64 (numC (vs.take k) : Nat) ∧ (vs.take k).all okU = true ∧ wr = w)
  case atStart => exact ⟨0, Nat.zero_le _, rfl, rfl, rfl, rfl, rfl⟩
  case round =>
    obtain ⟨k, hk, hgk, rfl, rfl, hok, rfl⟩ := hrel
    have HK := Lib.hid hgk
    have HOK := Lib.hid hok
    have hnc := HNC.out k
    clear hgk hok
    by_cases hlt : k < vs.length
    · obtain ⟨u, hu⟩ : ∃ u, vs[k]? = some u := ⟨vs[k]'hlt, by simp⟩
      obtain ⟨b, o, rfl, hbl, hr, hcks⟩ := H.out.get hu
      have HNT := Lib.hid (numC_take hu)
      have HU := Lib.hid hu
      have hcl := (HL.out u (List.mem_of_getElem? hu)).1
      have c0 := hr 0 _ rfl
      have c1 := hr 1 _ rfl
      have HCK := Lib.hid hcks
      rw [Nat.add_zero] at c0
      obtain ⟨nm, uA, uc, cs⟩ := u
      simp only at *
      have hk0 : (0 : Int) ≤ (k : Int) := by omega
      have hk1 : (k : Int) < (vs.length : Int) := by omega
      clear hr hu hcks
      go_wp2_with fail
      go_loopg [5] cs.length (fun gk2 i2 wQ => ∃ m : Nat, m ≤ cs.length ∧ gk2 = cs.length - m ∧ i2 = .int .i64 m ∧ wQ = wr ∧ (cs.take m).all okC = true)
      case atStart => exact ⟨0, Nat.zero_le _, rfl, rfl, rfl, rfl⟩
      case round =>
        obtain ⟨m, hm, hgm, rfl, rfl, hok2⟩ := hrel
        have HM := Lib.hid hgm
        have HOK2 := Lib.hid hok2
        clear hgm hok2
        by_cases hlt2 : m < cs.length
        · obtain ⟨x, hx⟩ : ∃ x, cs[m]? = some x := ⟨cs[m]'hlt2, by simp⟩
          obtain ⟨b2, o2, rfl, hbl2, hr2⟩ := HCK.out.get hx
          have f2 := hr2 2 _ rfl
          have HNO : Hid (x.2 < 1 ∨ 4096 < x.2 → chk vs = 1) := Lib.hid (fun h => chk_no HU.out hx h)
          have HYS : Hid (1 ≤ x.2 ∧ x.2 ≤ 4096 → (cs.take (m + 1)).all okC = true) := Lib.hid (fun h => all_take hx HOK2.out (by unfold okC; simp [h]))
          obtain ⟨⟨xb, xs⟩, xl⟩ := x
          simp only at *
          have hm0 : (0 : Int) ≤ (m : Int) := by omega
          have hm1 : (m : Int) < (cs.length : Int) := by omega
          clear hr2 hx
          by_cases q1 : xl < 1
          · go_wp2_with fail
            go_ret
            exact ⟨by rw [HNO.out (.inl q1)]; rfl, rfl⟩
          · by_cases q2 : 4096 < xl
            · go_wp2_with fail
              go_ret
              exact ⟨by rw [HNO.out (.inr q2)]; rfl, rfl⟩
            · go_wp2_with fail
              go_roundg (cs.length - (m + 1))
              case measure => rw [HM.out]; omega
              case rel => exact ⟨m + 1, by omega, rfl, by go_num, rfl, HYS.out ⟨by omega, by omega⟩⟩
        · obtain rfl : m = cs.length := by omega
          have HOKU : Hid ((vs.take (k + 1)).all okU = true) := Lib.hid (all_take HU.out HOK.out (by unfold okU; have := HOK2.out; rwa [List.take_length] at this))
          go_wp2_with fail
          go_roundg (vs.length - (k + 1))
          case measure => rw [HK.out]; omega
          case rel => exact ⟨k + 1, by omega, rfl, by go_num, by rw [HNT.out]; go_num, HOKU.out, rfl⟩
    · obtain rfl : k = vs.length := by omega
      have HF : Hid (chk vs = 0) := Lib.hid (by unfold chk; rw [if_pos]; have := HOK.out; rwa [List.take_length] at this)
      rw [List.take_length]
      rw [List.take_length] at hnc
      generalize numC vs = N at *
      have hnc2 : decide ((65536 : Int) < (N : Int)) = false := by simp; omega
      have hnc3 : decide (65536 < N) = false := by simp; omega
      go_wp2_with fail
      go_ret
      exact ⟨by rw [HF.out]; rfl, rfl⟩
theorem info67 : (Tryd.prog.info? 67).map (fun i => (i.zero, i.size, i.bytes)) = some (some (.agg #[.int .u32 0, .int .i64 0, .int .i64 0]), 3, 24) := by kernel_rfl
theorem new3 (W : World) (a b c : Value) (t : TypeId) (g : Nat) (hg : g = W.heap.size) : ∀ j u, [a, b, c][j]? = some u → (W.alloc (.cells #[a, b, c] t)).cell? ((⟨g, 0, none⟩ : Addr).add j) = some u := by
  subst hg
  exact new_cells W [a, b, c] t
set_option maxRecDepth 100000 in
set_option maxHeartbeats 8000000 in
theorem places32 {A : Option Addr} {c : Nat} {vs : List Us} {w : World} (h : Uss w A vs) (hl : Lim vs) :
    Calls Tryd.prog 32 #[.slice A vs.length c] w fun e w' => ∃ B d, e = .returned (.slice B (pl (prs vs)).length d) ∧ Cks w' B (pl (prs vs)) ∧ Below w.heap.size w w' := by
  have H := Lib.hid h
  have hn := hl.1
  have HL := Lib.hid hl.2
  have HPT : Hid (∀ k u, vs[k]? = some u → prs (vs.take (k + 1)) = prs (vs.take k) ++ prU u u.cs.length) := Lib.hid (fun k u h => prs_take h)
  have HEND : Hid (prs (vs.take vs.length) = prs vs) := Lib.hid (by rw [List.take_length])
  have HQB : Hid (∀ k, (prs (vs.take k)).length ≤ 120) := Lib.hid (fun k => by
    rw [prs_len]
    have := numC_le (us := vs.take k) (fun u hu => (hl.2 u (List.mem_of_mem_take hu)).1)
    have h2 : (vs.take k).length ≤ 10 := by rw [List.length_take]; omega
    omega)
  obtain ⟨i0, hi, hz0, hz1, hz2⟩ := info_parts info67
  have I0 := Lib.hid hi
  have Z0 := Lib.hid hz0
  have S0 := Lib.hid hz1
  have Y0 := Lib.hid hz2
  clear h hl hi hz0 hz1 hz2
  go_enter Tryd.func32, Tryd.ntmps32
  go_wp2_with fail
  go_loopg [3, 4] vs.length (fun gk v i wr => ∃ k : Nat, k ≤ vs.length ∧ gk = vs.length - k ∧ i = .int .i64 k ∧ wr.ownsRow w.heap.size 67 3 v (pl (prs (vs.take k))).length ((pl (prs (vs.take k))).flatMap ckV) ∧ Below w.heap.size w wr)
  case atStart => exact ⟨0, Nat.zero_le _, rfl, rfl, World.ownsRow_nil _ _ _ _, Below.refl _ _⟩
  case round =>
    obtain ⟨k, hk, hgk, rfl, hown, hb⟩ := hrel
    obtain ⟨VA, VC, rfl⟩ := own_slice hown
    have HK := Lib.hid hgk
    have HO := Lib.hid hown
    have HB := Lib.hid hb
    clear hgk hown hb
    by_cases hlt : k < vs.length
    · obtain ⟨u, hu⟩ : ∃ u, vs[k]? = some u := ⟨vs[k]'hlt, by simp⟩
      have HGU : Hid (∀ W, Below w.heap.size w W → ∃ b o, A = some ⟨b, o, none⟩ ∧ b < W.heap.size ∧ W.rangeAt b (o + k * 2) (usV u) ∧ Cks W u.A u.cs) := Lib.hid (fun W hb => (H.out.below hb).get hu)
      obtain ⟨b, o, hA, _, _, _⟩ := HGU.out w (Below.refl _ _)
      subst hA
      have HGV : Hid (∀ W, Below w.heap.size w W → W.cell? ⟨b, o + k * 2 + 1, none⟩ = some (.slice u.A u.cs.length u.c) ∧ Cks W u.A u.cs) := Lib.hid (fun W hb => by
        obtain ⟨b', o', e, _, h2, h3⟩ := HGU.out W hb
        injection e with e
        injection e with e1 e2
        subst e1 e2
        exact ⟨h2 1 _ rfl, h3⟩)
      have HPTK := Lib.hid (HPT.out k u hu)
      have HPU : Hid (∀ m c, u.cs[m]? = some c → prU u (m + 1) = prU u m ++ [(u.nm, c)]) := Lib.hid (fun m c h => prU_snoc h)
      have HPU0 : Hid (prU u 0 = []) := Lib.hid rfl
      have hcl := (HL.out u (List.mem_of_getElem? hu)).1
      have HQL : Hid (∀ m, (pl (prs (vs.take k) ++ prU u m)).length ≤ 132) := Lib.hid (fun m => by
        have h1 := pl_len (prs (vs.take k) ++ prU u m)
        have h2 := HQB.out k
        have h3 : (prU u m).length ≤ 12 := by unfold prU; rw [List.length_map, List.length_take]; omega
        rw [List.length_append] at h1
        omega)
      obtain ⟨nm, uA, uc, cs⟩ := u
      simp only at *
      have HO0 : Hid (wr.ownsRow w.heap.size 67 3 (.slice VA (pl (prs (vs.take k))).length VC) (pl (prs (vs.take k) ++ prU ⟨nm, uA, uc, cs⟩ 0)).length ((pl (prs (vs.take k) ++ prU ⟨nm, uA, uc, cs⟩ 0)).flatMap ckV)) := Lib.hid (by rw [HPU0.out, List.append_nil]; exact HO.out)
      generalize hG : prU ⟨nm, uA, uc, cs⟩ = G at *
      generalize hQ : prs (vs.take k) = Q at *
      clear hG hQ hu
      have hk0 : (0 : Int) ≤ (k : Int) := by omega
      have hk1 : (k : Int) < (vs.length : Int) := by omega
      go_wp2_with fail
      go_loopg [3, 5] cs.length (fun gk2 v2 i2 wQ => ∃ m : Nat, m ≤ cs.length ∧ gk2 = cs.length - m ∧ i2 = .int .i64 m ∧ wQ.ownsRow w.heap.size 67 3 v2 (pl (Q ++ G m)).length ((pl (Q ++ G m)).flatMap ckV) ∧ Below w.heap.size w wQ)
      case atStart => exact ⟨0, Nat.zero_le _, rfl, rfl, HO0.out, HB.out⟩
      case round =>
        obtain ⟨m, hm, hgm, rfl, hown, hb2⟩ := hrel
        obtain ⟨VB, VD, rfl⟩ := own_slice hown
        have HM := Lib.hid hgm
        have HO2 := Lib.hid hown
        have HB2 := Lib.hid hb2
        have c1 := (HGV.out _ hb2).1
        clear hgm hown hb2
        by_cases hlt2 : m < cs.length
        · obtain ⟨x, hx⟩ : ∃ x, cs[m]? = some x := ⟨cs[m]'hlt2, by simp⟩
          obtain ⟨b2, o2, hA2, _, _⟩ := (HGV.out _ HB2.out).2.get hx
          subst hA2
          have HF : Hid (∀ W, Below w.heap.size w W → W.cell? ⟨b2, o2 + m * 3, none⟩ = some (.int .u32 x.1.1) ∧ W.cell? ⟨b2, o2 + m * 3 + 1, none⟩ = some (.int .i64 x.1.2) ∧ W.cell? ⟨b2, o2 + m * 3 + 2, none⟩ = some (.int .i64 x.2)) := Lib.hid (fun W hb => by
            obtain ⟨b', o', e, _, h2⟩ := (HGV.out W hb).2.get hx
            injection e with e
            injection e with e1 e2
            subst e1 e2
            exact ⟨h2 0 _ rfl, h2 1 _ rfl, h2 2 _ rfl⟩)
          obtain ⟨f0, f1, f2⟩ := HF.out _ HB2.out
          have HPX := Lib.hid (HPU.out m x hx)
          have HNEW : Hid (x.1 ∉ plSet (Q ++ G m) → pl (Q ++ G m ++ [(nm, x)]) = pl (Q ++ G m) ++ [x]) := Lib.hid (fun h => pl_new h)
          have HOLD : Hid (x.1 ∈ plSet (Q ++ G m) → pl (Q ++ G m ++ [(nm, x)]) = pl (Q ++ G m)) := Lib.hid (fun h => pl_old h)
          have HAT : Hid (Calls Tryd.prog 33 #[.slice VB (pl (Q ++ G m)).length VD, .agg #[.int .u32 x.1.1, .int .i64 x.1.2]] wr fun e w' => e = .returned (.int .i64 (atI (pl (Q ++ G m)) x.1)) ∧ Below wr.heap.size wr w') := Lib.hid (at33 (row_own HO2.out) (by have := HQL.out m; omega) x.1)
          have hln := HQL.out m
          obtain ⟨⟨xb, xs⟩, xl⟩ := x
          simp only at *
          have hm0 : (0 : Int) ≤ (m : Int) := by omega
          have hm1 : (m : Int) < (cs.length : Int) := by omega
          clear hx
          by_cases hin : ((xb, xs) : Plc) ∈ plSet (Q ++ G m)
          · have HT : Hid (pl (Q ++ G (m + 1)) = pl (Q ++ G m)) := Lib.hid (by rw [HPX.out, ← List.append_assoc]; exact HOLD.out hin)
            obtain ⟨i, y, hi, _, _⟩ := atI_yes hin
            rw [hi] at HAT
            have hi0 : ¬ (i : Int) < 0 := by omega
            clear hi hin
            go_wp2_with fail
            refine Calls.mono HAT.out ?_
            rintro e w3 ⟨rfl, hb3⟩
            have HB3 := Lib.hid hb3
            clear hb3 c1 f0 f1 f2
            go_wp2_with fail
            go_roundg (cs.length - (m + 1))
            case measure => rw [HM.out]; omega
            case rel => exact ⟨m + 1, by omega, rfl, by go_num, by rw [HT.out]; exact own_below HO2.out HB3.out, HB2.out.trans (HB3.out.mono HB2.out.size)⟩
          · have HT : Hid (pl (Q ++ G (m + 1)) = pl (Q ++ G m) ++ [((xb, xs), xl)]) := Lib.hid (by rw [HPX.out, ← List.append_assoc]; exact HNEW.out hin)
            rw [atI_no hin] at HAT
            obtain ⟨L, hL⟩ : ∃ L, (pl (Q ++ G m)).length = L := ⟨_, rfl⟩
            have HLL := Lib.hid hL
            rw [hL] at HAT HO2 hln ⊢
            clear hin hL
            go_wp2_with fail
            refine Calls.mono HAT.out ?_
            rintro e w3 ⟨rfl, hb3⟩
            have HB3 := Lib.hid hb3
            have HBW3 : Hid (Below w.heap.size w w3) := Lib.hid (HB2.out.trans (HB3.out.mono HB2.out.size))
            have HO3 := Lib.hid (own_below HO2.out HB3.out)
            clear hb3 c1 f0 f1 f2
            obtain ⟨f0, f1, f2⟩ := HF.out _ HBW3.out
            have c1 := (HGV.out _ HBW3.out).1
            go_wp2_with (first
              | (at_builtin; refine wpList_append_own _ rfl (.tmp 34) (.tmp 43) _ rfl w.heap.size 67 i0 _ 3 24 Tryd.underlying58 I0.out Z0.out S0.out Y0.out rfl (by decide) _ L _ rfl (HO3.out.alloc _) _ 1 1 [.int .u32 xb, .int .i64 xs, .int .i64 xl] rfl rfl (new3 _ _ _ _ _ _ rfl) (by simp [Value.oneCell']) (by unfold maxLen; omega) (by omega) (by have := HBW3.out.size; simp; omega) ?_))
            intro v8 w8 hown8 hg8 _
            obtain ⟨V8, C8, rfl⟩ := own_slice hown8
            have HO8 := Lib.hid hown8
            have HB8 : Hid (Below w.heap.size w w8) := Lib.hid ((HBW3.out.alloc HBW3.out.size _).grown hg8 (by have := HBW3.out.size; simp; omega) (fun j e => (HO3.out.lt j e).1))
            clear hown8 hg8 f0 f1 f2 c1
            go_wp2_with fail
            go_roundg (cs.length - (m + 1))
            case measure => rw [HM.out]; omega
            case rel => exact ⟨m + 1, by omega, rfl, by go_num, by rw [HT.out, List.flatMap_append, List.length_append, HLL.out]; exact HO8.out, HB8.out⟩
        · obtain rfl : m = cs.length := by omega
          go_wp2_with fail
          go_roundg (vs.length - (k + 1))
          case measure => rw [HK.out]; omega
          case rel => exact ⟨k + 1, by omega, rfl, by go_num, by rw [HPTK.out]; exact HO2.out, HB2.out⟩
    · obtain rfl : k = vs.length := by omega
      go_wp2_with fail
      go_ret
      rw [HEND.out] at HO
      exact ⟨VA, VC, by rw [HEND.out]; rfl, row_own HO.out, HB.out⟩
end Go.Proofs.YtkfajeicbkeigaaDoor
