/- The walk over the reference's Long. -/
import Derived.Test.YtkfajeicbkeigaaDoorTT
namespace Go.Proofs.YtkfajeicbkeigaaDoor
open Go.RowKit Go.Maps
set_option maxRecDepth 100000 in
set_option maxHeartbeats 8000000 in
theorem rlong27 {A : Option Addr} {c : Nat} {vs : List Us} {w : World} (h : Uss w A vs) (hl : Lim vs) (hc : chk vs = 0) :
    Calls Tryd.prog 27 #[.slice A vs.length c] w fun e w' => e = .returned (.int .i64 (lsum (prs vs) (prs vs))) ∧ Below w.heap.size w w' := by
  have HPL : Hid (PlFew (pl (prs vs))) := Lib.hid ⟨pl_few hl, fun c hc' => by
    obtain ⟨x, hx, rfl⟩ := pl_of c hc'
    obtain ⟨u, hu, c', hc2, rfl⟩ := mem_prs.1 hx
    exact chk_ok hc u hu c' hc2⟩
  have HC := Lib.hid (places32 (c := c) h hl)
  have HSPX : ∀ x ∈ prs vs, 1 ≤ lenF (prs vs) x.2.1 ∧ lenF (prs vs) x.2.1 ≤ 4096 := fun x hx => by
    obtain ⟨q, hq, _, e⟩ := len_mem hx
    rw [e]
    exact HPL.out.2 q hq
  have HQB : ∀ k, (prs (vs.take k)).length ≤ 120 := fun k => by
    rw [prs_len]
    have := numC_le (us := vs.take k) (fun u hu => (hl.2 u (List.mem_of_mem_take hu)).1)
    have h2 : (vs.take k).length ≤ 10 := by have := hl.1; rw [List.length_take]; omega
    omega
  have hsub : ∀ k, ∀ x ∈ prs (vs.take k), x ∈ prs vs := fun k x hx => by
    obtain ⟨u, hu, y, hy, e⟩ := mem_prs.1 hx
    exact mem_prs.2 ⟨u, List.mem_of_mem_take hu, y, hy, e⟩
  have HSP : Hid (∀ k u m, vs[k]? = some u → 0 ≤ lsum (prs vs) (prs (vs.take k) ++ prU u m) ∧ lsum (prs vs) (prs (vs.take k) ++ prU u m) ≤ 1000000) := Lib.hid (fun k u m hu => by
    have hm := List.mem_of_getElem? hu
    have hz := lsum_span (P := prs vs) (Q := prs (vs.take k) ++ prU u m) (fun x hx => HSPX x (by
      rcases List.mem_append.1 hx with hx | hx
      · exact hsub k x hx
      · unfold prU at hx
        obtain ⟨y, hy, e⟩ := List.mem_map.1 hx
        exact mem_prs.2 ⟨u, hm, y, List.mem_of_mem_take hy, e.symm⟩))
    have h1 := HQB k
    have h2 : (prU u m).length ≤ 12 := by unfold prU; rw [List.length_map, List.length_take]; have := (hl.2 u hm).1; omega
    rw [List.length_append] at hz
    omega)
  have HSX : Hid (∀ u ∈ vs, ∀ y ∈ u.cs, (∃ (i : Nat) (z : Ck), atI (pl (prs vs)) y.1 = (i : Int) ∧ (pl (prs vs))[i]? = some z ∧ lenF (prs vs) y.1 = z.2) ∧ 1 ≤ lenF (prs vs) y.1 ∧ lenF (prs vs) y.1 ≤ 4096) := Lib.hid (fun u hu y hy => by
    have hm : (u.nm, y) ∈ prs vs := mem_prs.2 ⟨u, hu, y, hy, rfl⟩
    refine ⟨?_, HSPX (u.nm, y) hm⟩
    obtain ⟨i, z, h1, h2, h3⟩ := atI_yes (cs := pl (prs vs)) (p := y.1) (plSet_mem.2 ⟨(u.nm, y), hm, rfl⟩)
    exact ⟨i, z, h1, h2, by rw [← h3]; exact lenF_get h2⟩)
  have HPT : Hid (∀ k u, vs[k]? = some u → prs (vs.take (k + 1)) = prs (vs.take k) ++ prU u u.cs.length) := Lib.hid (fun k u h => prs_take h)
  have HEND : Hid (prs (vs.take vs.length) = prs vs) := Lib.hid (by rw [List.take_length])
  have H := Lib.hid h
  have hvl := hl.1
  have HL := Lib.hid hl.2
  clear h hl hc HSPX HQB hsub
  obtain ⟨P, hP⟩ : ∃ P, prs vs = P := ⟨_, rfl⟩
  have HPP := Lib.hid hP
  rw [hP] at HPL HC HSP HSX HEND ⊢
  clear hP
  generalize hLL : pl P = L at *
  have hLn := HPL.out.1
  clear hLL
  go_enter Tryd.func27, Tryd.ntmps27
  go_wp2_with fail
  refine Calls.mono HC.out ?_
  rintro e w1 ⟨PA, d, rfl, hck, hb1⟩
  have HCKA := Lib.hid hck
  have HB1 := Lib.hid hb1
  clear hck hb1
  have HATG : Hid (∀ W, Below w1.heap.size w1 W → ∀ p : Plc, Calls Tryd.prog 33 #[.slice PA L.length d, .agg #[.int .u32 p.1, .int .i64 p.2]] W fun e w' => e = .returned (.int .i64 (atI L p)) ∧ Below W.heap.size W w') := Lib.hid (fun W hb p => at33 (HCKA.out.below hb) (by omega) p)
  have HUS : Hid (∀ W, Below w1.heap.size w1 W → Uss W A vs) := Lib.hid (fun W hb => H.out.below (HB1.out.trans (hb.mono HB1.out.size)))
  go_wp2_with fail
  go_loopg [4, 5] vs.length (fun gk r i wr => ∃ k : Nat, k ≤ vs.length ∧ gk = vs.length - k ∧ i = .int .i64 k ∧ r = .int .i64 (lsum P (prs (vs.take k))) ∧ Below w1.heap.size w1 wr)
  case atStart => exact ⟨0, Nat.zero_le _, rfl, rfl, rfl, Below.refl _ _⟩
  case round =>
    obtain ⟨k, hk, hgk, rfl, rfl, hb⟩ := hrel
    have HK := Lib.hid hgk
    have HB := Lib.hid hb
    clear hgk hb
    by_cases hlt : k < vs.length
    · obtain ⟨u, hu⟩ : ∃ u, vs[k]? = some u := ⟨vs[k]'hlt, by simp⟩
      have HUM := Lib.hid (List.mem_of_getElem? hu)
      have HGU : Hid (∀ W, Below w1.heap.size w1 W → ∃ b o, A = some ⟨b, o, none⟩ ∧ b < W.heap.size ∧ W.rangeAt b (o + k * 2) (usV u) ∧ Cks W u.A u.cs) := Lib.hid (fun W hb => (HUS.out W hb).get hu)
      obtain ⟨b, o, hA, _, _, _⟩ := HGU.out w1 (Below.refl _ _)
      subst hA
      have HGV : Hid (∀ W, Below w1.heap.size w1 W → W.cell? ⟨b, o + k * 2 + 1, none⟩ = some (.slice u.A u.cs.length u.c) ∧ Cks W u.A u.cs) := Lib.hid (fun W hb => by
        obtain ⟨b', o', e, _, h2, h3⟩ := HGU.out W hb
        injection e with e
        injection e with e1 e2
        subst e1 e2
        exact ⟨h2 1 _ rfl, h3⟩)
      have HPTK := Lib.hid (HPT.out k u hu)
      have HSPK : Hid (∀ m, 0 ≤ lsum P (prs (vs.take k) ++ prU u m) ∧ lsum P (prs (vs.take k) ++ prU u m) ≤ 1000000) := Lib.hid (fun m => HSP.out k u m hu)
      have HPU : Hid (∀ m c, u.cs[m]? = some c → prU u (m + 1) = prU u m ++ [(u.nm, c)]) := Lib.hid (fun m c h => prU_snoc h)
      have HPU0 : Hid (prU u 0 = []) := Lib.hid rfl
      have HSXU := Lib.hid (HSX.out u HUM.out)
      have hcl := (HL.out u HUM.out).1
      obtain ⟨nm, uA, uc, cs⟩ := u
      simp only at *
      generalize hG : prU ⟨nm, uA, uc, cs⟩ = G at *
      generalize hQ : prs (vs.take k) = Q at *
      clear hG hQ hu
      have hk0 : (0 : Int) ≤ (k : Int) := by omega
      have hk1 : (k : Int) < (vs.length : Int) := by omega
      have HQ0 : Hid (lsum P Q = lsum P (Q ++ G 0)) := Lib.hid (by rw [HPU0.out, List.append_nil])
      go_wp2_with fail
      rw [HQ0.out]
      go_loopg [4, 6] cs.length (fun gk2 r2 i2 wQ => ∃ m : Nat, m ≤ cs.length ∧ gk2 = cs.length - m ∧ i2 = .int .i64 m ∧ r2 = .int .i64 (lsum P (Q ++ G m)) ∧ Below w1.heap.size w1 wQ)
      case atStart => exact ⟨0, Nat.zero_le _, rfl, rfl, rfl, HB.out⟩
      case round =>
        obtain ⟨m, hm, hgm, rfl, rfl, hb2⟩ := hrel
        have HM := Lib.hid hgm
        have HB2 := Lib.hid hb2
        have c1 := (HGV.out _ hb2).1
        clear hgm hb2
        by_cases hlt2 : m < cs.length
        · obtain ⟨x, hx⟩ : ∃ x, cs[m]? = some x := ⟨cs[m]'hlt2, by simp⟩
          obtain ⟨b2, o2, hA2, _, hr2⟩ := (HGV.out _ HB2.out).2.get hx
          subst hA2
          have f0 := hr2 0 _ rfl
          have f1 := hr2 1 _ rfl
          rw [Nat.add_zero] at f0
          obtain ⟨⟨i, z, hi1, hi2, hi3⟩, hs2⟩ := HSXU.out x (List.mem_of_getElem? hx)
          have hil : (i : Int) < (L.length : Int) := by have := (List.getElem?_eq_some_iff.1 hi2).1; omega
          have hi0 : (0 : Int) ≤ (i : Int) := by omega
          have HAT : Hid (Calls Tryd.prog 33 #[.slice PA L.length d, .agg #[.int .u32 x.1.1, .int .i64 x.1.2]] wr fun e w' => e = .returned (.int .i64 (i : Int)) ∧ Below wr.heap.size wr w') := Lib.hid (by have := HATG.out wr HB2.out x.1; rwa [hi1] at this)
          have HZ : Hid (∀ W, Below w1.heap.size w1 W → ∃ b o, PA = some ⟨b, o, none⟩ ∧ b < W.heap.size ∧ W.rangeAt b (o + i * 3) (ckV z)) := Lib.hid (fun W hb => (HCKA.out.below hb).get hi2)
          obtain ⟨pb, po, hPA, _, _⟩ := HZ.out w1 (Below.refl _ _)
          subst hPA
          have HZ2 : Hid (∀ W, Below w1.heap.size w1 W → W.cell? ⟨pb, po + i * 3 + 2, none⟩ = some (.int .i64 z.2)) := Lib.hid (fun W hb => by
            obtain ⟨b', o', e, _, h2⟩ := HZ.out W hb
            injection e with e
            injection e with e1 e2
            subst e1 e2
            exact h2 2 _ rfl)
          have HE : Hid (lsum P (Q ++ G (m + 1)) = lsum P (Q ++ G m) + z.2) := Lib.hid (by rw [HPU.out m x hx, ← List.append_assoc, lsum_snoc, hi3])
          have hs1 := HSPK.out m
          rw [hi3] at hs2
          obtain ⟨⟨xb, xs⟩, xl⟩ := x
          simp only at *
          generalize z.2 = zl at *
          have hm0 : (0 : Int) ≤ (m : Int) := by omega
          have hm1 : (m : Int) < (cs.length : Int) := by omega
          clear hr2 hx hi1 hi2 hi3
          go_wp2_with fail
          refine Calls.mono HAT.out ?_
          rintro e w3 ⟨rfl, hb3⟩
          have HB3 : Hid (Below w1.heap.size w1 w3) := Lib.hid (HB2.out.trans (hb3.mono HB2.out.size))
          have z2 := HZ2.out _ HB3.out
          clear hb3 f0 f1 c1
          go_wp2_with fail
          go_roundg (cs.length - (m + 1))
          case measure => rw [HM.out]; omega
          case rel => exact ⟨m + 1, by omega, rfl, by go_num, by rw [HE.out], HB3.out⟩
        · obtain rfl : m = cs.length := by omega
          go_wp2_with fail
          go_roundg (vs.length - (k + 1))
          case measure => rw [HK.out]; omega
          case rel => exact ⟨k + 1, by omega, rfl, by go_num, by rw [HPTK.out], HB2.out⟩
    · obtain rfl : k = vs.length := by omega
      rw [HEND.out]
      go_wp2_with fail
      go_ret
      exact ⟨rfl, HB1.out.trans (HB.out.mono HB1.out.size)⟩
end Go.Proofs.YtkfajeicbkeigaaDoor
