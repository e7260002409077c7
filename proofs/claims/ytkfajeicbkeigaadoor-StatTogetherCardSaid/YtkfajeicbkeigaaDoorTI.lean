/- The walks over Long and Saved. -/
import Derived.Test.YtkfajeicbkeigaaDoorTH
namespace Go.Proofs.YtkfajeicbkeigaaDoor
open Go.RowKit Go.Maps
/-- the lengths of the places of these pairs, by the table of P -/
def lsum (P Q : List Pr) : Int := (Q.map fun x => lenF P x.2.1).sum
theorem lsum_snoc (P Q : List Pr) (x : Pr) : lsum P (Q ++ [x]) = lsum P Q + lenF P x.2.1 := by
  unfold lsum
  rw [List.map_append, List.sum_append]
  simp
theorem len_mem {P : List Pr} {x : Pr} (h : x ∈ P) : ∃ c ∈ pl P, c.1 = x.2.1 ∧ lenF P x.2.1 = c.2 := by
  have hm : x.2.1 ∈ plSet P := plSet_mem.2 ⟨x, h, rfl⟩
  obtain ⟨c, hc, e⟩ := List.mem_map.1 hm
  obtain ⟨k, hk⟩ := List.getElem?_of_mem hc
  exact ⟨c, hc, e, by rw [← e]; exact lenF_get hk⟩
theorem lsum_span {P Q : List Pr} (h : ∀ x ∈ Q, 1 ≤ lenF P x.2.1 ∧ lenF P x.2.1 ≤ 4096) : (Q.length : Int) ≤ lsum P Q ∧ lsum P Q ≤ 4096 * Q.length := by
  induction Q using snoc_ind with
  | h0 => simp [lsum]
  | h1 Q x ih =>
    obtain ⟨h1, h2⟩ := ih (fun y hy => h y (List.mem_append.2 (.inl hy)))
    have := h x (by simp)
    rw [lsum_snoc, List.length_append]
    simp
    omega
def longF (us : List Us) : Int := if chk (cnt us) = 0 then lsum (prs (cnt us)) (prs (cnt us)) else 0
theorem longF_yes {us : List Us} (h : chk (cnt us) = 0) : longF us = lsum (prs (cnt us)) (prs (cnt us)) := if_pos h
theorem longF_no {us : List Us} (h : chk (cnt us) = 1) : longF us = 0 := if_neg (by rw [h]; decide)
set_option maxRecDepth 100000 in
set_option maxHeartbeats 8000000 in
theorem long21 {A : Option Addr} {c : Nat} {us : List Us} {w : World} (h : Uss w A us) (hl : Lim us) (hok : AllOk us) :
    Calls Tryd.prog 21 #[.slice A us.length c] w fun e w' => e = .returned (.int .i64 (longF us)) ∧ Below w.heap.size w w' := by
  rcases chk_two (cnt us) with hc | hc
  · have HC := Lib.hid (made44 (c := c) h hl hok hc)
    rw [longF_yes hc]
    have hok2 : AllOk (cnt us) := fun u hu => hok u (cnt_sub u hu)
    have hl2 := hl.cnt
    have HSPX : ∀ x ∈ prs (cnt us), 1 ≤ lenF (prs (cnt us)) x.2.1 ∧ lenF (prs (cnt us)) x.2.1 ≤ 4096 := fun x hx => by
      obtain ⟨q, hq, _, e⟩ := len_mem hx
      rw [e]
      exact (pl_ok hc hok2 q hq).2
    generalize cnt us = vs at *
    have HQB : ∀ k, (prs (vs.take k)).length ≤ 120 := fun k => by
      rw [prs_len]
      have := numC_le (us := vs.take k) (fun u hu => (hl2.2 u (List.mem_of_mem_take hu)).1)
      have h2 : (vs.take k).length ≤ 10 := by have := hl2.1; rw [List.length_take]; omega
      omega
    have hsub : ∀ k, ∀ x ∈ prs (vs.take k), x ∈ prs vs := fun k x hx => by
      obtain ⟨u, hu, y, hy, e⟩ := mem_prs.1 hx
      exact mem_prs.2 ⟨u, List.mem_of_mem_take hu, y, hy, e⟩
    have HSP : Hid (∀ k u m, vs[k]? = some u → 0 ≤ lsum (prs vs) (prs (vs.take k) ++ prU u m) ∧ lsum (prs vs) (prs (vs.take k) ++ prU u m) ≤ 1000000) := Lib.hid (fun k u m hu => by
      have hm := List.mem_of_getElem? hu
      have hz := lsum_span (P := prs vs) (Q := prs (vs.take k) ++ prU u m) (fun x hx => HSPX x (by
        rcases List.mem_append.1 hx with hx | hx
        · exact hsub k x hx
        · unfold prU at hx
          obtain ⟨y, hy, e⟩ := List.mem_map.1 hx
          exact mem_prs.2 ⟨u, hm, y, List.mem_of_mem_take hy, e.symm⟩))
      have h1 := HQB k
      have h2 : (prU u m).length ≤ 12 := by unfold prU; rw [List.length_map, List.length_take]; have := (hl2.2 u hm).1; omega
      rw [List.length_append] at hz
      omega)
    have HSX : Hid (∀ u ∈ vs, ∀ y ∈ u.cs, PlcOk y.1 ∧ 1 ≤ lenF (prs vs) y.1 ∧ lenF (prs vs) y.1 ≤ 4096) := Lib.hid (fun u hu y hy => ⟨(hok2 u hu y hy).1, HSPX (u.nm, y) (mem_prs.2 ⟨u, hu, y, hy, rfl⟩)⟩)
    have HPT : Hid (∀ k u, vs[k]? = some u → prs (vs.take (k + 1)) = prs (vs.take k) ++ prU u u.cs.length) := Lib.hid (fun k u h => prs_take h)
    have HEND : Hid (prs (vs.take vs.length) = prs vs) := Lib.hid (by rw [List.take_length])
    have hvl := hl2.1
    have HL := Lib.hid hl2.2
    clear h hl hok hc hok2 hl2 HSPX HQB hsub
    go_enter Tryd.func21, Tryd.ntmps21
    go_wp2_with fail
    refine Calls.mono HC.out ?_
    rintro e w1 ⟨t, rfl, ⟨B, ms, mb, UA, d, im, PA, pc, hmd, hus⟩, hb1⟩
    have HMD := Lib.hid hmd
    have HUS := Lib.hid hus
    have HB1 := Lib.hid hb1
    have ct0 : w1.cell? ⟨t, 0, none⟩ = some (.slice UA vs.length d) := cell_of_row w1 t 0 _ 90 (0, 0) hmd.1.tab
    generalize hP : prs vs = P at *
    have HPP := Lib.hid hP
    clear hmd hus hb1 hP
    go_wp2_with fail
    clear ct0
    go_loopg [5, 23] vs.length (fun gk r i wr => ∃ k : Nat, k ≤ vs.length ∧ gk = vs.length - k ∧ i = .int .i64 k ∧ r = .int .i64 (lsum P (prs (vs.take k))) ∧ Below w1.heap.size w1 wr)
    case atStart => exact ⟨0, Nat.zero_le _, rfl, rfl, rfl, Below.refl _ _⟩
    case round =>
      obtain ⟨wo, rfl⟩ : ∃ wo, wo = wr := ⟨_, rfl⟩
      obtain ⟨k, hk, hgk, rfl, rfl, hb⟩ := hrel
      have HK := Lib.hid hgk
      have HB := Lib.hid hb
      clear hgk hb
      by_cases hlt : k < vs.length
      · obtain ⟨u, hu⟩ : ∃ u, vs[k]? = some u := ⟨vs[k]'hlt, by simp⟩
        obtain ⟨b, o, rfl, hbl, hr, hcks⟩ := (HUS.out.below HB.out).get hu
        have HUM := Lib.hid (List.mem_of_getElem? hu)
        have HPTK := Lib.hid (HPT.out k u hu)
        have HSPK : Hid (∀ m, 0 ≤ lsum P (prs (vs.take k) ++ prU u m) ∧ lsum P (prs (vs.take k) ++ prU u m) ≤ 1000000) := Lib.hid (fun m => HSP.out k u m hu)
        have HPU : Hid (∀ m c, u.cs[m]? = some c → prU u (m + 1) = prU u m ++ [(u.nm, c)]) := Lib.hid (fun m c h => prU_snoc h)
        have HPU0 : Hid (prU u 0 = []) := Lib.hid rfl
        have HSXU := Lib.hid (HSX.out u HUM.out)
        have hcl := (HL.out u HUM.out).1
        have c0 := hr 0 _ rfl
        have c1 := hr 1 _ rfl
        have HCK := Lib.hid hcks
        rw [Nat.add_zero] at c0
        obtain ⟨nm, uA, uc, cs⟩ := u
        simp only at *
        generalize hG : prU ⟨nm, uA, uc, cs⟩ = G at *
        generalize hQ : prs (vs.take k) = Q at *
        clear hG hQ hr hcks hu hbl
        have hk0 : (0 : Int) ≤ (k : Int) := by omega
        have hk1 : (k : Int) < (vs.length : Int) := by omega
        have hbx := heap_alloc_new wo (.cells #[.string (str nm), .slice uA cs.length uc] 81)
        have e1 := cell_of_row (wo.alloc (.cells #[.string (str nm), .slice uA cs.length uc] 81)) wo.heap.size 1 _ 81 (0, 0) hbx
        have HB2 : Hid (Below w1.heap.size w1 (wo.alloc (.cells #[.string (str nm), .slice uA cs.length uc] 81))) := Lib.hid (HB.out.alloc HB.out.size _)
        have HBO : Hid (Below wo.heap.size wo (wo.alloc (.cells #[.string (str nm), .slice uA cs.length uc] 81))) := Lib.hid ((Below.refl _ _).alloc (Nat.le_refl _) _)
        have HQ0 : Hid (lsum P Q = lsum P (Q ++ G 0)) := Lib.hid (by rw [HPU0.out, List.append_nil])
        clear hbx
        go_wp2_with fail
        rw [HQ0.out]
        clear e1 c0 c1
        go_loopg [5, 30] cs.length (fun gk2 r2 i2 wQ => ∃ m : Nat, m ≤ cs.length ∧ gk2 = cs.length - m ∧ i2 = .int .i64 m ∧ r2 = .int .i64 (lsum P (Q ++ G m)) ∧ Below w1.heap.size w1 wQ ∧ Below wo.heap.size wo wQ)
        case atStart => exact ⟨0, Nat.zero_le _, rfl, rfl, rfl, HB2.out, HBO.out⟩
        case round =>
          obtain ⟨m, hm, hgm, rfl, rfl, hb2, hbo⟩ := hrel
          have HM := Lib.hid hgm
          have HB3 := Lib.hid hb2
          have HBO3 := Lib.hid hbo
          clear hgm hb2 hbo
          by_cases hlt2 : m < cs.length
          · obtain ⟨x, hx⟩ : ∃ x, cs[m]? = some x := ⟨cs[m]'hlt2, by simp⟩
            obtain ⟨b2, o2, rfl, hbl2, hr2⟩ := (HCK.out.below HBO3.out).get hx
            have f0 := hr2 0 _ rfl
            have f1 := hr2 1 _ rfl
            have f2 := hr2 2 _ rfl
            rw [Nat.add_zero] at f0
            have HXO := Lib.hid (HSXU.out x (List.mem_of_getElem? hx))
            have HE : Hid (lsum P (Q ++ G (m + 1)) = lsum P (Q ++ G m) + lenF P x.1) := Lib.hid (by rw [HPU.out m x hx, ← List.append_assoc, lsum_snoc])
            have hs1 := HSPK.out m
            have hs2 := HXO.out.2
            obtain ⟨⟨xb, xs⟩, xl⟩ := x
            simp only at *
            have hm0 : (0 : Int) ≤ (m : Int) := by omega
            have hm1 : (m : Int) < (cs.length : Int) := by omega
            clear hr2 hx hbl2
            have hbc := heap_alloc_new wr (.cells #[.int .u32 xb, .int .i64 xs, .int .i64 xl] 78)
            have cb0 : (wr.alloc (.cells #[.int .u32 xb, .int .i64 xs, .int .i64 xl] 78)).cell? ⟨wr.heap.size, 0, none⟩ = some (.int .u32 xb) := cell_of_row _ _ 0 _ 78 (0, 0) hbc
            have cb1 : (wr.alloc (.cells #[.int .u32 xb, .int .i64 xs, .int .i64 xl] 78)).cell? ⟨wr.heap.size, 1, none⟩ = some (.int .i64 xs) := cell_of_row _ _ 1 _ 78 (0, 0) hbc
            have HB4 : Hid (Below w1.heap.size w1 (wr.alloc (.cells #[.int .u32 xb, .int .i64 xs, .int .i64 xl] 78))) := Lib.hid (HB3.out.alloc HB3.out.size _)
            have HBO4 : Hid (Below wo.heap.size wo (wr.alloc (.cells #[.int .u32 xb, .int .i64 xs, .int .i64 xl] 78))) := Lib.hid (HBO3.out.alloc HBO3.out.size _)
            clear hbc
            go_wp2_with fail
            clear f0 f1 f2
            generalize wr.heap.size = bc at *
            generalize wr.alloc (.cells #[.int .u32 xb, .int .i64 xs, .int .i64 xl] 78) = W4 at *
            have HM4 := Lib.hid (HMD.out.grown HB4.out)
            have ct1 : W4.cell? ⟨t, 1, none⟩ = some (.map (some ms)) := cell_of_row W4 t 1 _ 90 (0, 0) HM4.out.1.tab
            have hls : ∀ nq, (Instr.lookup 86 (.map (some ms)) (.agg #[.int .u32 xb, .int .i64 xs]) false).run Tryd.prog (W4.drewN nq) = .ok (.int .i64 (lenF P (xb, xs))) (W4.drewN nq) := fun nq => (HM4.out.grown (below_drewN (Below.refl _ _) nq)).1.lookS (p := (xb, xs)) HXO.out.1
            generalize lenF P (xb, xs) = ln at *
            obtain ⟨S0, hS0⟩ : ∃ S0, lsum P (Q ++ G m) = S0 := ⟨_, rfl⟩
            have HS0 := Lib.hid hS0
            rw [hS0] at hs1 HE ⊢
            clear hS0
            have e1 : IntKind.i64.wrap (S0 + ln) = S0 + ln := IntWalk.i64_in _ (by omega)
            go_quiet (fail)
            clear e1
            go_wp2_with fail
            go_roundg (cs.length - (m + 1))
            case measure => rw [HM.out]; omega
            case rel => exact ⟨m + 1, by omega, rfl, by go_num, by rw [HE.out], below_drewN HB4.out _, below_drewN HBO4.out _⟩
          · obtain rfl : m = cs.length := by omega
            go_wp2_with fail
            go_roundg (vs.length - (k + 1))
            case measure => rw [HK.out]; omega
            case rel => exact ⟨k + 1, by omega, rfl, by go_num, by rw [HPTK.out], HB3.out⟩
      · obtain rfl : k = vs.length := by omega
        rw [HEND.out]
        go_wp2_with fail
        go_ret
        exact ⟨by rw [HPP.out]; rfl, HB1.out.trans (HB.out.mono HB1.out.size)⟩
  · have HC := Lib.hid (made44_no (c := c) h hl hc)
    rw [longF_no hc]
    clear h hl hok hc
    go_enter Tryd.func21, Tryd.ntmps21
    go_wp2_with fail
    refine Calls.mono HC.out ?_
    rintro e w1 ⟨rfl, hb1⟩
    have HB1 := Lib.hid hb1
    clear hb1
    go_wp2_with fail
    go_ret
    exact ⟨rfl, HB1.out⟩
end Go.Proofs.YtkfajeicbkeigaaDoor
