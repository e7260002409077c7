/- The iterator of parts keeps its promise. -/
import Derived.Test.YtgdljjoaiogpfaaC6
import Derived.RangeFuncNested
import Derived.RangeFuncBound
import Derived.RangeFuncCalls
import Derived.RangeFuncLeaves
import Derived.OwnWalkIn
import Derived.TacticsInMore
import Derived.LoopNIn
import Derived.LoopIn
import Derived.Maps.OwnIn
namespace Go.Proofs.Ytgdljjoaiogpfaa
open Go.RowKit Go.Maps
attribute [local go_sem] Oper.semAt_some
theorem below_cell {W V : World} {p : Addr} {v : Value} (h : Below W.heap.size W V) (hc : W.cell? p = some v) : V.cell? p = some v := (below_old h).cell hc
theorem wf_small {n : Int} (h1 : 0 ≤ n) (h2 : n ≤ 1000) : (Lit.int .i64 n).wf = true := by
  simp only [Lit.wf, Bool.and_eq_true, decide_eq_true_eq]
  have e1 : IntKind.min .i64 = -9223372036854775808 := by decide
  have e2 : IntKind.max .i64 = 9223372036854775807 := by decide
  rw [e1, e2]
  omega
theorem new2 (W : World) (a b : Value) (t : TypeId) (g : Nat) (hg : g = W.heap.size) : ∀ j u, [a, b][j]? = some u → (W.alloc (.cells #[a, b] t)).cell? ((⟨g, 0, none⟩ : Addr).add j) = some u := by
  subst hg
  intro j u hu
  have hh := heap_alloc_new W (.cells #[a, b] t)
  rcases j with _ | _ | j
  · simp at hu; subst hu; exact cell_of_row _ _ 0 _ t (0, 0) hh
  · simp at hu; subst hu; exact cell_of_row _ _ 1 _ t (0, 0) hh
  · simp at hu
theorem mid2 {w1 : World} {bx : Nat} {h : Hd} {v1 v2 v' : Value} {b1 b2 : Int} (hb : w1.heap[bx]? = some (xObj h v1 v2 b1 b2)) : (w1.setCell ⟨bx, 2, none⟩ v').cell? ⟨bx, 4, none⟩ = some (.int .i64 b1) ∧ (w1.setCell ⟨bx, 2, none⟩ v').frozen? ⟨bx, 4, none⟩ = false := by
  have q := set_cells hb 2 v'
  simp [World.cell?, World.frozen?, q]
theorem mid3 {w1 : World} {bx : Nat} {h : Hd} {v1 v2 v' : Value} {b1 b2 : Int} (hb : w1.heap[bx]? = some (xObj h v1 v2 b1 b2)) : (w1.setCell ⟨bx, 3, none⟩ v').cell? ⟨bx, 5, none⟩ = some (.int .i64 b2) ∧ (w1.setCell ⟨bx, 3, none⟩ v').frozen? ⟨bx, 5, none⟩ = false := by
  have q := set_cells hb 3 v'
  simp [World.cell?, World.frozen?, q]
theorem thru {W WT w1 : World} {B k b : Nat} {v : Value} {xs : List Value} (hr : W.ownsRow B 39 2 v k xs) (hT : Below W.heap.size W WT) (hg : WT.grownBy w1 v.ownBlock) {cs : Array Value} {t : TypeId} (hb : W.heap[b]? = some (.cells cs t (0, 0))) (ht : t ≠ 39) : w1.heap[b]? = some (.cells cs t (0, 0)) := by
  have hlt := (Array.getElem?_eq_some_iff.1 hb).1
  exact (hg.block b (Nat.lt_of_lt_of_le hlt hT.size) (fun e => (box_ne hr hb ht) e.symm)).trans ((hT.block b hlt).trans hb)
theorem info39 : (Try.prog.info? 39).map (fun i => (i.zero, i.size, i.bytes)) = some (some (.agg #[.int .u32 0, .int .i64 0]), 2, 16) := by kernel_rfl
set_option maxRecDepth 100000 in
set_option maxHeartbeats 4000000 in
theorem parts35 {wf W0 : World} {A : Option Addr} {n c : Nat} {hs : List Hd} {named : List Plc} (hH : Hds wf A n hs) (hl : Lim hs) (hid : ∀ h ∈ hs, (Lit.int .u32 h.id).wf = true) (hnm : ∀ p ∈ named, PlcOk p) (hold : Old wf W0)
    {n1 n2 b1 b2 : Nat} (hit : Iter n1 n2 A n c named W0 b1 b2) (hn2 : n2 ≤ W0.heap.size) :
    Yields Try.prog 35 #[.pointer (some ⟨b1, 0, none⟩), .pointer (some ⟨b2, 0, none⟩)] PV.val (Ex named) (Xp wf.heap.size n1 n2) (okHs hs) W0 := by
  intro l J Jx W hW hJ hJx hY h0
  have HJ := Lib.hid hJ
  have HJX := Lib.hid hJx
  have HY := Lib.hid hY
  have H0 := Lib.hid h0
  have HIT : Hid (Iter n1 n2 A n c named W b1 b2) := Lib.hid (hit.keep fun b _ hb => hW.block b (Nat.lt_of_lt_of_le hb hn2))
  have HO : Hid (Old wf W) := Lib.hid (hold.trans (below_old hW))
  have HS := Lib.hid (hn2 : n2 ≤ W0.heap.size)
  have HSW : Hid (n2 ≤ W.heap.size) := Lib.hid (Nat.le_trans hn2 hW.size)
  have HH := Lib.hid hH
  have HN : Hid (n ≤ 1000) := by have := hl.1; rw [hH.len] at this; exact this
  have HCK : Hid (∀ V, Old wf V → Calls Try.prog 24 #[.slice A n c] V fun e w' => e = .returned (.int .i64 (chk hs)) ∧ Below V.heap.size V w') := Lib.hid (fun V hv => check24 (hH.old hv) hl)
  have HL := Lib.hid hl.2
  have HID := Lib.hid hid
  have HNM := Lib.hid hnm
  have HX : Hid (∀ b, Xp wf.heap.size n1 n2 b → b < W.heap.size) := Lib.hid (fun b hb => by have := hW.size; have := hold.size; rcases hb with h | h <;> omega)
  clear hJ hJx hY h0 hit hold hW hn2 hl hH hid hnm
  have cb1 := HIT.out.box1.cell
  refine (callsIn_wide (n := 9)).1 ?_
  refine callsIn_of_wp Try.func35 rfl trivial ?_ rfl
  simp only [Try.ntmps35, List.size_toArray, List.length_cons, List.length_nil, Nat.reduceAdd, Nat.reduceSub, Array.replicate_succ, Array.replicate_zero, List.push_toArray, List.append_toArray, List.nil_append, List.cons_append]
  by_cases hmay : May hs
  · have hck := chk_ok hmay
    have HOKH := Lib.hid (okHs_yes hmay)
    rw [HOKH.out] at HY
    rw [HOKH.out]
    rw [hck] at HCK
    have HM := Lib.hid hmay
    clear hmay hck
    gi_wp2_with (refine ⟨trivial, ?_⟩; gi_at_call 24; refine (callsIn_wide.2 (HCK.out _ HO.out)).mono ?_; rintro e w1 ⟨rfl, hb⟩; have cb2 := (hb.cell (p := ⟨b1, 0, none⟩) (Boxed.lt HIT.out.box1)).trans cb1)
    gi_loopw [15] (fun i wQ => ∃ k : Nat, k ≤ n ∧ i = .int .i64 k ∧ J (hs.take k) wQ ∧ W.heap.size ≤ wQ.heap.size ∧ KeepX (Xp wf.heap.size n1 n2) W wQ) (fun i _ => n - (intOf i).toNat)
    case atStart => exact ⟨0, Nat.zero_le _, rfl, HJ.out _ _ _ H0.out hb, hb.size, fun b hx => hb.block b (HX.out b hx)⟩
    case round =>
      obtain ⟨wo, rfl⟩ : ∃ wo, wo = wr := ⟨_, rfl⟩
      obtain ⟨k, hk, rfl, hj, hsz, hkx⟩ := hrel
      have HJK := Lib.hid hj
      have HSZ := Lib.hid hsz
      have HKX := Lib.hid hkx
      have HOO : Hid (Old wf wo) := Lib.hid ⟨Nat.le_trans HO.out.size hsz, fun b hb => (hkx b (.inl hb)).trans (HO.out.block b hb)⟩
      have HITO : Hid (Iter n1 n2 A n c named wo b1 b2) := Lib.hid (HIT.out.keep fun b h1 h2 => hkx b (.inr ⟨h1, h2⟩))
      have HN' := HN.out
      clear hj hsz hkx hb cb1 cb2
      by_cases hlt : k < n
      · obtain ⟨x, hx⟩ : ∃ x, hs[k]? = some x := ⟨hs[k]'(by rw [HH.out.len]; exact hlt), by simp⟩
        obtain ⟨b, o, rfl, c1, c2⟩ := (HH.out.old HOO.out).get hx
        have HXX := Lib.hid hx
        have hk0 : (0 : Int) ≤ (k : Int) := by omega
        have hk1 : (k : Int) < (n : Int) := by omega
        have hxl : x.n ≤ 1000 := HL.out x (List.mem_of_getElem? hx)
        have HSL := Lib.hid ((HH.out.old HOO.out).2 x (List.mem_of_getElem? hx))
        have HXI := Lib.hid (HID.out x (List.mem_of_getElem? hx))
        have HXO := Lib.hid ((HM.out k).2 x hx)
        obtain ⟨xi, xA, xn, xc, xl⟩ := x
        simp only at *
        have hbx := heap_alloc_new wo (.cells #[.int .u32 xi, .slice xA xn xc] 45)
        have e0 := cell_of_row (wo.alloc (.cells #[.int .u32 xi, .slice xA xn xc] 45)) wo.heap.size 0 _ 45 (0, 0) hbx
        have e1 := cell_of_row (wo.alloc (.cells #[.int .u32 xi, .slice xA xn xc] 45)) wo.heap.size 1 _ 45 (0, 0) hbx
        clear hbx hx
        gi_wp2
        gi_loopw [24] (fun i wQ => ∃ (m : Nat) (v1 v2 : Value), m ≤ xn ∧ i = .int .i64 m ∧ Below wo.heap.size wo wQ ∧ wo.heap.size + 2 ≤ wQ.heap.size ∧ wQ.heap[wo.heap.size]? = some (.cells #[.int .u32 xi, .slice xA xn xc] 45 (0, 0)) ∧ PartRow named ⟨xi, xA, xn, xc, xl⟩ wQ (wo.heap.size + 1) wo.heap.size m v1 v2) (fun i _ => xn - (intOf i).toNat)
        case atStart =>
          have hal := heap_alloc_new (wo.alloc (.cells #[.int .u32 xi, .slice xA xn xc] 45)) (.cells #[.int .u32 xi, .slice xA xn xc, .slice none 0 0, .slice none 0 0, .int .i64 0, .int .i64 0] 62)
          rw [World.size_alloc] at hal
          exact ⟨0, _, _, Nat.zero_le _, rfl, ((Below.refl _ wo).alloc (Nat.le_refl _) _).alloc (by simp) _, by simp, (Below.heap_alloc _ _ _ (by simp)).trans (heap_alloc_new wo _), hal, World.ownsRow_nil _ _ _ _, World.ownsRow_nil _ _ _ _, fun g hg => by simp [Value.ownBlock] at hg⟩
        case round =>
          obtain ⟨m, v1, v2, hm, rfl, hbi, hsi, hhd, hpr⟩ := hrel
          have HBI := Lib.hid hbi
          have HSI := Lib.hid hsi
          have HHD := Lib.hid hhd
          have HPR := Lib.hid hpr
          have HITI : Hid (Iter n1 n2 (some ⟨b, o, none⟩) n c named wr b1 b2) := Lib.hid (HITO.out.keep fun q _ hq => HBI.out.block q (Nat.lt_of_lt_of_le hq (Nat.le_trans HSW.out HSZ.out)))
          clear hbi hsi hhd hpr
          by_cases hlt2 : m < xn
          · obtain ⟨sv, hs'⟩ : ∃ s, xl[m]? = some s := ⟨xl[m]'(by rw [HSL.out.len]; exact hlt2), by simp⟩
            obtain ⟨bs, os, rfl, f1, f2⟩ := (Slts.below HSL.out HBI.out).get hs'
            have hm0 : (0 : Int) ≤ (m : Int) := by omega
            have hm1 : (m : Int) < (xn : Int) := by omega
            have hsok := HXO.out sv (List.mem_of_getElem? hs')
            have HLA : Hid (lenAt ⟨xi, (some ⟨bs, os, none⟩), xn, xc, xl⟩ m = sv.1) := Lib.hid (by simp [lenAt, hs'])
            obtain ⟨sl, sc⟩ := sv
            simp only at *
            obtain ⟨hs1, hs2⟩ : 1 ≤ sl ∧ sl ≤ 4096 := hsok
            clear hs'
            obtain ⟨b3, bm, k1, k2, k3, k4, k5, k6, k7⟩ := HITI.out.fn
            have q1 : wr.cell? ⟨wo.heap.size, 0, none⟩ = some (.int .u32 xi) := by simp [World.cell?, HHD.out]
            have z2 := k5.cell
            have q1a := cell_al (.cells #[.int .i64 sl, .int .u32 sc] 48) q1
            have hbs := heap_alloc_new wr (.cells #[.int .i64 sl, .int .u32 sc] 48)
            have hWA : (wr.alloc (.cells #[.int .i64 sl, .int .u32 sc] 48)).heap.size = wr.heap.size + 1 := by simp
            obtain ⟨WB, hWB⟩ : ∃ WB, (wr.alloc (.cells #[.int .i64 sl, .int .u32 sc] 48)).alloc (.cells #[.int .u32 xi, .int .i64 m] 39) = WB := ⟨_, rfl⟩
            have HWB := Lib.hid hWB
            have hBB : Below wr.heap.size wr WB := by rw [← hWB]; exact ((Below.refl _ wr).alloc (Nat.le_refl _) _).alloc (by simp) _
            have HBB := Lib.hid hBB
            have HZB : Hid (WB.heap.size = wr.heap.size + 2) := Lib.hid (by rw [← hWB]; simp)
            have q1b := below_cell hBB q1
            have z2b := below_cell hBB z2
            have hboxB := (hBB.block (wo.heap.size + 1) (by have := HSI.out; omega)).trans HPR.out.box
            obtain ⟨_, _, r2, r3, r4, r5⟩ := xcells hboxB
            have t2 := xfrozen hboxB 2
            have t3 := xfrozen hboxB 3
            have sB : WB.heap[wr.heap.size]? = some (.cells #[.int .i64 sl, .int .u32 sc] 48 (0, 0)) := by rw [← hWB]; exact (Below.heap_alloc _ _ _ (by simp)).trans hbs
            have pB : WB.heap[wr.heap.size + 1]? = some (.cells #[.int .u32 xi, .int .i64 m] 39 (0, 0)) := by rw [← hWB, ← hWA]; exact heap_alloc_new _ _
            have p0 := cell_of_row WB (wr.heap.size + 1) 0 _ 39 (0, 0) pB
            have p1 := cell_of_row WB (wr.heap.size + 1) 1 _ 39 (0, 0) pB
            have HSB := Lib.hid sB
            have HPLC : PlcOk (xi, (m : Int)) := ⟨HXI.out, wf_small (by omega) (by omega)⟩
            have HCALL : Hid (Calls Try.prog 36 #[.int .u32 xi, .int .i64 m, .pointer (some ⟨b3, 0, none⟩)] WB fun e w' => e = .returned (.bool (decide ((xi, (m : Int)) ∈ named))) ∧ w' = WB) := by
              have hsz3 := HIT.out.u2
              have hWo : n2 ≤ WB.heap.size := Nat.le_trans HSW.out (Nat.le_trans HSZ.out (Nat.le_trans HBI.out.size hBB.size))
              have hm7 : WB.ownsMap Try.prog 39 (plainElem Try.prog 3) bm 1000000 (setAll named) := k7.kept (grown_of_below hBB) (by simp)
              exact lives36 (n₀ := n1) (p := (xi, (m : Int))) ⟨bm, k1, by omega, k3, by omega, below_cell hBB k6, hm7⟩ HNM.out HPLC
            obtain ⟨B1, hB1⟩ : ∃ B1, bytesTo named ⟨xi, (some ⟨bs, os, none⟩), xn, xc, xl⟩ true m = B1 := ⟨_, rfl⟩
            obtain ⟨B2, hB2⟩ : ∃ B2, bytesTo named ⟨xi, (some ⟨bs, os, none⟩), xn, xc, xl⟩ false m = B2 := ⟨_, rfl⟩
            have hq1 := bytesTo_le (named := named) (h := ⟨xi, (some ⟨bs, os, none⟩), xn, xc, xl⟩) (live := true) HXO.out m
            have hq2 := bytesTo_le (named := named) (h := ⟨xi, (some ⟨bs, os, none⟩), xn, xc, xl⟩) (live := false) HXO.out m
            rw [hB1] at r4 hq1
            rw [hB2] at r5 hq2
            have HB1 := Lib.hid hB1
            have HB2 := Lib.hid hB2
            obtain ⟨A1, cc1, hv1⟩ := own_slice HPR.out.live
            obtain ⟨A2, cc2, hv2⟩ := own_slice HPR.out.dead
            subst hv1
            subst hv2
            have hk1L := partTo_len named ⟨xi, (some ⟨bs, os, none⟩), xn, xc, xl⟩ true m
            have hk2L := partTo_len named ⟨xi, (some ⟨bs, os, none⟩), xn, xc, xl⟩ false m
            have HLV := Lib.hid (HPR.out.live.kept (grown_of_below hBB) (by rcases hoo : Value.ownBlock (.slice A1 (partTo named ⟨xi, (some ⟨bs, os, none⟩), xn, xc, xl⟩ true m).length cc1) with _ | g <;> simp))
            have HDV := Lib.hid (HPR.out.dead.kept (grown_of_below hBB) (by rcases hoo : Value.ownBlock (.slice A2 (partTo named ⟨xi, (some ⟨bs, os, none⟩), xn, xc, xl⟩ false m).length cc2) with _ | g <;> simp))
            obtain ⟨L1, hL1⟩ : ∃ L1, (partTo named ⟨xi, (some ⟨bs, os, none⟩), xn, xc, xl⟩ true m).length = L1 := ⟨_, rfl⟩
            obtain ⟨L2, hL2⟩ : ∃ L2, (partTo named ⟨xi, (some ⟨bs, os, none⟩), xn, xc, xl⟩ false m).length = L2 := ⟨_, rfl⟩
            rw [hL1] at r2 hk1L HLV
            rw [hL2] at r3 hk2L HDV
            have HL1 := Lib.hid hL1
            have HL2 := Lib.hid hL2
            obtain ⟨i0, hi, hz0, hz1, hz2⟩ := info_parts info39
            have I0 := Lib.hid hi
            have Z0 := Lib.hid hz0
            have S0 := Lib.hid hz1
            have Y0 := Lib.hid hz2
            clear k1 k2 k3 k4 k5 k6 k7 hboxB sB pB hbs hWA hBB q1 z2 hB1 hB2 hL1 hL2 hi hz0 hz1 hz2 HPLC
            rw [hWB.symm] at q1b z2b r2 r3 r4 r5 t2 t3 p0 p1 HSB HZB HCALL HLV HDV HBB
            clear hWB HWB
            by_cases hmem : (xi, (m : Int)) ∈ named
            · have HMEM := Lib.hid (decide_eq_true hmem)
              rw [HMEM.out] at HCALL
              clear hmem
              gi_wp2_with (first
                | (refine ⟨trivial, ?_⟩; gi_at_call 36; refine (callsIn_wide.2 HCALL.out).mono ?_; rintro e w1 ⟨rfl, rfl⟩)
                | (gi_at_builtin; refine wpListIn_append_own_at _ rfl (.tmp 39) (.tmp 41) _ rfl wo.heap.size 39 i0 _ 2 16 Try.underlying23 I0.out Z0.out S0.out Y0.out rfl (by decide) _ L1 _ rfl (HLV.out.alloc _) _ 1 1 [.int .u32 xi, .int .i64 m] rfl rfl ?newsA (by simp [Value.oneCell']) ?h63A ?hbyA ?hbaseA ?_))
              case newsA => exact new2 _ _ _ _ _ (by simp)
              case h63A => simp only [maxLen]; omega
              case hbyA => omega
              case hbaseA => have := HSI.out; simp; omega
              intro v' w1 hown' hgrow _ hat
              obtain ⟨A3, cc3, hv3⟩ := own_slice hown'
              subst hv3
              have hWT : Below wr.heap.size wr (((wr.alloc (.cells #[.int .i64 sl, .int .u32 sc] 48)).alloc (.cells #[.int .u32 xi, .int .i64 m] 39)).alloc (.cells #[.int .u32 xi, .int .i64 m] 39)) := HBB.out.alloc HBB.out.size _
              have hg2 := hgrow
              rw [← HL1.out] at hg2 hown' hat
              have h1x := thru HPR.out.live hWT hg2 HPR.out.box (by decide)
              have HGO := Lib.hid (PartRow.goLive HPR.out (by omega) hWT hown' hg2 (hat.imp_right fun e => e.trans (by simp)) HMEM.out)
              rw [HB1.out, HLA.out, HL1.out] at HGO
              obtain ⟨_, _, y2, y3, _, _⟩ := xcells h1x
              have yf := xfrozen h1x 2
              have hne : wr.heap.size ≠ wo.heap.size + 1 := by have := HSI.out; omega
              have ysw := (Below.heap_setCell w1 ⟨wo.heap.size + 1, 2, none⟩ (.slice A3 (L1 + 1) cc3) wr.heap.size hne).trans (thru HLV.out ((Below.refl _ _).alloc (Nat.le_refl _) _) hgrow HSB.out (by decide))
              have ys := cell_of_row _ wr.heap.size 0 _ 48 (0, 0) ysw
              rw [HB1.out] at h1x
              obtain ⟨y4, y5⟩ := mid2 (v' := .slice A3 (L1 + 1) cc3) h1x
              rw [HL1.out] at y2
              clear h1x ysw hgrow hg2 hat hown' hWT
              gi_wp2
              go_roundw
              case rel => exact ⟨m + 1, _, _, by omega, by go_num, HBI.out.trans HGO.out.2.1, Nat.le_trans HSI.out HGO.out.2.1.size, HGO.out.2.2 _ _ _ HHD.out (by omega) (by decide), HGO.out.1⟩
              case measure => simp [intOf]; omega
            · have HMEM := Lib.hid (decide_eq_false hmem)
              rw [HMEM.out] at HCALL
              clear hmem
              gi_wp2_with (first
                | (refine ⟨trivial, ?_⟩; gi_at_call 36; refine (callsIn_wide.2 HCALL.out).mono ?_; rintro e w1 ⟨rfl, rfl⟩)
                | (gi_at_builtin; refine wpListIn_append_own_at _ rfl (.tmp 51) (.tmp 53) _ rfl wo.heap.size 39 i0 _ 2 16 Try.underlying23 I0.out Z0.out S0.out Y0.out rfl (by decide) _ L2 _ rfl (HDV.out.alloc _) _ 1 1 [.int .u32 xi, .int .i64 m] rfl rfl ?newsB (by simp [Value.oneCell']) ?h63B ?hbyB ?hbaseB ?_))
              case newsB => exact new2 _ _ _ _ _ (by simp)
              case h63B => simp only [maxLen]; omega
              case hbyB => omega
              case hbaseB => have := HSI.out; simp; omega
              intro v' w1 hown' hgrow _ hat
              obtain ⟨A3, cc3, hv3⟩ := own_slice hown'
              subst hv3
              have hWT : Below wr.heap.size wr (((wr.alloc (.cells #[.int .i64 sl, .int .u32 sc] 48)).alloc (.cells #[.int .u32 xi, .int .i64 m] 39)).alloc (.cells #[.int .u32 xi, .int .i64 m] 39)) := HBB.out.alloc HBB.out.size _
              have hg2 := hgrow
              rw [← HL2.out] at hg2 hown' hat
              have h1x := thru HPR.out.dead hWT hg2 HPR.out.box (by decide)
              have HGO := Lib.hid (PartRow.goDead HPR.out (by omega) hWT hown' hg2 (hat.imp_right fun e => e.trans (by simp)) HMEM.out)
              rw [HB2.out, HLA.out, HL2.out] at HGO
              obtain ⟨_, _, y2, y3, _, _⟩ := xcells h1x
              have yf := xfrozen h1x 3
              have hne : wr.heap.size ≠ wo.heap.size + 1 := by have := HSI.out; omega
              have ysw := (Below.heap_setCell w1 ⟨wo.heap.size + 1, 3, none⟩ (.slice A3 (L2 + 1) cc3) wr.heap.size hne).trans (thru HDV.out ((Below.refl _ _).alloc (Nat.le_refl _) _) hgrow HSB.out (by decide))
              have ys := cell_of_row _ wr.heap.size 0 _ 48 (0, 0) ysw
              rw [HB2.out] at h1x
              obtain ⟨y4, y5⟩ := mid3 (v' := .slice A3 (L2 + 1) cc3) h1x
              rw [HL2.out] at y3
              clear h1x ysw hgrow hg2 hat hown' hWT
              gi_wp2
              go_roundw
              case rel => exact ⟨m + 1, _, _, by omega, by go_num, HBI.out.trans HGO.out.2.1, Nat.le_trans HSI.out HGO.out.2.1.size, HGO.out.2.2 _ _ _ HHD.out (by omega) (by decide), HGO.out.1⟩
              case measure => simp [intOf]; omega
          · obtain rfl : m = xn := by omega
            obtain ⟨A1, cc1, hv1, hz1⟩ := own_slice2 HPR.out.live
            obtain ⟨A2, cc2, hv2, hz2⟩ := own_slice2 HPR.out.dead
            subst hv1
            subst hv2
            obtain ⟨g0, g1, g2, g3, g4, g5⟩ := xcells HPR.out.box
            obtain ⟨fn, tmps, assign, body, hy, hR⟩ := yieldAt_any (HY.out (hs.take k) _ (hs.drop (k + 1)) ⟨⟨xi, xA, m, xc, xl⟩, A1, _, cc1, A2, _, cc2, _, _⟩ wr (split_at HXX.out) (HJ.out _ _ _ HJK.out HBI.out) ⟨rfl, Pls.own HPR.out.live rfl, Pls.own HPR.out.dead rfl, rfl, rfl, hz1, hz2⟩) 8
            dsimp only [PV.val, PV.cells] at hy
            have HR := Lib.hid hR
            clear hR hz1 hz2
            gi_wp2
            refine HR.out.mono ?_
            rintro e W3 (⟨rfl, hJ3, hsz3, hk3⟩ | ⟨rfl, hJx3⟩)
            · gi_wp2
              go_roundw
              case rel =>
                refine ⟨k + 1, by omega, by go_num, ?_, Nat.le_trans HSZ.out (Nat.le_trans HBI.out.size hsz3), (HKX.out.trans fun q hq => HBI.out.block q (Nat.lt_of_lt_of_le (HX.out q hq) HSZ.out)).trans hk3⟩
                rw [List.take_add_one, HXX.out]
                exact hJ3
              case measure => simp [intOf]; omega
            · gi_wp2
              refine bodyPost_ret (results_none rfl _ _ _) rfl ?_
              exact ⟨⟨_, rfl⟩, .inr hJx3⟩
      · obtain rfl : k = n := by omega
        have HJN := HJK.out
        rw [List.take_of_length_le (by rw [HH.out.len]; omega)] at HJN
        have HJN2 := Lib.hid HJN
        clear HJN
        gi_wp2
        go_end0
        exact ⟨⟨_, rfl⟩, .inl HJN2.out⟩
  · have hck := chk_no hmay
    have HOKH := Lib.hid (okHs_no hmay)
    rw [HOKH.out] at HY
    rw [HOKH.out]
    rw [hck] at HCK
    clear hmay hck
    gi_wp2_with (refine ⟨trivial, ?_⟩; gi_at_call 24; refine (callsIn_wide.2 (HCK.out _ HO.out)).mono ?_; rintro e w1 ⟨rfl, hb⟩)
    refine bodyPost_ret (results_none rfl _ _ _) rfl ?_
    exact ⟨⟨_, rfl⟩, .inl (HJ.out _ _ _ H0.out hb)⟩
end Go.Proofs.Ytgdljjoaiogpfaa
