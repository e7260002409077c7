/- The walk over Mixed. -/
import Derived.Test.YtgdljjoaiogpfaaC10
namespace Go.Proofs.Ytgdljjoaiogpfaa
open Go.RowKit Go.Maps
attribute [local go_sem] Oper.semAt_some
set_option maxRecDepth 100000 in
set_option maxHeartbeats 4000000 in
theorem mixed23 {w : World} {A : Option Addr} {n c : Nat} {hs : List Hd} {B : Option Addr} {m d : Nat} {named : List Plc} (h : InOk w A n hs B m named) :
    Calls Try.prog 23 #[.slice A n c, .slice B m d] w fun e w' => ∃ v, e = .returned v ∧ Below w.heap.size w w' ∧ w'.ownsRow w.heap.size 33 1 v (pick isMixed named (okHs hs)).length ((pick isMixed named (okHs hs)).map idV) := by
  have HIN := Lib.hid h
  have HLM := Lib.hid (okHs_len h.lim)
  clear h
  refine (callsIn_wide (n := 9)).1 ?_
  refine callsIn_of_wp_marks Try.func23 rfl trivial ?_ rfl
  simp only [Try.ntmps23, List.size_toArray, List.length_cons, List.length_nil, Nat.reduceAdd, Nat.reduceSub, Array.replicate_succ, Array.replicate_zero, List.push_toArray, List.append_toArray, List.nil_append, List.cons_append]
  gi_wp2_with (refine ⟨trivial, ?_⟩; gi_at_call 29; refine (callsIn_wide.2 (parts_in HIN.out ((Below.refl _ w).alloc (Nat.le_refl _) _))).mono ?_; rintro e w1 ⟨b1, b2, rfl, hb, hy⟩)
  have hsz : w.heap.size + 1 ≤ w1.heap.size := by have := hb.size; simpa using this
  have hbw : Below w.heap.size w w1 := ((Below.refl _ w).alloc (Nat.le_refl _) _).trans (hb.mono (by simp))
  have hbx : Boxed w1 w.heap.size 30 (.slice none 0 0) := (hb.block w.heap.size (by simp)).trans (Boxed.new w 30 (.slice none 0 0))
  rw [World.size_alloc] at hy
  obtain ⟨i0, hi, hz0, hz1, hz2⟩ := info_parts info33
  refine wpIn_rangeE (gf := 35) (lb := #[.pointer (some ⟨b1, 0, none⟩), .pointer (some ⟨b2, 0, none⟩)]) rfl (enters_of Try.func35 (by kernel_rfl) rfl) hy (fun q hq => xp_lt (Nat.le_succ _) hsz hq) (ex_own named)
    (fun pre W => (∃ v, Boxed W w.heap.size 30 v ∧ W.ownsRow w1.heap.size 33 1 v (pick isMixed named pre).length ((pick isMixed named pre).map idV) ∧ True) ∧ Below w.heap.size w W) (fun _ _ => False)
    (OwnFrom.and (Own.from (holdsRow_own w1.heap.size w.heap.size 30 33 1 (fun pre => (pick isMixed named pre).length) (fun pre => (pick isMixed named pre).map idV) (fun _ _ => True)) _) (ownFrom_below (Nat.le_refl _) (by omega)))
    (fun _ _ _ _ hf _ _ => hf) ⟨⟨_, hbx, World.ownsRow_nil _ _ _ _, trivial⟩, hbw⟩ (fun y => .cells y.cells 62)
    (fun b y => { tmps := #[.slice A n c, .slice B m d, undef, undef, .slice none 0 0, .pointer (some ⟨w.heap.size, 0, none⟩), .pointer (some ⟨b, 0, none⟩), .slice A n c, .slice B m d, .func (.func 35) #[] #[.pointer (some ⟨b1, 0, none⟩), .pointer (some ⟨b2, 0, none⟩)], y.val, undef, undef, undef, undef, undef, undef, undef, undef, undef], defers := [] }) ?assign ?body ?done ?stop
  case assign =>
    intro l y W K hK
    obtain ⟨yh, A1, k1, cc1, A2, k2, cc2, y1, y2⟩ := y
    simp only [PV.val, PV.cells]
    gi_wp2
    exact hK
  case body =>
    rintro l pre x rest y b W hl hxs ⟨⟨v, hv, hr, _⟩, hB⟩ hex hbk hle hwl
    obtain ⟨yh, A1, k1, cc1, A2, k2, cc2, y1, y2⟩ := y
    obtain ⟨rfl, p1, p2, q1e, q2e, z1, z2⟩ := hex
    clear q1e q2e
    have hl1 : (part named yh true).length = k1 := p1.len
    have hl2 : (part named yh false).length = k2 := p2.len
    simp only [PV.val, PV.cells] at *
    obtain ⟨AA, ac, hva⟩ := own_slice hr
    subst hva
    have hc1 := hv.cell
    have hf1 := hv.frozen
    have HBK := Lib.hid hbk
    have HV := Lib.hid hv
    have HR := Lib.hid hr
    have HB := Lib.hid hB
    have HLEN : Hid ((pick isMixed named pre).length ≤ 1000) := Lib.hid (by
      have q1 := pick_len isMixed named pre
      have q4 : pre.length ≤ 1000 := by have := HLM.out.1; rw [hxs] at this; simp at this; omega
      omega)
    have hsz2 : w1.heap.size ≤ W.heap.size := hwl
    have HXS := Lib.hid hxs
    clear hv hr hB p1 p2 z1 z2 hbk hxs
    have hcells := xcells (h := yh) (v1 := .slice A1 k1 cc1) (v2 := .slice A2 k2 cc2) (b1 := y1) (b2 := y2) HBK.out
    obtain ⟨g0, g1, g2, g3, g4, g5⟩ := hcells
    have HMX := Lib.hid (mixed30 ⟨yh, A1, k1, cc1, A2, k2, cc2, y1, y2⟩ W)
    simp only [PV.val, PV.cells] at HMX
    have HW0 : Hid (Below W.heap.size W (W.alloc (.cells #[.int .u32 yh.id, .slice yh.A yh.n yh.c, .slice A1 k1 cc1, .slice A2 k2 cc2, .int .i64 y1, .int .i64 y2] 62))) := Lib.hid ((Below.refl _ _).alloc (Nat.le_refl _) _)
    have g0a := below_cell HW0.out g0
    have hc1a := below_cell HW0.out hc1
    by_cases hk0 : (decide (0 < k1) && decide (0 < k2)) = true
    · have HSEL : Hid (isMixed named yh = true) := Lib.hid (by rw [isMixed, hl1, hl2]; exact hk0)
      rw [hk0] at HMX
      clear hl1 hl2 hk0
      skip
      gi_wp2_with (first
        | (refine ⟨trivial, ?_⟩; gi_at_call 30; refine (CallsIn.inRound l (callsIn_wide.2 HMX.out)).mono ?_; rintro e wm ⟨rfl, rfl⟩)
        | (gi_at_builtin; refine wpListIn_append_own _ rfl (.tmp 13) (.tmp 17) _ rfl w1.heap.size 33 i0 _ 1 4 Try.underlying30 hi hz0 hz1 hz2 rfl (by decide) _ _ _ rfl ((HR.out.alloc _).alloc _) _ 1 1 [.int .u32 yh.id] rfl rfl (new1 _ _ _ _ (by simp)) (by simp [Value.oneCell']) (by have := HLEN.out; simp only [maxLen]; omega) (by have := HLEN.out; omega) (by simp; omega) ?_))
      intro v' w2 hown' hgrow _
      obtain ⟨A3, ac3, hv3⟩ := own_slice hown'
      subst hv3
      have HW : Hid (Below W.heap.size W ((W.alloc (.cells #[.int .u32 yh.id, .slice yh.A yh.n yh.c, .slice A1 k1 cc1, .slice A2 k2 cc2, .int .i64 y1, .int .i64 y2] 62)).alloc (.cells #[.int .u32 yh.id] 33))) := Lib.hid (HW0.out.alloc HW0.out.size _)
      have hv2 : Boxed w2 w.heap.size 30 _ := (show Boxed _ _ _ _ from (HW.out.block _ HV.out.lt).trans HV.out).kept hgrow (HV.out.not_row (by decide) HR.out)
      have hc2 := hv2.cell
      have hf2 := hv2.frozen
      have HV2 := Lib.hid hv2
      clear hv2
      gi_wp2
      have hk1 : KeepsOthers W ((W.alloc (.cells #[.int .u32 yh.id, .slice yh.A yh.n yh.c, .slice A1 k1 cc1, .slice A2 k2 cc2, .int .i64 y1, .int .i64 y2] 62)).alloc (.cells #[.int .u32 yh.id] 33)) := (KeepsOthers.alloc _ _).trans (KeepsOthers.alloc _ _)
      have hrT := HR.out.kept (grown_of_below HW.out) (by rcases hoo : Value.ownBlock (.slice AA (pick isMixed named pre).length ac) with _ | g <;> simp)
      have hk2 : KeepsOthers W w2 := hk1.trans (KeepsOthers.of_grownBy hgrow fun j o ej hj => by
        rcases hrT.2 with ⟨e0, _⟩ | ⟨g, cap, cur, e0, _, hgb, _⟩
        · rw [e0] at ej; simp [Value.ownBlock] at ej
        · rw [e0] at ej
          obtain rfl : g = j := by simpa [Value.ownBlock] using ej
          rw [hgb] at hj; cases hj; rfl)
      have hgb : ∀ j, (Value.slice AA (pick isMixed named pre).length ac).ownBlock = some j → w1.heap.size ≤ j := fun j e => (HR.out.lt j e).1
      refine ⟨(hk2.trans (KeepsOthers.setCell _ _ _)).from _, ?_, ⟨⟨_, HV2.out.set _, ?_, trivial⟩, ?_⟩⟩
      · refine (KeepX.trans (KeepX.grown (grown_of_below HW.out) fun q hq => ⟨Nat.lt_of_lt_of_le (xp_lt (Nat.le_succ _) hsz hq) hsz2, fun e => by cases e⟩) (KeepX.grown hgrow fun q hq => ⟨Nat.lt_of_lt_of_le (xp_lt (Nat.le_succ _) hsz hq) (Nat.le_trans hsz2 HW.out.size), fun e => ?_⟩)).trans (KeepX.grown (grownBy_setCell' _ _ _) fun q hq => ⟨Nat.lt_of_lt_of_le (xp_lt (Nat.le_succ _) hsz hq) (Nat.le_trans hsz2 (Nat.le_trans HW.out.size hgrow.size)), fun e => ?_⟩)
        · have := hgb q e.symm
          have := xp_lt (Nat.le_succ _) hsz hq
          omega
        · cases e
          rcases hq with hq | hq <;> omega
      · rw [pick_yes HSEL.out, List.map_append, List.length_append]
        exact hown'.kept (grownBy_setCell' _ _ _) (.inr (HV2.out.not_row (by decide) hown').symm)
      · exact ((HB.out.trans (HW.out.mono HB.out.size)).grown hgrow (Nat.le_trans HB.out.size HW.out.size) (fun j e => by have := hgb j e; omega)).setCell (p := ⟨w.heap.size, 0, none⟩) (Nat.le_refl _) _
    · have HSEL : Hid (isMixed named yh = false) := Lib.hid (by rw [isMixed, hl1, hl2]; simpa using hk0)
      rw [show (decide (0 < k1) && decide (0 < k2)) = false by simpa using hk0] at HMX
      clear hl1 hl2 hk0
      gi_wp2_with ((refine ⟨trivial, ?_⟩; gi_at_call 30; refine (CallsIn.inRound l (callsIn_wide.2 HMX.out)).mono ?_; rintro e wm ⟨rfl, rfl⟩))
      exact ⟨(KeepsOthers.alloc _ _).from _, KeepX.grown (World.grownBy_alloc _ _ none) fun q hq => ⟨Nat.lt_of_lt_of_le (xp_lt (Nat.le_succ _) hsz hq) hsz2, fun e => (by cases e)⟩, ⟨⟨_, HV.out.alloc _, by rw [pick_no HSEL.out]; exact HR.out.alloc _, trivial⟩, HB.out.alloc HB.out.size _⟩⟩
  case done =>
    rintro D W hD ⟨⟨v, hv, hr, _⟩, hB⟩ hK
    obtain ⟨AA, ac, hva⟩ := own_slice hr
    subst hva
    have hc1 := hv.cell
    have HR := Lib.hid hr
    have HB := Lib.hid hB
    clear hv hr hB
    gi_wp2
    refine ⟨by simp, .inl ⟨_, _, rfl, run_takeDeferred hK, ?_⟩⟩
    refine ⟨_, results_tmp rfl _ _ _, _, rfl, HB.out.trans (belowK_b (w := w) (Nat.le_refl _) W D _ _ (by omega) hK rfl rfl), ?_⟩
    exact row_lower39 (ownsRow_putObj HR.out _ hK rfl) (by omega)
  case stop =>
    rintro D c' W _ hf _
    exact hf.elim
end Go.Proofs.Ytgdljjoaiogpfaa
