/- The walks over Live and Dead. -/
import Derived.Test.YtgdljjoaiogpfaaC8
import Derived.Shelf.Abstract
namespace Go.Proofs.Ytgdljjoaiogpfaa
open Go.RowKit Go.Maps
attribute [local go_sem] Oper.semAt_some
theorem row_lower39 {w : World} {base base' n e size : Nat} {v : Value} {xs : List Value} (h : w.ownsRow base e size v n xs) (hb : base' ≤ base) : w.ownsRow base' e size v n xs := by
  refine ⟨h.1, ?_⟩
  rcases h.2 with h' | ⟨g, cap, cur, e, h1, r⟩
  · exact .inl h'
  · exact .inr ⟨g, cap, cur, e, Nat.le_trans hb h1, r⟩
set_option maxRecDepth 100000 in
set_option maxHeartbeats 4000000 in
theorem live20 {w : World} {A : Option Addr} {n c : Nat} {hs : List Hd} {B : Option Addr} {m d : Nat} {named : List Plc} (h : InOk w A n hs B m named) :
    Calls Try.prog 20 #[.slice A n c, .slice B m d] w fun e w' => ∃ v, e = .returned v ∧ Below w.heap.size w w' ∧ w'.ownsRow w.heap.size 39 2 v (allP named true (okHs hs)).length (rowP (allP named true (okHs hs))) := by
  have HIN := Lib.hid h
  have HLM := Lib.hid (okHs_len h.lim)
  clear h
  refine (callsIn_wide (n := 9)).1 ?_
  refine callsIn_of_wp_marks Try.func20 rfl trivial ?_ rfl
  simp only [Try.ntmps20, List.size_toArray, List.length_cons, List.length_nil, Nat.reduceAdd, Nat.reduceSub, Array.replicate_succ, Array.replicate_zero, List.push_toArray, List.append_toArray, List.nil_append, List.cons_append]
  gi_wp2_with (refine ⟨trivial, ?_⟩; gi_at_call 29; refine (callsIn_wide.2 (parts_in HIN.out ((Below.refl _ w).alloc (Nat.le_refl _) _))).mono ?_; rintro e w1 ⟨b1, b2, rfl, hb, hy⟩)
  have hsz : w.heap.size + 1 ≤ w1.heap.size := by have := hb.size; simpa using this
  have hbw : Below w.heap.size w w1 := ((Below.refl _ w).alloc (Nat.le_refl _) _).trans (hb.mono (by simp))
  have hbx : Boxed w1 w.heap.size 23 (.slice none 0 0) := (hb.block w.heap.size (by simp)).trans (Boxed.new w 23 (.slice none 0 0))
  rw [World.size_alloc] at hy
  obtain ⟨i0, hi, hz0, hz1, hz2⟩ := info_parts info39
  refine wpIn_rangeE (gf := 35) (lb := #[.pointer (some ⟨b1, 0, none⟩), .pointer (some ⟨b2, 0, none⟩)]) rfl (enters_of Try.func35 (by kernel_rfl) rfl) hy (fun q hq => xp_lt (Nat.le_succ _) hsz hq) (ex_own named)
    (fun pre W => (∃ v, Boxed W w.heap.size 23 v ∧ W.ownsRow w1.heap.size 39 2 v (allP named true pre).length (rowP (allP named true pre)) ∧ True) ∧ Below w.heap.size w W) (fun _ _ => False)
    (OwnFrom.and (Own.from (holdsRow_own w1.heap.size w.heap.size 23 39 2 (fun pre => (allP named true pre).length) (fun pre => rowP (allP named true pre)) (fun _ _ => True)) _) (ownFrom_below (Nat.le_refl _) (by omega)))
    (fun _ _ _ _ hf _ _ => hf) ⟨⟨_, hbx, World.ownsRow_nil _ _ _ _, trivial⟩, hbw⟩ (fun y => .cells y.cells 62)
    (fun b y => { tmps := #[.slice A n c, .slice B m d, undef, undef, .slice none 0 0, .pointer (some ⟨w.heap.size, 0, none⟩), .pointer (some ⟨b, 0, none⟩), .slice A n c, .slice B m d, .func (.func 35) #[] #[.pointer (some ⟨b1, 0, none⟩), .pointer (some ⟨b2, 0, none⟩)], y.val, undef, undef, undef, undef, undef], defers := [] }) ?assign ?body ?done ?stop
  case assign =>
    intro l y W K hK
    obtain ⟨yh, A1, k1, cc1, A2, k2, cc2, y1, y2⟩ := y
    simp only [PV.val, PV.cells]
    gi_wp2
    exact hK
  case body =>
    rintro l pre x rest y b W hl hxs ⟨⟨v, hv, hr, _⟩, hB⟩ hex hbk hle hwl
    obtain ⟨yh, A1, k1, cc1, A2, k2, cc2, y1, y2⟩ := y
    obtain ⟨rfl, p1, p2, _, _, z1, z2⟩ := hex
    simp only [PV.val, PV.cells] at *
    obtain ⟨AA, ac, hva⟩ := own_slice hr
    subst hva
    have hc1 := hv.cell
    have hf1 := hv.frozen
    have g2 := cell_of_row W b 2 _ 62 (0, 0) hbk
    have HV := Lib.hid hv
    have HR := Lib.hid hr
    have HB := Lib.hid hB
    have HP := Lib.hid p1
    have HZ := Lib.hid z1
    have HLEN : Hid ((allP named true pre).length ≤ 1000000 ∧ (part named yh true).length ≤ 1000) := Lib.hid (by
      have q1 := allP_len named true pre (fun t ht => HLM.out.2 t (by rw [hxs]; simp [ht]))
      have q2 := partTo_len named yh true yh.n
      have q3 := HLM.out.2 yh (by rw [hxs]; simp)
      have q4 : pre.length ≤ 1000 := by have := HLM.out.1; rw [hxs] at this; simp at this; omega
      constructor
      · omega
      · exact Nat.le_trans q2 q3)
    have HPL : Hid ((part named yh true).length = k1) := Lib.hid p1.len
    have hsz2 : w1.heap.size ≤ W.heap.size := hwl
    clear hv hr hB p1 p2 z1 z2 hbk
    gi_wp2_with (first
      | (gi_at_builtin; refine wpListIn_append_any rfl (.tmp 11) (.tmp 13) _ rfl w1.heap.size 39 i0 _ 2 16 Try.underlying23 hi hz0 hz1 hz2 rfl (by decide) _ _ _ rfl HR.out _ k1 _ (rowP (part named yh true)) rfl (by rw [rowP_len, HPL.out]) HZ.out HP.out.news (rowP_one _) (by have := HLEN.out; have := HPL.out; simp only [maxLen]; omega) (by have := HLEN.out; have := HPL.out; omega) hsz2 ?_))
    intro v' w2 hown' hgrow
    obtain ⟨A3, ac3, hv3⟩ := own_slice hown'
    subst hv3
    have hv2 : Boxed w2 w.heap.size 23 _ := HV.out.kept hgrow (HV.out.not_row (by decide) HR.out)
    have hc2 := hv2.cell
    have hf2 := hv2.frozen
    have HV2 := Lib.hid hv2
    clear hv2
    gi_wp2
    have hk2 : KeepsOthers W w2 := KeepsOthers.of_grownBy hgrow fun j o ej hj => by
      rcases HR.out.2 with ⟨e0, _⟩ | ⟨g, cap, cur, e0, _, hgb, _⟩
      · rw [e0] at ej; simp [Value.ownBlock] at ej
      · rw [e0] at ej
        obtain rfl : g = j := by simpa [Value.ownBlock] using ej
        rw [hgb] at hj; cases hj; rfl
    have hgb : ∀ j, (Value.slice AA (allP named true pre).length ac).ownBlock = some j → w1.heap.size ≤ j := fun j e => (HR.out.lt j e).1
    refine ⟨(hk2.trans (KeepsOthers.setCell _ _ _)).from _, ?_, ⟨⟨_, HV2.out.set _, ?_, trivial⟩, ?_⟩⟩
    · refine KeepX.trans (KeepX.grown hgrow fun q hq => ⟨Nat.lt_of_lt_of_le (xp_lt (Nat.le_succ _) hsz hq) hsz2, fun e => ?_⟩) (KeepX.grown (grownBy_setCell' _ _ _) fun q hq => ⟨Nat.lt_of_lt_of_le (xp_lt (Nat.le_succ _) hsz hq) (Nat.le_trans hsz2 hgrow.size), fun e => ?_⟩)
      · have := hgb q e.symm
        have := xp_lt (Nat.le_succ _) hsz hq
        omega
      · cases e
        rcases hq with hq | hq <;> omega
    · rw [allP_snoc, rowP_append, List.length_append, HPL.out]
      exact hown'.kept (grownBy_setCell' _ _ _) (.inr (HV2.out.not_row (by decide) hown').symm)
    · exact (HB.out.grown hgrow HB.out.size (fun j e => by have := hgb j e; omega)).setCell (p := ⟨w.heap.size, 0, none⟩) (Nat.le_refl _) _
  case done =>
    rintro D W hD ⟨⟨v, hv, hr, _⟩, hB⟩ hK
    obtain ⟨AA, ac, hva⟩ := own_slice hr
    subst hva
    have hc1 := hv.cell
    have HR := Lib.hid hr
    have HB := Lib.hid hB
    clear hv hr hB
    gi_wp2
    refine ⟨by simp, .inl ⟨_, _, rfl, run_takeDeferred hK, ?_⟩⟩
    refine ⟨_, results_tmp rfl _ _ _, _, rfl, HB.out.trans (belowK_b (w := w) (Nat.le_refl _) W D _ _ (by omega) hK rfl rfl), ?_⟩
    exact row_lower39 (ownsRow_putObj HR.out _ hK rfl) (by omega)
  case stop =>
    rintro D c' W _ hf _
    exact hf.elim
set_option maxRecDepth 100000 in
set_option maxHeartbeats 4000000 in
theorem dead21 {w : World} {A : Option Addr} {n c : Nat} {hs : List Hd} {B : Option Addr} {m d : Nat} {named : List Plc} (h : InOk w A n hs B m named) :
    Calls Try.prog 21 #[.slice A n c, .slice B m d] w fun e w' => ∃ v, e = .returned v ∧ Below w.heap.size w w' ∧ w'.ownsRow w.heap.size 39 2 v (allP named false (okHs hs)).length (rowP (allP named false (okHs hs))) := by
  have HIN := Lib.hid h
  have HLM := Lib.hid (okHs_len h.lim)
  clear h
  refine (callsIn_wide (n := 9)).1 ?_
  refine callsIn_of_wp_marks Try.func21 rfl trivial ?_ rfl
  simp only [Try.ntmps21, List.size_toArray, List.length_cons, List.length_nil, Nat.reduceAdd, Nat.reduceSub, Array.replicate_succ, Array.replicate_zero, List.push_toArray, List.append_toArray, List.nil_append, List.cons_append]
  gi_wp2_with (refine ⟨trivial, ?_⟩; gi_at_call 29; refine (callsIn_wide.2 (parts_in HIN.out ((Below.refl _ w).alloc (Nat.le_refl _) _))).mono ?_; rintro e w1 ⟨b1, b2, rfl, hb, hy⟩)
  have hsz : w.heap.size + 1 ≤ w1.heap.size := by have := hb.size; simpa using this
  have hbw : Below w.heap.size w w1 := ((Below.refl _ w).alloc (Nat.le_refl _) _).trans (hb.mono (by simp))
  have hbx : Boxed w1 w.heap.size 23 (.slice none 0 0) := (hb.block w.heap.size (by simp)).trans (Boxed.new w 23 (.slice none 0 0))
  rw [World.size_alloc] at hy
  obtain ⟨i0, hi, hz0, hz1, hz2⟩ := info_parts info39
  refine wpIn_rangeE (gf := 35) (lb := #[.pointer (some ⟨b1, 0, none⟩), .pointer (some ⟨b2, 0, none⟩)]) rfl (enters_of Try.func35 (by kernel_rfl) rfl) hy (fun q hq => xp_lt (Nat.le_succ _) hsz hq) (ex_own named)
    (fun pre W => (∃ v, Boxed W w.heap.size 23 v ∧ W.ownsRow w1.heap.size 39 2 v (allP named false pre).length (rowP (allP named false pre)) ∧ True) ∧ Below w.heap.size w W) (fun _ _ => False)
    (OwnFrom.and (Own.from (holdsRow_own w1.heap.size w.heap.size 23 39 2 (fun pre => (allP named false pre).length) (fun pre => rowP (allP named false pre)) (fun _ _ => True)) _) (ownFrom_below (Nat.le_refl _) (by omega)))
    (fun _ _ _ _ hf _ _ => hf) ⟨⟨_, hbx, World.ownsRow_nil _ _ _ _, trivial⟩, hbw⟩ (fun y => .cells y.cells 62)
    (fun b y => { tmps := #[.slice A n c, .slice B m d, undef, undef, .slice none 0 0, .pointer (some ⟨w.heap.size, 0, none⟩), .pointer (some ⟨b, 0, none⟩), .slice A n c, .slice B m d, .func (.func 35) #[] #[.pointer (some ⟨b1, 0, none⟩), .pointer (some ⟨b2, 0, none⟩)], y.val, undef, undef, undef, undef, undef], defers := [] }) ?assign ?body ?done ?stop
  case assign =>
    intro l y W K hK
    obtain ⟨yh, A1, k1, cc1, A2, k2, cc2, y1, y2⟩ := y
    simp only [PV.val, PV.cells]
    gi_wp2
    exact hK
  case body =>
    rintro l pre x rest y b W hl hxs ⟨⟨v, hv, hr, _⟩, hB⟩ hex hbk hle hwl
    obtain ⟨yh, A1, k1, cc1, A2, k2, cc2, y1, y2⟩ := y
    obtain ⟨rfl, p1, p2, _, _, z1, z2⟩ := hex
    simp only [PV.val, PV.cells] at *
    obtain ⟨AA, ac, hva⟩ := own_slice hr
    subst hva
    have hc1 := hv.cell
    have hf1 := hv.frozen
    have g2 := cell_of_row W b 3 _ 62 (0, 0) hbk
    have HV := Lib.hid hv
    have HR := Lib.hid hr
    have HB := Lib.hid hB
    have HP := Lib.hid p2
    have HZ := Lib.hid z2
    have HLEN : Hid ((allP named false pre).length ≤ 1000000 ∧ (part named yh false).length ≤ 1000) := Lib.hid (by
      have q1 := allP_len named false pre (fun t ht => HLM.out.2 t (by rw [hxs]; simp [ht]))
      have q2 := partTo_len named yh false yh.n
      have q3 := HLM.out.2 yh (by rw [hxs]; simp)
      have q4 : pre.length ≤ 1000 := by have := HLM.out.1; rw [hxs] at this; simp at this; omega
      constructor
      · omega
      · exact Nat.le_trans q2 q3)
    have HPL : Hid ((part named yh false).length = k2) := Lib.hid p2.len
    have hsz2 : w1.heap.size ≤ W.heap.size := hwl
    clear hv hr hB p1 p2 z1 z2 hbk
    gi_wp2_with (first
      | (gi_at_builtin; refine wpListIn_append_any rfl (.tmp 11) (.tmp 13) _ rfl w1.heap.size 39 i0 _ 2 16 Try.underlying23 hi hz0 hz1 hz2 rfl (by decide) _ _ _ rfl HR.out _ k2 _ (rowP (part named yh false)) rfl (by rw [rowP_len, HPL.out]) HZ.out HP.out.news (rowP_one _) (by have := HLEN.out; have := HPL.out; simp only [maxLen]; omega) (by have := HLEN.out; have := HPL.out; omega) hsz2 ?_))
    intro v' w2 hown' hgrow
    obtain ⟨A3, ac3, hv3⟩ := own_slice hown'
    subst hv3
    have hv2 : Boxed w2 w.heap.size 23 _ := HV.out.kept hgrow (HV.out.not_row (by decide) HR.out)
    have hc2 := hv2.cell
    have hf2 := hv2.frozen
    have HV2 := Lib.hid hv2
    clear hv2
    gi_wp2
    have hk2 : KeepsOthers W w2 := KeepsOthers.of_grownBy hgrow fun j o ej hj => by
      rcases HR.out.2 with ⟨e0, _⟩ | ⟨g, cap, cur, e0, _, hgb, _⟩
      · rw [e0] at ej; simp [Value.ownBlock] at ej
      · rw [e0] at ej
        obtain rfl : g = j := by simpa [Value.ownBlock] using ej
        rw [hgb] at hj; cases hj; rfl
    have hgb : ∀ j, (Value.slice AA (allP named false pre).length ac).ownBlock = some j → w1.heap.size ≤ j := fun j e => (HR.out.lt j e).1
    refine ⟨(hk2.trans (KeepsOthers.setCell _ _ _)).from _, ?_, ⟨⟨_, HV2.out.set _, ?_, trivial⟩, ?_⟩⟩
    · refine KeepX.trans (KeepX.grown hgrow fun q hq => ⟨Nat.lt_of_lt_of_le (xp_lt (Nat.le_succ _) hsz hq) hsz2, fun e => ?_⟩) (KeepX.grown (grownBy_setCell' _ _ _) fun q hq => ⟨Nat.lt_of_lt_of_le (xp_lt (Nat.le_succ _) hsz hq) (Nat.le_trans hsz2 hgrow.size), fun e => ?_⟩)
      · have := hgb q e.symm
        have := xp_lt (Nat.le_succ _) hsz hq
        omega
      · cases e
        rcases hq with hq | hq <;> omega
    · rw [allP_snoc, rowP_append, List.length_append, HPL.out]
      exact hown'.kept (grownBy_setCell' _ _ _) (.inr (HV2.out.not_row (by decide) hown').symm)
    · exact (HB.out.grown hgrow HB.out.size (fun j e => by have := hgb j e; omega)).setCell (p := ⟨w.heap.size, 0, none⟩) (Nat.le_refl _) _
  case done =>
    rintro D W hD ⟨⟨v, hv, hr, _⟩, hB⟩ hK
    obtain ⟨AA, ac, hva⟩ := own_slice hr
    subst hva
    have hc1 := hv.cell
    have HR := Lib.hid hr
    have HB := Lib.hid hB
    clear hv hr hB
    gi_wp2
    refine ⟨by simp, .inl ⟨_, _, rfl, run_takeDeferred hK, ?_⟩⟩
    refine ⟨_, results_tmp rfl _ _ _, _, rfl, HB.out.trans (belowK_b (w := w) (Nat.le_refl _) W D _ _ (by omega) hK rfl rfl), ?_⟩
    exact row_lower39 (ownsRow_putObj HR.out _ hK rfl) (by omega)
  case stop =>
    rintro D c' W _ hf _
    exact hf.elim
end Go.Proofs.Ytgdljjoaiogpfaa
