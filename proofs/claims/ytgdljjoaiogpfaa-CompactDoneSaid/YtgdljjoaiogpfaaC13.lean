/- The walk over Done. -/
import Derived.Test.YtgdljjoaiogpfaaC12
namespace Go.Proofs.Ytgdljjoaiogpfaa
open Go.RowKit Go.Maps
attribute [local go_sem] Oper.semAt_some
theorem results_bool1 {fn : Func} {p : Tmp} (h : fn.results = #[.cell p 4]) (tmps : Array Value) (w : World) (gp : Nat) (a : Bool)
    (hp : tmps.getD p undef = .pointer (some ⟨gp, 0, none⟩)) (hgp : Boxed w gp 4 (.bool a)) :
    (results fn tmps).run Try.prog w = .ok (.bool a) w := by
  have hp' : tmps[p]?.getD undef = .pointer (some ⟨gp, 0, none⟩) := by simpa using hp
  have c1 := hgp.cell
  simp [results, h, hp', asAddr, Sem.run_bind, Result.andThen, go_sem, c1]
/-- a box that needs nothing -/
def Fine (named : List Plc) (x : Hd) : Prop := (part named x false).length = 0 ∧ (part named x true).length ≠ 0
open Classical in
noncomputable def doneB (named : List Plc) (hs : List Hd) : Bool := decide (May hs ∧ ∀ x ∈ hs, Fine named x)
theorem doneB_yes {named : List Plc} {hs : List Hd} (h : May hs ∧ ∀ x ∈ hs, Fine named x) : doneB named hs = true := by unfold doneB; simpa using h
theorem doneB_no {named : List Plc} {hs : List Hd} (h : ¬ (May hs ∧ ∀ x ∈ hs, Fine named x)) : doneB named hs = false := by unfold doneB; simpa using h
set_option maxRecDepth 100000 in
set_option maxHeartbeats 4000000 in
theorem done19 {w : World} {A : Option Addr} {n c : Nat} {hs : List Hd} {B : Option Addr} {m d : Nat} {named : List Plc} (h : InOk w A n hs B m named) :
    Calls Try.prog 19 #[.slice A n c, .slice B m d] w fun e w' => e = .returned (.bool (doneB named hs)) ∧ Below w.heap.size w w' := by
  have HIN := Lib.hid h
  have HLM := Lib.hid (okHs_len h.lim)
  have HCK : Hid (∀ V, Below w.heap.size w V → Calls Try.prog 24 #[.slice A n c] V fun e w' => e = .returned (.int .i64 (chk hs)) ∧ Below V.heap.size V w') := Lib.hid (fun V hv => check24 (h.hd.below hv) h.lim)
  clear h
  by_cases hmay : May hs
  · have HM := Lib.hid hmay
    rw [chk_ok hmay] at HCK
    clear hmay
    refine (callsIn_wide (n := 9)).1 ?_
    refine callsIn_of_wp_marks Try.func19 rfl trivial ?_ rfl
    simp only [Try.ntmps19, List.size_toArray, List.length_cons, List.length_nil, Nat.reduceAdd, Nat.reduceSub, Array.replicate_succ, Array.replicate_zero, List.push_toArray, List.append_toArray, List.nil_append, List.cons_append]
    gi_wp2_with (refine ⟨trivial, ?_⟩; gi_at_call 24; refine (callsIn_wide.2 (HCK.out _ ((Below.refl _ w).alloc (Nat.le_refl _) _))).mono ?_; rintro e w0 ⟨rfl, hb0⟩)
    have HB0 : Hid (Below w.heap.size w w0) := Lib.hid (((Below.refl _ w).alloc (Nat.le_refl _) _).trans (hb0.mono (by simp)))
    have HX0 : Hid (Boxed w0 w.heap.size 4 (.bool false)) := Lib.hid ((hb0.block w.heap.size (by simp)).trans (Boxed.new w 4 (.bool false)))
    have HSZ0 : Hid (w.heap.size + 1 ≤ w0.heap.size) := Lib.hid (by have := hb0.size; simpa using this)
    clear hb0
    gi_wp2_with (refine ⟨trivial, ?_⟩; gi_at_call 29; refine (callsIn_wide.2 (parts_in HIN.out HB0.out)).mono ?_; rintro e w1 ⟨b1, b2, rfl, hb, hy⟩)
    have hsz : w0.heap.size ≤ w1.heap.size := hb.size
    have hsz0 := HSZ0.out
    have hbw : Below w.heap.size w w1 := HB0.out.trans (hb.mono HB0.out.size)
    have hbx : Boxed w1 w.heap.size 4 (.bool false) := (hb.block w.heap.size (by omega)).trans HX0.out
    rw [okHs_yes HM.out] at hy
    refine wpIn_rangeE (gf := 35) (lb := #[.pointer (some ⟨b1, 0, none⟩), .pointer (some ⟨b2, 0, none⟩)]) rfl (enters_of Try.func35 (by kernel_rfl) rfl) hy (fun q hq => xp_lt (by omega) hsz hq) (ex_own named)
      (fun pre W => (Boxed W w.heap.size 4 (.bool false) ∧ ∀ x ∈ pre, Fine named x) ∧ Below w.heap.size w W) (fun c W => (Boxed W w.heap.size 4 (.bool false) ∧ c = .ret ∧ ∃ x ∈ hs, ¬ Fine named x) ∧ Below w.heap.size w W)
      (OwnFrom.and (Own.from (fun s A B row hs' hg hr => ⟨boxed_own _ 4 (fun _ => .bool false) s A B row hs'.1 hg hr, hs'.2⟩) _) (ownFrom_below (Nat.le_refl _) (by omega)))
      (OwnFrom.and (Own.from (fun s A B row hs' hg hr => ⟨boxed_own _ 4 (fun _ => .bool false) s A B row hs'.1 hg hr, hs'.2⟩) _) (ownFrom_below (Nat.le_refl _) (by omega)))
      ⟨⟨hbx, by simp⟩, hbw⟩ (fun y => .cells y.cells 62)
      (fun b y => { tmps := #[.slice A n c, .slice B m d, undef, undef, .pointer (some ⟨w.heap.size, 0, none⟩), .pointer (some ⟨b, 0, none⟩), .slice A n c, .int .i64 0, .bool false, .slice A n c, .slice B m d, .func (.func 35) #[] #[.pointer (some ⟨b1, 0, none⟩), .pointer (some ⟨b2, 0, none⟩)], y.val, undef, undef, undef, undef, undef, undef, undef, undef, undef, undef], defers := [] }) ?assign ?body ?done ?stop
    case assign =>
      intro l y W K hK
      obtain ⟨yh, A1, k1, cc1, A2, k2, cc2, y1, y2⟩ := y
      simp only [PV.val, PV.cells]
      gi_wp2
      exact hK
    case body =>
      rintro l pre x rest y b W hl hxs ⟨⟨v0, hfine⟩, hB⟩ hex hbk hle hwl
      obtain ⟨yh, A1, k1, cc1, A2, k2, cc2, y1, y2⟩ := y
      obtain ⟨rfl, p1, p2, q1e, q2e, z1, z2⟩ := hex
      have hl1 : (part named yh true).length = k1 := p1.len
      have hl2 : (part named yh false).length = k2 := p2.len
      clear q1e q2e z1 z2 p1 p2
      simp only [PV.val, PV.cells] at *
      have g2 := cell_of_row W b 2 _ 62 (0, 0) hbk
      have g3 := cell_of_row W b 3 _ 62 (0, 0) hbk
      have hc0 := v0.cell
      have hf0 := v0.frozen
      have HV0 := Lib.hid v0
      have HB := Lib.hid hB
      have HF := Lib.hid hfine
      have HXS : Hid (yh ∈ hs) := Lib.hid (by rw [hxs]; simp)
      have HK : Hid (KeepsFrom w1.heap.size W (W.setCell ⟨w.heap.size, 0, none⟩ (.bool false))) := Lib.hid ((KeepsOthers.setCell _ _ _).from _)
      have HB2 := Lib.hid (HB.out.setCell (p := ⟨w.heap.size, 0, none⟩) (Nat.le_refl _) (.bool false))
      clear hbk v0 hB hfine hxs
      by_cases hk2 : 0 < k2
      · have HNF : Hid (¬ Fine named yh) := Lib.hid (fun hf => by have := hf.1; omega)
        clear hl1 hl2
        gi_wp2
        exact ⟨HK.out, ⟨HV0.out.set _, rfl, yh, HXS.out, HNF.out⟩, HB2.out⟩
      · by_cases hk1 : k1 = 0
        · have HNF : Hid (¬ Fine named yh) := Lib.hid (fun hf => by have := hf.2; omega)
          clear hl1 hl2
          gi_wp2
          exact ⟨HK.out, ⟨HV0.out.set _, rfl, yh, HXS.out, HNF.out⟩, HB2.out⟩
        · have HFI : Hid (Fine named yh) := Lib.hid ⟨by omega, by omega⟩
          clear hl1 hl2
          gi_wp2
          refine ⟨(KeepsOthers.refl _).from _, KeepX.refl, ⟨HV0.out, fun t ht => ?_⟩, HB.out⟩
          rcases List.mem_append.1 ht with ht | ht
          · exact HF.out t ht
          · rw [List.mem_singleton.1 ht]; exact HFI.out
    case done =>
      rintro D W hD ⟨⟨v0, hfine⟩, hB⟩ hK
      have hc0 := v0.cell
      have hf0 := v0.frozen
      have HV0 := Lib.hid v0
      have HB := Lib.hid hB
      have HD : Hid (doneB named hs = true) := Lib.hid (doneB_yes ⟨HM.out, hfine⟩)
      clear v0 hB hfine
      gi_wp2
      have hK2 := (KeepsOthers.setCell W ⟨w.heap.size, 0, none⟩ (.bool true)).same D _ hK rfl
      refine ⟨by simp, .inl ⟨_, _, rfl, run_takeDeferred hK2, ?_⟩⟩
      have m1 := (HV0.out.set (.bool true)).kept (grownBy_putObj' _ D (.deferred none)) (fun e => by cases e; omega)
      have m3 := (HB.out.setCell (p := ⟨w.heap.size, 0, none⟩) (Nat.le_refl _) (.bool true)).trans (belowK_b (w := w) (Nat.le_refl _) _ D _ (.deferred none) (by omega) hK2 rfl rfl)
      exact ⟨_, results_bool1 rfl _ _ _ _ rfl m1, by rw [HD.out], m3⟩
    case stop =>
      rintro D c' W hD ⟨⟨v0, rfl, x, hx, hnf⟩, hB⟩ hK
      have HV0 := Lib.hid v0
      have HB := Lib.hid hB
      have HD : Hid (doneB named hs = false) := Lib.hid (doneB_no fun hh => hnf (hh.2 x hx))
      clear v0 hB hnf hx
      gi_wp2
      refine ⟨by simp, .inl ⟨_, _, rfl, run_takeDeferred hK, ?_⟩⟩
      have m1 := HV0.out.kept (grownBy_putObj' _ D (.deferred none)) (fun e => by cases e; omega)
      have m3 := HB.out.trans (belowK_b (w := w) (Nat.le_refl _) _ D _ (.deferred none) (by omega) hK rfl rfl)
      exact ⟨_, results_bool1 rfl _ _ _ _ rfl m1, by rw [HD.out], m3⟩
  · have HD : Hid (doneB named hs = false) := Lib.hid (doneB_no fun hh => hmay hh.1)
    rw [chk_no hmay] at HCK
    clear hmay
    go_enter Try.func19, Try.ntmps19
    go_wp2_with fail
    refine Calls.mono (HCK.out _ ?hb0) ?_
    case hb0 => exact (Below.refl _ w).alloc (Nat.le_refl _) _
    rintro e w0 ⟨rfl, hb0⟩
    have HB0 : Hid (Below w.heap.size w w0) := Lib.hid (((Below.refl _ w).alloc (Nat.le_refl _) _).trans (hb0.mono (by simp)))
    have hx0 : Boxed w0 w.heap.size 4 (.bool false) := (hb0.block w.heap.size (by simp)).trans (Boxed.new w 4 (.bool false))
    have hc0 := hx0.cell
    have hf0 := hx0.frozen
    have HX0 := Lib.hid hx0
    clear hb0 hx0
    go_wp2
    refine bodyPost_ret (results_bool1 rfl _ _ _ _ rfl (HX0.out.set _)) rfl ⟨by rw [HD.out], HB0.out.setCell (p := ⟨w.heap.size, 0, none⟩) (Nat.le_refl _) _⟩
end Go.Proofs.Ytgdljjoaiogpfaa
