/- The walk over the reference's Part. -/
import Derived.Test.YtgdljjoaiogpfaaR1
import Derived.Test.YtgdljjoaiogpfaaC9
namespace Go.Proofs.Ytgdljjoaiogpfaa
open Go.RowKit Go.Maps
def hdAgg (h : Hd) : Value := .agg #[.int .u32 h.id, .slice h.A h.n h.c]
set_option maxRecDepth 100000 in
set_option maxHeartbeats 2000000 in
theorem part16 {w : World} {B : Option Addr} {m d : Nat} {named : List Plc} (hP : Pls w B m named) (hm : m ≤ 1000) (h : Hd) (hn : h.n ≤ 1000) (live : Bool) :
    Calls Try.prog 16 #[hdAgg h, .slice B m d, .bool live] w fun e w' => ∃ v, e = .returned v ∧ Below w.heap.size w w' ∧ w'.ownsRow w.heap.size 39 2 v (part named h live).length (rowP (part named h live)) := by
  have HCALL : Hid (∀ (V : World) (p : Plc), Below w.heap.size w V → Calls Try.prog 33 #[.slice B m d, .agg #[.int .u32 p.1, .int .i64 p.2]] V fun e w' => e = .returned (.bool (decide (p ∈ named))) ∧ Below V.heap.size V w') := Lib.hid (fun V p hV => named33 (hP.below hV) (by omega) p)
  have HPT : Hid (part named h live = partTo named h live h.n) := Lib.hid rfl
  have HS : Hid (∀ k : Nat, partTo named h live (k + 1) = partTo named h live k ++ (if decide ((h.id, (k : Int)) ∈ named) = live then [(h.id, (k : Int))] else [])) := Lib.hid (fun k => rfl)
  have HLN : Hid (∀ k, (partTo named h live k).length ≤ k) := Lib.hid (partTo_len named h live)
  obtain ⟨F, hF⟩ : ∃ F, partTo named h live = F := ⟨_, rfl⟩
  rw [hF] at HPT HS HLN
  have HF0 : Hid (F 0 = []) := Lib.hid (by rw [← hF]; rfl)
  rw [HPT.out]
  clear hF HPT hP
  obtain ⟨xi, xA, xn, xc, xl⟩ := h
  simp only [hdAgg] at *
  obtain ⟨i0, hi, hz0, hz1, hz2⟩ := info_parts info39
  have I0 := Lib.hid hi
  have Z0 := Lib.hid hz0
  have S0 := Lib.hid hz1
  have Y0 := Lib.hid hz2
  clear hi hz0 hz1 hz2
  go_enter Try.func16, Try.ntmps16
  go_wp2_with fail
  go_loopg [7, 8] xn (fun gk v i wr => ∃ k : Nat, k ≤ xn ∧ gk = xn - k ∧ i = .int .i64 k ∧ Below (w.heap.size + 1) (w.alloc (.cells #[.int .u32 xi, .slice xA xn xc] 45)) wr ∧ wr.ownsRow (w.heap.size + 1) 39 2 v (F k).length (rowP (F k)))
  case atStart => exact ⟨0, Nat.zero_le _, rfl, rfl, Below.refl _ _, by rw [HF0.out]; exact World.ownsRow_nil _ _ _ _⟩
  case round =>
    obtain ⟨k, hk, hgk, rfl, hb, hr⟩ := hrel
    obtain ⟨AA, ac, hv⟩ := own_slice hr
    subst hv
    have HK := Lib.hid hgk
    have HB := Lib.hid hb
    have HR := Lib.hid hr
    have hbx := (hb.block w.heap.size (Nat.lt_succ_self _)).trans (heap_alloc_new w (.cells #[.int .u32 xi, .slice xA xn xc] 45))
    have d0 := cell_of_row wr w.heap.size 0 _ 45 (0, 0) hbx
    have d1 := cell_of_row wr w.heap.size 1 _ 45 (0, 0) hbx
    have HBW : Hid (Below w.heap.size w wr) := Lib.hid (((Below.refl _ w).alloc (Nat.le_refl _) _).trans (hb.mono (Nat.le_succ _)))
    have HSZ : Hid (w.heap.size + 1 ≤ wr.heap.size) := Lib.hid (by have := hb.size; simpa using this)
    clear hgk hb hr hbx
    by_cases hlt : k < xn
    · have hk0 : (0 : Int) ≤ (k : Int) := by omega
      have hk1 : (k : Int) < (xn : Int) := by omega
      have HCL := Lib.hid (HCALL.out (wr.alloc (.cells #[.int .u32 xi, .int .i64 k] 39)) (xi, (k : Int)) (HBW.out.alloc HBW.out.size _))
      go_wp2_with fail
      refine Calls.mono HCL.out ?_
      rintro e w1 ⟨rfl, hb1⟩
      have HB1 := Lib.hid hb1
      have hp := heap_alloc_new wr (.cells #[.int .u32 xi, .int .i64 k] 39)
      have hp1 := (hb1.block wr.heap.size (by simp)).trans hp
      have p0 := cell_of_row w1 wr.heap.size 0 _ 39 (0, 0) hp1
      have p1 := cell_of_row w1 wr.heap.size 1 _ 39 (0, 0) hp1
      have HB01 : Hid (Below wr.heap.size wr w1) := Lib.hid (((Below.refl _ wr).alloc (Nat.le_refl _) _).trans (hb1.mono (by simp)))
      have HR1 := Lib.hid (HR.out.kept (grown_of_below HB01.out) (by rcases hoo : Value.ownBlock (.slice AA (F k).length ac) with _ | g <;> simp))
      have HBX1 : Hid (Below (w.heap.size + 1) (w.alloc (.cells #[.int .u32 xi, .slice xA xn xc] 45)) w1) := Lib.hid (HB.out.trans (HB01.out.mono HSZ.out))
      have HSZ1 : Hid (w.heap.size + 1 ≤ w1.heap.size) := Lib.hid (Nat.le_trans HSZ.out HB01.out.size)
      have HLK := Lib.hid (HLN.out k)
      have HSK := Lib.hid (HS.out k)
      clear hp hp1 hb1 d0 d1 HCL HCALL
      by_cases hmem : decide ((xi, (k : Int)) ∈ named) = live
      · rw [if_pos hmem] at HSK
        rw [hmem]
        clear hmem
        go_wp2_with (first
          | (at_builtin; refine wpList_append_own _ rfl (.tmp 26) (.tmp 28) _ rfl (w.heap.size + 1) 39 i0 _ 2 16 Try.underlying23 I0.out Z0.out S0.out Y0.out rfl (by decide) _ (F k).length _ rfl (HR1.out.alloc _) _ 1 1 [.int .u32 xi, .int .i64 k] rfl rfl (new2 _ _ _ _ _ (by simp)) (by simp [Value.oneCell']) (by have := HLK.out; simp only [maxLen]; omega) (by have := HLK.out; omega) (by have := HSZ1.out; simp; omega) ?_))
        intro v' w2 hown' hgrow _
        obtain ⟨A3, ac3, hv3⟩ := own_slice hown'
        subst hv3
        go_wp2
        go_roundg (xn - (k + 1))
        case measure => rw [HK.out]; omega
        case rel =>
          refine ⟨k + 1, by omega, rfl, by go_num, (HBX1.out.alloc HSZ1.out _).grown hgrow (by have := HSZ1.out; simp; omega) (fun j e => (HR1.out.lt j e).1), ?_⟩
          rw [HSK.out, rowP_snoc, List.length_append]
          exact hown'
      · rw [if_neg hmem] at HSK
        have hdb : decide ((xi, (k : Int)) ∈ named) = !live := by cases hq : decide ((xi, (k : Int)) ∈ named) <;> cases live <;> simp_all
        rw [hdb]
        clear hmem hdb
        cases live
        · go_wp2
          go_roundg (xn - (k + 1))
          case measure => rw [HK.out]; omega
          case rel => exact ⟨k + 1, by omega, rfl, by go_num, HBX1.out, by rw [HSK.out, List.append_nil]; exact HR1.out⟩
        · go_wp2
          go_roundg (xn - (k + 1))
          case measure => rw [HK.out]; omega
          case rel => exact ⟨k + 1, by omega, rfl, by go_num, HBX1.out, by rw [HSK.out, List.append_nil]; exact HR1.out⟩
    · obtain rfl : k = xn := by omega
      go_wp2
      go_ret
      exact ⟨_, rfl, HBW.out, row_lower39 HR.out (Nat.le_succ _)⟩
end Go.Proofs.Ytgdljjoaiogpfaa
