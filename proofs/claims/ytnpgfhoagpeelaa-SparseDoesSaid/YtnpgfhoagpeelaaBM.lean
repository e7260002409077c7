/- The reference's last. -/
import Derived.Test.YtnpgfhoagpeelaaBL
namespace Go.Proofs.Ytnpgfhoagpeelaa
open Go.RowKit
open Go.Maps
theorem own_rrs {W w3 : World} {n c : Nat} {A : Option Addr} {T : Nat → Prop} {rs : List Rr} (h : w3.ownsRow W.heap.size 74 33 (.slice A n c) n (rs.flatMap rrL)) (hT : ∀ b, T b → b < W.heap.size) (hne : rs ≠ [] → rs.flatMap rrL ≠ []) : RrsT T w3 A rs := fun hl => by
  obtain ⟨b, o, e, hb, hr⟩ := row_own h (hne hl)
  subst e
  have := h.lt b rfl
  exact ⟨b, o, rfl, hb, fun q => by have := hT b q; omega, hr⟩
theorem rr_ne {rs : List Rr} (h : rs ≠ []) : rs.flatMap rrL ≠ [] := by
  obtain ⟨r, L, rfl⟩ := List.exists_cons_of_ne_nil h
  rw [List.flatMap_cons]
  unfold rrL
  simp
/-- other rows are laid, and the index told of them -/
theorem Ref.remade {T : Nat → Prop} {W w3 : World} {wb ph mo c : Nat} {A : Option Addr} {rs : List Rr} (h : Ref T W wb ph mo A c rs) (hb : Below W.heap.size W w3) {A' : Option Addr} {c' : Nat} {rs' : List Rr} (hown : w3.ownsRow W.heap.size 74 33 (.slice A' rs'.length c') rs'.length (rs'.flatMap rrL)) (hok : ∀ r ∈ rs', RrOk T w3 r) (hn : rs'.length ≤ 100000) :
    Ref T (w3.setCell ⟨wb, 2, none⟩ (.slice A' rs'.length c')) wb ph mo A' c' rs' ∧ W.grownBy (w3.setCell ⟨wb, 2, none⟩ (.slice A' rs'.length c')) (some wb) := by
  have h3 := h.below hb
  have hgs := set_grown w3 wb 2 (.slice A' rs'.length c')
  have hrr := own_rrs hown h.lt rr_ne
  have hwl := lt_of_block h.hd
  refine ⟨⟨?_, fun hl => ?_, fun r hr => ⟨(hok r hr).fp, fun hl => ?_, (hok r hr).cap, (hok r hr).len⟩, own_cap hown, hn, h.wbT, fun b q => Nat.lt_of_lt_of_le (h3.lt b q) hgs.size⟩, ⟨hb.os, hb.tape, hb.output, by simpa using hb.size, fun k hk hne => (hgs.block k (Nat.lt_of_lt_of_le hk hb.size) hne).trans (hb.block k hk)⟩⟩
  · rw [heap_setCell_same w3 wb 2 _ 32 _ h3.hd]
    rfl
  · obtain ⟨b, o, e, h1, h2, h4⟩ := hrr hl
    have hbW : W.heap.size ≤ b := by subst e; exact (hown.lt b rfl).1
    exact ⟨b, o, e, by simpa using h1, h2, range_grown h4 hgs (fun q => by injection q with q; omega)⟩
  · obtain ⟨b, o, e, h1, h2, h4⟩ := (hok r hr).ids hl
    exact ⟨b, o, e, by simpa using h1, h2, range_grown h4 hgs (fun q => ids_not_wb h3 hl h4 (by injection q with q; exact q.symm))⟩
theorem RrOk.below {T : Nat → Prop} {W W' : World} {r : Rr} (h : RrOk T W r) (hb : Below W.heap.size W W') : RrOk T W' r := ⟨h.fp, h.ids.below hb, h.cap, h.len⟩
theorem flat_snoc (rs : List Rr) (r : Rr) : (rs ++ [r]).flatMap rrL = rs.flatMap rrL ++ rrL r := by rw [List.flatMap_append]; simp
set_option maxRecDepth 100000 in
set_option maxHeartbeats 4000000 in
theorem last37 {T : Nat → Prop} {W : World} {wb ph mo c : Nat} {A : Option Addr} {rs : List Rr} {r0 : Rr} {i : Int} (h : Ref T W wb ph mo A c rs) (hr0 : RrOk T W r0) (hn : rs.length ≤ 99999) :
    Calls Try.prog 37 #[.pointer (some ⟨wb, 0, none⟩), .int .i64 i, .agg (rrL r0).toArray] W fun r W' => r = .returned (.tuple #[]) ∧ (∃ A' c', Ref T W' wb ph mo A' c' (skipT rs i rs.length ++ [r0])) ∧ W.grownBy W' (some wb) := by
  have HB0 : Hid (Below W.heap.size W (W.alloc (.cells (rrL r0).toArray 74))) := Lib.hid ((Below.refl _ _).alloc (Nat.le_refl _) _)
  obtain ⟨b0, hb0⟩ : ∃ b0, b0 = W.heap.size := ⟨_, rfl⟩
  have HR0 : Hid ((W.alloc (.cells (rrL r0).toArray 74)).rangeAt b0 0 (rrL r0)) := Lib.hid (by rw [hb0]; exact range_new2 _ _ _)
  have HLT : Hid (b0 < (W.alloc (.cells (rrL r0).toArray 74)).heap.size) := Lib.hid (by rw [World.size_alloc]; omega)
  have HH0 := Lib.hid h
  have HOK0 := Lib.hid hr0
  have HH := Lib.hid (h.below HB0.out)
  have HL0 := Lib.hid (rrL_len hr0)
  have HI0 : Hid ((Try.prog.info? 74).map (·.size) = some (rrL r0).length) := Lib.hid (by rw [rrL_len hr0]; exact info74s)
  obtain ⟨i0, hi, hz0, hz1, hz2⟩ := info_parts info74
  have I0 := Lib.hid hi
  have Z0 := Lib.hid hz0
  have S0 := Lib.hid hz1
  have Y0 := Lib.hid hz2
  clear h hr0 hi hz0 hz1 hz2
  go_enter Try.func37, Try.ntmps37
  go_upto_region 1 with fail
  rw [← hb0]
  clear hb0
  generalize W.alloc (.cells (rrL r0).toArray 74) = W1 at *
  go_wp2_with fail
  go_loopg [6, 7] rs.length (fun gk ov jv wr => ∃ k : Nat, k ≤ rs.length ∧ gk = rs.length - k ∧ jv = .int .i64 k ∧ wr.ownsRow W1.heap.size 74 33 ov (skipT rs i k).length ((skipT rs i k).flatMap rrL) ∧ Below W1.heap.size W1 wr)
  case atStart => exact ⟨0, Nat.zero_le _, rfl, rfl, World.ownsRow_nil _ _ _ _, Below.refl _ _⟩
  case round =>
    obtain ⟨k, hk, hgk, rfl, hrow, hb⟩ := hrel
    obtain ⟨VA, VC, rfl⟩ := own_slice hrow
    have HK := Lib.hid hgk
    have HROW := Lib.hid hrow
    have HB := Lib.hid hb
    have HHW := Lib.hid (HH.out.below hb)
    have hskl := skip_len rs i k
    clear hgk hrow hb
    have c2 := HHW.out.c.2.2
    have hk0 : (0 : Int) ≤ (k : Int) := by omega
    by_cases hlt : k < rs.length
    · obtain ⟨r, hr⟩ : ∃ r, rs[k]? = some r := ⟨_, List.getElem?_eq_getElem hlt⟩
      obtain ⟨ab, ao, rfl, hab, _, _, hrg⟩ := HHW.out.get hr
      have HRG := Lib.hid hrg
      have HRO := Lib.hid (HH.out.ok r (List.mem_of_getElem? hr))
      have HIX : Hid ((Try.prog.info? 74).map (·.size) = some (rrL r).length) := Lib.hid (by rw [rrL_len HRO.out]; exact info74s)
      have HFX := Lib.hid (rrL_len HRO.out)
      have HST := Lib.hid (skip_step (i := i) hr)
      have HROW2 := Lib.hid (HROW.out.alloc (.cells (rrL r).toArray 74))
      have hk1 : (k : Int) < (rs.length : Int) := by omega
      have HHB := Lib.hid HB.out.size
      clear hr hrg hab
      by_cases hki : (k : Int) = i
      · have HE := Lib.hid (HST.out.trans (by rw [if_pos hki, List.append_nil]))
        go_wp2_with fail
        go_roundg (rs.length - (k + 1))
        case measure => rw [HK.out]; omega
        case rel => exact ⟨k + 1, by omega, rfl, by go_num, by rw [HE.out]; exact HROW.out, HB.out⟩
      · have HE := Lib.hid (HST.out.trans (by rw [if_neg hki]))
        go_wp2_with (first
          | ((with_reducible refine wpList_load_mid (op := ⟨some 27, _, _, _, _, _⟩) rfl 74 (.tmp 26) rfl ab (ao + k * 33) ?_ (rrL r) _ HRG.out Try.underlying74 rfl HIX.out ?_); rfl)
          | ((with_reducible refine wpList_build_one (op := ⟨some 28, _, _, _, _, _⟩) rfl 30 (.tmp 27) ?_ 74 33 _ (rrL r) ?_ Try.underlying30 Try.sizeOf74 Try.zeroValue74 ?_ ?_ HFX.out ?_); rfl; rfl; decide; decide)
          | (at_builtin; refine wpList_append_own _ rfl (.tmp 20) (.tmp 28) _ rfl W1.heap.size 74 i0 _ 33 56 Try.underlying30 I0.out Z0.out S0.out Y0.out (by simp [Value.cells]) (by decide) _ (skipT rs i k).length _ rfl HROW2.out _ 1 1 (rrL r) rfl (by rw [HFX.out]) (newL2 _ (rrL r) _ _ rfl) rrL_one (by unfold maxLen; omega) (by omega) (by have := HHB.out; simp; omega) ?_))
        intro v3 w3 hown3 hg3 _
        have HB3 : Hid (Below W1.heap.size W1 w3) := Lib.hid ((HB.out.alloc HB.out.size _).grown hg3 (by have := HHB.out; simp; omega) (fun j q => (HROW2.out.lt j q).1))
        have HOWN3 : Hid (w3.ownsRow W1.heap.size 74 33 v3 (skipT rs i (k + 1)).length ((skipT rs i (k + 1)).flatMap rrL)) := Lib.hid (by
          rw [HE.out, flat_snoc, List.length_append]
          exact hown3)
        clear hown3 hg3
        go_wp2_with fail
        go_roundg (rs.length - (k + 1))
        case measure => rw [HK.out]; omega
        case rel => exact ⟨k + 1, by omega, rfl, by go_num, HOWN3.out, HB3.out⟩
    · obtain rfl : k = rs.length := by omega
      have HRG := Lib.hid (range_below HR0.out HB.out HLT.out)
      have HROW2 := Lib.hid (HROW.out.alloc (.cells (rrL r0).toArray 74))
      have HHB := Lib.hid HB.out.size
      have HSM := Lib.hid (skip_mem rs i rs.length)
      generalize hSK : skipT rs i rs.length = SK at *
      have HSK := Lib.hid hSK
      clear hSK
      go_wp2_with (first
        | ((with_reducible refine wpList_load_mid (op := ⟨some 32, _, _, _, _, _⟩) rfl 74 (.tmp 5) rfl b0 0 ?_ (rrL r0) _ HRG.out Try.underlying74 rfl HI0.out ?_); rfl)
        | ((with_reducible refine wpList_build_one (op := ⟨some 33, _, _, _, _, _⟩) rfl 30 (.tmp 32) ?_ 74 33 _ (rrL r0) ?_ Try.underlying30 Try.sizeOf74 Try.zeroValue74 ?_ ?_ HL0.out ?_); rfl; rfl; decide; decide)
        | (at_builtin; refine wpList_append_own _ rfl (.tmp 31) (.tmp 33) _ rfl W1.heap.size 74 i0 _ 33 56 Try.underlying30 I0.out Z0.out S0.out Y0.out (by simp [Value.cells]) (by decide) _ SK.length _ rfl HROW2.out _ 1 1 (rrL r0) rfl (by rw [HL0.out]) (newL2 _ (rrL r0) _ _ rfl) rrL_one (by unfold maxLen; omega) (by omega) (by have := HHB.out; simp; omega) ?_))
      intro v3 w3 hown3 hg3 _
      have HB3 : Hid (Below W1.heap.size W1 w3) := Lib.hid ((HB.out.alloc HB.out.size _).grown hg3 (by have := HHB.out; simp; omega) (fun j q => (HROW2.out.lt j q).1))
      obtain ⟨V3, C3, rfl⟩ := own_slice hown3
      have HW3 := Lib.hid (HB0.out.trans (HB3.out.mono HB0.out.size))
      have hl3 : (SK ++ [r0]).length = SK.length + 1 := by rw [List.length_append]; rfl
      have hown4 : w3.ownsRow W1.heap.size 74 33 (.slice V3 (SK ++ [r0]).length C3) (SK ++ [r0]).length ((SK ++ [r0]).flatMap rrL) := by
        rw [flat_snoc, hl3]
        exact hown3
      have hfin := HH0.out.remade HW3.out (own_mono hown4 HB0.out.size) (fun r hr => by
        rcases List.mem_append.1 hr with hr | hr
        · exact (HH0.out.ok r (HSM.out r hr)).below HW3.out
        · rw [List.mem_singleton] at hr; subst hr; exact HOK0.out.below HW3.out) (by omega)
      rw [hl3] at hfin
      have HFIN := Lib.hid hfin
      have cz := (HH0.out.below HW3.out).c.2.2
      have fz : w3.frozen? ⟨wb, 2, none⟩ = false := frozen_of_row w3 wb 2 _ 32 (HH0.out.below HW3.out).hd
      clear hown3 hown4 hg3 hfin c2
      go_wp2_with fail
      go_end0
      exact ⟨rfl, ⟨V3, C3, by rw [HSK.out]; exact HFIN.out.1⟩, HFIN.out.2⟩
end Go.Proofs.Ytnpgfhoagpeelaa
