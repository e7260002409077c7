/- The walk over Drop. -/
import Derived.Test.YtnpgfhoagpeelaaBD
namespace Go.Proofs.Ytnpgfhoagpeelaa
open Go.RowKit
open Go.Maps
def take1A (man : Id) (R : List Rw) (f : Fp) : List Rw := (R.map fun r => if r.1 = f then (r.1, cutL r.2 man) else r).filter fun r => decide (r.2 ≠ [])
def dropA (R : List Rw) (man : Id) : List Rw := (R.map fun r => (r.1, cutL r.2 man)).filter fun r => decide (r.2 ≠ [])
theorem take_ab (E : List En) (f : Fp) (man : Id) : abE (takeE E f man) = take1A man (abE E) f := by
  unfold take1A takeE abE
  rw [List.map_map, List.filter_map, List.filter_map, List.map_map]
  have e : ((fun r : Rw => decide (r.2 ≠ [])) ∘ ((fun r : Rw => if r.1 = f then (r.1, cutL r.2 man) else r) ∘ fun e : En => (e.h, e.l))) = ((fun e : En => decide (e.l ≠ [])) ∘ fun e : En => if e.h = f then cutEn man e else e) := by
    funext e
    by_cases q : e.h = f <;> simp [q, cutEn]
  rw [e]
  refine List.map_congr_left (fun x _ => ?_)
  simp only [Function.comp]
  by_cases q : x.h = f
  · rw [if_pos q, if_pos q]; rfl
  · rw [if_neg q, if_neg q]
def midA (man : Id) (fs : List Fp) (R : List Rw) : List Rw := (R.map fun r => if r.1 ∈ fs then (r.1, cutL r.2 man) else r).filter fun r => decide (r.2 ≠ [])
theorem cut_twice (l : List Id) (man : Id) : cutL (cutL l man) man = cutL l man := by unfold cutL; rw [List.filter_filter]; simp
theorem mid_step (man : Id) (fs : List Fp) (R : List Rw) (f : Fp) : take1A man (midA man fs R) f = midA man (fs ++ [f]) R := by
  unfold take1A midA
  induction R with
  | nil => rfl
  | cons r R ih =>
    rw [List.map_cons, List.map_cons]
    have hmem : r.1 ∈ fs ++ [f] ↔ r.1 ∈ fs ∨ r.1 = f := by simp
    by_cases h1 : r.1 ∈ fs
    · rw [if_pos h1, if_pos (hmem.2 (.inl h1))]
      by_cases h2 : cutL r.2 man = []
      · rw [List.filter_cons_of_neg (by simp [h2]), List.filter_cons_of_neg (by simp [h2]), ih]
      · rw [List.filter_cons_of_pos (by simp [h2]), List.filter_cons_of_pos (by simp [h2]), List.map_cons]
        have e : (if (r.1, cutL r.2 man).1 = f then ((r.1, cutL r.2 man).1, cutL (r.1, cutL r.2 man).2 man) else (r.1, cutL r.2 man)) = (r.1, cutL r.2 man) := by
          simp only [cut_twice]
          split <;> rfl
        rw [e, List.filter_cons_of_pos (by simp [h2]), ih]
    · rw [if_neg h1]
      by_cases h3 : r.1 = f
      · rw [if_pos (hmem.2 (.inr h3))]
        by_cases h2 : r.2 = []
        · have h4 : cutL r.2 man = [] := by rw [h2]; rfl
          rw [List.filter_cons_of_neg (by simp [h2]), List.filter_cons_of_neg (by simp [h4]), ih]
        · rw [List.filter_cons_of_pos (by simp [h2]), List.map_cons, if_pos h3]
          by_cases h4 : cutL r.2 man = []
          · rw [List.filter_cons_of_neg (by simp [h4]), List.filter_cons_of_neg (by simp [h4]), ih]
          · rw [List.filter_cons_of_pos (by simp [h4]), List.filter_cons_of_pos (by simp [h4]), ih]
      · rw [if_neg (fun q => (hmem.1 q).elim h1 h3)]
        by_cases h2 : r.2 = []
        · rw [List.filter_cons_of_neg (by simp [h2]), List.filter_cons_of_neg (by simp [h2]), ih]
        · rw [List.filter_cons_of_pos (by simp [h2]), List.filter_cons_of_pos (by simp [h2]), List.map_cons, if_neg h3, List.filter_cons_of_pos (by simp [h2]), ih]
theorem mid_none {E : List En} (man : Id) (hf : Full E) : midA man [] (abE E) = abE E := by
  unfold midA
  simp only [List.not_mem_nil, if_false, List.map_id']
  refine List.filter_eq_self.2 (fun r hr => ?_)
  obtain ⟨e, he, rfl⟩ := List.mem_map.1 hr
  exact decide_eq_true (hf e he).1
theorem mid_all (man : Id) (E : List En) : midA man (E.map (·.h)) (abE E) = dropA (abE E) man := by
  unfold midA dropA
  congr 1
  refine List.map_congr_left (fun r hr => ?_)
  obtain ⟨e, he, rfl⟩ := List.mem_map.1 hr
  exact if_pos (List.mem_map.2 ⟨e, he, rfl⟩)
theorem take33X {T : Nat → Prop} {W0 W : World} {base xb ph mo N : Nat} {E : List En} {f : Fp} {man : Id} (h : Xs T W0 W base xb ph mo N E) (hf : IsFp f) :
    Calls Try.prog 33 #[.pointer (some ⟨xb, 0, none⟩), .agg (fpL f).toArray, .int .u32 man] W fun r W' => ∃ d E', r = .returned (.int .i64 (d : Nat)) ∧ Xs T W0 W' base xb ph mo N E' ∧ abE E' = take1A man (abE E) f ∧ lnN E = lnN E' + d := by
  obtain ⟨mb, now, n, fm, h1, h2, h3, h4, h5⟩ := h
  have := h3.tot
  have := h3.mom
  have hlt := ln_take (f := f) (man := man) h3.hk h3.full
  refine (take33 (man := man) h1 hf h2 h3.hk h3.full (by omega)).mono ?_
  rintro r W' ⟨fm', rfl, q1, q2⟩
  refine ⟨dN E f man, takeE E f man, rfl, ⟨mb, now, n, fm', q1, q2, ⟨take_hk h3.hk, take_full h3.full, take_srt h3.srt, fun x hx => ?_, fun x hx => ?_, by omega, h3.phm, h3.mom⟩, h4, h5⟩, take_ab _ _ _, hlt⟩
  · obtain ⟨y, hy, _, e, _⟩ := take_mem hx
    rw [e]; exact h3.le y hy
  · obtain ⟨y, hy, _, _, e⟩ := take_mem hx
    exact Nat.le_trans e.length_le (h3.len y hy)
theorem drop16_nil {man : Id} (W : World) : Calls Try.prog 16 #[.pointer none, .int .u32 man] W fun r W' => r = .returned (.int .i64 0) ∧ Below W.heap.size W W' := by
  have HC := Lib.hid (hooks17_nil W)
  go_enter Try.func16, Try.ntmps16
  go_wp2_with fail
  refine Calls.mono HC.out ?_
  rintro _ W1 ⟨rfl, hb⟩
  have HB := Lib.hid hb
  clear hb HC
  go_wp2_with fail
  refine wp_loop_rounds 1 ?_
  rw [rounds_succ]
  go_wp2_with fail
  go_ret
  exact ⟨rfl, HB.out⟩
set_option maxRecDepth 100000 in
set_option maxHeartbeats 4000000 in
theorem drop16 {T : Nat → Prop} {W0 W : World} {base xb ph mo N : Nat} {E : List En} {man : Id} (h : Xs T W0 W base xb ph mo N E) (hN : N ≤ 1000000) :
    Calls Try.prog 16 #[.pointer (some ⟨xb, 0, none⟩), .int .u32 man] W fun r W' => r = .returned (.int .i64 (((lnA (abE E) : Nat) : Int) - (lnA (dropA (abE E) man) : Nat))) ∧ ∃ E', Xs T W0 W' base xb ph mo N E' ∧ abE E' = dropA (abE E) man := by
  have HC17 := Lib.hid (hooks17 h hN)
  have HX := Lib.hid h
  obtain ⟨mb0, now0, n0, fm0, _, _, hok, _⟩ := h
  have HAS : Hid (AllFp (E.map (·.h))) := Lib.hid (fun f hf => by obtain ⟨e, he, rfl⟩ := List.mem_map.1 hf; exact hok.hk.2 e he)
  have htot : lnN E ≤ 65536 := by have := hok.tot; have := hok.mom; omega
  have HM0 : Hid (midA man [] (abE E) = abE E) := Lib.hid (mid_none man hok.full)
  have HMA := Lib.hid (mid_all man E)
  have hEl : (E.map (·.h)).length ≤ 65536 := by
    have h4 : ∀ L : List En, Full L → L.length ≤ lnN L := fun L => by
      induction L with
      | nil => intro _; exact Nat.zero_le _
      | cons e S ih =>
        intro hf
        have := ih (fun x hx => hf x (List.mem_cons_of_mem _ hx))
        have h5 := List.length_pos_iff.2 (hf e (List.mem_cons_self ..)).1
        simp only [lnN, List.map_cons, List.sum_cons, List.length_cons] at *
        omega
    have := h4 E hok.full
    rw [List.length_map]
    omega
  clear hok hN
  unfold HookPost at HC17
  go_enter Try.func16, Try.ntmps16
  go_wp2_with fail
  refine Calls.mono HC17.out ?_
  rintro _ W2 ⟨SB, sd, rfl, hrow, hb⟩
  obtain ⟨TX, hx2, hTX, hback⟩ := HX.out.own2 hb
  have HROW := Lib.hid hrow
  have HBK := Lib.hid hback
  have HTO : Hid (∀ b, (Value.slice SB (E.map (·.h)).length sd).ownBlock = some b → ¬ TX b) := Lib.hid (fun b q ht => by have := (hTX b ht).1; have := (hrow.lt b q).1; omega)
  have HX2 := Lib.hid hx2
  clear hrow hback hTX hx2 hb HX HC17
  generalize hSQ : E.map (·.h) = S at *
  clear hSQ
  go_wp2_with fail
  go_loopg [5, 11] S.length (fun gk nv i wr => ∃ (k d : Nat) (E' : List En), k ≤ S.length ∧ gk = S.length - k ∧ i = .int .i64 k ∧ nv = .int .i64 (d : Nat) ∧ Xs TX W2 wr base xb ph mo N E' ∧ abE E' = midA man (S.take k) (abE E) ∧ lnN E = lnN E' + d)
  case atStart => exact ⟨0, 0, E, Nat.zero_le _, rfl, rfl, rfl, HX2.out, by rw [List.take_zero, HM0.out], rfl⟩
  case round =>
    obtain ⟨k, d, E', hk, hgk, rfl, rfl, hx, hab, hln⟩ := hrel
    have HK := Lib.hid hgk
    have HXK := Lib.hid hx
    have HAB := Lib.hid hab
    have hd : d ≤ 65536 := by omega
    have HLN := Lib.hid hln
    clear hgk hx hab HX2 hln
    have hk0 : (0 : Int) ≤ (k : Int) := by omega
    by_cases hlt : k < S.length
    · obtain ⟨x, hx⟩ : ∃ x, S[k]? = some x := ⟨_, List.getElem?_eq_getElem hlt⟩
      have HXF := Lib.hid (HAS.out x (List.mem_of_getElem? hx))
      obtain ⟨b, o, rfl, _, hr⟩ := Fps.get (row_own (own_tn HROW.out HXK.out.tn HTO.out)) HAS.out hx
      have HRW := Lib.hid hr
      have HIX := Lib.hid (info29f HXF.out)
      have HI2 : Hid ((Try.prog.info? 47).map (·.size) = some (fpL x).toArray.size) := Lib.hid (by rw [List.size_toArray]; exact HIX.out)
      have HS2 : Hid ((#[Value.int .u8 0, Value.int .u8 0, Value.int .u8 0, Value.int .u8 0, Value.int .u8 0, Value.int .u8 0, Value.int .u8 0, Value.int .u8 0, Value.int .u8 0, Value.int .u8 0, Value.int .u8 0, Value.int .u8 0, Value.int .u8 0, Value.int .u8 0, Value.int .u8 0, Value.int .u8 0, Value.int .u8 0, Value.int .u8 0, Value.int .u8 0, Value.int .u8 0, Value.int .u8 0, Value.int .u8 0, Value.int .u8 0, Value.int .u8 0, Value.int .u8 0, Value.int .u8 0, Value.int .u8 0, Value.int .u8 0, Value.int .u8 0, Value.int .u8 0, Value.int .u8 0, Value.int .u8 0] : Array Value).size = (fpL x).toArray.size) := Lib.hid (by rw [show (fpL x).toArray.size = 32 by rw [List.size_toArray, fpL_length HXF.out]]; rfl)
      have HON : Hid ((fpL x).toArray.all (·.oneCell') = true) := Lib.hid (all_oneCell_toArray fpL_one)
      have HB1 : Hid (Below wr.heap.size wr (wr.alloc (.cells (fpL x).toArray 47))) := Lib.hid ((Below.refl _ _).alloc (Nat.le_refl _) _)
      have HRB := Lib.hid (box_range (heap_alloc_new wr (.cells (fpL x).toArray 47)))
      have HC := Lib.hid (take33X (man := man) (HXK.out.below HB1.out) HXF.out)
      have HTK : Hid (midA man (S.take (k + 1)) (abE E) = take1A man (midA man (S.take k) (abE E)) x) := Lib.hid (by rw [List.take_add_one, hx, mid_step]; rfl)
      have hk1 : (k : Int) < (S.length : Int) := by omega
      clear hx hr
      go_wp2_with (first
        | ((with_reducible refine wpList_load_mid (op := ⟨some 14, _, _, _, _, _⟩) rfl 47 (.tmp 13) rfl b (o + k * 32) ?_ (fpL x) _ HRW.out Try.underlying47 rfl HIX.out ?_); rfl)
        | ((with_reducible refine wpList_store_new (op := ⟨none, .store _ _ _, _, _, _, _⟩) rfl 47 (.tmp 7) (.tmp 14) rfl _ (fpL x).toArray ?_ ?_ HI2.out HS2.out HON.out ?_); rfl; rfl)
        | ((with_reducible refine wpList_load_mid (op := ⟨some 17, _, _, _, _, _⟩) rfl 47 (.tmp 7) rfl wr.heap.size 0 ?_ (fpL x) _ HRB.out Try.underlying47 rfl HIX.out ?_); rfl))
      refine Calls.mono HC.out ?_
      rintro _ W3 ⟨d2, E3, rfl, hx3, hab3, hln3⟩
      have HX3 := Lib.hid hx3
      have HAB3 := Lib.hid hab3
      have HLN3 : Hid (lnN E = lnN E3 + (d + d2)) := Lib.hid (by have := HLN.out; omega)
      have hd2 : d + d2 ≤ 65536 := by have := HLN.out; omega
      clear hx3 hab3 hln3
      go_wp2_with fail
      go_roundg (S.length - (k + 1))
      case measure => rw [HK.out]; omega
      case rel => exact ⟨k + 1, d + d2, E3, by omega, rfl, by go_num, by go_num, HX3.out, by rw [HTK.out, HAB3.out, HAB.out], HLN3.out⟩
    · obtain rfl : k = S.length := by omega
      have HFIN : Hid (abE E' = dropA (abE E) man) := Lib.hid (by rw [HAB.out, List.take_length]; exact HMA.out)
      have HD : Hid (((d : Nat) : Int) = ((lnA (abE E) : Nat) : Int) - (lnA (dropA (abE E) man) : Nat)) := Lib.hid (by rw [← HFIN.out, ln_ab, ln_ab]; have := HLN.out; omega)
      go_wp2_with fail
      go_ret
      exact ⟨by rw [← HD.out]; rfl, E', HBK.out _ _ _ HXK.out, HFIN.out⟩
end Go.Proofs.Ytnpgfhoagpeelaa
