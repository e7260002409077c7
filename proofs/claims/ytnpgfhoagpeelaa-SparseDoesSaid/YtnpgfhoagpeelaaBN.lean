/- The reference's Look. -/
import Derived.Test.YtnpgfhoagpeelaaBM
namespace Go.Proofs.Ytnpgfhoagpeelaa
open Go.RowKit
open Go.Maps
theorem skip_none (rs : List Rr) : ∀ k, skipT rs (-1) k = rs.take k
  | 0 => rfl
  | k + 1 => by
    unfold skipT
    rw [skip_none rs k, List.take_add_one]
    congr 1
    cases rs[k]? with
    | none => rfl
    | some r => simp only; rw [if_neg (by omega)]; rfl
theorem skip_at (rs : List Rr) (j : Nat) : ∀ k, skipT rs (j : Int) k = (rs.take k).take j ++ (rs.take k).drop (j + 1)
  | 0 => by simp [skipT]
  | k + 1 => by
    unfold skipT
    rw [skip_at rs j k, List.take_add_one]
    cases hk : rs[k]? with
    | none => simp
    | some r =>
      have hlt := (List.getElem?_eq_some_iff.1 hk).1
      have hl : (rs.take k).length = k := by rw [List.length_take]; omega
      simp only [Option.toList_some]
      generalize rs.take k = M at *
      by_cases e : (k : Int) = (j : Int)
      · have e2 : k = j := by omega
        subst e2
        rw [if_pos rfl, List.append_nil, List.take_append_of_le_length (by omega), List.drop_eq_nil_of_le (by omega), List.drop_eq_nil_of_le (by rw [List.length_append, hl]; simp)]
      · rw [if_neg e]
        by_cases h2 : k < j
        · have d1 : M.drop (j + 1) = [] := List.drop_eq_nil_of_le (by omega)
          have d2 : (M ++ [r]).drop (j + 1) = [] := List.drop_eq_nil_of_le (by rw [List.length_append, hl]; simp; omega)
          rw [List.take_of_length_le (l := M) (by omega), List.take_of_length_le (l := M ++ [r]) (by rw [List.length_append, hl]; simp; omega), d1, d2]
          simp
        · rw [List.take_append_of_le_length (by omega), List.drop_append_of_le_length (by omega), List.append_assoc]
/-- without the row at a hook -/
theorem skip_rest {rs : List Rr} {f : Fp} (hn : NdA (abR rs)) : abR (skipT rs (atI rs f) rs.length) = restA (abR rs) f := by
  rcases at_cases rs f with ⟨hno, hi⟩ | ⟨k, r, hk, he, hi, _⟩
  · rw [hi, skip_none, List.take_length]
    unfold restA
    rw [List.filter_eq_self.2 (fun x hx => ?_)]
    obtain ⟨y, hy, rfl⟩ := List.mem_map.1 hx
    exact decide_eq_true (hno y hy)
  · rw [hi, skip_at, List.take_length]
    have hlt := (List.getElem?_eq_some_iff.1 hk).1
    have e : rs = rs.take k ++ r :: rs.drop (k + 1) := by
      rw [← (List.getElem?_eq_some_iff.1 hk).2, ← List.drop_eq_getElem_cons hlt, List.take_append_drop]
    have h2 := hn
    unfold NdA abR at h2
    rw [e, List.map_append, List.map_append, List.map_cons, List.map_cons, List.nodup_append] at h2
    obtain ⟨_, h3, h4⟩ := h2
    conv => rhs; rw [e]
    unfold restA abR
    rw [List.map_append, List.map_append, List.map_cons, List.filter_append, List.filter_cons_of_neg (by simp [he])]
    congr 1
    · refine (List.filter_eq_self.2 ?_).symm
      intro x hx
      rw [decide_eq_true_eq]
      intro q
      exact h4 x.1 (List.mem_map.2 ⟨x, hx, rfl⟩) r.f (by simp) (by rw [q, he])
    · refine (List.filter_eq_self.2 ?_).symm
      intro x hx
      rw [decide_eq_true_eq]
      intro q
      refine (List.nodup_cons.1 h3).1 ?_
      show r.f ∈ _
      rw [he, ← q]
      exact List.mem_map.2 ⟨x, hx, rfl⟩
theorem IdsT.grown_wb {T : Nat → Prop} {W W' : World} {wb ph mo c : Nat} {A B : Option Addr} {rs : List Rr} {l : List Id} (h : Ref T W wb ph mo A c rs) (hl : IdsT T W B l) (hg : W.grownBy W' (some wb)) : IdsT T W' B l := fun hne => by
  obtain ⟨b, o, e, h1, h2, h3⟩ := hl hne
  exact ⟨b, o, e, Nat.lt_of_lt_of_le h1 hg.size, h2, range_grown h3 hg (fun q => ids_not_wb h hne h3 (by injection q with q; exact q.symm))⟩
set_option maxRecDepth 100000 in
set_option maxHeartbeats 4000000 in
theorem rlook20 {T : Nat → Prop} {W : World} {wb ph mo c : Nat} {A : Option Addr} {rs : List Rr} {f : Fp} (h : Ref T W wb ph mo A c rs) (hf : IsFp f) (hn : rs.length ≤ 99999) (hnd : NdA (abR rs)) (hne : ∀ r ∈ rs, r.l ≠ []) :
    Calls Try.prog 20 #[.pointer (some ⟨wb, 0, none⟩), .agg (fpL f).toArray] W fun r W' => ∃ B d A' c' rs', r = .returned (.slice B (peekA (abR rs) f).length d) ∧ IdsT T W' B (peekA (abR rs) f) ∧ Ref T W' wb ph mo A' c' rs' ∧ abR rs' = lookA (abR rs) f ∧ (∀ r ∈ rs', r.l ≠ []) ∧ W.grownBy W' (some wb) := by
  have HB0 : Hid (Below W.heap.size W (W.alloc (.cells (fpL f).toArray 47))) := Lib.hid ((Below.refl _ _).alloc (Nat.le_refl _) _)
  have HC := Lib.hid (at36 (h.below HB0.out) hf)
  obtain ⟨b0, hb0⟩ : ∃ b0, b0 = W.heap.size := ⟨_, rfl⟩
  have HR0 : Hid ((W.alloc (.cells (fpL f).toArray 47)).rangeAt b0 0 (fpL f)) := Lib.hid (box_range (by rw [hb0]; exact heap_alloc_new _ _))
  have HH0 := Lib.hid h
  have HH := Lib.hid (h.below HB0.out)
  have HIX := Lib.hid (info29f hf)
  have HNE := Lib.hid hne
  have HSR := Lib.hid (skip_rest (f := f) hnd)
  have hnum := h.num
  clear h hf hnd hne
  go_enter Try.func20, Try.ntmps20
  go_upto_region 1 with fail
  rw [← hb0]
  clear hb0
  generalize W.alloc (.cells (fpL f).toArray 47) = W1 at *
  rcases at_cases rs f with ⟨hno, hi⟩ | ⟨k, r, hk, he, hi, hn2⟩
  · have HP := Lib.hid (peekR_none hno)
    have HLA : Hid (lookA (abR rs) f = abR rs) := Lib.hid (if_pos (peekR_none hno))
    rw [hi] at HC
    clear hno hi HSR
    go_wp2_with ((with_reducible refine wpList_load_mid (op := ⟨some 8, _, _, _, _, _⟩) rfl 47 (.tmp 3) rfl b0 0 ?_ (fpL f) _ HR0.out Try.underlying47 rfl HIX.out ?_); rfl)
    refine Calls.mono HC.out ?_
    rintro _ W2 ⟨rfl, hb⟩
    have HB2 := Lib.hid (HB0.out.trans (hb.mono HB0.out.size))
    clear hb HC
    go_wp2_with fail
    go_ret
    exact ⟨none, 0, A, c, rs, by rw [HP.out]; rfl, by rw [HP.out]; exact fun q => absurd rfl q, HH0.out.below HB2.out, HLA.out.symm, HNE.out, grown_fresh HB2.out⟩
  · have HP := Lib.hid (peekR_hit hk he hn2)
    have HOKW := Lib.hid (HH.out.ok r (List.mem_of_getElem? hk))
    have hrne := HNE.out r (List.mem_of_getElem? hk)
    have HLA : Hid (lookA (abR rs) f = restA (abR rs) f ++ [(r.f, r.l)]) := Lib.hid (by
      unfold lookA
      rw [peekR_hit hk he hn2, if_neg hrne, he])
    rw [hi] at HC HSR
    have HRK := Lib.hid hk
    have HE := Lib.hid he
    have hlt := (List.getElem?_eq_some_iff.1 hk).1
    have hk0 : ¬ (k : Int) < 0 := by omega
    have hk00 : (0 : Int) ≤ (k : Int) := by omega
    have hk1 : (k : Int) < (rs.length : Int) := by omega
    have HI0 : Hid ((Try.prog.info? 74).map (·.size) = some (rrL r).length) := Lib.hid (by rw [rrL_len HOKW.out]; exact info74s)
    have HI2 : Hid ((Try.prog.info? 74).map (·.size) = some (rrL r).toArray.size) := Lib.hid (by rw [List.size_toArray]; exact HI0.out)
    have HS2 : Hid ((#[Value.int .u8 0, Value.int .u8 0, Value.int .u8 0, Value.int .u8 0, Value.int .u8 0, Value.int .u8 0, Value.int .u8 0, Value.int .u8 0, Value.int .u8 0, Value.int .u8 0, Value.int .u8 0, Value.int .u8 0, Value.int .u8 0, Value.int .u8 0, Value.int .u8 0, Value.int .u8 0, Value.int .u8 0, Value.int .u8 0, Value.int .u8 0, Value.int .u8 0, Value.int .u8 0, Value.int .u8 0, Value.int .u8 0, Value.int .u8 0, Value.int .u8 0, Value.int .u8 0, Value.int .u8 0, Value.int .u8 0, Value.int .u8 0, Value.int .u8 0, Value.int .u8 0, Value.int .u8 0, Value.slice none 0 0] : Array Value).size = (rrL r).toArray.size) := Lib.hid (by rw [show (rrL r).toArray.size = 33 by rw [List.size_toArray, rrL_len HOKW.out]]; rfl)
    have HON : Hid ((rrL r).toArray.all (·.oneCell') = true) := Lib.hid (all_oneCell_toArray rrL_one)
    clear hk he hn2 hi hrne
    go_wp2_with ((with_reducible refine wpList_load_mid (op := ⟨some 8, _, _, _, _, _⟩) rfl 47 (.tmp 3) rfl b0 0 ?_ (fpL f) _ HR0.out Try.underlying47 rfl HIX.out ?_); rfl)
    refine Calls.mono HC.out ?_
    rintro _ W2 ⟨rfl, hb⟩
    have HB2 := Lib.hid (HB0.out.trans (hb.mono HB0.out.size))
    have HH2 := Lib.hid (HH.out.below hb)
    clear hb HC
    obtain ⟨ab, ao, rfl, _, _, cr, hrg⟩ := HH2.out.get HRK.out
    have HRG := Lib.hid hrg
    have c2 := HH2.out.c.2.2
    have HB3 : Hid (Below W2.heap.size W2 (W2.alloc (.cells (rrL r).toArray 74))) := Lib.hid ((Below.refl _ _).alloc (Nat.le_refl _) _)
    have HRB := Lib.hid (range_new2 W2 (rrL r) 74)
    have HC37 := Lib.hid (last37 (i := (k : Int)) (HH2.out.below HB3.out) ((HH2.out.ok r (List.mem_of_getElem? HRK.out)).below HB3.out) hn)
    clear hrg
    go_wp2_with (first
      | ((with_reducible refine wpList_load_mid (op := ⟨some 18, _, _, _, _, _⟩) rfl 74 (.tmp 17) rfl ab (ao + k * 33) ?_ (rrL r) _ HRG.out Try.underlying74 rfl HI0.out ?_); rfl)
      | ((with_reducible refine wpList_store_new (op := ⟨none, .store _ _ _, _, _, _, _⟩) rfl 74 (.tmp 6) (.tmp 18) rfl _ (rrL r).toArray ?_ ?_ HI2.out HS2.out HON.out ?_); rfl; rfl)
      | ((with_reducible refine wpList_load_mid (op := ⟨some 21, _, _, _, _, _⟩) rfl 74 (.tmp 6) rfl W2.heap.size 0 ?_ (rrL r) _ HRB.out Try.underlying74 rfl HI0.out ?_); rfl))
    refine Calls.mono HC37.out ?_
    rintro _ W4 ⟨rfl, ⟨A4, c4, hr4⟩, hg4⟩
    have hwb := lt_of_block HH2.out.hd
    have cb : W4.cell? ⟨W2.heap.size, 32, none⟩ = some (.slice r.A r.l.length r.c) := hg4.cell (by
      have := HRB.out 32 (.slice r.A r.l.length r.c) (by unfold rrL; rw [List.getElem?_append_right (by rw [fpL_length HOKW.out.fp]; omega), fpL_length HOKW.out.fp]; rfl)
      rwa [Nat.zero_add] at this) (fun q => by injection q with q; simp only at q; omega)
    have HG4 := Lib.hid hg4
    have HR4 := Lib.hid hr4
    have HB4 := Lib.hid (HB2.out.trans (HB3.out.mono HB2.out.size))
    clear hg4 hr4 hwb
    go_wp2_with fail
    go_ret
    refine ⟨r.A, r.c, A4, c4, skipT rs (k : Int) rs.length ++ [r], by rw [HP.out]; rfl, ?_, HR4.out, ?_, fun x hx => ?_, (grown_fresh HB4.out).andThen HG4.out (fun j q => .inr q)⟩
    · rw [HP.out]
      exact (HR4.out.ok r (by simp)).ids
    · rw [HLA.out, ← HSR.out]
      unfold abR
      rw [List.map_append]
      rfl
    · rcases List.mem_append.1 hx with hx | hx
      · exact HNE.out x (skip_mem _ _ _ x hx)
      · rw [List.mem_singleton] at hx
        subst hx
        exact HNE.out x (List.mem_of_getElem? HRK.out)
end Go.Proofs.Ytnpgfhoagpeelaa
