/- The walk over the law of texts that are read. -/
import Derived.Test.YtjakkmioofbcaaaDoorJ10
namespace Go.Proofs.YtjakkmioofbcaaaDoor
open Go.RowKit
theorem fresh_range (w : World) (cs : List Value) (t : TypeId) : ∀ W, Below (w.heap.size + 1) (w.alloc (.cells cs.toArray t)) W → W.rangeAt w.heap.size 0 cs := fun _ hb => range_of_row ((hb.block _ (by omega)).trans (heap_alloc_new w _))
def scOf (x : Option ScT × Nat × Int) : ScT := match x with
  | (none, _, _) => (0, 0, c0, [])
  | (some s, _, _) => s
theorem give_open {x : Option ScT × Nat × Int} {e : Ending} {w : World} (h : GiveSc x e w) : ∃ A k, Sts w (.slice A (scOf x).2.2.2.length k) (scOf x).2.2.2 ∧ (∀ s ∈ (scOf x).2.2.2, Fits s) ∧ e = .returned (.tuple #[.agg (scL (scOf x).1 (scOf x).2.1 (scOf x).2.2.1 (.slice A (scOf x).2.2.2.length k)).toArray, .int .i64 x.2.1, .int .i64 x.2.2]) := by
  obtain ⟨o, n, er⟩ := x
  cases o with
  | none => exact ⟨none, 0, Sts.nil _, fun s hs => absurd hs (by simp [scOf]), h⟩
  | some s =>
    obtain ⟨a, b, c, l⟩ := s
    obtain ⟨V, h1, h2, h3⟩ := h
    obtain ⟨A, k, e⟩ := h1.1
    subst e
    exact ⟨A, k, h1, h2, h3⟩
theorem readGo_len : ∀ (ls : List (List UInt8)) (acc : List St) (i : Nat) (st : List St) (n : Nat) (er : Int), readGo ls acc i = (some st, n, er) → st.length = acc.length + ls.length
  | [], acc, i, st, n, er, h => by
    rw [readGo] at h
    injection h with h
    injection h with h
    rw [← h]
    simp
  | x :: r, acc, i, st, n, er, h => by
    rw [readGo] at h
    split at h
    · have := readGo_len r _ _ st n er h
      rw [this]
      simp
      omega
    · injection h with h
      cases h
theorem lines_le (l : List UInt8) : (splitL 10 l).length ≤ l.length + 1 := by
  have h1 := count_len 10 _ l (Nat.le_refl _)
  have h2 : Lib.count l [10] ≤ l.length := by
    have := Lib.countB_le (str [10]) (by decide) _ (str l) (Nat.le_refl _)
    rw [str_size] at this
    exact this
  omega
theorem steps_le (l : List UInt8) : (scOf (readP l)).2.2.2.length ≤ l.length := by
  have hl := Nat.le_trans (lines_le (trimL l)) (Nat.succ_le_succ (trim_len l))
  unfold readP readLs
  generalize splitL 10 (trimL l) = ls at *
  split
  · exact Nat.zero_le _
  · split
    · exact Nat.zero_le _
    · cases hg : readGo ls.tail [] 0 with
      | mk st r =>
        obtain ⟨n, er⟩ := r
        cases st with
        | none => exact Nat.zero_le _
        | some st =>
          have := readGo_len _ _ _ _ _ _ hg
          show st.length ≤ _
          rw [this]
          simp
          omega

set_option maxRecDepth 100000 in
set_option maxHeartbeats 4000000 in
theorem reads3 (l : List UInt8) (w : World) (hlg : Lg w) (hl : l.length ≤ maxLen) : Calls Tryd.prog 3 #[.string (str l)] w fun e w' => e = .returned (.bool true) ∧ Below w.heap.size w w' := by
  unfold maxLen at hl
  have hsz : (str l).size = l.length := str_size l
  obtain ⟨l2, hl2⟩ : ∃ l2 : List UInt8, l2 = l.take 200000 := ⟨_, rfl⟩
  have h3 : l2.length ≤ 200000 := by rw [hl2]; simp; omega
  have HL2 := Lib.hid hl2
  have HL3 := Lib.hid h3
  have HP : Hid (Calls Tryd.prog 5 #[.string (str l2)] w fun e w' => GiveSc (readP l2) e w' ∧ Below w.heap.size w w') := Lib.hid (read5 l2 (by omega) w hlg)
  have HR : Hid (∀ W, Calls Tryd.prog 6 #[.string (str l2)] W fun e w' => GiveSc (readP l2) e w' ∧ Below W.heap.size W w') := Lib.hid (fun W => by rw [← read_both]; exact rread6 l2 (by omega) W)
  have HLEN : Hid ((scOf (readP l2)).2.2.2.length ≤ 1000000) := Lib.hid (Nat.le_trans (steps_le l2) (by omega))
  have hsz2 : (str l2).size = l2.length := str_size l2
  generalize readP l2 = x at *
  clear hl2
  by_cases h7 : 200000 < l.length
  case' pos =>
    have hx : (str l).extract 0 200000 = str l2 := by rw [str_extract, HL2.out]; rfl
  case' neg =>
    obtain rfl : l2 = l := by rw [HL2.out, List.take_of_length_le (by omega)]
  all_goals
    clear HL2 HL3 h3
    go_enter Tryd.func3, Tryd.ntmps3
    go_wp2_with fail
    refine Calls.mono HP.out ?_
    rintro e w3 ⟨hgv, hb3⟩
    obtain ⟨A1, k1, hs1, hf1, rfl⟩ := give_open hgv
    have HB3 := Lib.hid hb3
    have HS1 := Lib.hid hs1
    have HF1 := Lib.hid hf1
    obtain ⟨a, ha⟩ : ∃ a, (scOf x).1 = a := ⟨_, rfl⟩
    obtain ⟨b, hb⟩ : ∃ a, (scOf x).2.1 = a := ⟨_, rfl⟩
    obtain ⟨c, hc⟩ : ∃ a, (scOf x).2.2.1 = a := ⟨_, rfl⟩
    obtain ⟨st, hst⟩ : ∃ a, (scOf x).2.2.2 = a := ⟨_, rfl⟩
    obtain ⟨nn, hnn⟩ : ∃ a : Int, (x.2.1 : Int) = a := ⟨_, rfl⟩
    obtain ⟨er, her⟩ : ∃ a, x.2.2 = a := ⟨_, rfl⟩
    have HEQ : Hid ((scOf x).1 = a ∧ (scOf x).2.1 = b ∧ (scOf x).2.2.1 = c ∧ (scOf x).2.2.2 = st ∧ (x.2.1 : Int) = nn ∧ x.2.2 = er) := Lib.hid ⟨ha, hb, hc, hst, hnn, her⟩
    rw [hst] at HS1 HF1 HLEN
    rw [ha, hb, hc, hst, hnn, her]
    clear hgv hs1 hf1 hb3 ha hb hc hst hnn her
    have HTH : Hid (∀ W, Calls Tryd.prog 8 #[.agg (scL a b c (.slice A1 st.length k1)).toArray] W fun e w' => e = .returned (.agg (scL a b c (.slice A1 st.length k1)).toArray) ∧ Below W.heap.size W w') := Lib.hid (fun W => theirs8 a b c A1 st.length k1 W)
    have HSMX : Hid (∀ W A2 k2, Below w3.heap.size w3 W → Sts W (.slice A2 st.length k2) st → Calls Tryd.prog 7 #[.agg (scL a b c (.slice A1 st.length k1)).toArray, .agg (scL a b c (.slice A2 st.length k2)).toArray] W fun e w' => e = .returned (.bool true) ∧ Below W.heap.size W w') := Lib.hid (fun W A2 k2 hb h2 => rsamescript7 a b c _ _ st W (HS1.out.below hb) h2 HF1.out HLEN.out)
    have HI1 : Hid ((Tryd.prog.info? 26).map (·.size) = some (scL a b c (.slice A1 st.length k1)).length) := Lib.hid info26
    have HI12 : Hid ((Tryd.prog.info? 26).map (·.size) = some (scL a b c (.slice A1 st.length k1)).toArray.size) := Lib.hid info26
    have HZ1 : Hid ((#[.int .i64 0, .int .i64 0, .int .i64 0, .int .i64 0, .int .i64 0, .int .i64 0, .int .i64 0, .int .i64 0, .int .i64 0, .int .i64 0, .int .i64 0, .int .i64 0, .int .i64 0, .int .i64 0, .int .i64 0, .slice none 0 0] : Array Value).size = (scL a b c (.slice A1 st.length k1)).toArray.size) := Lib.hid rfl
    have HO1 : Hid ((scL a b c (.slice A1 st.length k1)).toArray.all (·.oneCell') = true) := Lib.hid (scL_one _ _ _ _ _ _)
    generalize scL a b c (.slice A1 st.length k1) = SL1 at *
    have HRW := Lib.hid (fresh_range w3 SL1 26)
    have HB4 : Hid (Below w.heap.size w (w3.alloc (.cells SL1.toArray 26))) := Lib.hid (HB3.out.alloc HB3.out.size _)
    have HB34 : Hid (Below w3.heap.size w3 (w3.alloc (.cells SL1.toArray 26))) := Lib.hid ((Below.refl _ _).alloc (Nat.le_refl _) _)
    go_wp2_with ((with_reducible refine wpList_store_new (op := ⟨none, _, _, _, _, _⟩) rfl 26 (.tmp 3) (.tmp 17) rfl w3.heap.size _ SL1.toArray rfl ?_ ?_ HI12.out HZ1.out HO1.out ?_); rfl; rfl)
    refine Calls.mono (HR.out _) ?_
    rintro e w5 ⟨hgv, hb5⟩
    obtain ⟨A2, k2, hs2, hf2, rfl⟩ := give_open hgv
    have HS2 := Lib.hid hs2
    obtain ⟨ha, hb, hc, hst, hnn, her⟩ := HEQ.out
    rw [hst] at HS2
    rw [ha, hb, hc, hst, hnn, her]
    have HB5 : Hid (Below (w3.heap.size + 1) (w3.alloc (.cells SL1.toArray 26)) w5) := Lib.hid (hb5.mono (by simp))
    have HB35 : Hid (Below w3.heap.size w3 w5) := Lib.hid (HB34.out.trans (HB5.out.mono (by omega)))
    clear hgv hs2 hf2 hb5 ha hb hc hst hnn her HEQ
    have HSM0 : Hid (∀ W, Below w5.heap.size w5 W → Calls Tryd.prog 7 #[.agg SL1.toArray, .agg (scL a b c (.slice A2 st.length k2)).toArray] W fun e w' => e = .returned (.bool true) ∧ Below W.heap.size W w') := Lib.hid (fun W hb => HSMX.out W A2 k2 (HB35.out.trans (hb.mono HB35.out.size)) (HS2.out.below hb))
    have HI2 : Hid ((Tryd.prog.info? 30).map (·.size) = some (scL a b c (.slice A2 st.length k2)).length) := Lib.hid infoR
    have HI22 : Hid ((Tryd.prog.info? 30).map (·.size) = some (scL a b c (.slice A2 st.length k2)).toArray.size) := Lib.hid infoR
    have HZ2 : Hid ((#[.int .i64 0, .int .i64 0, .int .i64 0, .int .i64 0, .int .i64 0, .int .i64 0, .int .i64 0, .int .i64 0, .int .i64 0, .int .i64 0, .int .i64 0, .int .i64 0, .int .i64 0, .int .i64 0, .int .i64 0, .slice none 0 0] : Array Value).size = (scL a b c (.slice A2 st.length k2)).toArray.size) := Lib.hid rfl
    have HO2 : Hid ((scL a b c (.slice A2 st.length k2)).toArray.all (·.oneCell') = true) := Lib.hid (scL_one _ _ _ _ _ _)
    generalize scL a b c (.slice A2 st.length k2) = SL2 at *
    obtain ⟨W6, hW6⟩ : ∃ W, w5.alloc (.cells SL2.toArray 30) = W := ⟨_, rfl⟩
    have HW6 := Lib.hid hW6
    have HB56 : Hid (Below w5.heap.size w5 W6) := Lib.hid (by rw [← hW6]; exact (Below.refl _ _).alloc (Nat.le_refl _) _)
    have HSM : Hid (∀ W, Below W6.heap.size W6 W → Calls Tryd.prog 7 #[.agg SL1.toArray, .agg SL2.toArray] W fun e w' => e = .returned (.bool true) ∧ Below W.heap.size W w') := Lib.hid (fun W hb => HSM0.out W (HB56.out.trans (hb.mono HB56.out.size)))
    have HR1 : Hid (∀ W, Below W6.heap.size W6 W → W.rangeAt w3.heap.size 0 SL1) := Lib.hid (fun W hb => HRW.out W (HB5.out.trans ((HB56.out.trans (hb.mono HB56.out.size)).mono (by have := HB5.out.size; simp at this; omega))))
    have HR2 : Hid (∀ W, Below W6.heap.size W6 W → W.rangeAt w5.heap.size 0 SL2) := Lib.hid (fun W hb => fresh_range w5 SL2 30 W (by rw [HW6.out]; exact hb.mono (by rw [← HW6.out]; simp)))
    have HBF : Hid (Below w.heap.size w W6) := Lib.hid (HB3.out.trans ((HB35.out.trans (HB56.out.mono HB35.out.size)).mono HB3.out.size))
    clear hW6
    go_wp2_with ((with_reducible refine wpList_store_new (op := ⟨none, _, _, _, _, _⟩) rfl 30 (.tmp 6) (.tmp 23) rfl w5.heap.size _ SL2.toArray rfl ?_ ?_ HI22.out HZ2.out HO2.out ?_); rfl; rfl)
    rw [HW6.out]
    refine wp_region_held_drew (S := Below W6.heap.size W6) (by kernel_rfl) (below_drew (Below.refl _ _)) (fun hSx => ?_)
    refine wpAnyH_take (i := 0) (oi := ⟨some 26, _, _, _, _, none⟩) (v := .agg SL1.toArray) rfl (by kernel_rfl) (by kernel_rfl) (by kernel_rfl) (fun _ _ _ h => h) (yieldsIf_load_mid (by kernel_rfl) 26 (.tmp 3) rfl w3.heap.size 0 rfl SL1 _ (fun W hW => HR1.out W hW) Tryd.underlying26 rfl HI1.out) hSx ?_
    try simp only [Act.put, List.setIfInBounds_toArray]
    refine wpAnyH_take (i := 2) (oi := ⟨some 28, _, _, _, _, none⟩) (v := .agg SL2.toArray) rfl (by kernel_rfl) (by kernel_rfl) (by kernel_rfl) (fun _ _ _ h => h) (yieldsIf_load_mid (by kernel_rfl) 30 (.tmp 6) rfl w5.heap.size 0 rfl SL2 _ (fun W hW => HR2.out W hW) Tryd.underlying30 rfl HI2.out) hSx ?_
    try simp only [Act.put, List.setIfInBounds_toArray]
    refine wpAnyH_ready (rs := [1]) (by kernel_rfl) (by simp) ?_
    refine AllReadyH.cons (o := ⟨some 27, _, _, _, _, none⟩) rfl (fun KK hKK => ?_) AllReadyH.nil
    go_simp
    refine (HTH.out _).mono ?_
    rintro e wz ⟨rfl, hbz⟩
    refine hKK.out _ _ (Below.trans hSx (hbz.mono (Below.size hSx))) (fun hSy => ?_)
    clear hKK hSx
    have hSx := hSy
    clear hSy KK
    try simp only [Act.put, List.setIfInBounds_toArray, List.set_cons_zero, List.set_cons_succ]
    refine wpAnyH_ready (rs := [3]) (by kernel_rfl) (by simp) ?_
    refine AllReadyH.cons (o := ⟨some 29, _, _, _, _, none⟩) rfl (fun KK hKK => ?_) AllReadyH.nil
    go_simp
    refine (HSM.out _ hSx).mono ?_
    rintro e wz ⟨rfl, hbz⟩
    refine hKK.out _ _ (Below.trans hSx (hbz.mono (Below.size hSx))) (fun hSy => ?_)
    clear hKK hSx
    have hSx := hSy
    clear hSy KK
    try simp only [Act.put, List.setIfInBounds_toArray, List.set_cons_zero, List.set_cons_succ]
    refine wpAnyH_take (i := 4) (oi := ⟨some 30, _, _, _, _, none⟩) (v := .bool true) rfl (by kernel_rfl) (by kernel_rfl) (by kernel_rfl) (fun _ _ _ h => h) (Or.inl ⟨by kernel_rfl, ?_⟩) hSx ?_
    · intro wx hSx2; clear hSx; go_simp
    try simp only [Act.put, List.setIfInBounds_toArray]
    refine wpAnyH_take (i := 5) (oi := ⟨some 31, _, _, _, _, some (4, true)⟩) (v := .int .i64 nn) rfl (by kernel_rfl) (by kernel_rfl) (by kernel_rfl) (fun _ _ _ h => h) (Or.inl ⟨by kernel_rfl, ?_⟩) hSx ?_
    · intro wx hSx2; clear hSx; go_simp
    try simp only [Act.put, List.setIfInBounds_toArray]
    refine wpAnyH_take (i := 6) (oi := ⟨some 32, _, _, _, _, some (4, true)⟩) (v := .int .i64 nn) rfl (by kernel_rfl) (by kernel_rfl) (by kernel_rfl) (fun _ _ _ h => h) (Or.inl ⟨by kernel_rfl, ?_⟩) hSx ?_
    · intro wx hSx2; clear hSx; go_simp
    try simp only [Act.put, List.setIfInBounds_toArray]
    refine wpAnyH_take (i := 7) (oi := ⟨some 33, _, _, _, _, some (4, true)⟩) (v := .bool true) rfl (by kernel_rfl) (by kernel_rfl) (by kernel_rfl) (fun _ _ _ h => h) (Or.inl ⟨by kernel_rfl, ?_⟩) hSx ?_
    · intro wx hSx2; clear hSx; go_simp
    try simp only [Act.put, List.setIfInBounds_toArray]
    refine wpAnyH_take (i := 8) (oi := ⟨some 34, _, _, _, _, none⟩) (v := .bool true) rfl (by kernel_rfl) (by kernel_rfl) (by kernel_rfl) (fun _ _ _ h => h) (Or.inl ⟨by kernel_rfl, ?_⟩) hSx ?_
    · intro wx hSx2; clear hSx; go_simp
    try simp only [Act.put, List.setIfInBounds_toArray]
    refine wpAnyH_take (i := 9) (oi := ⟨some 35, _, _, _, _, none⟩) (v := .bool true) rfl (by kernel_rfl) (by kernel_rfl) (by kernel_rfl) (fun _ _ _ h => h) (Or.inl ⟨by kernel_rfl, ?_⟩) hSx ?_
    · intro wx hSx2; clear hSx; go_simp
    try simp only [Act.put, List.setIfInBounds_toArray]
    refine wpAnyH_take (i := 10) (oi := ⟨some 36, _, _, _, _, some (9, true)⟩) (v := .int .i64 er) rfl (by kernel_rfl) (by kernel_rfl) (by kernel_rfl) (fun _ _ _ h => h) (Or.inl ⟨by kernel_rfl, ?_⟩) hSx ?_
    · intro wx hSx2; clear hSx; go_simp
    try simp only [Act.put, List.setIfInBounds_toArray]
    refine wpAnyH_take (i := 11) (oi := ⟨some 37, _, _, _, _, some (9, true)⟩) (v := .int .i64 er) rfl (by kernel_rfl) (by kernel_rfl) (by kernel_rfl) (fun _ _ _ h => h) (Or.inl ⟨by kernel_rfl, ?_⟩) hSx ?_
    · intro wx hSx2; clear hSx; go_simp
    try simp only [Act.put, List.setIfInBounds_toArray]
    refine wpAnyH_take (i := 12) (oi := ⟨some 38, _, _, _, _, some (9, true)⟩) (v := .bool true) rfl (by kernel_rfl) (by kernel_rfl) (by kernel_rfl) (fun _ _ _ h => h) (Or.inl ⟨by kernel_rfl, ?_⟩) hSx ?_
    · intro wx hSx2; clear hSx; go_simp
    try simp only [Act.put, List.setIfInBounds_toArray]
    refine wpAnyH_take (i := 13) (oi := ⟨some 39, _, _, _, _, none⟩) (v := .bool true) rfl (by kernel_rfl) (by kernel_rfl) (by kernel_rfl) (fun _ _ _ h => h) (Or.inl ⟨by kernel_rfl, ?_⟩) hSx ?_
    · intro wx hSx2; clear hSx; go_simp
    try simp only [Act.put, List.setIfInBounds_toArray]
    refine wpAnyH_take (i := 14) (oi := ⟨some 40, _, _, _, _, none⟩) (v := .bool true) rfl (by kernel_rfl) (by kernel_rfl) (by kernel_rfl) (fun _ _ _ h => h) (Or.inl ⟨by kernel_rfl, ?_⟩) hSx ?_
    · intro wx hSx2; clear hSx; go_simp
    try simp only [Act.put, List.setIfInBounds_toArray]
    refine wpAnyH_ready (rs := [15]) (by kernel_rfl) (by simp) ?_
    refine AllReadyH.cons (o := ⟨some 41, _, _, _, _, some (14, true)⟩) rfl (fun KK hKK => ?_) AllReadyH.nil
    go_simp
    refine (awake7 _).mono ?_
    rintro e wz ⟨rfl, hbz⟩
    refine hKK.out _ _ (Below.trans hSx (hbz.mono (Below.size hSx))) (fun hSy => ?_)
    clear hKK hSx
    have hSx := hSy
    clear hSy KK
    try simp only [Act.put, List.setIfInBounds_toArray, List.set_cons_zero, List.set_cons_succ]
    refine wpAnyH_take (i := 16) (oi := ⟨some 42, _, _, _, _, none⟩) (v := .bool true) rfl (by kernel_rfl) (by kernel_rfl) (by kernel_rfl) (fun _ _ _ h => h) (Or.inl ⟨by kernel_rfl, ?_⟩) hSx ?_
    · intro wx hSx2; clear hSx; go_simp
    try simp only [Act.put, List.setIfInBounds_toArray]
    refine wpAnyH_take (i := 17) (oi := ⟨some 2, _, _, _, _, none⟩) (v := .bool true) rfl (by kernel_rfl) (by kernel_rfl) (by kernel_rfl) (fun _ _ _ h => h) (Or.inl ⟨by kernel_rfl, ?_⟩) hSx ?_
    · intro wx hSx2; clear hSx; go_simp
    try simp only [Act.put, List.setIfInBounds_toArray]
    refine wpAnyH_done (by kernel_rfl) ?_ _
    go_wp2_with fail
    go_ret
    exact ⟨rfl, HBF.out.trans (hSx.mono HBF.out.size)⟩
end Go.Proofs.YtjakkmioofbcaaaDoor
