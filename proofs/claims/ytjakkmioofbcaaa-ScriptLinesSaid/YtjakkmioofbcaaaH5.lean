/- The walk over the law of steps as lines. -/
import Derived.Test.YtjakkmioofbcaaaH4
namespace Go.Proofs.Ytjakkmioofbcaaa
open Go.RowKit
/-- two steps in their boxes, g and g + 1 -/
structure Two (w : World) (LA LB : List Value) (KA KB : Value) (ka kb : List Bool) (W : World) : Prop where
  ba : W.heap[w.heap.size]? = some (.cells LA.toArray 30 (0, 0))
  bb : W.heap[w.heap.size + 1]? = some (.cells LB.toArray 30 (0, 0))
  sz : w.heap.size + 1 < W.heap.size
  bw : Below w.heap.size w W
  ka : Kp W KA ka
  kb : Kp W KB kb
theorem Two.below {w W W' : World} {LA LB : List Value} {KA KB : Value} {ka kb : List Bool} (h : Two w LA LB KA KB ka kb W) (hb : Below W.heap.size W W') : Two w LA LB KA KB ka kb W' :=
  ⟨(hb.block _ (by have := h.sz; omega)).trans h.ba, (hb.block _ h.sz).trans h.bb, Nat.lt_of_lt_of_le h.sz hb.size, h.bw.trans (hb.mono h.bw.size), h.ka.below hb, h.kb.below hb⟩
theorem Two.drew {w W : World} {LA LB : List Value} {KA KB : Value} {ka kb : List Bool} (h : Two w LA LB KA KB ka kb W) : Two w LA LB KA KB ka kb W.drew :=
  h.below ⟨rfl, rfl, rfl, Nat.le_refl _, fun _ _ => rfl⟩
theorem Two.ra {w W : World} {LA LB : List Value} {KA KB : Value} {ka kb : List Bool} (h : Two w LA LB KA KB ka kb W) : W.rangeAt w.heap.size 0 LA := range_of_row h.ba
theorem Two.rb {w W : World} {LA LB : List Value} {KA KB : Value} {ka kb : List Bool} (h : Two w LA LB KA KB ka kb W) : W.rangeAt (w.heap.size + 1) 0 LB := range_of_row h.bb

theorem may_len {s : St} (h : mayB s = true) : (lineL s).length ≤ 65536 := by
  simp only [mayB, Bool.and_eq_true, decide_eq_true_eq] at h
  exact h.2
set_option maxRecDepth 100000 in
set_option maxHeartbeats 8000000 in
theorem lines4_true (s t : St) (op : Int) (A B : Option Addr) (ca cb : Nat) (w : World) (hlg : Lg w) (hka : Kp w (.slice A s.kp.length ca) s.kp) (hkb : Kp w (.slice B t.kp.length cb) t.kp)
    (hca : s.kp.length ≤ ca) (hcb : t.kp.length ≤ cb) (hma : ca ≤ maxLen) (hmb : cb ≤ maxLen) (hsn : s.nm.length ≤ maxLen) (hsd : s.dt.length ≤ maxLen) (htn : t.nm.length ≤ maxLen) (htd : t.dt.length ≤ maxLen) (hm : mayB (fewS s) = true) :
    Calls Try.prog 4 #[.agg (s.A (.slice A s.kp.length ca)), .agg (t.A (.slice B t.kp.length cb)), .int .i64 op] w fun e w' => e = .returned (.bool true) ∧ Below w.heap.size w w' := by
  have HF1 : Hid (∀ W, Kp W (.slice A s.kp.length ca) s.kp → Calls Try.prog 10 #[.agg (s.L (.slice A s.kp.length ca)).toArray] W fun e w' => GiveFew (fewS s) e w' ∧ Below W.heap.size W w') := Lib.hid (fun W hk => few10 s A ca W hk hca hma hsn hsd)
  have HF2 : Hid (∀ W, Kp W (.slice B t.kp.length cb) t.kp → Calls Try.prog 10 #[.agg (t.L (.slice B t.kp.length cb)).toArray] W fun e w' => GiveFew (fewS t) e w' ∧ Below W.heap.size W w') := Lib.hid (fun W hk => few10 t B cb W hk hcb hmb htn htd)
  have HKA := Lib.hid hka
  have HKB := Lib.hid hkb
  have HLG := Lib.hid hlg
  have HFS := Lib.hid (fits_few s)
  have HFT := Lib.hid (fits_few t)
  have HM := Lib.hid hm
  clear hka hkb hca hcb hma hmb hsn hsd htn htd hlg hm
  rw [show s.A (.slice A s.kp.length ca) = (s.L (.slice A s.kp.length ca)).toArray from rfl, show t.A (.slice B t.kp.length cb) = (t.L (.slice B t.kp.length cb)).toArray from rfl]
  have HNA : Hid (∀ (W : World) (g : Nat), W.heap[g]? = some (.cells (s.L (.slice A s.kp.length ca)).toArray 30 (0, 0)) → ∀ (j : Nat) (x : Bool), W.cell? ⟨g, j, none⟩ ≠ some (.bool x)) := Lib.hid (fun _ _ h => zero_nb h)
  have HNB : Hid (∀ (W : World) (g : Nat), W.heap[g]? = some (.cells (t.L (.slice B t.kp.length cb)).toArray 30 (0, 0)) → ∀ (j : Nat) (x : Bool), W.cell? ⟨g, j, none⟩ ≠ some (.bool x)) := Lib.hid (fun _ _ h => zero_nb h)
  have HIA0 : Hid ((Try.prog.info? 30).map (·.size) = some (s.L (.slice A s.kp.length ca)).length) := Lib.hid info30
  have HIB0 : Hid ((Try.prog.info? 30).map (·.size) = some (t.L (.slice B t.kp.length cb)).length) := Lib.hid info30
  have HSZA : Hid ((s.L (.slice A s.kp.length ca)).toArray.size = 19) := Lib.hid rfl
  have HSZB : Hid ((t.L (.slice B t.kp.length cb)).toArray.size = 19) := Lib.hid rfl
  generalize s.L (.slice A s.kp.length ca) = LA0 at *
  generalize t.L (.slice B t.kp.length cb) = LB0 at *
  generalize hEs : fewS s = s' at *
  generalize hEt : fewS t = t' at *
  clear hEs hEt
  have HW0 : Hid (∃ W, (w.alloc (.cells LA0.toArray 30)).alloc (.cells LB0.toArray 30) = W) := Lib.hid ⟨_, rfl⟩
  obtain ⟨W0, hW0⟩ := HW0.out
  have H0A : Hid (W0.heap[w.heap.size]? = some (.cells LA0.toArray 30 (0, 0))) := Lib.hid (by rw [← hW0]; exact (Below.heap_alloc _ _ _ (by simp)).trans (heap_alloc_new w _))
  have H0B : Hid (W0.heap[w.heap.size + 1]? = some (.cells LB0.toArray 30 (0, 0))) := Lib.hid (by
    rw [← hW0]
    have := heap_alloc_new (w.alloc (.cells LA0.toArray 30)) (.cells LB0.toArray 30)
    rw [World.size_alloc] at this
    exact this)
  have H0S : Hid (W0.heap.size = w.heap.size + 2) := Lib.hid (by rw [← hW0]; simp)
  have H0W : Hid (Below w.heap.size w W0) := Lib.hid (by rw [← hW0]; exact ((Below.refl _ _).alloc (Nat.le_refl _) _).alloc (by simp) _)
  have HWW := Lib.hid hW0
  clear hW0 HW0
  go_enter Try.func4, Try.ntmps4
  go_upto_region 1 with (fail)
  rw [HWW.out]
  clear HWW
  have HR0A := Lib.hid (range_of_row H0A.out)
  go_wp2_with ((with_reducible refine wpList_load_midg (op := ⟨some 11, _, _, _, _, _⟩) ?_ 30 (.tmp 3) rfl w.heap.size 0 ?_ LA0 _ HR0A.out Try.underlying30 rfl HIA0.out ?_); kernel_rfl; rfl)
  refine Calls.mono (HF1.out _ (HKA.out.below H0W.out)) ?_
  rintro e W1 ⟨⟨A1, c1, hk1, rfl⟩, hb1⟩
  obtain ⟨LA, hLA⟩ : ∃ L, s'.L (.slice A1 s'.kp.length c1) = L := ⟨_, rfl⟩
  have HLA := Lib.hid hLA
  have HIA : Hid ((Try.prog.info? 30).map (·.size) = some LA.length) := Lib.hid (by rw [← hLA]; exact info30)
  have HIA2 : Hid ((Try.prog.info? 30).map (·.size) = some LA.toArray.size) := Lib.hid (by rw [← hLA]; exact info30)
  have HSA : Hid (LA0.toArray.size = LA.toArray.size) := Lib.hid (by rw [← hLA]; exact HSZA.out)
  have HOA : Hid (LA.toArray.all (·.oneCell') = true) := Lib.hid (by rw [← hLA]; exact stL_one _ _ _ _ _ _ _ _ _)
  rw [hLA]
  have H1A : Hid (W1.heap[w.heap.size]? = some (.cells LA0.toArray 30 (0, 0))) := Lib.hid ((hb1.block _ (by rw [H0S.out]; omega)).trans H0A.out)
  have H1B : Hid (W1.heap[w.heap.size + 1]? = some (.cells LB0.toArray 30 (0, 0))) := Lib.hid ((hb1.block _ (by rw [H0S.out]; omega)).trans H0B.out)
  have H1W : Hid (Below w.heap.size w W1) := Lib.hid (H0W.out.trans (hb1.mono H0W.out.size))
  have H1S : Hid (w.heap.size + 1 < W1.heap.size) := Lib.hid (by have := hb1.size; rw [H0S.out] at this; omega)
  have HK1 : Hid (Kp (W1.setRow w.heap.size LA.toArray) (.slice A1 s'.kp.length c1) s'.kp) := Lib.hid (Kp.setRow hk1 (HNA.out _ _ H1A.out))
  have HKB1 : Hid (Kp (W1.setRow w.heap.size LA.toArray) (.slice B t.kp.length cb) t.kp) := Lib.hid (Kp.setRow (HKB.out.below H1W.out) (HNA.out _ _ H1A.out))
  have H2A : Hid ((W1.setRow w.heap.size LA.toArray).heap[w.heap.size]? = some (.cells LA.toArray 30 (0, 0))) := Lib.hid (setRow_heap _ _ _ _ _ _ H1A.out)
  have H2B : Hid ((W1.setRow w.heap.size LA.toArray).heap[w.heap.size + 1]? = some (.cells LB0.toArray 30 (0, 0))) := Lib.hid ((setRow_other _ _ _ _ (by omega)).trans H1B.out)
  have H2W : Hid (Below w.heap.size w (W1.setRow w.heap.size LA.toArray)) := Lib.hid (below_setRow H1W.out (Nat.le_refl _) _)
  have H2S : Hid (w.heap.size + 1 < (W1.setRow w.heap.size LA.toArray).heap.size) := Lib.hid (by simpa [World.setRow] using H1S.out)
  have HR2B := Lib.hid (range_of_row H2B.out)
  clear hk1 hb1 hLA
  go_wp2_with (first
    | ((with_reducible refine wpList_store_row (o := ⟨none, _, _, _, _, _⟩) rfl 30 (.tmp 3) (.tmp 12) rfl w.heap.size LA.toArray ?_ ?_ 30 _ H1A.out HIA2.out HSA.out HOA.out ?_); rfl; rfl)
    | ((with_reducible refine wpList_load_midg (op := ⟨some 13, _, _, _, _, _⟩) ?_ 30 (.tmp 4) rfl (w.heap.size + 1) 0 ?_ LB0 _ HR2B.out Try.underlying30 rfl HIB0.out ?_); kernel_rfl; rfl))
  refine Calls.mono (HF2.out _ HKB1.out) ?_
  rintro e W3 ⟨⟨B3, c3, hk3, rfl⟩, hb3⟩
  obtain ⟨LB, hLB⟩ : ∃ L, t'.L (.slice B3 t'.kp.length c3) = L := ⟨_, rfl⟩
  have HLB := Lib.hid hLB
  have HIB : Hid ((Try.prog.info? 30).map (·.size) = some LB.length) := Lib.hid (by rw [← hLB]; exact info30)
  have HIB2 : Hid ((Try.prog.info? 30).map (·.size) = some LB.toArray.size) := Lib.hid (by rw [← hLB]; exact info30)
  have HSB : Hid (LB0.toArray.size = LB.toArray.size) := Lib.hid (by rw [← hLB]; exact HSZB.out)
  have HOB : Hid (LB.toArray.all (·.oneCell') = true) := Lib.hid (by rw [← hLB]; exact stL_one _ _ _ _ _ _ _ _ _)
  rw [hLB]
  have H3A : Hid (W3.heap[w.heap.size]? = some (.cells LA.toArray 30 (0, 0))) := Lib.hid ((hb3.block _ (by have := H2S.out; omega)).trans H2A.out)
  have H3B : Hid (W3.heap[w.heap.size + 1]? = some (.cells LB0.toArray 30 (0, 0))) := Lib.hid ((hb3.block _ H2S.out).trans H2B.out)
  have HT : Hid (Two w LA LB (.slice A1 s'.kp.length c1) (.slice B3 t'.kp.length c3) s'.kp t'.kp (W3.setRow (w.heap.size + 1) LB.toArray)) := Lib.hid
    ⟨(setRow_other _ _ _ _ (by omega)).trans H3A.out, setRow_heap _ _ _ _ _ _ H3B.out, by have := hb3.size; have h2 := H2S.out; simp only [World.setRow, Array.size_modify] at this h2 ⊢; omega, below_setRow (H2W.out.trans (hb3.mono H2W.out.size)) (by omega) _,
     Kp.setRow (HK1.out.below hb3) (HNB.out _ _ H3B.out), Kp.setRow hk3 (HNB.out _ _ H3B.out)⟩
  have HLGW : Hid (∀ W, Two w LA LB (.slice A1 s'.kp.length c1) (.slice B3 t'.kp.length c3) s'.kp t'.kp W → Lg W) := Lib.hid (fun W h => HLG.out.below HLG.out.1 (h.bw))
  clear hk3 hb3 hLB
  have H9 : Hid (∀ W, Two w LA LB (.slice A1 s'.kp.length c1) (.slice B3 t'.kp.length c3) s'.kp t'.kp W → Calls Try.prog 9 #[.agg LA.toArray] W fun e w' => e = .returned (.tuple #[.string (str (lineL s')), .int .i64 0]) ∧ Two w LA LB (.slice A1 s'.kp.length c1) (.slice B3 t'.kp.length c3) s'.kp t'.kp w') := Lib.hid (fun W h => by
    have := line9 s' A1 c1 W h.ka HFS.out
    rw [show s'.A (.slice A1 s'.kp.length c1) = LA.toArray from congrArg List.toArray HLA.out, lineV, HM.out] at this
    exact this.mono fun e w' q => ⟨q.1, h.below q.2⟩)
  have H11 : Hid (∀ W, Two w LA LB (.slice A1 s'.kp.length c1) (.slice B3 t'.kp.length c3) s'.kp t'.kp W → Calls Try.prog 11 #[.agg LA.toArray] W fun e w' => e = .returned (.int .i64 0) ∧ Two w LA LB (.slice A1 s'.kp.length c1) (.slice B3 t'.kp.length c3) s'.kp t'.kp w') := Lib.hid (fun W h => by
    have := check11 s' A1 c1 W h.ka HFS.out
    rw [show s'.A (.slice A1 s'.kp.length c1) = LA.toArray from congrArg List.toArray HLA.out, HM.out] at this
    exact this.mono fun e w' q => ⟨q.1, h.below q.2⟩)
  have H12 : Hid (∀ W, Two w LA LB (.slice A1 s'.kp.length c1) (.slice B3 t'.kp.length c3) s'.kp t'.kp W → Calls Try.prog 12 #[.agg LA.toArray, .agg LB.toArray] W fun e w' => e = .returned (.bool (sameB s' t')) ∧ Two w LA LB (.slice A1 s'.kp.length c1) (.slice B3 t'.kp.length c3) s'.kp t'.kp w') := Lib.hid (fun W h => by
    have := same12 s' t' A1 B3 c1 c3 W h.ka h.kb (by have := HFS.out.2.2; omega) (by have := HFT.out.2.2; omega)
    rw [show s'.A (.slice A1 s'.kp.length c1) = LA.toArray from congrArg List.toArray HLA.out, show t'.A (.slice B3 t'.kp.length c3) = LB.toArray from congrArg List.toArray HLB.out] at this
    exact this.mono fun e w' q => ⟨q.1, h.below q.2⟩)
  have H6 : Hid (∀ W, Two w LA LB (.slice A1 s'.kp.length c1) (.slice B3 t'.kp.length c3) s'.kp t'.kp W → Calls Try.prog 6 #[.agg LA.toArray, .agg LB.toArray] W fun e w' => e = .returned (.bool (sameB s' t')) ∧ Two w LA LB (.slice A1 s'.kp.length c1) (.slice B3 t'.kp.length c3) s'.kp t'.kp w') := Lib.hid (fun W h => by
    have := rsame6 s' t' A1 B3 c1 c3 W h.ka h.kb (by have := HFS.out.2.2; omega) (by have := HFT.out.2.2; omega)
    rw [show s'.A (.slice A1 s'.kp.length c1) = LA.toArray from congrArg List.toArray HLA.out, show t'.A (.slice B3 t'.kp.length c3) = LB.toArray from congrArg List.toArray HLB.out] at this
    exact this.mono fun e w' q => ⟨q.1, h.below q.2⟩)
  have HAA : Hid (∀ W, Two w LA LB (.slice A1 s'.kp.length c1) (.slice B3 t'.kp.length c3) s'.kp t'.kp W → Calls Try.prog 12 #[.agg LA.toArray, .agg LA.toArray] W fun e w' => e = .returned (.bool true) ∧ Two w LA LB (.slice A1 s'.kp.length c1) (.slice B3 t'.kp.length c3) s'.kp t'.kp w') := Lib.hid (fun W h => by
    have := same12 s' s' A1 A1 c1 c1 W h.ka h.ka (by have := HFS.out.2.2; omega) (by have := HFS.out.2.2; omega)
    rw [show s'.A (.slice A1 s'.kp.length c1) = LA.toArray from congrArg List.toArray HLA.out, sameB_self] at this
    exact this.mono fun e w' q => ⟨q.1, h.below q.2⟩)
  have H13 : Hid (∀ W, Two w LA LB (.slice A1 s'.kp.length c1) (.slice B3 t'.kp.length c3) s'.kp t'.kp W → Calls Try.prog 13 #[.int .i64 op] W fun e w' => e = .returned (.string (str (wordL op))) ∧ Two w LA LB (.slice A1 s'.kp.length c1) (.slice B3 t'.kp.length c3) s'.kp t'.kp w') := Lib.hid (fun W h => (word13 op W).mono fun e w' q => ⟨q.1, by rw [q.2]; exact h⟩)
  have H14 : Hid (∀ W, Two w LA LB (.slice A1 s'.kp.length c1) (.slice B3 t'.kp.length c3) s'.kp t'.kp W → Calls Try.prog 14 #[.int .i64 op] W fun e w' => e = .returned (.string (str (wordL op))) ∧ Two w LA LB (.slice A1 s'.kp.length c1) (.slice B3 t'.kp.length c3) s'.kp t'.kp w') := Lib.hid (fun W h => (rword14 op W).mono fun e w' q => ⟨q.1, h.below q.2⟩)
  have H7 : Hid (∀ W, Two w LA LB (.slice A1 s'.kp.length c1) (.slice B3 t'.kp.length c3) s'.kp t'.kp W → Calls Try.prog 7 #[] W fun e w' => e = .returned (.bool true) ∧ Two w LA LB (.slice A1 s'.kp.length c1) (.slice B3 t'.kp.length c3) s'.kp t'.kp w') := Lib.hid (fun W h => (awake7 W).mono fun e w' q => ⟨q.1, h.below q.2⟩)
  have H15 : Hid (∀ W, Two w LA LB (.slice A1 s'.kp.length c1) (.slice B3 t'.kp.length c3) s'.kp t'.kp W → Calls Try.prog 15 #[.agg LA.toArray] W fun e w' => e = .returned (.bool true) ∧ Two w LA LB (.slice A1 s'.kp.length c1) (.slice B3 t'.kp.length c3) s'.kp t'.kp w') := Lib.hid (fun W h => by
    have := rmay15 s' A1 c1 W h.ka HFS.out
    rw [show s'.A (.slice A1 s'.kp.length c1) = LA.toArray from congrArg List.toArray HLA.out, may_eq, HM.out] at this
    exact this.mono fun e w' q => ⟨q.1, h.below q.2⟩)
  have H16 : Hid (∀ W, Two w LA LB (.slice A1 s'.kp.length c1) (.slice B3 t'.kp.length c3) s'.kp t'.kp W → Calls Try.prog 16 #[.agg LA.toArray] W fun e w' => e = .returned (.string (str (lineL s'))) ∧ Two w LA LB (.slice A1 s'.kp.length c1) (.slice B3 t'.kp.length c3) s'.kp t'.kp w' ∧ Below W.heap.size W w') := Lib.hid (fun W h => by
    have := rline16 s' A1 c1 W h.ka HFS.out (just_k (may_just HM.out).1) (fun _ => ⟨(may_just HM.out).2.1.1, by have := (may_just HM.out).2.1.2; omega⟩) (fun _ => (may_just HM.out).2.2)
    rw [show s'.A (.slice A1 s'.kp.length c1) = LA.toArray from congrArg List.toArray HLA.out] at this
    exact this.mono fun e w' q => ⟨q.1, h.below q.2, q.2⟩)
  have H5 : Hid (∀ W, Two w LA LB (.slice A1 s'.kp.length c1) (.slice B3 t'.kp.length c3) s'.kp t'.kp W → Calls Try.prog 5 #[.string (str (lineL s'))] W fun e w' => GiveSt s' e w' (.int .i64 0) ∧ Below W.heap.size W w') := Lib.hid (fun W h => by
    have hl : (lineL s').length ≤ 65536 := may_len HM.out
    have := parse5 (lineL s') (by omega) W (HLGW.out W h)
    rw [parseS, parseE, if_neg (by omega), if_neg (by omega), line_parse HM.out] at this
    exact this)
  have H6Z : Hid (∀ W, Two w LA LB (.slice A1 s'.kp.length c1) (.slice B3 t'.kp.length c3) s'.kp t'.kp W → ∀ C c, Kp W (.slice C s'.kp.length c) s'.kp → Calls Try.prog 6 #[.agg (s'.L (.slice C s'.kp.length c)).toArray, .agg LA.toArray] W fun e w' => e = .returned (.bool true) ∧ Two w LA LB (.slice A1 s'.kp.length c1) (.slice B3 t'.kp.length c3) s'.kp t'.kp w') := Lib.hid (fun W h C c hk => by
    have := rsame6 s' s' C A1 c c1 W hk h.ka (by have := HFS.out.2.2; omega) (by have := HFS.out.2.2; omega)
    rw [show s'.A (.slice A1 s'.kp.length c1) = LA.toArray from congrArg List.toArray HLA.out, sameB_self] at this
    exact this.mono fun e w' q => ⟨q.1, h.below q.2⟩)
  have hll : ((str (lineL s')).toList == (str (lineL s')).toList) = true := by simp
  have HKS : Hid (∀ (A : Option Addr) (c : Nat), ∃ L, s'.L (.slice A s'.kp.length c) = L ∧ ((Try.prog.info? 30).map (·.size) = some L.length) ∧ ((Try.prog.info? 30).map (·.size) = some L.toArray.size) ∧ ((#[.int .i64 0, .int .i64 0, .string ⟨#[]⟩, .string ⟨#[]⟩, .int .i64 0, .slice none 0 0, .int .i64 0, .int .i64 0, .int .i64 0, .int .i64 0, .int .i64 0, .int .i64 0, .int .i64 0, .int .i64 0, .int .i64 0, .int .i64 0, .int .i64 0, .int .i64 0, .int .i64 0] : Array Value).size = L.toArray.size) ∧ (L.toArray.all (·.oneCell') = true)) := Lib.hid (fun A c => ⟨_, rfl, info30, info30, rfl, stL_one _ _ _ _ _ _ _ _ _⟩)
  have HSR : Hid (∀ W, Two w LA LB (.slice A1 s'.kp.length c1) (.slice B3 t'.kp.length c3) s'.kp t'.kp W → W.rangeAt w.heap.size 0 LA) := Lib.hid (fun W h => h.ra)
  have HSQ : Hid (∀ W, Two w LA LB (.slice A1 s'.kp.length c1) (.slice B3 t'.kp.length c3) s'.kp t'.kp W → W.rangeAt (w.heap.size + 1) 0 LB) := Lib.hid (fun W h => h.rb)
  have HSD : Hid (∀ W, Two w LA LB (.slice A1 s'.kp.length c1) (.slice B3 t'.kp.length c3) s'.kp t'.kp W → Two w LA LB (.slice A1 s'.kp.length c1) (.slice B3 t'.kp.length c3) s'.kp t'.kp W.drew) := Lib.hid (fun W h => h.drew)
  have HSN : Hid (∀ W W', Two w LA LB (.slice A1 s'.kp.length c1) (.slice B3 t'.kp.length c3) s'.kp t'.kp W → Below W.heap.size W W' → Two w LA LB (.slice A1 s'.kp.length c1) (.slice B3 t'.kp.length c3) s'.kp t'.kp W') := Lib.hid (fun W W' h hb => h.below hb)
  have HSW : Hid (∀ W, Two w LA LB (.slice A1 s'.kp.length c1) (.slice B3 t'.kp.length c3) s'.kp t'.kp W → Below w.heap.size w W) := Lib.hid (fun W h => h.bw)
  generalize hS : Two w LA LB (.slice A1 s'.kp.length c1) (.slice B3 t'.kp.length c3) s'.kp t'.kp = S at *
  have hrr : (sameB s' t' != sameB s' t') = false := by simp
  have hww : ((str (wordL op)).toList != (str (wordL op)).toList) = false := by simp
  generalize sameB s' t' = rr at *
  generalize wordL op = ww at *
  generalize hls : lineL s' = ls at *
  clear hls
  clear hS HLG HKA HKB HF1 HF2 HNA HNB HIA0 HIB0 HSZA HSZB H0A H0B H0S H0W HR0A H1A H1B H1W H1S HK1 HKB1 H2A H2B H2W H2S HR2B H3A HFT HLGW HLA HLB HSA HOA HIA2
  go_wp2_with (first
    | ((with_reducible refine wpList_store_row (o := ⟨none, _, _, _, _, _⟩) rfl 30 (.tmp 4) (.tmp 14) rfl (w.heap.size + 1) LB.toArray ?_ ?_ 30 _ H3B.out HIB2.out HSB.out HOB.out ?_); rfl; rfl)
    | ((with_reducible refine wpList_load_midg (op := ⟨some 16, _, _, _, _, _⟩) ?_ 30 (.tmp 3) rfl w.heap.size 0 ?_ LA _ (HSR.out _ HT.out) Try.underlying30 rfl HIA.out ?_); kernel_rfl; rfl)
    | (go_at_call 9; (with_reducible refine (H9.out _ HT.out).mono ?_); rintro e W5 ⟨rfl, hT⟩; have HT5 := Lib.hid hT; clear hT))
  refine wp_region_held_drew (S := S) (by kernel_rfl) (HSD.out _ HT5.out) (fun hSx => ?_)
  refine wpAnyH_take (i := 0) (oi := ⟨some 20, _, _, _, _, none⟩) (v := .agg LA.toArray) rfl (by kernel_rfl) (by kernel_rfl) (by kernel_rfl) (fun _ _ _ h => h) (yieldsIf_load_mid (by kernel_rfl) 30 (.tmp 3) rfl w.heap.size 0 rfl LA _ (fun W hW => HSR.out W hW) Try.underlying30 rfl HIA.out) hSx ?_
  try simp only [Act.put, List.setIfInBounds_toArray]
  refine wpAnyH_take (i := 2) (oi := ⟨some 22, _, _, _, _, none⟩) (v := .int .i64 0) rfl (by kernel_rfl) (by kernel_rfl) (by kernel_rfl) (fun _ _ _ h => h) (Or.inl ⟨by kernel_rfl, ?_⟩) hSx ?_
  · intro wx hSx2; clear hSx; go_simp
  try simp only [Act.put, List.setIfInBounds_toArray]
  refine wpAnyH_ready (rs := [1]) (by kernel_rfl) (by simp) ?_
  refine AllReadyH.cons (o := ⟨some 21, _, _, _, _, none⟩) rfl (fun KK hKK => ?_) AllReadyH.nil
  go_simp
  refine (H11.out _ hSx).mono ?_
  rintro e wz ⟨rfl, hSz⟩
  refine hKK.out _ _ hSz (fun hSy => ?_)
  clear hKK hSx hSz
  have hSx := hSy
  clear hSy KK
  try simp only [Act.put, List.setIfInBounds_toArray, List.set_cons_zero, List.set_cons_succ]
  refine wpAnyH_take (i := 3) (oi := ⟨some 23, _, _, _, _, none⟩) (v := .bool false) rfl (by kernel_rfl) (by kernel_rfl) (by kernel_rfl) (fun _ _ _ h => h) (Or.inl ⟨by kernel_rfl, ?_⟩) hSx ?_
  · intro wx hSx2; clear hSx; go_simp
  try simp only [Act.put, List.setIfInBounds_toArray]
  refine wpAnyH_take (i := 4) (oi := ⟨some 24, _, _, _, _, none⟩) (v := .bool false) rfl (by kernel_rfl) (by kernel_rfl) (by kernel_rfl) (fun _ _ _ h => h) (Or.inl ⟨by kernel_rfl, ?_⟩) hSx ?_
  · intro wx hSx2; clear hSx; go_simp
  try simp only [Act.put, List.setIfInBounds_toArray]
  refine wpAnyH_take (i := 5) (oi := ⟨some 25, _, _, _, _, some (4, false)⟩) (v := .agg LA.toArray) rfl (by kernel_rfl) (by kernel_rfl) (by kernel_rfl) (fun _ _ _ h => h) (yieldsIf_load_mid (by kernel_rfl) 30 (.tmp 3) rfl w.heap.size 0 rfl LA _ (fun W hW => HSR.out W hW) Try.underlying30 rfl HIA.out) hSx ?_
  try simp only [Act.put, List.setIfInBounds_toArray]
  refine wpAnyH_take (i := 6) (oi := ⟨some 26, _, _, _, _, some (4, false)⟩) (v := .agg LB.toArray) rfl (by kernel_rfl) (by kernel_rfl) (by kernel_rfl) (fun _ _ _ h => h) (yieldsIf_load_mid (by kernel_rfl) 30 (.tmp 4) rfl (w.heap.size + 1) 0 rfl LB _ (fun W hW => HSQ.out W hW) Try.underlying30 rfl HIB.out) hSx ?_
  try simp only [Act.put, List.setIfInBounds_toArray]
  refine wpAnyH_take (i := 8) (oi := ⟨some 28, _, _, _, _, some (4, false)⟩) (v := .agg LA.toArray) rfl (by kernel_rfl) (by kernel_rfl) (by kernel_rfl) (fun _ _ _ h => h) (yieldsIf_load_mid (by kernel_rfl) 30 (.tmp 3) rfl w.heap.size 0 rfl LA _ (fun W hW => HSR.out W hW) Try.underlying30 rfl HIA.out) hSx ?_
  try simp only [Act.put, List.setIfInBounds_toArray]
  refine wpAnyH_take (i := 9) (oi := ⟨some 29, _, _, _, _, some (4, false)⟩) (v := .agg LB.toArray) rfl (by kernel_rfl) (by kernel_rfl) (by kernel_rfl) (fun _ _ _ h => h) (yieldsIf_load_mid (by kernel_rfl) 30 (.tmp 4) rfl (w.heap.size + 1) 0 rfl LB _ (fun W hW => HSQ.out W hW) Try.underlying30 rfl HIB.out) hSx ?_
  try simp only [Act.put, List.setIfInBounds_toArray]
  refine wpAnyH_ready (rs := [7]) (by kernel_rfl) (by simp) ?_
  refine AllReadyH.cons (o := ⟨some 27, _, _, _, _, some (4, false)⟩) rfl (fun KK hKK => ?_) AllReadyH.nil
  go_simp
  refine (H12.out _ hSx).mono ?_
  rintro e wz ⟨rfl, hSz⟩
  refine hKK.out _ _ hSz (fun hSy => ?_)
  clear hKK hSx hSz
  have hSx := hSy
  clear hSy KK
  try simp only [Act.put, List.setIfInBounds_toArray, List.set_cons_zero, List.set_cons_succ]
  refine wpAnyH_ready (rs := [10]) (by kernel_rfl) (by simp) ?_
  refine AllReadyH.cons (o := ⟨some 30, _, _, _, _, some (4, false)⟩) rfl (fun KK hKK => ?_) AllReadyH.nil
  go_simp
  refine (H6.out _ hSx).mono ?_
  rintro e wz ⟨rfl, hSz⟩
  refine hKK.out _ _ hSz (fun hSy => ?_)
  clear hKK hSx hSz
  have hSx := hSy
  clear hSy KK
  try simp only [Act.put, List.setIfInBounds_toArray, List.set_cons_zero, List.set_cons_succ]
  refine wpAnyH_take (i := 11) (oi := ⟨some 31, _, _, _, _, some (4, false)⟩) (v := .bool false) rfl (by kernel_rfl) (by kernel_rfl) (by kernel_rfl) (fun _ _ _ h => h) (Or.inl ⟨by kernel_rfl, ?_⟩) hSx ?_
  · intro wx hSx2; clear hSx; go_simp
  try simp only [Act.put, List.setIfInBounds_toArray]
  refine wpAnyH_take (i := 12) (oi := ⟨some 32, _, _, _, _, none⟩) (v := .bool false) rfl (by kernel_rfl) (by kernel_rfl) (by kernel_rfl) (fun _ _ _ h => h) (Or.inl ⟨by kernel_rfl, ?_⟩) hSx ?_
  · intro wx hSx2; clear hSx; go_simp
  try simp only [Act.put, List.setIfInBounds_toArray]
  refine wpAnyH_take (i := 13) (oi := ⟨some 33, _, _, _, _, none⟩) (v := .bool false) rfl (by kernel_rfl) (by kernel_rfl) (by kernel_rfl) (fun _ _ _ h => h) (Or.inl ⟨by kernel_rfl, ?_⟩) hSx ?_
  · intro wx hSx2; clear hSx; go_simp
  try simp only [Act.put, List.setIfInBounds_toArray]
  refine wpAnyH_take (i := 14) (oi := ⟨some 34, _, _, _, _, some (13, false)⟩) (v := .agg LA.toArray) rfl (by kernel_rfl) (by kernel_rfl) (by kernel_rfl) (fun _ _ _ h => h) (yieldsIf_load_mid (by kernel_rfl) 30 (.tmp 3) rfl w.heap.size 0 rfl LA _ (fun W hW => HSR.out W hW) Try.underlying30 rfl HIA.out) hSx ?_
  try simp only [Act.put, List.setIfInBounds_toArray]
  refine wpAnyH_take (i := 15) (oi := ⟨some 35, _, _, _, _, some (13, false)⟩) (v := .agg LA.toArray) rfl (by kernel_rfl) (by kernel_rfl) (by kernel_rfl) (fun _ _ _ h => h) (yieldsIf_load_mid (by kernel_rfl) 30 (.tmp 3) rfl w.heap.size 0 rfl LA _ (fun W hW => HSR.out W hW) Try.underlying30 rfl HIA.out) hSx ?_
  try simp only [Act.put, List.setIfInBounds_toArray]
  refine wpAnyH_ready (rs := [16]) (by kernel_rfl) (by simp) ?_
  refine AllReadyH.cons (o := ⟨some 36, _, _, _, _, some (13, false)⟩) rfl (fun KK hKK => ?_) AllReadyH.nil
  go_simp
  refine (HAA.out _ hSx).mono ?_
  rintro e wz ⟨rfl, hSz⟩
  refine hKK.out _ _ hSz (fun hSy => ?_)
  clear hKK hSx hSz
  have hSx := hSy
  clear hSy KK
  try simp only [Act.put, List.setIfInBounds_toArray, List.set_cons_zero, List.set_cons_succ]
  refine wpAnyH_take (i := 17) (oi := ⟨some 37, _, _, _, _, some (13, false)⟩) (v := .bool false) rfl (by kernel_rfl) (by kernel_rfl) (by kernel_rfl) (fun _ _ _ h => h) (Or.inl ⟨by kernel_rfl, ?_⟩) hSx ?_
  · intro wx hSx2; clear hSx; go_simp
  try simp only [Act.put, List.setIfInBounds_toArray]
  refine wpAnyH_take (i := 18) (oi := ⟨some 38, _, _, _, _, none⟩) (v := .bool false) rfl (by kernel_rfl) (by kernel_rfl) (by kernel_rfl) (fun _ _ _ h => h) (Or.inl ⟨by kernel_rfl, ?_⟩) hSx ?_
  · intro wx hSx2; clear hSx; go_simp
  try simp only [Act.put, List.setIfInBounds_toArray]
  refine wpAnyH_take (i := 19) (oi := ⟨some 39, _, _, _, _, none⟩) (v := .bool false) rfl (by kernel_rfl) (by kernel_rfl) (by kernel_rfl) (fun _ _ _ h => h) (Or.inl ⟨by kernel_rfl, ?_⟩) hSx ?_
  · intro wx hSx2; clear hSx; go_simp
  try simp only [Act.put, List.setIfInBounds_toArray]
  refine wpAnyH_take (i := 20) (oi := ⟨some 40, _, _, _, _, some (19, false)⟩) (v := .int .i64 op) rfl (by kernel_rfl) (by kernel_rfl) (by kernel_rfl) (fun _ _ _ h => h) (Or.inl ⟨by kernel_rfl, ?_⟩) hSx ?_
  · intro wx hSx2; clear hSx; go_simp
  try simp only [Act.put, List.setIfInBounds_toArray]
  refine wpAnyH_take (i := 22) (oi := ⟨some 42, _, _, _, _, some (19, false)⟩) (v := .int .i64 op) rfl (by kernel_rfl) (by kernel_rfl) (by kernel_rfl) (fun _ _ _ h => h) (Or.inl ⟨by kernel_rfl, ?_⟩) hSx ?_
  · intro wx hSx2; clear hSx; go_simp
  try simp only [Act.put, List.setIfInBounds_toArray]
  refine wpAnyH_ready (rs := [21]) (by kernel_rfl) (by simp) ?_
  refine AllReadyH.cons (o := ⟨some 41, _, _, _, _, some (19, false)⟩) rfl (fun KK hKK => ?_) AllReadyH.nil
  go_simp
  refine (H13.out _ hSx).mono ?_
  rintro e wz ⟨rfl, hSz⟩
  refine hKK.out _ _ hSz (fun hSy => ?_)
  clear hKK hSx hSz
  have hSx := hSy
  clear hSy KK
  try simp only [Act.put, List.setIfInBounds_toArray, List.set_cons_zero, List.set_cons_succ]
  refine wpAnyH_ready (rs := [23]) (by kernel_rfl) (by simp) ?_
  refine AllReadyH.cons (o := ⟨some 43, _, _, _, _, some (19, false)⟩) rfl (fun KK hKK => ?_) AllReadyH.nil
  go_simp
  refine (H14.out _ hSx).mono ?_
  rintro e wz ⟨rfl, hSz⟩
  refine hKK.out _ _ hSz (fun hSy => ?_)
  clear hKK hSx hSz
  have hSx := hSy
  clear hSy KK
  try simp only [Act.put, List.setIfInBounds_toArray, List.set_cons_zero, List.set_cons_succ]
  refine wpAnyH_take (i := 24) (oi := ⟨some 44, _, _, _, _, some (19, false)⟩) (v := .bool false) rfl (by kernel_rfl) (by kernel_rfl) (by kernel_rfl) (fun _ _ _ h => h) (Or.inl ⟨by kernel_rfl, ?_⟩) hSx ?_
  · intro wx hSx2; clear hSx; go_simp
  try simp only [Act.put, List.setIfInBounds_toArray]
  refine wpAnyH_take (i := 25) (oi := ⟨some 45, _, _, _, _, none⟩) (v := .bool false) rfl (by kernel_rfl) (by kernel_rfl) (by kernel_rfl) (fun _ _ _ h => h) (Or.inl ⟨by kernel_rfl, ?_⟩) hSx ?_
  · intro wx hSx2; clear hSx; go_simp
  try simp only [Act.put, List.setIfInBounds_toArray]
  refine wpAnyH_take (i := 26) (oi := ⟨some 46, _, _, _, _, none⟩) (v := .bool false) rfl (by kernel_rfl) (by kernel_rfl) (by kernel_rfl) (fun _ _ _ h => h) (Or.inl ⟨by kernel_rfl, ?_⟩) hSx ?_
  · intro wx hSx2; clear hSx; go_simp
  try simp only [Act.put, List.setIfInBounds_toArray]
  refine wpAnyH_ready (rs := [27]) (by kernel_rfl) (by simp) ?_
  refine AllReadyH.cons (o := ⟨some 47, _, _, _, _, some (26, false)⟩) rfl (fun KK hKK => ?_) AllReadyH.nil
  go_simp
  refine (H7.out _ hSx).mono ?_
  rintro e wz ⟨rfl, hSz⟩
  refine hKK.out _ _ hSz (fun hSy => ?_)
  clear hKK hSx hSz
  have hSx := hSy
  clear hSy KK
  try simp only [Act.put, List.setIfInBounds_toArray, List.set_cons_zero, List.set_cons_succ]
  refine wpAnyH_take (i := 28) (oi := ⟨some 48, _, _, _, _, some (26, false)⟩) (v := .bool false) rfl (by kernel_rfl) (by kernel_rfl) (by kernel_rfl) (fun _ _ _ h => h) (Or.inl ⟨by kernel_rfl, ?_⟩) hSx ?_
  · intro wx hSx2; clear hSx; go_simp
  try simp only [Act.put, List.setIfInBounds_toArray]
  refine wpAnyH_take (i := 29) (oi := ⟨some 49, _, _, _, _, none⟩) (v := .bool false) rfl (by kernel_rfl) (by kernel_rfl) (by kernel_rfl) (fun _ _ _ h => h) (Or.inl ⟨by kernel_rfl, ?_⟩) hSx ?_
  · intro wx hSx2; clear hSx; go_simp
  try simp only [Act.put, List.setIfInBounds_toArray]
  refine wpAnyH_done (by kernel_rfl) ?_ _
  have HT6 := Lib.hid hSx
  clear hSx
  go_wp2_with (first
    | ((with_reducible refine wpList_load_midg (op := ⟨some 50, _, _, _, _, _⟩) ?_ 30 (.tmp 3) rfl w.heap.size 0 ?_ LA _ (HSR.out _ HT6.out) Try.underlying30 rfl HIA.out ?_); kernel_rfl; rfl)
    | (go_at_call 15; (with_reducible refine (H15.out _ HT6.out).mono ?_); rintro e W7 ⟨rfl, hT⟩; have HT7 := Lib.hid hT; clear hT))
  refine Calls.mono (H5.out _ HT7.out) ?_
  rintro e W8 ⟨⟨C, c, hkc, hfc, rfl⟩, hb8⟩
  obtain ⟨M, hM, hi1, hi2, hos, hom⟩ := HKS.out C c
  have HIM := Lib.hid hi1
  have HIM2 := Lib.hid hi2
  have HOSM := Lib.hid hos
  have HOM := Lib.hid hom
  have HT8 : Hid (S W8) := Lib.hid (HSN.out _ _ HT7.out hb8)
  have HB9 : Hid (Below W8.heap.size W8 (W8.alloc (.cells M.toArray 30))) := Lib.hid ((Below.refl _ _).alloc (Nat.le_refl _) _)
  have HT9 : Hid (S (W8.alloc (.cells M.toArray 30))) := Lib.hid (HSN.out _ _ HT8.out HB9.out)
  have H6M : Hid (∀ W, S W → Below W8.heap.size W8 W → Calls Try.prog 6 #[.agg M.toArray, .agg LA.toArray] W fun e w' => e = .returned (.bool true) ∧ S w') := Lib.hid (fun W h hb => by
    have := H6Z.out W h C c (hkc.below hb)
    rwa [hM] at this)
  have HRW := Lib.hid (fresh_range W8 M 30)
  have HN16 : Hid (∀ W', Below W8.heap.size W8 W' → S W') := Lib.hid (fun W' hb => HSN.out _ _ HT8.out hb)
  rw [hM]
  clear hi1 hi2 hos hom hkc hfc hM hb8
  go_wp2_with (first
    | ((with_reducible refine wpList_store_new (op := ⟨none, _, _, _, _, _⟩) rfl 30 (.tmp 9) (.tmp 62) rfl W8.heap.size _ M.toArray rfl ?_ ?_ HIM2.out HOSM.out HOM.out ?_); rfl; rfl)
    | ((with_reducible refine wpList_load_midg (op := ⟨some 65, _, _, _, _, _⟩) ?_ 30 (.tmp 3) rfl w.heap.size 0 ?_ LA _ (HSR.out _ HT9.out) Try.underlying30 rfl HIA.out ?_); kernel_rfl; rfl)
    | (go_at_call 16; (with_reducible refine (H16.out _ HT9.out).mono ?_); rintro e W10 ⟨rfl, hT, hb⟩; have HT10 := Lib.hid hT; have HB10 : Hid (Below (W8.heap.size + 1) (W8.alloc (.cells M.toArray 30)) W10) := Lib.hid (hb.mono (by simp)); have HB10b : Hid (Below W8.heap.size W8 W10) := Lib.hid (HB9.out.trans (HB10.out.mono (by omega))); have HRM := Lib.hid (HRW.out _ HB10.out); clear hT hb)
    | ((with_reducible refine wpList_load_midg (op := ⟨some 73, _, _, _, _, _⟩) ?_ 30 (.tmp 9) rfl W8.heap.size 0 ?_ M _ HRM.out Try.underlying30 rfl HIM.out ?_); kernel_rfl; rfl)
    | ((with_reducible refine wpList_load_midg (op := ⟨some 74, _, _, _, _, _⟩) ?_ 30 (.tmp 3) rfl w.heap.size 0 ?_ LA _ (HSR.out _ HT10.out) Try.underlying30 rfl HIA.out ?_); kernel_rfl; rfl)
    | (go_at_call 6; (with_reducible refine (H6M.out _ HT10.out HB10b.out).mono ?_); rintro e W11 ⟨rfl, hT⟩; have HT11 := Lib.hid hT; clear hT))
  go_ret
  exact ⟨rfl, HSW.out _ HT11.out⟩
set_option maxRecDepth 100000 in
set_option maxHeartbeats 8000000 in
theorem lines4_false (s t : St) (op : Int) (A B : Option Addr) (ca cb : Nat) (w : World) (hlg : Lg w) (hka : Kp w (.slice A s.kp.length ca) s.kp) (hkb : Kp w (.slice B t.kp.length cb) t.kp)
    (hca : s.kp.length ≤ ca) (hcb : t.kp.length ≤ cb) (hma : ca ≤ maxLen) (hmb : cb ≤ maxLen) (hsn : s.nm.length ≤ maxLen) (hsd : s.dt.length ≤ maxLen) (htn : t.nm.length ≤ maxLen) (htd : t.dt.length ≤ maxLen) (hm : mayB (fewS s) = false) :
    Calls Try.prog 4 #[.agg (s.A (.slice A s.kp.length ca)), .agg (t.A (.slice B t.kp.length cb)), .int .i64 op] w fun e w' => e = .returned (.bool true) ∧ Below w.heap.size w w' := by
  have HF1 : Hid (∀ W, Kp W (.slice A s.kp.length ca) s.kp → Calls Try.prog 10 #[.agg (s.L (.slice A s.kp.length ca)).toArray] W fun e w' => GiveFew (fewS s) e w' ∧ Below W.heap.size W w') := Lib.hid (fun W hk => few10 s A ca W hk hca hma hsn hsd)
  have HF2 : Hid (∀ W, Kp W (.slice B t.kp.length cb) t.kp → Calls Try.prog 10 #[.agg (t.L (.slice B t.kp.length cb)).toArray] W fun e w' => GiveFew (fewS t) e w' ∧ Below W.heap.size W w') := Lib.hid (fun W hk => few10 t B cb W hk hcb hmb htn htd)
  have HKA := Lib.hid hka
  have HKB := Lib.hid hkb
  have HLG := Lib.hid hlg
  have HFS := Lib.hid (fits_few s)
  have HFT := Lib.hid (fits_few t)
  have HM := Lib.hid hm
  clear hka hkb hca hcb hma hmb hsn hsd htn htd hlg hm
  rw [show s.A (.slice A s.kp.length ca) = (s.L (.slice A s.kp.length ca)).toArray from rfl, show t.A (.slice B t.kp.length cb) = (t.L (.slice B t.kp.length cb)).toArray from rfl]
  have HNA : Hid (∀ (W : World) (g : Nat), W.heap[g]? = some (.cells (s.L (.slice A s.kp.length ca)).toArray 30 (0, 0)) → ∀ (j : Nat) (x : Bool), W.cell? ⟨g, j, none⟩ ≠ some (.bool x)) := Lib.hid (fun _ _ h => zero_nb h)
  have HNB : Hid (∀ (W : World) (g : Nat), W.heap[g]? = some (.cells (t.L (.slice B t.kp.length cb)).toArray 30 (0, 0)) → ∀ (j : Nat) (x : Bool), W.cell? ⟨g, j, none⟩ ≠ some (.bool x)) := Lib.hid (fun _ _ h => zero_nb h)
  have HIA0 : Hid ((Try.prog.info? 30).map (·.size) = some (s.L (.slice A s.kp.length ca)).length) := Lib.hid info30
  have HIB0 : Hid ((Try.prog.info? 30).map (·.size) = some (t.L (.slice B t.kp.length cb)).length) := Lib.hid info30
  have HSZA : Hid ((s.L (.slice A s.kp.length ca)).toArray.size = 19) := Lib.hid rfl
  have HSZB : Hid ((t.L (.slice B t.kp.length cb)).toArray.size = 19) := Lib.hid rfl
  generalize s.L (.slice A s.kp.length ca) = LA0 at *
  generalize t.L (.slice B t.kp.length cb) = LB0 at *
  generalize hEs : fewS s = s' at *
  generalize hEt : fewS t = t' at *
  clear hEs hEt
  have HW0 : Hid (∃ W, (w.alloc (.cells LA0.toArray 30)).alloc (.cells LB0.toArray 30) = W) := Lib.hid ⟨_, rfl⟩
  obtain ⟨W0, hW0⟩ := HW0.out
  have H0A : Hid (W0.heap[w.heap.size]? = some (.cells LA0.toArray 30 (0, 0))) := Lib.hid (by rw [← hW0]; exact (Below.heap_alloc _ _ _ (by simp)).trans (heap_alloc_new w _))
  have H0B : Hid (W0.heap[w.heap.size + 1]? = some (.cells LB0.toArray 30 (0, 0))) := Lib.hid (by
    rw [← hW0]
    have := heap_alloc_new (w.alloc (.cells LA0.toArray 30)) (.cells LB0.toArray 30)
    rw [World.size_alloc] at this
    exact this)
  have H0S : Hid (W0.heap.size = w.heap.size + 2) := Lib.hid (by rw [← hW0]; simp)
  have H0W : Hid (Below w.heap.size w W0) := Lib.hid (by rw [← hW0]; exact ((Below.refl _ _).alloc (Nat.le_refl _) _).alloc (by simp) _)
  have HWW := Lib.hid hW0
  clear hW0 HW0
  go_enter Try.func4, Try.ntmps4
  go_upto_region 1 with (fail)
  rw [HWW.out]
  clear HWW
  have HR0A := Lib.hid (range_of_row H0A.out)
  go_wp2_with ((with_reducible refine wpList_load_midg (op := ⟨some 11, _, _, _, _, _⟩) ?_ 30 (.tmp 3) rfl w.heap.size 0 ?_ LA0 _ HR0A.out Try.underlying30 rfl HIA0.out ?_); kernel_rfl; rfl)
  refine Calls.mono (HF1.out _ (HKA.out.below H0W.out)) ?_
  rintro e W1 ⟨⟨A1, c1, hk1, rfl⟩, hb1⟩
  obtain ⟨LA, hLA⟩ : ∃ L, s'.L (.slice A1 s'.kp.length c1) = L := ⟨_, rfl⟩
  have HLA := Lib.hid hLA
  have HIA : Hid ((Try.prog.info? 30).map (·.size) = some LA.length) := Lib.hid (by rw [← hLA]; exact info30)
  have HIA2 : Hid ((Try.prog.info? 30).map (·.size) = some LA.toArray.size) := Lib.hid (by rw [← hLA]; exact info30)
  have HSA : Hid (LA0.toArray.size = LA.toArray.size) := Lib.hid (by rw [← hLA]; exact HSZA.out)
  have HOA : Hid (LA.toArray.all (·.oneCell') = true) := Lib.hid (by rw [← hLA]; exact stL_one _ _ _ _ _ _ _ _ _)
  rw [hLA]
  have H1A : Hid (W1.heap[w.heap.size]? = some (.cells LA0.toArray 30 (0, 0))) := Lib.hid ((hb1.block _ (by rw [H0S.out]; omega)).trans H0A.out)
  have H1B : Hid (W1.heap[w.heap.size + 1]? = some (.cells LB0.toArray 30 (0, 0))) := Lib.hid ((hb1.block _ (by rw [H0S.out]; omega)).trans H0B.out)
  have H1W : Hid (Below w.heap.size w W1) := Lib.hid (H0W.out.trans (hb1.mono H0W.out.size))
  have H1S : Hid (w.heap.size + 1 < W1.heap.size) := Lib.hid (by have := hb1.size; rw [H0S.out] at this; omega)
  have HK1 : Hid (Kp (W1.setRow w.heap.size LA.toArray) (.slice A1 s'.kp.length c1) s'.kp) := Lib.hid (Kp.setRow hk1 (HNA.out _ _ H1A.out))
  have HKB1 : Hid (Kp (W1.setRow w.heap.size LA.toArray) (.slice B t.kp.length cb) t.kp) := Lib.hid (Kp.setRow (HKB.out.below H1W.out) (HNA.out _ _ H1A.out))
  have H2A : Hid ((W1.setRow w.heap.size LA.toArray).heap[w.heap.size]? = some (.cells LA.toArray 30 (0, 0))) := Lib.hid (setRow_heap _ _ _ _ _ _ H1A.out)
  have H2B : Hid ((W1.setRow w.heap.size LA.toArray).heap[w.heap.size + 1]? = some (.cells LB0.toArray 30 (0, 0))) := Lib.hid ((setRow_other _ _ _ _ (by omega)).trans H1B.out)
  have H2W : Hid (Below w.heap.size w (W1.setRow w.heap.size LA.toArray)) := Lib.hid (below_setRow H1W.out (Nat.le_refl _) _)
  have H2S : Hid (w.heap.size + 1 < (W1.setRow w.heap.size LA.toArray).heap.size) := Lib.hid (by simpa [World.setRow] using H1S.out)
  have HR2B := Lib.hid (range_of_row H2B.out)
  clear hk1 hb1 hLA
  go_wp2_with (first
    | ((with_reducible refine wpList_store_row (o := ⟨none, _, _, _, _, _⟩) rfl 30 (.tmp 3) (.tmp 12) rfl w.heap.size LA.toArray ?_ ?_ 30 _ H1A.out HIA2.out HSA.out HOA.out ?_); rfl; rfl)
    | ((with_reducible refine wpList_load_midg (op := ⟨some 13, _, _, _, _, _⟩) ?_ 30 (.tmp 4) rfl (w.heap.size + 1) 0 ?_ LB0 _ HR2B.out Try.underlying30 rfl HIB0.out ?_); kernel_rfl; rfl))
  refine Calls.mono (HF2.out _ HKB1.out) ?_
  rintro e W3 ⟨⟨B3, c3, hk3, rfl⟩, hb3⟩
  obtain ⟨LB, hLB⟩ : ∃ L, t'.L (.slice B3 t'.kp.length c3) = L := ⟨_, rfl⟩
  have HLB := Lib.hid hLB
  have HIB : Hid ((Try.prog.info? 30).map (·.size) = some LB.length) := Lib.hid (by rw [← hLB]; exact info30)
  have HIB2 : Hid ((Try.prog.info? 30).map (·.size) = some LB.toArray.size) := Lib.hid (by rw [← hLB]; exact info30)
  have HSB : Hid (LB0.toArray.size = LB.toArray.size) := Lib.hid (by rw [← hLB]; exact HSZB.out)
  have HOB : Hid (LB.toArray.all (·.oneCell') = true) := Lib.hid (by rw [← hLB]; exact stL_one _ _ _ _ _ _ _ _ _)
  rw [hLB]
  have H3A : Hid (W3.heap[w.heap.size]? = some (.cells LA.toArray 30 (0, 0))) := Lib.hid ((hb3.block _ (by have := H2S.out; omega)).trans H2A.out)
  have H3B : Hid (W3.heap[w.heap.size + 1]? = some (.cells LB0.toArray 30 (0, 0))) := Lib.hid ((hb3.block _ H2S.out).trans H2B.out)
  have HT : Hid (Two w LA LB (.slice A1 s'.kp.length c1) (.slice B3 t'.kp.length c3) s'.kp t'.kp (W3.setRow (w.heap.size + 1) LB.toArray)) := Lib.hid
    ⟨(setRow_other _ _ _ _ (by omega)).trans H3A.out, setRow_heap _ _ _ _ _ _ H3B.out, by have := hb3.size; have h2 := H2S.out; simp only [World.setRow, Array.size_modify] at this h2 ⊢; omega, below_setRow (H2W.out.trans (hb3.mono H2W.out.size)) (by omega) _,
     Kp.setRow (HK1.out.below hb3) (HNB.out _ _ H3B.out), Kp.setRow hk3 (HNB.out _ _ H3B.out)⟩
  have HLGW : Hid (∀ W, Two w LA LB (.slice A1 s'.kp.length c1) (.slice B3 t'.kp.length c3) s'.kp t'.kp W → Lg W) := Lib.hid (fun W h => HLG.out.below HLG.out.1 (h.bw))
  clear hk3 hb3 hLB
  have H9 : Hid (∀ W, Two w LA LB (.slice A1 s'.kp.length c1) (.slice B3 t'.kp.length c3) s'.kp t'.kp W → Calls Try.prog 9 #[.agg LA.toArray] W fun e w' => e = .returned (.tuple #[.string (str []), .int .i64 1]) ∧ Two w LA LB (.slice A1 s'.kp.length c1) (.slice B3 t'.kp.length c3) s'.kp t'.kp w') := Lib.hid (fun W h => by
    have := line9 s' A1 c1 W h.ka HFS.out
    rw [show s'.A (.slice A1 s'.kp.length c1) = LA.toArray from congrArg List.toArray HLA.out, lineV, HM.out] at this
    exact this.mono fun e w' q => ⟨q.1, h.below q.2⟩)
  have H11 : Hid (∀ W, Two w LA LB (.slice A1 s'.kp.length c1) (.slice B3 t'.kp.length c3) s'.kp t'.kp W → Calls Try.prog 11 #[.agg LA.toArray] W fun e w' => e = .returned (.int .i64 1) ∧ Two w LA LB (.slice A1 s'.kp.length c1) (.slice B3 t'.kp.length c3) s'.kp t'.kp w') := Lib.hid (fun W h => by
    have := check11 s' A1 c1 W h.ka HFS.out
    rw [show s'.A (.slice A1 s'.kp.length c1) = LA.toArray from congrArg List.toArray HLA.out, HM.out] at this
    exact this.mono fun e w' q => ⟨q.1, h.below q.2⟩)
  have H12 : Hid (∀ W, Two w LA LB (.slice A1 s'.kp.length c1) (.slice B3 t'.kp.length c3) s'.kp t'.kp W → Calls Try.prog 12 #[.agg LA.toArray, .agg LB.toArray] W fun e w' => e = .returned (.bool (sameB s' t')) ∧ Two w LA LB (.slice A1 s'.kp.length c1) (.slice B3 t'.kp.length c3) s'.kp t'.kp w') := Lib.hid (fun W h => by
    have := same12 s' t' A1 B3 c1 c3 W h.ka h.kb (by have := HFS.out.2.2; omega) (by have := HFT.out.2.2; omega)
    rw [show s'.A (.slice A1 s'.kp.length c1) = LA.toArray from congrArg List.toArray HLA.out, show t'.A (.slice B3 t'.kp.length c3) = LB.toArray from congrArg List.toArray HLB.out] at this
    exact this.mono fun e w' q => ⟨q.1, h.below q.2⟩)
  have H6 : Hid (∀ W, Two w LA LB (.slice A1 s'.kp.length c1) (.slice B3 t'.kp.length c3) s'.kp t'.kp W → Calls Try.prog 6 #[.agg LA.toArray, .agg LB.toArray] W fun e w' => e = .returned (.bool (sameB s' t')) ∧ Two w LA LB (.slice A1 s'.kp.length c1) (.slice B3 t'.kp.length c3) s'.kp t'.kp w') := Lib.hid (fun W h => by
    have := rsame6 s' t' A1 B3 c1 c3 W h.ka h.kb (by have := HFS.out.2.2; omega) (by have := HFT.out.2.2; omega)
    rw [show s'.A (.slice A1 s'.kp.length c1) = LA.toArray from congrArg List.toArray HLA.out, show t'.A (.slice B3 t'.kp.length c3) = LB.toArray from congrArg List.toArray HLB.out] at this
    exact this.mono fun e w' q => ⟨q.1, h.below q.2⟩)
  have HAA : Hid (∀ W, Two w LA LB (.slice A1 s'.kp.length c1) (.slice B3 t'.kp.length c3) s'.kp t'.kp W → Calls Try.prog 12 #[.agg LA.toArray, .agg LA.toArray] W fun e w' => e = .returned (.bool true) ∧ Two w LA LB (.slice A1 s'.kp.length c1) (.slice B3 t'.kp.length c3) s'.kp t'.kp w') := Lib.hid (fun W h => by
    have := same12 s' s' A1 A1 c1 c1 W h.ka h.ka (by have := HFS.out.2.2; omega) (by have := HFS.out.2.2; omega)
    rw [show s'.A (.slice A1 s'.kp.length c1) = LA.toArray from congrArg List.toArray HLA.out, sameB_self] at this
    exact this.mono fun e w' q => ⟨q.1, h.below q.2⟩)
  have H13 : Hid (∀ W, Two w LA LB (.slice A1 s'.kp.length c1) (.slice B3 t'.kp.length c3) s'.kp t'.kp W → Calls Try.prog 13 #[.int .i64 op] W fun e w' => e = .returned (.string (str (wordL op))) ∧ Two w LA LB (.slice A1 s'.kp.length c1) (.slice B3 t'.kp.length c3) s'.kp t'.kp w') := Lib.hid (fun W h => (word13 op W).mono fun e w' q => ⟨q.1, by rw [q.2]; exact h⟩)
  have H14 : Hid (∀ W, Two w LA LB (.slice A1 s'.kp.length c1) (.slice B3 t'.kp.length c3) s'.kp t'.kp W → Calls Try.prog 14 #[.int .i64 op] W fun e w' => e = .returned (.string (str (wordL op))) ∧ Two w LA LB (.slice A1 s'.kp.length c1) (.slice B3 t'.kp.length c3) s'.kp t'.kp w') := Lib.hid (fun W h => (rword14 op W).mono fun e w' q => ⟨q.1, h.below q.2⟩)
  have H7 : Hid (∀ W, Two w LA LB (.slice A1 s'.kp.length c1) (.slice B3 t'.kp.length c3) s'.kp t'.kp W → Calls Try.prog 7 #[] W fun e w' => e = .returned (.bool true) ∧ Two w LA LB (.slice A1 s'.kp.length c1) (.slice B3 t'.kp.length c3) s'.kp t'.kp w') := Lib.hid (fun W h => (awake7 W).mono fun e w' q => ⟨q.1, h.below q.2⟩)
  have H15 : Hid (∀ W, Two w LA LB (.slice A1 s'.kp.length c1) (.slice B3 t'.kp.length c3) s'.kp t'.kp W → Calls Try.prog 15 #[.agg LA.toArray] W fun e w' => e = .returned (.bool false) ∧ Two w LA LB (.slice A1 s'.kp.length c1) (.slice B3 t'.kp.length c3) s'.kp t'.kp w') := Lib.hid (fun W h => by
    have := rmay15 s' A1 c1 W h.ka HFS.out
    rw [show s'.A (.slice A1 s'.kp.length c1) = LA.toArray from congrArg List.toArray HLA.out, may_eq, HM.out] at this
    exact this.mono fun e w' q => ⟨q.1, h.below q.2⟩)
  have HSR : Hid (∀ W, Two w LA LB (.slice A1 s'.kp.length c1) (.slice B3 t'.kp.length c3) s'.kp t'.kp W → W.rangeAt w.heap.size 0 LA) := Lib.hid (fun W h => h.ra)
  have HSQ : Hid (∀ W, Two w LA LB (.slice A1 s'.kp.length c1) (.slice B3 t'.kp.length c3) s'.kp t'.kp W → W.rangeAt (w.heap.size + 1) 0 LB) := Lib.hid (fun W h => h.rb)
  have HSD : Hid (∀ W, Two w LA LB (.slice A1 s'.kp.length c1) (.slice B3 t'.kp.length c3) s'.kp t'.kp W → Two w LA LB (.slice A1 s'.kp.length c1) (.slice B3 t'.kp.length c3) s'.kp t'.kp W.drew) := Lib.hid (fun W h => h.drew)
  have HSN : Hid (∀ W W', Two w LA LB (.slice A1 s'.kp.length c1) (.slice B3 t'.kp.length c3) s'.kp t'.kp W → Below W.heap.size W W' → Two w LA LB (.slice A1 s'.kp.length c1) (.slice B3 t'.kp.length c3) s'.kp t'.kp W') := Lib.hid (fun W W' h hb => h.below hb)
  have HSW : Hid (∀ W, Two w LA LB (.slice A1 s'.kp.length c1) (.slice B3 t'.kp.length c3) s'.kp t'.kp W → Below w.heap.size w W) := Lib.hid (fun W h => h.bw)
  generalize hS : Two w LA LB (.slice A1 s'.kp.length c1) (.slice B3 t'.kp.length c3) s'.kp t'.kp = S at *
  have hrr : (sameB s' t' != sameB s' t') = false := by simp
  have hww : ((str (wordL op)).toList != (str (wordL op)).toList) = false := by simp
  generalize sameB s' t' = rr at *
  generalize wordL op = ww at *
  clear hS HLG HKA HKB HF1 HF2 HNA HNB HIA0 HIB0 HSZA HSZB H0A H0B H0S H0W HR0A H1A H1B H1W H1S HK1 HKB1 H2A H2B H2W H2S HR2B H3A HFT HLGW HLA HLB HSA HOA HIA2
  clear HFS HM
  go_wp2_with (first
    | ((with_reducible refine wpList_store_row (o := ⟨none, _, _, _, _, _⟩) rfl 30 (.tmp 4) (.tmp 14) rfl (w.heap.size + 1) LB.toArray ?_ ?_ 30 _ H3B.out HIB2.out HSB.out HOB.out ?_); rfl; rfl)
    | ((with_reducible refine wpList_load_midg (op := ⟨some 16, _, _, _, _, _⟩) ?_ 30 (.tmp 3) rfl w.heap.size 0 ?_ LA _ (HSR.out _ HT.out) Try.underlying30 rfl HIA.out ?_); kernel_rfl; rfl)
    | (go_at_call 9; (with_reducible refine (H9.out _ HT.out).mono ?_); rintro e W5 ⟨rfl, hT⟩; have HT5 := Lib.hid hT; clear hT))
  refine wp_region_held_drew (S := S) (by kernel_rfl) (HSD.out _ HT5.out) (fun hSx => ?_)
  refine wpAnyH_take (i := 0) (oi := ⟨some 20, _, _, _, _, none⟩) (v := .agg LA.toArray) rfl (by kernel_rfl) (by kernel_rfl) (by kernel_rfl) (fun _ _ _ h => h) (yieldsIf_load_mid (by kernel_rfl) 30 (.tmp 3) rfl w.heap.size 0 rfl LA _ (fun W hW => HSR.out W hW) Try.underlying30 rfl HIA.out) hSx ?_
  try simp only [Act.put, List.setIfInBounds_toArray]
  refine wpAnyH_take (i := 2) (oi := ⟨some 22, _, _, _, _, none⟩) (v := .int .i64 1) rfl (by kernel_rfl) (by kernel_rfl) (by kernel_rfl) (fun _ _ _ h => h) (Or.inl ⟨by kernel_rfl, ?_⟩) hSx ?_
  · intro wx hSx2; clear hSx; go_simp
  try simp only [Act.put, List.setIfInBounds_toArray]
  refine wpAnyH_ready (rs := [1]) (by kernel_rfl) (by simp) ?_
  refine AllReadyH.cons (o := ⟨some 21, _, _, _, _, none⟩) rfl (fun KK hKK => ?_) AllReadyH.nil
  go_simp
  refine (H11.out _ hSx).mono ?_
  rintro e wz ⟨rfl, hSz⟩
  refine hKK.out _ _ hSz (fun hSy => ?_)
  clear hKK hSx hSz
  have hSx := hSy
  clear hSy KK
  try simp only [Act.put, List.setIfInBounds_toArray, List.set_cons_zero, List.set_cons_succ]
  refine wpAnyH_take (i := 3) (oi := ⟨some 23, _, _, _, _, none⟩) (v := .bool false) rfl (by kernel_rfl) (by kernel_rfl) (by kernel_rfl) (fun _ _ _ h => h) (Or.inl ⟨by kernel_rfl, ?_⟩) hSx ?_
  · intro wx hSx2; clear hSx; go_simp
  try simp only [Act.put, List.setIfInBounds_toArray]
  refine wpAnyH_take (i := 4) (oi := ⟨some 24, _, _, _, _, none⟩) (v := .bool false) rfl (by kernel_rfl) (by kernel_rfl) (by kernel_rfl) (fun _ _ _ h => h) (Or.inl ⟨by kernel_rfl, ?_⟩) hSx ?_
  · intro wx hSx2; clear hSx; go_simp
  try simp only [Act.put, List.setIfInBounds_toArray]
  refine wpAnyH_take (i := 5) (oi := ⟨some 25, _, _, _, _, some (4, false)⟩) (v := .agg LA.toArray) rfl (by kernel_rfl) (by kernel_rfl) (by kernel_rfl) (fun _ _ _ h => h) (yieldsIf_load_mid (by kernel_rfl) 30 (.tmp 3) rfl w.heap.size 0 rfl LA _ (fun W hW => HSR.out W hW) Try.underlying30 rfl HIA.out) hSx ?_
  try simp only [Act.put, List.setIfInBounds_toArray]
  refine wpAnyH_take (i := 6) (oi := ⟨some 26, _, _, _, _, some (4, false)⟩) (v := .agg LB.toArray) rfl (by kernel_rfl) (by kernel_rfl) (by kernel_rfl) (fun _ _ _ h => h) (yieldsIf_load_mid (by kernel_rfl) 30 (.tmp 4) rfl (w.heap.size + 1) 0 rfl LB _ (fun W hW => HSQ.out W hW) Try.underlying30 rfl HIB.out) hSx ?_
  try simp only [Act.put, List.setIfInBounds_toArray]
  refine wpAnyH_take (i := 8) (oi := ⟨some 28, _, _, _, _, some (4, false)⟩) (v := .agg LA.toArray) rfl (by kernel_rfl) (by kernel_rfl) (by kernel_rfl) (fun _ _ _ h => h) (yieldsIf_load_mid (by kernel_rfl) 30 (.tmp 3) rfl w.heap.size 0 rfl LA _ (fun W hW => HSR.out W hW) Try.underlying30 rfl HIA.out) hSx ?_
  try simp only [Act.put, List.setIfInBounds_toArray]
  refine wpAnyH_take (i := 9) (oi := ⟨some 29, _, _, _, _, some (4, false)⟩) (v := .agg LB.toArray) rfl (by kernel_rfl) (by kernel_rfl) (by kernel_rfl) (fun _ _ _ h => h) (yieldsIf_load_mid (by kernel_rfl) 30 (.tmp 4) rfl (w.heap.size + 1) 0 rfl LB _ (fun W hW => HSQ.out W hW) Try.underlying30 rfl HIB.out) hSx ?_
  try simp only [Act.put, List.setIfInBounds_toArray]
  refine wpAnyH_ready (rs := [7]) (by kernel_rfl) (by simp) ?_
  refine AllReadyH.cons (o := ⟨some 27, _, _, _, _, some (4, false)⟩) rfl (fun KK hKK => ?_) AllReadyH.nil
  go_simp
  refine (H12.out _ hSx).mono ?_
  rintro e wz ⟨rfl, hSz⟩
  refine hKK.out _ _ hSz (fun hSy => ?_)
  clear hKK hSx hSz
  have hSx := hSy
  clear hSy KK
  try simp only [Act.put, List.setIfInBounds_toArray, List.set_cons_zero, List.set_cons_succ]
  refine wpAnyH_ready (rs := [10]) (by kernel_rfl) (by simp) ?_
  refine AllReadyH.cons (o := ⟨some 30, _, _, _, _, some (4, false)⟩) rfl (fun KK hKK => ?_) AllReadyH.nil
  go_simp
  refine (H6.out _ hSx).mono ?_
  rintro e wz ⟨rfl, hSz⟩
  refine hKK.out _ _ hSz (fun hSy => ?_)
  clear hKK hSx hSz
  have hSx := hSy
  clear hSy KK
  try simp only [Act.put, List.setIfInBounds_toArray, List.set_cons_zero, List.set_cons_succ]
  refine wpAnyH_take (i := 11) (oi := ⟨some 31, _, _, _, _, some (4, false)⟩) (v := .bool false) rfl (by kernel_rfl) (by kernel_rfl) (by kernel_rfl) (fun _ _ _ h => h) (Or.inl ⟨by kernel_rfl, ?_⟩) hSx ?_
  · intro wx hSx2; clear hSx; go_simp
  try simp only [Act.put, List.setIfInBounds_toArray]
  refine wpAnyH_take (i := 12) (oi := ⟨some 32, _, _, _, _, none⟩) (v := .bool false) rfl (by kernel_rfl) (by kernel_rfl) (by kernel_rfl) (fun _ _ _ h => h) (Or.inl ⟨by kernel_rfl, ?_⟩) hSx ?_
  · intro wx hSx2; clear hSx; go_simp
  try simp only [Act.put, List.setIfInBounds_toArray]
  refine wpAnyH_take (i := 13) (oi := ⟨some 33, _, _, _, _, none⟩) (v := .bool false) rfl (by kernel_rfl) (by kernel_rfl) (by kernel_rfl) (fun _ _ _ h => h) (Or.inl ⟨by kernel_rfl, ?_⟩) hSx ?_
  · intro wx hSx2; clear hSx; go_simp
  try simp only [Act.put, List.setIfInBounds_toArray]
  refine wpAnyH_take (i := 14) (oi := ⟨some 34, _, _, _, _, some (13, false)⟩) (v := .agg LA.toArray) rfl (by kernel_rfl) (by kernel_rfl) (by kernel_rfl) (fun _ _ _ h => h) (yieldsIf_load_mid (by kernel_rfl) 30 (.tmp 3) rfl w.heap.size 0 rfl LA _ (fun W hW => HSR.out W hW) Try.underlying30 rfl HIA.out) hSx ?_
  try simp only [Act.put, List.setIfInBounds_toArray]
  refine wpAnyH_take (i := 15) (oi := ⟨some 35, _, _, _, _, some (13, false)⟩) (v := .agg LA.toArray) rfl (by kernel_rfl) (by kernel_rfl) (by kernel_rfl) (fun _ _ _ h => h) (yieldsIf_load_mid (by kernel_rfl) 30 (.tmp 3) rfl w.heap.size 0 rfl LA _ (fun W hW => HSR.out W hW) Try.underlying30 rfl HIA.out) hSx ?_
  try simp only [Act.put, List.setIfInBounds_toArray]
  refine wpAnyH_ready (rs := [16]) (by kernel_rfl) (by simp) ?_
  refine AllReadyH.cons (o := ⟨some 36, _, _, _, _, some (13, false)⟩) rfl (fun KK hKK => ?_) AllReadyH.nil
  go_simp
  refine (HAA.out _ hSx).mono ?_
  rintro e wz ⟨rfl, hSz⟩
  refine hKK.out _ _ hSz (fun hSy => ?_)
  clear hKK hSx hSz
  have hSx := hSy
  clear hSy KK
  try simp only [Act.put, List.setIfInBounds_toArray, List.set_cons_zero, List.set_cons_succ]
  refine wpAnyH_take (i := 17) (oi := ⟨some 37, _, _, _, _, some (13, false)⟩) (v := .bool false) rfl (by kernel_rfl) (by kernel_rfl) (by kernel_rfl) (fun _ _ _ h => h) (Or.inl ⟨by kernel_rfl, ?_⟩) hSx ?_
  · intro wx hSx2; clear hSx; go_simp
  try simp only [Act.put, List.setIfInBounds_toArray]
  refine wpAnyH_take (i := 18) (oi := ⟨some 38, _, _, _, _, none⟩) (v := .bool false) rfl (by kernel_rfl) (by kernel_rfl) (by kernel_rfl) (fun _ _ _ h => h) (Or.inl ⟨by kernel_rfl, ?_⟩) hSx ?_
  · intro wx hSx2; clear hSx; go_simp
  try simp only [Act.put, List.setIfInBounds_toArray]
  refine wpAnyH_take (i := 19) (oi := ⟨some 39, _, _, _, _, none⟩) (v := .bool false) rfl (by kernel_rfl) (by kernel_rfl) (by kernel_rfl) (fun _ _ _ h => h) (Or.inl ⟨by kernel_rfl, ?_⟩) hSx ?_
  · intro wx hSx2; clear hSx; go_simp
  try simp only [Act.put, List.setIfInBounds_toArray]
  refine wpAnyH_take (i := 20) (oi := ⟨some 40, _, _, _, _, some (19, false)⟩) (v := .int .i64 op) rfl (by kernel_rfl) (by kernel_rfl) (by kernel_rfl) (fun _ _ _ h => h) (Or.inl ⟨by kernel_rfl, ?_⟩) hSx ?_
  · intro wx hSx2; clear hSx; go_simp
  try simp only [Act.put, List.setIfInBounds_toArray]
  refine wpAnyH_take (i := 22) (oi := ⟨some 42, _, _, _, _, some (19, false)⟩) (v := .int .i64 op) rfl (by kernel_rfl) (by kernel_rfl) (by kernel_rfl) (fun _ _ _ h => h) (Or.inl ⟨by kernel_rfl, ?_⟩) hSx ?_
  · intro wx hSx2; clear hSx; go_simp
  try simp only [Act.put, List.setIfInBounds_toArray]
  refine wpAnyH_ready (rs := [21]) (by kernel_rfl) (by simp) ?_
  refine AllReadyH.cons (o := ⟨some 41, _, _, _, _, some (19, false)⟩) rfl (fun KK hKK => ?_) AllReadyH.nil
  go_simp
  refine (H13.out _ hSx).mono ?_
  rintro e wz ⟨rfl, hSz⟩
  refine hKK.out _ _ hSz (fun hSy => ?_)
  clear hKK hSx hSz
  have hSx := hSy
  clear hSy KK
  try simp only [Act.put, List.setIfInBounds_toArray, List.set_cons_zero, List.set_cons_succ]
  refine wpAnyH_ready (rs := [23]) (by kernel_rfl) (by simp) ?_
  refine AllReadyH.cons (o := ⟨some 43, _, _, _, _, some (19, false)⟩) rfl (fun KK hKK => ?_) AllReadyH.nil
  go_simp
  refine (H14.out _ hSx).mono ?_
  rintro e wz ⟨rfl, hSz⟩
  refine hKK.out _ _ hSz (fun hSy => ?_)
  clear hKK hSx hSz
  have hSx := hSy
  clear hSy KK
  try simp only [Act.put, List.setIfInBounds_toArray, List.set_cons_zero, List.set_cons_succ]
  refine wpAnyH_take (i := 24) (oi := ⟨some 44, _, _, _, _, some (19, false)⟩) (v := .bool false) rfl (by kernel_rfl) (by kernel_rfl) (by kernel_rfl) (fun _ _ _ h => h) (Or.inl ⟨by kernel_rfl, ?_⟩) hSx ?_
  · intro wx hSx2; clear hSx; go_simp
  try simp only [Act.put, List.setIfInBounds_toArray]
  refine wpAnyH_take (i := 25) (oi := ⟨some 45, _, _, _, _, none⟩) (v := .bool false) rfl (by kernel_rfl) (by kernel_rfl) (by kernel_rfl) (fun _ _ _ h => h) (Or.inl ⟨by kernel_rfl, ?_⟩) hSx ?_
  · intro wx hSx2; clear hSx; go_simp
  try simp only [Act.put, List.setIfInBounds_toArray]
  refine wpAnyH_take (i := 26) (oi := ⟨some 46, _, _, _, _, none⟩) (v := .bool false) rfl (by kernel_rfl) (by kernel_rfl) (by kernel_rfl) (fun _ _ _ h => h) (Or.inl ⟨by kernel_rfl, ?_⟩) hSx ?_
  · intro wx hSx2; clear hSx; go_simp
  try simp only [Act.put, List.setIfInBounds_toArray]
  refine wpAnyH_ready (rs := [27]) (by kernel_rfl) (by simp) ?_
  refine AllReadyH.cons (o := ⟨some 47, _, _, _, _, some (26, false)⟩) rfl (fun KK hKK => ?_) AllReadyH.nil
  go_simp
  refine (H7.out _ hSx).mono ?_
  rintro e wz ⟨rfl, hSz⟩
  refine hKK.out _ _ hSz (fun hSy => ?_)
  clear hKK hSx hSz
  have hSx := hSy
  clear hSy KK
  try simp only [Act.put, List.setIfInBounds_toArray, List.set_cons_zero, List.set_cons_succ]
  refine wpAnyH_take (i := 28) (oi := ⟨some 48, _, _, _, _, some (26, false)⟩) (v := .bool false) rfl (by kernel_rfl) (by kernel_rfl) (by kernel_rfl) (fun _ _ _ h => h) (Or.inl ⟨by kernel_rfl, ?_⟩) hSx ?_
  · intro wx hSx2; clear hSx; go_simp
  try simp only [Act.put, List.setIfInBounds_toArray]
  refine wpAnyH_take (i := 29) (oi := ⟨some 49, _, _, _, _, none⟩) (v := .bool false) rfl (by kernel_rfl) (by kernel_rfl) (by kernel_rfl) (fun _ _ _ h => h) (Or.inl ⟨by kernel_rfl, ?_⟩) hSx ?_
  · intro wx hSx2; clear hSx; go_simp
  try simp only [Act.put, List.setIfInBounds_toArray]
  refine wpAnyH_done (by kernel_rfl) ?_ _
  have HT6 := Lib.hid hSx
  have hnil : (str []).toList = [] := str_toList []
  have hnil2 : (str []).toList.isEmpty = true := by rw [hnil]; rfl
  clear hSx
  go_wp2_with (first
    | ((with_reducible refine wpList_load_midg (op := ⟨some 50, _, _, _, _, _⟩) ?_ 30 (.tmp 3) rfl w.heap.size 0 ?_ LA _ (HSR.out _ HT6.out) Try.underlying30 rfl HIA.out ?_); kernel_rfl; rfl)
    | (go_at_call 15; (with_reducible refine (H15.out _ HT6.out).mono ?_); rintro e W7 ⟨rfl, hT⟩; have HT7 := Lib.hid hT; clear hT))
  go_ret
  exact ⟨rfl, HSW.out _ HT7.out⟩
theorem lines4 (s t : St) (op : Int) (A B : Option Addr) (ca cb : Nat) (w : World) (hlg : Lg w) (hka : Kp w (.slice A s.kp.length ca) s.kp) (hkb : Kp w (.slice B t.kp.length cb) t.kp)
    (hca : s.kp.length ≤ ca) (hcb : t.kp.length ≤ cb) (hma : ca ≤ maxLen) (hmb : cb ≤ maxLen) (hsn : s.nm.length ≤ maxLen) (hsd : s.dt.length ≤ maxLen) (htn : t.nm.length ≤ maxLen) (htd : t.dt.length ≤ maxLen) :
    Calls Try.prog 4 #[.agg (s.A (.slice A s.kp.length ca)), .agg (t.A (.slice B t.kp.length cb)), .int .i64 op] w fun e w' => e = .returned (.bool true) ∧ Below w.heap.size w w' := by
  cases hm : mayB (fewS s)
  · exact lines4_false s t op A B ca cb w hlg hka hkb hca hcb hma hmb hsn hsd htn htd hm
  · exact lines4_true s t op A B ca cb w hlg hka hkb hca hcb hma hmb hsn hsd htn htd hm
end Go.Proofs.Ytjakkmioofbcaaa
