/- The walk over SegPuts. -/
import Derived.Test.YtkmhjfcjplnjdaaBs
namespace Go.Proofs.Ytkmhjfcjplnjdaa
open Go.RowKit
set_option maxRecDepth 100000 in
set_option maxHeartbeats 4000000 in
theorem segPuts_no (x : CfX) (hc : may x.c = false) (A : Option Addr) (n c : Nat) (w : World) (hnc : n ≤ c) (hcc : c ≤ 9223372036854775807) (r : Int) :
    Calls Try.prog 7 #[.slice A n c, .agg x.A, .int .u16 r] w (LawPost w) := by
  have c8 := few8 A n c hnc hcc
  have C8 := Lib.hid c8
  have c22 := segNew_no x hc
  have C22 := Lib.hid c22
  have c10 := refMay x
  rw [hc] at c10
  have C10 := Lib.hid c10
  clear c8 c22 c10 hc
  generalize min n 600 = m at *
  have HB0 : Hid (Boxed x w (w.alloc (.cells x.A 24))) := Boxed.new x w
  go_enter Try.func7, Try.ntmps7
  go_wp2_with (first
    | (go_at_call 8; refine (C8.out _).mono ?_; rintro e w0 ⟨rfl, rfl⟩)
    | (go_at_call 22; refine (C22.out _).mono ?_; rintro e w1 ⟨rfl, hb1⟩; have HB1 := Lib.hid (HB0.out.below hb1); clear hb1; have q1 := cells13 HB1.out.1)
    | (go_at_call 10; refine (C10.out _).mono ?_; rintro e w2 ⟨rfl, hb2⟩; have HB2 := Lib.hid (HB1.out.below (w2 := w2) (by rw [hb2]; exact (Below.refl _ _).alloc (Nat.le_refl _) _)); clear hb2 q1)
    | (go_at_call 13; refine (awake13 _).mono ?_; rintro e w3 ⟨rfl, hb3⟩; have HB3 := Lib.hid (HB2.out.below hb3); clear hb3))
  go_ret
  exact ⟨rfl, HB3.out.2⟩

/-- where the loop of SegPuts stands -/
def PutsAt (x : CfX) (w : World) (g b : Nat) (v : Value) (ls : List Fp) (wr : World) : Prop :=
  wr.ownsRow w.heap.size 37 32 v ls.length (fpsL ls) ∧ (∀ f ∈ ls, IsFp f) ∧ cutF x.c 0 ls = 0 ∧ PartAt x g b ls.length wr ∧ Boxed x w wr ∧ w.heap.size < g
theorem own_ne {w : World} {base n : Nat} {v : Value} {xs : List Value} (h : w.ownsRow base 37 32 v n xs) {k : Nat} {cur : Array Value} {t : TypeId} {fr : Nat × Nat} (hk : w.heap[k]? = some (.cells cur t fr)) (ht : t ≠ 37) : v.ownBlock ≠ some k := by
  rcases h.2 with ⟨hv, _⟩ | ⟨g', cap', cur', hv, _, hh, _⟩
  · rw [hv]; simp [Value.ownBlock]
  · intro e
    rw [hv] at e
    injection e with e
    simp at e
    subst e
    rw [hk] at hh
    injection hh with hh
    injection hh with _ h2
    exact ht h2
theorem fpsL_snoc (ls : List Fp) (f : Fp) : fpsL (ls ++ [f]) = fpsL ls ++ fpL f := by simp [fpsL]
/-- behind the append -/
structure PutsMid (x : CfX) (w : World) (g b : Nat) (g3 c3 : Nat) (ls : List Fp) (f : Fp) (w3 : World) : Prop where
  own : OwnFps w3 w.heap.size g3 c3 (ls ++ [f])
  part : PartAt x g b ls.length w3
  box : Boxed x w w3
  lt : w.heap.size < g
theorem PutsMid.of {x : CfX} {w : World} {g b : Nat} {v : Value} {ls : List Fp} {wr w3 : World} (h : PutsAt x w g b v ls wr) {f : Fp} (hf : IsFp f) {g3 c3 : Nat} (o : Obj)
    (ho : w3.ownsRow w.heap.size 37 32 (.slice (some ⟨g3, 0, none⟩) (ls.length + 1) c3) (ls.length + 1) (fpsL ls ++ fpL f)) (hg : (wr.alloc o).grownBy w3 v.ownBlock) : PutsMid x w g b g3 c3 ls f w3 := by
  obtain ⟨h1, h2, h3, h4, h5, h6⟩ := h
  have ha : Below wr.heap.size wr (wr.alloc o) := (Below.refl _ _).alloc (Nat.le_refl _) _
  have h1' : (wr.alloc o).ownsRow w.heap.size 37 32 v ls.length (fpsL ls) := h1.alloc _
  have h4' := h4.below ha
  have h5' := h5.below ha
  refine ⟨⟨by rw [fpsL_snoc, List.length_append, List.length_singleton]; exact ho, fun y hy => ?_⟩, ⟨?_, ?_⟩, ⟨?_, ?_⟩, h6⟩
  · rcases List.mem_append.1 hy with hy | hy
    · exact h2 y hy
    · simp at hy; subst hy; exact hf
  · exact (hg.block g h4'.lt.1 (fun e => own_ne h1' h4'.1 (by decide) e.symm)).trans h4'.1
  · exact (hg.block b h4'.lt.2 (fun e => own_ne h1' h4'.2 (by decide) e.symm)).trans h4'.2
  · exact (hg.block _ (Array.getElem?_eq_some_iff.1 h5'.1).1 (fun e => own_ne h1' h5'.1 (by decide) e.symm)).trans h5'.1
  · exact h5'.2.grown hg h5'.2.size (fun k hk => (h1'.lt k hk).1)
theorem PutsMid.below {x : CfX} {w : World} {g b g3 c3 : Nat} {ls : List Fp} {f : Fp} {w3 w4 : World} (h : PutsMid x w g b g3 c3 ls f w3) (hb : Below w3.heap.size w3 w4) : PutsMid x w g b g3 c3 ls f w4 :=
  ⟨h.own.kept (hb.block _ h.own.lt), h.part.below hb, h.box.below hb, h.lt⟩
/-- behind Put -/
theorem PutsMid.put {x : CfX} {w : World} {g b g3 c3 : Nat} {ls : List Fp} {f : Fp} {w4 w5 : World} (h : PutsMid x w g b g3 c3 ls f w4) (hg : w4.grownBy w5 (some g)) {n : Nat} (hp : PartAt x g b n w5) :
    OwnFps w5 w.heap.size g3 c3 (ls ++ [f]) ∧ Boxed x w w5 ∧ PartAt x g b n w5 := by
  obtain ⟨_, cur, hc⟩ := h.own.block
  have hne : g3 ≠ g := by
    rintro rfl
    have := hc.symm.trans h.part.1
    injection this with this
    injection this with _ h2
    cases h2
  refine ⟨h.own.kept (hg.block _ h.own.lt (fun e => hne (by injection e))), ⟨(hg.block _ (Array.getElem?_eq_some_iff.1 h.box.1).1 (fun e => by have := h.lt; injection e with e; omega)).trans h.box.1, ?_⟩, hp⟩
  exact h.box.2.grown hg h.box.2.size (fun k hk => by injection hk with hk; have := h.lt; omega)
theorem puts_no {x : CfX} {w : World} {g b g3 c3 : Nat} {ls : List Fp} {f : Fp} {w4 w5 : World} (h : PutsMid x w g b g3 c3 ls f w4) (h0 : cutF x.c 0 ls = 0) (he : endB x.c ls.length f = false) (hg : w4.grownBy w5 (some g)) (hp : PartAt x g b (ls.length + 1) w5) :
    PutsAt x w g b (.slice (some ⟨g3, 0, none⟩) (ls.length + 1) c3) (ls ++ [f]) w5 := by
  obtain ⟨h1, h2, h3⟩ := h.put hg hp
  have h4 := h1.1
  rw [List.length_append, List.length_singleton] at h4
  refine ⟨by rw [List.length_append, List.length_singleton]; exact h4, h1.2, ?_, by rw [List.length_append, List.length_singleton]; exact h3, h2, h.lt⟩
  rw [cutF_append x.c f ls 0 h0, Nat.zero_add, he]; rfl
theorem puts_yes {x : CfX} {w : World} {g b g3 c3 : Nat} {ls : List Fp} {f : Fp} {w4 w5 : World} (h : PutsMid x w g b g3 c3 ls f w4) (hg : w4.grownBy w5 (some g)) (hp : PartAt x g b 0 w5) :
    PutsAt x w g b (.slice none 0 0) [] w5 := by
  obtain ⟨h1, h2, h3⟩ := h.put hg hp
  exact ⟨World.ownsRow_nil _ _ _ _, fun f hf => by simp at hf, rfl, h3, h2, h.lt⟩
theorem puts_cut {x : CfX} {w : World} {g b g3 c3 : Nat} {ls : List Fp} {f : Fp} {w3 : World} (hc : may x.c = true) (h : PutsMid x w g b g3 c3 ls f w3) (h0 : cutF x.c 0 ls = 0) (hl : ls.length ≤ 600) (B : Bool) (he : endB x.c ls.length f = B) :
    Calls Try.prog 12 #[.slice (some ⟨g3, 0, none⟩) (ls.length + 1) c3, .agg x.A] w3 fun e w4 => e = .returned (.int .i64 (if B = true then (ls.length : Int) + 1 else 0)) ∧ PutsMid x w g b g3 c3 ls f w4 := by
  have hF := h.own.fps h.own.lt
  rw [List.length_append, List.length_singleton] at hF
  refine (refCut x _ _ c3 _ w3 hF (by omega)).mono fun e w4 ⟨h1, h2⟩ => ⟨?_, h.below h2⟩
  rw [h1, cutN_may hc, cutF_append x.c f ls 0 h0, Nat.zero_add, he]
  cases B <;> simp
theorem PutsAt.reset {x : CfX} {w : World} {g b : Nat} {v : Value} {ls : List Fp} {wr : World} (h : PutsAt x w g b v ls wr) : PutsAt x w g b (.slice none 0 0) [] (wr.setCell ⟨g, 1, none⟩ (.int .i64 0)) := by
  obtain ⟨_, _, _, h4, h5, h6⟩ := h
  refine ⟨World.ownsRow_nil _ _ _ _, fun f hf => by simp at hf, rfl, h4.set 0, ⟨?_, h5.2.setCell (p := ⟨g, 1, none⟩) (by simp; omega) _⟩, h6⟩
  exact (heap_setCell_other wr ⟨g, 1, none⟩ w.heap.size _ (by simp; omega)).trans h5.1
set_option maxRecDepth 100000 in
set_option maxHeartbeats 4000000 in
theorem segPuts_yes (x : CfX) (hc : may x.c = true) (A : Option Addr) (n c : Nat) (fs : List Fp) (w : World) (hl : Fps w w.heap.size A n fs) (hnc : n ≤ c) (hcc : c ≤ 9223372036854775807) (r : Int) (hr0 : 0 ≤ r) (hr1 : r ≤ 65535) :
    Calls Try.prog 7 #[.slice A n c, .agg x.A, .int .u16 r] w (LawPost w) := by
  have HL := Lib.hid (hl.take (k := min n 600) (by omega))
  have hm6 : min n 600 ≤ 600 := by omega
  have hmc : min n 600 ≤ c := by omega
  clear hl
  have c8 := few8 A n c hnc hcc
  have C8 := Lib.hid c8
  have c22 := segNew_yes x hc
  have C22 := Lib.hid c22
  have Hc := Lib.hid hc
  have c10 := refMay x
  rw [hc] at c10
  have C10 := Lib.hid c10
  clear c8 c22 c10 hc
  generalize min n 600 = m at *
  generalize fs.take m = ts at *
  have HB0 : Hid (Boxed x w (w.alloc (.cells x.A 24))) := Boxed.new x w
  obtain ⟨i37, hi37a, hz37, hs37, hy37⟩ := info_parts info37'
  have I37 := Lib.hid hi37a
  have Z37 := Lib.hid hz37
  have S37 := Lib.hid hs37
  have Y37 := Lib.hid hy37
  clear hi37a hz37 hs37 hy37
  go_enter Try.func7, Try.ntmps7
  go_wp2_with (first
    | (go_at_call 8; refine (C8.out _).mono ?_; rintro e w0 ⟨rfl, rfl⟩)
    | (go_at_call 22; refine (C22.out _).mono ?_; rintro e w1 ⟨g, b, rfl, hb1, hg1, hp1⟩; have HB1 := Lib.hid (HB0.out.below hb1); have HP1 := Lib.hid hp1; clear hb1 hp1; have q1 := cells13 HB1.out.1)
    | (go_at_call 10; refine (C10.out _).mono ?_; rintro e w2 ⟨rfl, hb2⟩; have HB2 := Lib.hid (HB1.out.below (w2 := w2) (by rw [hb2]; exact (Below.refl _ _).alloc (Nat.le_refl _) _)); have HP2 := Lib.hid (HP1.out.below (w' := w2) (by rw [hb2]; exact (Below.refl _ _).alloc (Nat.le_refl _) _)); clear hb2 q1))
  have HL2 : Hid (PutsAt x w g b (.slice none 0 0) [] w2) := ⟨World.ownsRow_nil _ _ _ _, fun f hf => by simp at hf, rfl, HP2.out, HB2.out, by have := hg1; simp at this; omega⟩
  go_loopg [9, 10, 11] m (fun gk v i _ wr => ∃ (k : Nat) (ls : List Fp), k ≤ m ∧ gk = m - k ∧ i = .int .i64 k ∧ PutsAt x w g b v ls wr ∧ ls.length ≤ k)
  case atStart => exact ⟨0, [], Nat.zero_le _, rfl, rfl, HL2.out, Nat.zero_le _⟩
  case round =>
    obtain ⟨k, ls, hk, hgk, rfl, hP, hlk⟩ := hrel
    have HK := Lib.hid hgk
    have HP := Lib.hid hP
    clear hgk hP
    by_cases hlt : k < m
    · obtain ⟨bb, o, rfl, hbb, hrr⟩ := HL.out.2.2 (by omega)
      obtain ⟨f, hf⟩ : ∃ f, ts[k]? = some f := ⟨ts[k]'(by rw [HL.out.1]; exact hlt), by simp⟩
      have hfp := HL.out.2.1 f (List.mem_of_getElem? hf)
      have hrk := hrr k f hf
      have HRK := Lib.hid hrk
      have hi37 : (Try.prog.info? 37).map (·.size) = some (fpL f).length := by rw [info37, fpL_length hfp]
      have HI := Lib.hid hi37
      clear hf hrk hrr hi37
      have hk0 : (0 : Int) ≤ (k : Int) := by omega
      have hk1 : (k : Int) < (m : Int) := by omega
      by_cases hkr : (k : Int) = r
      · have hkr2 : ((k : Int) == r) = true := by simpa using hkr
        have HKR := Lib.hid hkr
        clear hkr
        have HQ : Hid (PutsAt x w g b (.slice none 0 0) [] (wr.setCell ⟨g, 1, none⟩ (.int .i64 0))) := HP.out.reset
        have HR : Hid ((wr.setCell ⟨g, 1, none⟩ (.int .i64 0)).rangeAt bb (o + k * 32) (fpL f)) := fun j v hv => (HQ.out.2.2.2.2.1.2.cell (p := ⟨bb, o + k * 32 + j, none⟩) hbb).trans (HRK.out j v hv)
        have hll : ([] : List Fp).length ≤ k := by simp
        obtain ⟨B, hB⟩ : ∃ B, endB x.c ([] : List Fp).length f = B := ⟨_, rfl⟩
        have HB := Lib.hid hB
        clear hB
        have HQ1 := Lib.hid HQ.out.1
        have HFL : Hid ((fpL f).length = 1 * 32) := fpL_length hfp
        have HNW : Hid (∀ (W : World) (j : Nat) (u : Value), (fpL f)[j]? = some u → (W.alloc (.cells (fpL f).toArray 37)).cell? ((⟨W.heap.size, 0, none⟩ : Addr).add j) = some u) := by
          intro W j u hu
          rw [Addr.add_mid, World.cell?_alloc_new, Nat.zero_add]
          simpa using hu
        have HL6 : Hid (([] : List Fp).length ≤ 600) := by show _ ≤ _; omega
        have HL7 : Hid (([] : List Fp).length ≤ 1000000) := by show _ ≤ _; omega
        have H63 : Hid (([] : List Fp).length + 1 ≤ maxLen) := by show _ ≤ _; simp only [maxLen]; omega
        have HBY : Hid ((([] : List Fp).length + 1) * 32 ≤ 140737488355328) := by show _ ≤ _; omega
        have HBS : Hid (∀ ob : Obj, w.heap.size ≤ (World.alloc (wr.setCell ⟨g, 1, none⟩ (.int .i64 0)) ob).heap.size) := fun ob => by have := HQ.out.2.2.2.2.1.2.size; simp at this ⊢; omega
        cases B
        all_goals
          go_wp2_with (first
            | ((with_reducible refine wpList_load_mid (op := ⟨some 53, _, _, _, _, _⟩) rfl 37 (.tmp 52) rfl bb (o + k * 32) ?_ (fpL f) _ HR.out Try.underlying37 rfl HI.out ?_); rfl)
            | ((with_reducible refine wpList_build_one (op := ⟨some 54, _, _, _, _, _⟩) rfl 22 (.tmp 53) ?_ 37 32 _ (fpL f) ?_ Try.underlying22 Try.sizeOf37 Try.zeroValue37 ?_ ?_ (fpL_length hfp) ?_); rfl; rfl; decide; decide)
            | (go_at_call 19; refine (reset_at x g b _ _ HP.out.2.2.2.1).mono ?_; rintro e wz ⟨rfl, rfl⟩)
            | (at_builtin; refine wpList_append_own _ rfl (.tmp 49) (.tmp 54) _ rfl w.heap.size 37 i37 _ 32 32 Try.underlying22 I37.out Z37.out S37.out Y37.out rfl (by decide) _ ([] : List Fp).length (fpsL []) rfl (HQ1.out.alloc _) _ _ _ (fpL f) rfl HFL.out (HNW.out _) fpL_one H63.out HBY.out (HBS.out _) ?_; intro v3 w3 hown3 hg3 hnil3; clear hnil3; obtain ⟨g3, c3, rfl, hbg3, hlg3⟩ := ownsRow_succ hown3 (by omega); have HM3 := Lib.hid (PutsMid.of HQ.out hfp _ hown3 hg3); have HX3 := Lib.hid HM3.out.box.1; clear hown3 hg3)
            | ((with_reducible refine wpList_load_row (o := ⟨some 57, _, _, _, _, _⟩) rfl 24 (.tmp 4) rfl w.heap.size ?_ 24 x.A (0, 0) _ HX3.out Try.underlying24 rfl (info24 x) ?_); rfl)
            | (go_at_call 12; refine (puts_cut Hc.out HM3.out HQ.out.2.2.1 HL6.out _ HB.out).mono ?_; rintro e w4 ⟨rfl, hm4⟩; have HM4 := Lib.hid hm4; have HR4 : Hid (w4.rangeAt bb (o + k * 32) (fpL f)) := fun j v hv => (HM4.out.box.2.cell (p := ⟨bb, o + k * 32 + j, none⟩) hbb).trans (HRK.out j v hv); clear hm4)
            | ((with_reducible refine wpList_load_mid (op := ⟨some 64, _, _, _, _, _⟩) rfl 37 (.tmp 63) rfl bb (o + k * 32) ?_ (fpL f) _ HR4.out Try.underlying37 rfl HI.out ?_); rfl)
            | (go_at_call 20; refine (put_at x Hc.out g b _ HL7.out f hfp _ HM4.out.part).mono ?_; rintro e w5 ⟨he5, hg5, hp5⟩; rw [HB.out] at he5 hp5; subst he5; have HG5 := Lib.hid hg5; have HP5 := Lib.hid hp5; clear hg5 hp5)
            | (go_at_call 21; refine (len_at x g b _ _ HP5.out).mono ?_; rintro e w6 ⟨rfl, rfl⟩))
          go_roundg (m - (k + 1))
        case measure => rw [HK.out]; omega
        case rel => exact ⟨k + 1, [] ++ [f], by omega, rfl, by go_num, puts_no HM4.out HQ.out.2.2.1 HB.out HG5.out HP5.out, by simp⟩
        case measure => rw [HK.out]; omega
        case rel => exact ⟨k + 1, [], by omega, rfl, by go_num, puts_yes HM4.out HG5.out HP5.out, by simp⟩
      · have hkr2 : ((k : Int) == r) = false := by simpa using hkr
        have HKR := Lib.hid hkr
        clear hkr
        have HQ : Hid (PutsAt x w g b (u9) ls wr) := HP.out
        have HR : Hid (wr.rangeAt bb (o + k * 32) (fpL f)) := fun j v hv => (HQ.out.2.2.2.2.1.2.cell (p := ⟨bb, o + k * 32 + j, none⟩) hbb).trans (HRK.out j v hv)
        have hll : (ls : List Fp).length ≤ k := by exact hlk
        obtain ⟨B, hB⟩ : ∃ B, endB x.c (ls : List Fp).length f = B := ⟨_, rfl⟩
        have HB := Lib.hid hB
        clear hB
        have HQ1 := Lib.hid HQ.out.1
        have HFL : Hid ((fpL f).length = 1 * 32) := fpL_length hfp
        have HNW : Hid (∀ (W : World) (j : Nat) (u : Value), (fpL f)[j]? = some u → (W.alloc (.cells (fpL f).toArray 37)).cell? ((⟨W.heap.size, 0, none⟩ : Addr).add j) = some u) := by
          intro W j u hu
          rw [Addr.add_mid, World.cell?_alloc_new, Nat.zero_add]
          simpa using hu
        have HL6 : Hid ((ls : List Fp).length ≤ 600) := by show _ ≤ _; omega
        have HL7 : Hid ((ls : List Fp).length ≤ 1000000) := by show _ ≤ _; omega
        have H63 : Hid ((ls : List Fp).length + 1 ≤ maxLen) := by show _ ≤ _; simp only [maxLen]; omega
        have HBY : Hid (((ls : List Fp).length + 1) * 32 ≤ 140737488355328) := by show _ ≤ _; omega
        have HBS : Hid (∀ ob : Obj, w.heap.size ≤ (World.alloc wr ob).heap.size) := fun ob => by have := HQ.out.2.2.2.2.1.2.size; simp at this ⊢; omega
        cases B
        all_goals
          go_wp2_with (first
            | ((with_reducible refine wpList_load_mid (op := ⟨some 53, _, _, _, _, _⟩) rfl 37 (.tmp 52) rfl bb (o + k * 32) ?_ (fpL f) _ HR.out Try.underlying37 rfl HI.out ?_); rfl)
            | ((with_reducible refine wpList_build_one (op := ⟨some 54, _, _, _, _, _⟩) rfl 22 (.tmp 53) ?_ 37 32 _ (fpL f) ?_ Try.underlying22 Try.sizeOf37 Try.zeroValue37 ?_ ?_ (fpL_length hfp) ?_); rfl; rfl; decide; decide)
            | (go_at_call 19; refine (reset_at x g b _ _ HP.out.2.2.2.1).mono ?_; rintro e wz ⟨rfl, rfl⟩)
            | (at_builtin; refine wpList_append_own _ rfl (.tmp 49) (.tmp 54) _ rfl w.heap.size 37 i37 _ 32 32 Try.underlying22 I37.out Z37.out S37.out Y37.out rfl (by decide) _ (ls : List Fp).length (fpsL ls) rfl (HQ1.out.alloc _) _ _ _ (fpL f) rfl HFL.out (HNW.out _) fpL_one H63.out HBY.out (HBS.out _) ?_; intro v3 w3 hown3 hg3 hnil3; clear hnil3; obtain ⟨g3, c3, rfl, hbg3, hlg3⟩ := ownsRow_succ hown3 (by omega); have HM3 := Lib.hid (PutsMid.of HQ.out hfp _ hown3 hg3); have HX3 := Lib.hid HM3.out.box.1; clear hown3 hg3)
            | ((with_reducible refine wpList_load_row (o := ⟨some 57, _, _, _, _, _⟩) rfl 24 (.tmp 4) rfl w.heap.size ?_ 24 x.A (0, 0) _ HX3.out Try.underlying24 rfl (info24 x) ?_); rfl)
            | (go_at_call 12; refine (puts_cut Hc.out HM3.out HQ.out.2.2.1 HL6.out _ HB.out).mono ?_; rintro e w4 ⟨rfl, hm4⟩; have HM4 := Lib.hid hm4; have HR4 : Hid (w4.rangeAt bb (o + k * 32) (fpL f)) := fun j v hv => (HM4.out.box.2.cell (p := ⟨bb, o + k * 32 + j, none⟩) hbb).trans (HRK.out j v hv); clear hm4)
            | ((with_reducible refine wpList_load_mid (op := ⟨some 64, _, _, _, _, _⟩) rfl 37 (.tmp 63) rfl bb (o + k * 32) ?_ (fpL f) _ HR4.out Try.underlying37 rfl HI.out ?_); rfl)
            | (go_at_call 20; refine (put_at x Hc.out g b _ HL7.out f hfp _ HM4.out.part).mono ?_; rintro e w5 ⟨he5, hg5, hp5⟩; rw [HB.out] at he5 hp5; subst he5; have HG5 := Lib.hid hg5; have HP5 := Lib.hid hp5; clear hg5 hp5)
            | (go_at_call 21; refine (len_at x g b _ _ HP5.out).mono ?_; rintro e w6 ⟨rfl, rfl⟩))
          go_roundg (m - (k + 1))
        case measure => rw [HK.out]; omega
        case rel => exact ⟨k + 1, ls ++ [f], by omega, rfl, by go_num, puts_no HM4.out HQ.out.2.2.1 HB.out HG5.out HP5.out, by simp; omega⟩
        case measure => rw [HK.out]; omega
        case rel => exact ⟨k + 1, [], by omega, rfl, by go_num, puts_yes HM4.out HG5.out HP5.out, by simp⟩
    · go_wp2_with (first
        | (go_at_call 13; refine (awake13 _).mono ?_; rintro e w3 ⟨rfl, hb3⟩))
      go_ret
      exact ⟨rfl, (HP.out.2.2.2.2.1.below hb3).2⟩
theorem segPuts (x : CfX) (A : Option Addr) (n c : Nat) (fs : List Fp) (w : World) (hl : Fps w w.heap.size A n fs) (hnc : n ≤ c) (hcc : c ≤ 9223372036854775807) (r : Int) (hr0 : 0 ≤ r) (hr1 : r ≤ 65535) :
    Calls Try.prog 7 #[.slice A n c, .agg x.A, .int .u16 r] w (LawPost w) := by
  cases hc : may x.c with
  | false => exact segPuts_no x hc A n c w hnc hcc r
  | true => exact segPuts_yes x hc A n c fs w hl hnc hcc r hr0 hr1
end Go.Proofs.Ytkmhjfcjplnjdaa
