/- AuditTexts and AuditParses: the walks. -/
import Derived.Test.YtocfhldmnbmapaaGreatDoorAN
import Derived.Test.YtocfhldmnbmapaaGreatDoorA4
import Derived.Test.YtocfhldmnbmapaaGreatDoorAB
import Derived.Test.YtocfhldmnbmapaaGreatDoorAF
import Derived.Deep.CutRange
namespace Go.Proofs.YtocfhldmnbmapaaGreatDoor
open Go.RowKit
theorem hexL_len (l : List UInt8) : (hexL l).length = 2 * l.length := by
  induction l with
  | nil => rfl
  | cons c r ih => simp only [hexL, List.flatMap_cons, List.length_append, List.length_cons, List.length_nil] at *; omega
theorem textL_len {k : Int} {id : Nat} {nm : List UInt8} {a : Int} (h : mayP ⟨k, id, nm, a⟩) (hi : id < 4294967296) (ha : a < 4294967296) : (textL ⟨k, id, nm, a⟩).length ≤ 900000 := by
  obtain ⟨h1, h2, h3, h4, -⟩ := h
  simp only at h1 h2 h3 h4
  have hw := word_len ⟨k.toNat, by omega⟩
  have d1 := dec_len hi
  have d2 := dec_len (u := a.toNat) (by omega)
  have d3 := hexL_len nm
  simp only at hw
  unfold textL argsL
  simp only [List.length_append]
  generalize wordsL.getD k.toNat [] = wd at *
  generalize hasT k = b
  obtain ⟨b1, b2, b3⟩ := b
  cases b1 <;> cases b2 <;> cases b3 <;> simp [joinT] <;> omega
set_option maxRecDepth 100000 in
set_option maxHeartbeats 4000000 in
theorem texts3 (k : Int) (id : Nat) (nm : List UInt8) (a : Int) (hi : id < 4294967296) (w : World) (hg : Gw w) : Calls Tryz.prog 3 #[.agg (fdV ⟨k, id, nm, a⟩)] w fun e w' => e = .returned (.bool true) ∧ Below w.heap.size w w' := by
  have HG := Lib.hid hg
  have HI := Lib.hid hi
  have HA := Lib.hid awake8
  have HT := Lib.hid text9
  have HM := Lib.hid rmay12
  have HP := Lib.hid parse13
  have HRT := Lib.hid rtext14
  have H10 := Lib.hid grave10
  have H11 := Lib.hid grave11
  have HEQ := Lib.hid eqF
  have hsz := str_size nm
  unfold fdV
  simp only
  obtain ⟨p, hp⟩ : ∃ p, p = w.heap.size := ⟨_, rfl⟩
  have HR : Hid ((w.alloc (.cells #[.int .i64 k, .int .u32 (id : Nat), .string (str nm), .int .i64 a] 25)).heap[p]? = some (.cells #[.int .i64 k, .int .u32 (id : Nat), .string (str nm), .int .i64 a] 25 (0, 0))) := Lib.hid (by rw [hp]; exact heap_alloc_new _ _)
  have HB : Hid (Below w.heap.size w (w.alloc (.cells #[.int .i64 k, .int .u32 (id : Nat), .string (str nm), .int .i64 a] 25))) := Lib.hid ((Below.refl _ _).alloc (Nat.le_refl _) _)
  clear hg hi
  go_enter Tryz.func3, Tryz.ntmps3
  go_upto_region 1 with fail
  rw [← hp]
  clear hp
  generalize w.alloc (.cells #[.int .i64 k, .int .u32 (id : Nat), .string (str nm), .int .i64 a] 25) = w1 at *
  have HG1 := Lib.hid (HG.out.below HB.out)
  have c0 := cell_of_row w1 p 0 _ 25 (0, 0) HR.out
  have c1 := cell_of_row w1 p 1 _ 25 (0, 0) HR.out
  have c2 := cell_of_row w1 p 2 _ 25 (0, 0) HR.out
  have c3 := cell_of_row w1 p 3 _ 25 (0, 0) HR.out
  by_cases h1 : 200 < nm.length
  · have h1i : (200 : Int) < (nm.length : Int) := by omega
    go_wp2_with fail
    refine Calls.mono (HA.out w1 HG1.out) ?_
    rintro _ w2 ⟨rfl, hb⟩
    go_wp2_with fail
    go_ret
    exact ⟨rfl, HB.out.trans (hb.mono HB.out.size)⟩
  have h1i : ¬ (200 : Int) < (nm.length : Int) := by omega
  by_cases h2 : (4294967296 : Int) ≤ a
  · go_wp2_with fail
    refine Calls.mono (HA.out w1 HG1.out) ?_
    rintro _ w2 ⟨rfl, hb⟩
    go_wp2_with fail
    go_ret
    exact ⟨rfl, HB.out.trans (hb.mono HB.out.size)⟩
  have HA4 : Hid (a < 4294967296) := Lib.hid (by omega)
  go_upto_region 3 with fail
  go_wp2_with fail
  refine Calls.mono (HT.out ⟨k, id, nm, a⟩ w1 HG1.out HI.out HA4.out) ?_
  rintro _ w2 ⟨rfl, hb2⟩
  obtain ⟨L0, hL0⟩ : ∃ L0, (if mayP ⟨k, id, nm, a⟩ then textL ⟨k, id, nm, a⟩ else []) = L0 := ⟨_, rfl⟩
  rw [hL0]
  have HL0 := Lib.hid hL0
  clear hL0
  have HB2 := Lib.hid (HB.out.trans (hb2.mono HB.out.size))
  have HR2 := Lib.hid ((hb2.block _ (lt_of_block HR.out)).trans HR.out)
  clear hb2 c0 c1 c2 c3 HR HB HG1 h1 h2 h1i hsz
  have c0 := cell_of_row w2 p 0 _ 25 (0, 0) HR2.out
  go_upto_region 4 with fail
  go_cut [24] from 18 to 24 (fun s wx => s = .bool false ∧ wx = w2.drew)
  case first =>
    obtain ⟨bl, hbl⟩ : ∃ bl, bl = decide (1 ≤ k ∧ k ≤ 14) := ⟨_, rfl⟩
    have X10 : Hid (∀ W, Calls Tryz.prog 10 #[.int .i64 k] W fun e w' => e = .returned (.bool bl) ∧ w' = W) := Lib.hid (fun W => by rw [hbl]; exact H10.out k W)
    have X11 : Hid (∀ W, Calls Tryz.prog 11 #[.int .i64 k] W fun e w' => e = .returned (.bool bl) ∧ w' = W) := Lib.hid (fun W => by rw [hbl]; exact H11.out k W)
    clear hbl
    cases bl
    all_goals go_region_with (first
      | (go_at_call 10; refine Calls.mono (X10.out _) ?_; rintro e y ⟨rfl, rfl⟩)
      | (go_at_call 11; refine Calls.mono (X11.out _) ?_; rintro e y ⟨rfl, rfl⟩))
    all_goals (go_wp2_with fail; go_meet; exact ⟨rfl, rfl⟩)
  case rest =>
  obtain ⟨rfl, rfl⟩ := hcut
  clear c0
  have HB3 := Lib.hid (below_drew HB2.out)
  have HR3 : Hid (w2.drew.heap[p]? = some (.cells #[.int .i64 k, .int .u32 (id : Nat), .string (str nm), .int .i64 a] 25 (0, 0))) := HR2
  generalize w2.drew = w3 at *
  clear HB2 HR2
  have c0 := cell_of_row w3 p 0 _ 25 (0, 0) HR3.out
  have c1 := cell_of_row w3 p 1 _ 25 (0, 0) HR3.out
  have c2 := cell_of_row w3 p 2 _ 25 (0, 0) HR3.out
  have c3 := cell_of_row w3 p 3 _ 25 (0, 0) HR3.out
  by_cases hm : mayP ⟨k, id, nm, a⟩
  case neg =>
    obtain rfl : L0 = [] := by rw [← HL0.out, if_neg hm]
    clear HL0
    have he := str_e
    have HM3 : Hid (∀ W, Calls Tryz.prog 12 #[.agg #[.int .i64 k, .int .u32 (id : Nat), .string (str nm), .int .i64 a]] W fun e w' => e = .returned (.bool false) ∧ Below W.heap.size W w') := Lib.hid (fun W => by have := HM.out k id nm a W HA4.out; rw [decide_eq_false hm] at this; exact this)
    clear hm
    go_upto_region 6 with fail
    go_wp2_with fail
    refine Calls.mono (HM3.out w3) ?_
    rintro _ w4 ⟨rfl, hb4⟩
    have HB4 := Lib.hid (HB3.out.trans (hb4.mono HB3.out.size))
    clear hb4 c0 c1 c2 c3
    go_wp2_with fail
    refine Calls.mono (HA.out w4 (HG.out.below HB4.out)) ?_
    rintro _ w5 ⟨rfl, hb5⟩
    go_wp2_with fail
    go_ret
    exact ⟨rfl, HB4.out.trans (hb5.mono HB4.out.size)⟩
  obtain rfl : L0 = textL ⟨k, id, nm, a⟩ := by rw [← HL0.out, if_pos hm]
  clear HL0
  have HM3 : Hid (∀ W, Calls Tryz.prog 12 #[.agg #[.int .i64 k, .int .u32 (id : Nat), .string (str nm), .int .i64 a]] W fun e w' => e = .returned (.bool true) ∧ Below W.heap.size W w') := Lib.hid (fun W => by have := HM.out k id nm a W HA4.out; rw [decide_eq_true hm] at this; exact this)
  have HP3 : Hid (∀ W, Gw W → Calls Tryz.prog 13 #[.string (str (textL ⟨k, id, nm, a⟩))] W fun e w' => e = .returned (.tuple #[.agg #[.int .i64 k, .int .u32 (id : Nat), .string (str nm), .int .i64 a], .int .i64 0]) ∧ Below W.heap.size W w') := Lib.hid (fun W hgw => by
    have h := HP.out (textL ⟨k, id, nm, a⟩) (textL_len hm HI.out HA4.out) W hgw
    have hp := parse_text hm HI.out HA4.out
    unfold ParsePost parseF parseE at h
    rw [hp] at h
    exact h)
  have HT3 : Hid (∀ W, Calls Tryz.prog 14 #[.agg #[.int .i64 k, .int .u32 (id : Nat), .string (str nm), .int .i64 a]] W fun e w' => e = .returned (.string (str (textL ⟨k, id, nm, a⟩))) ∧ Below W.heap.size W w') := Lib.hid (fun W => HRT.out k id nm a W HI.out HA4.out hm)
  have HE3 : Hid (∀ W, (binOp .eql 25 (.agg #[.int .i64 k, .int .u32 (id : Nat), .string (str nm), .int .i64 a]) (.agg #[.int .i64 k, .int .u32 (id : Nat), .string (str nm), .int .i64 a])).run Tryz.prog W = .ok (.bool true) W) := Lib.hid (fun W => by have h := HEQ.out ⟨k, id, nm, a⟩ ⟨k, id, nm, a⟩ W; rw [decide_eq_true rfl] at h; exact h)
  clear hm HM HP HRT HEQ
  generalize str (textL ⟨k, id, nm, a⟩) = S at *
  go_upto_region 6 with fail
  go_wp2_with fail
  refine Calls.mono (HM3.out w3) ?_
  rintro _ w4 ⟨rfl, hb4⟩
  have HB4 := Lib.hid (HB3.out.trans (hb4.mono HB3.out.size))
  have HR4 := Lib.hid ((hb4.block _ (lt_of_block HR3.out)).trans HR3.out)
  clear hb4 c0 c1 c2 c3 HR3 HB3
  go_upto_region 8 with fail
  go_wp2_with fail
  refine Calls.mono (HP3.out w4 (HG.out.below HB4.out)) ?_
  rintro _ w5 ⟨rfl, hb5⟩
  have HB5 := Lib.hid (HB4.out.trans (hb5.mono HB4.out.size))
  have HR5 := Lib.hid ((hb5.block _ (lt_of_block HR4.out)).trans HR4.out)
  clear hb5 HR4 HB4
  obtain ⟨q, hq⟩ : ∃ q, q = w5.heap.size := ⟨_, rfl⟩
  have HQ6 : Hid ((w5.alloc (.cells #[.int .i64 k, .int .u32 (id : Nat), .string (str nm), .int .i64 a] 25)).heap[q]? = some (.cells #[.int .i64 k, .int .u32 (id : Nat), .string (str nm), .int .i64 a] 25 (0, 0))) := Lib.hid (by rw [hq]; exact heap_alloc_new _ _)
  have hb6 : Below w5.heap.size w5 (w5.alloc (.cells #[.int .i64 k, .int .u32 (id : Nat), .string (str nm), .int .i64 a] 25)) := (Below.refl _ _).alloc (Nat.le_refl _) _
  have HB6 := Lib.hid (HB5.out.trans (hb6.mono HB5.out.size))
  have HR6 := Lib.hid ((hb6.block _ (lt_of_block HR5.out)).trans HR5.out)
  clear hb6
  go_upto_region 9 with fail
  rw [← hq]
  clear hq HR5 HB5
  generalize w5.alloc (.cells #[.int .i64 k, .int .u32 (id : Nat), .string (str nm), .int .i64 a] 25) = w6 at *
  have c0 := cell_of_row w6 p 0 _ 25 (0, 0) HR6.out
  have c1 := cell_of_row w6 p 1 _ 25 (0, 0) HR6.out
  have c2 := cell_of_row w6 p 2 _ 25 (0, 0) HR6.out
  have c3 := cell_of_row w6 p 3 _ 25 (0, 0) HR6.out
  go_wp2_with fail
  refine Calls.mono (HT3.out w6) ?_
  rintro _ w7 ⟨rfl, hb7⟩
  have HB7 := Lib.hid (HB6.out.trans (hb7.mono HB6.out.size))
  have HR7 := Lib.hid ((hb7.block _ (lt_of_block HR6.out)).trans HR6.out)
  have HQ7 := Lib.hid ((hb7.block _ (lt_of_block HQ6.out)).trans HQ6.out)
  clear hb7 c0 c1 c2 c3 HR6 HQ6 HB6
  have c0 := cell_of_row w7 p 0 _ 25 (0, 0) HR7.out
  have c1 := cell_of_row w7 p 1 _ 25 (0, 0) HR7.out
  have c2 := cell_of_row w7 p 2 _ 25 (0, 0) HR7.out
  have c3 := cell_of_row w7 p 3 _ 25 (0, 0) HR7.out
  have d0 := cell_of_row w7 q 0 _ 25 (0, 0) HQ7.out
  have d1 := cell_of_row w7 q 1 _ 25 (0, 0) HQ7.out
  have d2 := cell_of_row w7 q 2 _ 25 (0, 0) HQ7.out
  have d3 := cell_of_row w7 q 3 _ 25 (0, 0) HQ7.out
  have heq := HE3.out w7
  go_wp2_with fail
  refine Calls.mono (HA.out w7 (HG.out.below HB7.out)) ?_
  rintro _ w8 ⟨rfl, hb8⟩
  go_wp2_with fail
  go_ret
  exact ⟨rfl, HB7.out.trans (hb8.mono HB7.out.size)⟩
set_option maxRecDepth 100000 in
set_option maxHeartbeats 4000000 in
theorem parses4 (s : List UInt8) (w : World) (hg : Gw w) : Calls Tryz.prog 4 #[.string (str s)] w fun e w' => e = .returned (.bool true) ∧ Below w.heap.size w w' := by
  have HG := Lib.hid hg
  have HA := Lib.hid awake8
  have hsz := str_size s
  go_enter Tryz.func4, Tryz.ntmps4
  by_cases h1 : 500 < s.length
  · have h1i : (500 : Int) < (s.length : Int) := by omega
    go_wp2_with fail
    refine Calls.mono (HA.out w HG.out) ?_
    rintro _ w2 ⟨rfl, hb⟩
    go_wp2_with fail
    go_ret
    exact ⟨rfl, hb⟩
  have h1i : ¬ (500 : Int) < (s.length : Int) := by omega
  have HP := Lib.hid (parse13 s (by omega) w hg)
  clear hg
  cases hp : parseO s with
  | none =>
    have HP2 : Hid (Calls Tryz.prog 13 #[.string (str s)] w fun e w' => e = .returned (.tuple #[.agg #[.int .i64 0, .int .u32 0, .string ⟨#[]⟩, .int .i64 0], .int .i64 7]) ∧ Below w.heap.size w w') := Lib.hid (by
      have h := HP.out
      unfold ParsePost parseF parseE at h
      rw [hp] at h
      exact h)
    have HEQ : Hid (∀ W, (binOp .eql 25 (.agg #[.int .i64 0, .int .u32 0, .string ⟨#[]⟩, .int .i64 0]) (.agg #[.int .i64 0, .int .u32 0, .string ⟨#[]⟩, .int .i64 0])).run Tryz.prog W = .ok (.bool true) W) := Lib.hid (fun W => by have h := eqF zfd zfd W; rw [decide_eq_true rfl] at h; exact h)
    clear HP hp
    go_wp2_with fail
    refine Calls.mono HP2.out ?_
    rintro _ w2 ⟨rfl, hb2⟩
    have hb3 : Below w.heap.size w (w2.alloc (.cells #[.int .i64 0, .int .u32 0, .string ⟨#[]⟩, .int .i64 0] 25)) := hb2.alloc hb2.size _
    have HB3 := Lib.hid hb3
    clear hb3 hb2
    obtain ⟨q, hq⟩ : ∃ q, q = w2.heap.size := ⟨_, rfl⟩
    have HQ : Hid ((w2.alloc (.cells #[.int .i64 0, .int .u32 0, .string ⟨#[]⟩, .int .i64 0] 25)).heap[q]? = some (.cells #[.int .i64 0, .int .u32 0, .string ⟨#[]⟩, .int .i64 0] 25 (0, 0))) := Lib.hid (by rw [hq]; exact heap_alloc_new _ _)
    go_upto_region 4 with fail
    rw [← hq]
    clear hq
    generalize w2.alloc (.cells #[.int .i64 0, .int .u32 0, .string ⟨#[]⟩, .int .i64 0] 25) = w3 at *
    have d0 := cell_of_row w3 q 0 _ 25 (0, 0) HQ.out
    have d1 := cell_of_row w3 q 1 _ 25 (0, 0) HQ.out
    have d2 := cell_of_row w3 q 2 _ 25 (0, 0) HQ.out
    have d3 := cell_of_row w3 q 3 _ 25 (0, 0) HQ.out
    have heq := HEQ.out w3
    go_wp2_with fail
    refine Calls.mono (HA.out w3 (HG.out.below HB3.out)) ?_
    rintro _ w8 ⟨rfl, hb8⟩
    go_wp2_with fail
    go_ret
    exact ⟨rfl, HB3.out.trans (hb8.mono HB3.out.size)⟩
  | some f =>
    obtain ⟨hm, hi, ha, htx⟩ := text_parse hp
    have HP1 := HP.out
    unfold ParsePost parseF parseE at HP1
    rw [hp] at HP1
    obtain ⟨k, id, nm, a⟩ := f
    simp only at hi ha
    have HP2 : Hid (Calls Tryz.prog 13 #[.string (str s)] w fun e w' => e = .returned (.tuple #[.agg #[.int .i64 k, .int .u32 (id : Nat), .string (str nm), .int .i64 a], .int .i64 0]) ∧ Below w.heap.size w w') := Lib.hid HP1
    have HM3 : Hid (∀ W, Calls Tryz.prog 12 #[.agg #[.int .i64 k, .int .u32 (id : Nat), .string (str nm), .int .i64 a]] W fun e w' => e = .returned (.bool true) ∧ Below W.heap.size W w') := Lib.hid (fun W => by have := rmay12 k id nm a W ha; rw [decide_eq_true hm] at this; exact this)
    have HT3 : Hid (∀ W, Calls Tryz.prog 14 #[.agg #[.int .i64 k, .int .u32 (id : Nat), .string (str nm), .int .i64 a]] W fun e w' => e = .returned (.string (str s)) ∧ Below W.heap.size W w') := Lib.hid (fun W => by have := rtext14 k id nm a W hi ha hm; rw [htx] at this; exact this)
    clear HP HP1 hp hm hi ha htx
    go_wp2_with fail
    refine Calls.mono HP2.out ?_
    rintro _ w2 ⟨rfl, hb2⟩
    have hb3 : Below w.heap.size w (w2.alloc (.cells #[.int .i64 k, .int .u32 (id : Nat), .string (str nm), .int .i64 a] 25)) := hb2.alloc hb2.size _
    have HB3 := Lib.hid hb3
    clear hb3 hb2 HP2
    obtain ⟨q, hq⟩ : ∃ q, q = w2.heap.size := ⟨_, rfl⟩
    have HQ : Hid ((w2.alloc (.cells #[.int .i64 k, .int .u32 (id : Nat), .string (str nm), .int .i64 a] 25)).heap[q]? = some (.cells #[.int .i64 k, .int .u32 (id : Nat), .string (str nm), .int .i64 a] 25 (0, 0))) := Lib.hid (by rw [hq]; exact heap_alloc_new _ _)
    go_upto_region 4 with fail
    rw [← hq]
    clear hq
    generalize w2.alloc (.cells #[.int .i64 k, .int .u32 (id : Nat), .string (str nm), .int .i64 a] 25) = w3 at *
    have d0 := cell_of_row w3 q 0 _ 25 (0, 0) HQ.out
    have d1 := cell_of_row w3 q 1 _ 25 (0, 0) HQ.out
    have d2 := cell_of_row w3 q 2 _ 25 (0, 0) HQ.out
    have d3 := cell_of_row w3 q 3 _ 25 (0, 0) HQ.out
    go_upto_region 6 with fail
    go_wp2_with fail
    refine Calls.mono (HM3.out w3) ?_
    rintro _ w4 ⟨rfl, hb4⟩
    have HB4 := Lib.hid (HB3.out.trans (hb4.mono HB3.out.size))
    have HQ4 := Lib.hid ((hb4.block _ (lt_of_block HQ.out)).trans HQ.out)
    clear hb4 d0 d1 d2 d3 HB3 HQ
    have d0 := cell_of_row w4 q 0 _ 25 (0, 0) HQ4.out
    have d1 := cell_of_row w4 q 1 _ 25 (0, 0) HQ4.out
    have d2 := cell_of_row w4 q 2 _ 25 (0, 0) HQ4.out
    have d3 := cell_of_row w4 q 3 _ 25 (0, 0) HQ4.out
    go_wp2_with fail
    refine Calls.mono (HT3.out w4) ?_
    rintro _ w5 ⟨rfl, hb5⟩
    have HB5 := Lib.hid (HB4.out.trans (hb5.mono HB4.out.size))
    clear hb5 d0 d1 d2 d3 HB4 HQ4
    go_wp2_with fail
    refine Calls.mono (HA.out w5 (HG.out.below HB5.out)) ?_
    rintro _ w8 ⟨rfl, hb8⟩
    go_wp2_with fail
    go_ret
    exact ⟨rfl, HB5.out.trans (hb8.mono HB5.out.size)⟩
end Go.Proofs.YtocfhldmnbmapaaGreatDoor
