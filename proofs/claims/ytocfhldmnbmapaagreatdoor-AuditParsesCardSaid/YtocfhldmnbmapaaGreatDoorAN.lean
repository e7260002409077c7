/- awake: it answers true. -/
import Derived.Test.YtocfhldmnbmapaaGreatDoorAM
namespace Go.Proofs.YtocfhldmnbmapaaGreatDoor
open Go.RowKit
theorem made_one (z : Value) (n : Nat) : (madeCells #[z] n).toList = List.replicate n z := by
  apply List.ext_getElem
  · rw [Array.length_toList, size_madeCells, List.length_replicate]
  · intro i h1 h2
    simp [madeCells, Nat.mod_one]
theorem made640 : (madeCells (Value.int .u8 0).cells (640 * 1)).toList = bytesV (zs 640) := by
  rw [show (Value.int .u8 0).cells = #[Value.int .u8 0] from rfl, made_one, bytesV, zs, List.map_replicate]
  rfl
instance fdDec (f g : Fd) : Decidable (f = g) := decidable_of_iff (f.k = g.k ∧ f.id = g.id ∧ f.nm = g.nm ∧ f.at_ = g.at_) (by cases f; cases g; simp)
theorem stood25 : Tryz.prog.stoodInHeld 25 = false := by kernel_rfl
theorem guard25 : Tryz.prog.eqGuardType Tryz.prog.depth 25 = false := by kernel_rfl
theorem inF (k k' : Int) (i i' : Nat) (n n' : List UInt8) (a a' : Int) (W : World) : (Op.equalIn 10000 25 (.agg (fdV ⟨k, i, n, a⟩)) (.agg (fdV ⟨k', i', n', a'⟩))).run Tryz.prog W = .ok (decide ((⟨k, i, n, a⟩ : Fd) = ⟨k', i', n', a'⟩)) W := by
  rw [run_equalIn_struct W 9999 25 _ _ (by kernel_rfl) stood25]
  have hf : (Tryz.prog.fieldsOf 25).toList = [{ name := "Kind", type := 22, offset := 0, embedded := false, tag := "", pkgPath := "", byteOffset := 0 }, { name := "ID", type := 23, offset := 1, embedded := false, tag := "", pkgPath := "", byteOffset := 8 }, { name := "Name", type := 9, offset := 2, embedded := false, tag := "", pkgPath := "", byteOffset := 16 }, { name := "At", type := 3, offset := 3, embedded := false, tag := "", pkgPath := "", byteOffset := 32 }] := by kernel_rfl
  rw [hf]
  unfold fdV
  have p0 : ∀ (o : Int) (j : Int) (x : ByteArray) (b : Int) (W : World), (part 22 #[.int .i64 o, .int .u32 j, .string x, .int .i64 b] 0).run Tryz.prog W = .ok (.int .i64 o) W := fun _ _ _ _ _ => by kernel_rfl
  have p1 : ∀ (o : Int) (j : Int) (x : ByteArray) (b : Int) (W : World), (part 23 #[.int .i64 o, .int .u32 j, .string x, .int .i64 b] 1).run Tryz.prog W = .ok (.int .u32 j) W := fun _ _ _ _ _ => by kernel_rfl
  have p2 : ∀ (o : Int) (j : Int) (x : ByteArray) (b : Int) (W : World), (part 9 #[.int .i64 o, .int .u32 j, .string x, .int .i64 b] 2).run Tryz.prog W = .ok (.string x) W := fun _ _ _ _ _ => by kernel_rfl
  have p3 : ∀ (o : Int) (j : Int) (x : ByteArray) (b : Int) (W : World), (part 3 #[.int .i64 o, .int .u32 j, .string x, .int .i64 b] 3).run Tryz.prog W = .ok (.int .i64 b) W := fun _ _ _ _ _ => by kernel_rfl
  have q0 : ∀ (x y : Int) (W : World), (Op.equalIn 9999 22 (.int .i64 x) (.int .i64 y)).run Tryz.prog W = .ok (x == y) W := fun x y W => run_equalIn_int W 9998 22 .i64 .i64 x y Tryz.underlying22
  have q1 : ∀ (x y : Int) (W : World), (Op.equalIn 9999 23 (.int .u32 x) (.int .u32 y)).run Tryz.prog W = .ok (x == y) W := fun x y W => run_equalIn_int W 9998 23 .u32 .u32 x y Tryz.underlying23
  have q2 : ∀ (x y : ByteArray) (W : World), (Op.equalIn 9999 9 (.string x) (.string y)).run Tryz.prog W = .ok (x.toList == y.toList) W := fun x y W => run_equalIn_string W 9998 9 x y Tryz.underlying9
  have q3 : ∀ (x y : Int) (W : World), (Op.equalIn 9999 3 (.int .i64 x) (.int .i64 y)).run Tryz.prog W = .ok (x == y) W := fun x y W => run_equalIn_int W 9998 3 .i64 .i64 x y Tryz.underlying3
  simp only [Op.eqFields, Sem.run_bind, p0, p1, p2, p3, q0, q1, q2, q3, Result.andThen_ok, Sem.run_ite, Sem.run_pure, str_beq]
  by_cases h0 : k = k' <;> by_cases h1 : i = i' <;> by_cases h2 : n = n' <;> by_cases h3 : a = a' <;> simp [h0, h1, h2, h3] <;> omega
theorem eqF (f g : Fd) (W : World) : (binOp .eql 25 (.agg (fdV f)) (.agg (fdV g))).run Tryz.prog W = .ok (.bool (decide (f = g))) W := by
  rw [run_eql_struct]
  have := inF f.k g.k f.id g.id f.nm g.nm f.at_ g.at_ W
  obtain ⟨k, i, n, a⟩ := f
  obtain ⟨k', i', n', a'⟩ := g
  rw [this]
  rfl
theorem may_ex : mayP ⟨6, 3, [], 1⟩ := by decide
theorem text_ex : textL ⟨6, 3, [], 1⟩ = [115, 108, 111, 116, 32, 51, 32, 49] := by
  have h3 : Lib.decDigits 3 = [51] := by rw [Lib.decDigits]; rfl
  have h1 : Lib.decDigits 1 = [49] := by rw [Lib.decDigits]; rfl
  change wordsL.getD 6 [] ++ joinT ([Lib.decDigits 3] ++ ([] ++ [Lib.decDigits 1])) = _
  rw [h3, h1]
  rfl
theorem ptext_ex (w : World) (hg : Gw w) : Calls Tryz.prog 9 #[.agg #[.int .i64 6, .int .u32 3, .string ⟨#[]⟩, .int .i64 1]] w fun e w' => e = .returned (.string ⟨#[115, 108, 111, 116, 32, 51, 32, 49]⟩) ∧ Below w.heap.size w w' := by
  have h := text9 ⟨6, 3, [], 1⟩ w hg (by decide) (by decide)
  rw [if_pos may_ex, text_ex] at h
  exact h
theorem parse_ex (w : World) (hg : Gw w) : Calls Tryz.prog 13 #[.string ⟨#[115, 108, 111, 116, 32, 51, 32, 49]⟩] w fun e w' => e = .returned (.tuple #[.agg #[.int .i64 6, .int .u32 3, .string ⟨#[]⟩, .int .i64 1], .int .i64 0]) ∧ Below w.heap.size w w' := by
  have h := parse13 [115, 108, 111, 116, 32, 51, 32, 49] (by decide) w hg
  have hp : parseO [115, 108, 111, 116, 32, 51, 32, 49] = some ⟨6, 3, [], 1⟩ := by rw [← text_ex]; exact parse_text may_ex (by decide) (by decide)
  unfold ParsePost parseF parseE at h
  rw [hp] at h
  exact h
theorem eq_ex (W : World) : (binOp .eql 25 (.agg #[.int .i64 6, .int .u32 3, .string ⟨#[]⟩, .int .i64 1]) (.agg #[.int .i64 6, .int .u32 3, .string ⟨#[]⟩, .int .i64 1])).run Tryz.prog W = .ok (.bool true) W := by
  have h := eqF ⟨6, 3, [], 1⟩ ⟨6, 3, [], 1⟩ W
  rw [decide_eq_true rfl] at h
  exact h
set_option maxRecDepth 100000 in
set_option maxHeartbeats 2000000 in
theorem awake8 (w : World) (hg : Gw w) : Calls Tryz.prog 8 #[] w fun e w' => e = .returned (.bool true) ∧ Below w.heap.size w w' := by
  have HG := Lib.hid hg
  have HL := Lib.hid look17
  have HT := Lib.hid ptext_ex
  have HP := Lib.hid parse_ex
  have HGR := Lib.hid grave10
  have HEQ := Lib.hid eq_ex
  obtain ⟨i0, hi, hz0, hz1, hz2⟩ := info_parts info5
  obtain ⟨w1, hmk, hown, hgr⟩ := run_makeSlice_full (P := Tryz.prog) (w := w) w.heap.size 74 5 i0 _ 1 Tryz.underlying74 hi hz0 hz1 .i64 .i64 640 (by decide) (by rw [hz2]; decide) (by decide) (Nat.le_refl _)
  rw [made640] at hown
  have hcv := conv_own (l := zs 640) (by rw [zs_len]; exact hown)
  have hmk2 : (Instr.makeSlice 74 (.int .i64 640) (.int .i64 640)).run Tryz.prog w = .ok (.slice (some ⟨w.heap.size, 0, none⟩) 640 640) w1 := hmk
  have HB1 : Hid (Below w.heap.size w w1) := Lib.hid ⟨hgr.os, hgr.tape, hgr.output, hgr.size, fun k hk => hgr.block k hk (by simp)⟩
  clear hmk hown hgr hi hz0 hz1 hz2 hg
  generalize str (zs 640) = Z at *
  go_enter Tryz.func8, Tryz.ntmps8
  go_wp2_with fail
  refine Calls.mono (HL.out w1) ?_
  rintro _ w2 ⟨v, rfl, hb2, hown2⟩
  obtain ⟨hl, h | ⟨g, cap, cur, rfl, hge, hrow, -⟩⟩ := id hown2
  · exact absurd h.2 (by decide)
  have HC0 : Hid (w2.cell? ⟨g, 0, none⟩ = some (.int .i64 1)) := Lib.hid (by rw [hown2.cellAt 0 (by decide)]; rfl)
  have HGL : Hid (g < w2.heap.size) := Lib.hid (lt_of_block hrow)
  have HB2 := Lib.hid (HB1.out.trans (hb2.mono HB1.out.size))
  clear hown2 hrow hb2 hge hmk2 hcv hl HB1
  go_upto_region 3 with fail
  have HB3 : Hid (Below w2.heap.size w2 (w2.alloc (.cells #[.int .i64 6, .int .u32 3, .string ⟨#[]⟩, .int .i64 1] 25))) := Lib.hid ((Below.refl _ _).alloc (Nat.le_refl _) _)
  obtain ⟨p, hp⟩ : ∃ p, p = w2.heap.size := ⟨_, rfl⟩
  have HR3 : Hid ((w2.alloc (.cells #[.int .i64 6, .int .u32 3, .string ⟨#[]⟩, .int .i64 1] 25)).heap[p]? = some (.cells #[.int .i64 6, .int .u32 3, .string ⟨#[]⟩, .int .i64 1] 25 (0, 0))) := Lib.hid (by rw [hp]; exact heap_alloc_new _ _)
  rw [← hp]
  clear hp
  generalize w2.alloc (.cells #[.int .i64 6, .int .u32 3, .string ⟨#[]⟩, .int .i64 1] 25) = w3 at *
  have HB3w := Lib.hid (HB2.out.trans (HB3.out.mono HB2.out.size))
  have HC3 : Hid (w3.cell? ⟨g, 0, none⟩ = some (.int .i64 1)) := Lib.hid ((HB3.out.cell (p := ⟨g, 0, none⟩) HGL.out).trans HC0.out)
  have HG3 : Hid (g < w3.heap.size) := Lib.hid (Nat.lt_of_lt_of_le HGL.out HB3.out.size)
  clear HB3 HB2 HC0 HGL HL
  have ld3 := loadVar25 (f := ⟨6, 3, [], 1⟩) HR3.out
  have c0 := cell_of_row w3 p 0 _ 25 (0, 0) HR3.out
  have c1 := cell_of_row w3 p 1 _ 25 (0, 0) HR3.out
  have c2 := cell_of_row w3 p 2 _ 25 (0, 0) HR3.out
  have c3 := cell_of_row w3 p 3 _ 25 (0, 0) HR3.out
  clear ld3
  go_wp2_with fail
  refine Calls.mono (HT.out w3 (HG.out.below HB3w.out)) ?_
  rintro _ w4 ⟨rfl, hb4⟩
  have HB4 := Lib.hid hb4
  have HB4w := Lib.hid (HB3w.out.trans (hb4.mono HB3w.out.size))
  clear hb4 c0 c1 c2 c3
  go_wp2_with fail
  refine Calls.mono (HP.out w4 (HG.out.below HB4w.out)) ?_
  rintro _ w5 ⟨rfl, hb5⟩
  have HB5 := Lib.hid (HB4.out.trans (hb5.mono HB4.out.size))
  clear hb5 HB4
  go_upto_region 4 with fail
  have HB6 : Hid (Below w3.heap.size w3 (w5.alloc (.cells #[.int .i64 6, .int .u32 3, .string ⟨#[]⟩, .int .i64 1] 25))) := Lib.hid (HB5.out.alloc HB5.out.size _)
  obtain ⟨q, hq⟩ : ∃ q, q = w5.heap.size := ⟨_, rfl⟩
  have HR6 : Hid ((w5.alloc (.cells #[.int .i64 6, .int .u32 3, .string ⟨#[]⟩, .int .i64 1] 25)).heap[q]? = some (.cells #[.int .i64 6, .int .u32 3, .string ⟨#[]⟩, .int .i64 1] 25 (0, 0))) := Lib.hid (by rw [hq]; exact heap_alloc_new _ _)
  rw [← hq]
  clear hq HB5
  generalize w5.alloc (.cells #[.int .i64 6, .int .u32 3, .string ⟨#[]⟩, .int .i64 1] 25) = w6 at *
  have HB6w := Lib.hid (HB3w.out.trans (HB6.out.mono HB3w.out.size))
  have cg := (HB6.out.cell (p := ⟨g, 0, none⟩) HG3.out).trans HC3.out
  have HP6 := Lib.hid ((HB6.out.block _ (lt_of_block HR3.out)).trans HR3.out)
  have c0 := cell_of_row w6 p 0 _ 25 (0, 0) HP6.out
  have c1 := cell_of_row w6 p 1 _ 25 (0, 0) HP6.out
  have c2 := cell_of_row w6 p 2 _ 25 (0, 0) HP6.out
  have c3 := cell_of_row w6 p 3 _ 25 (0, 0) HP6.out
  clear HB4w HB3w
  go_wp2_with fail
  refine Calls.mono (HT.out w6 (HG.out.below HB6w.out)) ?_
  rintro _ w7 ⟨rfl, hb7⟩
  have HB7w := Lib.hid (HB6w.out.trans (hb7.mono HB6w.out.size))
  have HP7 := Lib.hid ((hb7.block _ (lt_of_block HP6.out)).trans HP6.out)
  have HQ7 := Lib.hid ((hb7.block _ (lt_of_block HR6.out)).trans HR6.out)
  clear hb7 cg c0 c1 c2 c3
  have c0 := cell_of_row w7 p 0 _ 25 (0, 0) HP7.out
  have c1 := cell_of_row w7 p 1 _ 25 (0, 0) HP7.out
  have c2 := cell_of_row w7 p 2 _ 25 (0, 0) HP7.out
  have c3 := cell_of_row w7 p 3 _ 25 (0, 0) HP7.out
  have d0 := cell_of_row w7 q 0 _ 25 (0, 0) HQ7.out
  have d1 := cell_of_row w7 q 1 _ 25 (0, 0) HQ7.out
  have d2 := cell_of_row w7 q 2 _ 25 (0, 0) HQ7.out
  have d3 := cell_of_row w7 q 3 _ 25 (0, 0) HQ7.out
  have heq := HEQ.out w7
  go_wp2_with fail
  refine Calls.mono (HGR.out 6 w7) ?_
  rintro _ y ⟨rfl, hy⟩
  rw [hy]
  clear hy y
  go_wp2_with fail
  refine Calls.mono (HGR.out 17 w7) ?_
  rintro _ y ⟨rfl, hy⟩
  rw [hy]
  clear hy y
  go_wp2_with fail
  go_ret
  exact ⟨rfl, HB7w.out⟩
end Go.Proofs.YtocfhldmnbmapaaGreatDoor
