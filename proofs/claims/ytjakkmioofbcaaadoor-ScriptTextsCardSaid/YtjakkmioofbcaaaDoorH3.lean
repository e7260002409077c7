/- The walk over awake. -/
import Derived.Test.YtjakkmioofbcaaaDoorH2
namespace Go.Proofs.YtjakkmioofbcaaaDoor
open Go.RowKit
def aw1 : St := ⟨1, 2, [], [97, 98], 0, [], c0⟩
def aw2 : St := ⟨3, 0, [], [], 0, [true, false], c0⟩
def aw3 : St := ⟨2, 0, [], [], 3, [], c0⟩
theorem line1 : lineL aw1 = [119, 114, 105, 116, 101, 32, 54, 49, 54, 50] := by decide +kernel
theorem line2 : lineL aw2 = [112, 111, 119, 101, 114, 32, 49, 48] := by decide +kernel
theorem line3 : lineL aw3 = [102, 117, 115, 101, 32, 51] := by
  show fuseW ++ 32 :: digs 3 = _
  rw [digs_small (by omega)]
  rfl
theorem may1 : mayB aw1 = true := by simp only [mayB, line1]; decide +kernel
theorem may2 : mayB aw2 = true := by simp only [mayB, line2]; decide +kernel
theorem may3 : mayB aw3 = true := by simp only [mayB, line3]; decide +kernel
theorem v1 : lineV aw1 = .tuple #[.string (str [119, 114, 105, 116, 101, 32, 54, 49, 54, 50]), .int .i64 0] := by rw [lineV, may1, line1]; rfl
theorem v2 : lineV aw2 = .tuple #[.string (str [112, 111, 119, 101, 114, 32, 49, 48]), .int .i64 0] := by rw [lineV, may2, line2]; rfl
theorem v3 : lineV aw3 = .tuple #[.string (str [102, 117, 115, 101, 32, 51]), .int .i64 0] := by rw [lineV, may3, line3]; rfl
set_option maxRecDepth 100000 in
set_option maxHeartbeats 1000000 in
theorem awake7 (w : World) : Calls Tryd.prog 9 #[] w fun e w' => e = .returned (.bool true) ∧ Below w.heap.size w w' := by
  have C1 : Hid (∀ W, Calls Tryd.prog 26 #[.agg #[.int .i64 1, .int .i64 2, .string ⟨#[]⟩, .string ⟨#[97, 98]⟩, .int .i64 0, .slice none 0 0, .int .i64 0, .int .i64 0, .int .i64 0, .int .i64 0, .int .i64 0, .int .i64 0, .int .i64 0, .int .i64 0, .int .i64 0, .int .i64 0, .int .i64 0, .int .i64 0, .int .i64 0]] W fun e w' => e = .returned (.tuple #[.string (str [119, 114, 105, 116, 101, 32, 54, 49, 54, 50]), .int .i64 0]) ∧ Below W.heap.size W w') := Lib.hid (fun W => by
    have := line9 aw1 none 0 W (Kp.nil _) ⟨by decide, by decide, by decide⟩
    rw [v1] at this
    exact this)
  have C2 : Hid (∀ W g, W.heap[g]? = some (.cells #[.bool true, .bool false] 4 (0, 0)) → Calls Tryd.prog 26 #[.agg #[.int .i64 3, .int .i64 0, .string ⟨#[]⟩, .string ⟨#[]⟩, .int .i64 0, .slice (some ⟨g, 0, none⟩) 2 2, .int .i64 0, .int .i64 0, .int .i64 0, .int .i64 0, .int .i64 0, .int .i64 0, .int .i64 0, .int .i64 0, .int .i64 0, .int .i64 0, .int .i64 0, .int .i64 0, .int .i64 0]] W fun e w' => e = .returned (.tuple #[.string (str [112, 111, 119, 101, 114, 32, 49, 48]), .int .i64 0]) ∧ Below W.heap.size W w') := Lib.hid (fun W g hg => by
    have := line9 aw2 (some ⟨g, 0, none⟩) 2 W ⟨⟨some ⟨g, 0, none⟩, 2, rfl⟩, fun _ => ⟨g, 0, 2, rfl, (Array.getElem?_eq_some_iff.1 hg).1, fun i hi => by
      rw [cell_of_row W g _ _ _ _ hg]
      match i, hi with
      | 0, _ => rfl
      | 1, _ => rfl⟩⟩ ⟨by decide, by decide, by decide⟩
    rw [v2] at this
    exact this)
  have C3 : Hid (∀ W, Calls Tryd.prog 26 #[.agg #[.int .i64 2, .int .i64 0, .string ⟨#[]⟩, .string ⟨#[]⟩, .int .i64 3, .slice none 0 0, .int .i64 0, .int .i64 0, .int .i64 0, .int .i64 0, .int .i64 0, .int .i64 0, .int .i64 0, .int .i64 0, .int .i64 0, .int .i64 0, .int .i64 0, .int .i64 0, .int .i64 0]] W fun e w' => e = .returned (.tuple #[.string (str [102, 117, 115, 101, 32, 51]), .int .i64 0]) ∧ Below W.heap.size W w') := Lib.hid (fun W => by
    have := line9 aw3 none 0 W (Kp.nil _) ⟨by decide, by decide, by decide⟩
    rw [v3] at this
    exact this)
  have t1 : ((str [119, 114, 105, 116, 101, 32, 54, 49, 54, 50]).toList == [119, 114, 105, 116, 101, 32, 54, 49, 54, 50]) = true := by rw [str_toList]; rfl
  have t2 : ((str [112, 111, 119, 101, 114, 32, 49, 48]).toList == [112, 111, 119, 101, 114, 32, 49, 48]) = true := by rw [str_toList]; rfl
  have t3 : ((str [102, 117, 115, 101, 32, 51]).toList == [102, 117, 115, 101, 32, 51]) = true := by rw [str_toList]; rfl
  go_enter Tryd.func9, Tryd.ntmps9
  go_wp2_with fail
  refine Calls.mono (C1.out _) ?_
  rintro e w1 ⟨rfl, hb1⟩
  have HB1 := Lib.hid hb1
  clear hb1
  generalize str [119, 114, 105, 116, 101, 32, 54, 49, 54, 50] = s1 at *
  go_wp2_with fail
  refine Calls.mono (C2.out _ _ (heap_alloc_new _ _)) ?_
  rintro e w2 ⟨rfl, hb2⟩
  have HB2 : Hid (Below w.heap.size w w2) := Lib.hid ((HB1.out.alloc HB1.out.size _).trans (hb2.mono (HB1.out.alloc HB1.out.size _).size))
  clear hb2
  generalize str [112, 111, 119, 101, 114, 32, 49, 48] = s2 at *
  go_wp2_with fail
  refine Calls.mono (C3.out _) ?_
  rintro e w3 ⟨rfl, hb3⟩
  have HB3 : Hid (Below w.heap.size w w3) := Lib.hid (HB2.out.trans (hb3.mono HB2.out.size))
  clear hb3
  generalize str [102, 117, 115, 101, 32, 51] = s3 at *
  go_wp2_with fail
  go_ret
  exact ⟨rfl, HB3.out⟩
end Go.Proofs.YtjakkmioofbcaaaDoor
