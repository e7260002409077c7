/- The walk over ChampChooses. -/
import Derived.Test.YtijdkgklajdbnaaBB
namespace Go.Proofs.Ytijdkgklajdbnaa
open Go.RowKit
set_option maxRecDepth 100000 in
set_option maxHeartbeats 4000000 in
theorem chooses5 {A B : Option Addr} {c d : Nat} {hs : List Fp} {ls : List Lst} {most : Int} {w : World} (h : Fps w A hs) (hl : Ls w B ls) (ha : AllFp hs) (hlo : ∀ x ∈ ls, AOkc x) (hid : ∀ x ∈ ls, ∀ y ∈ x.l, IdOk y) :
    Calls Try.prog 5 #[.slice A hs.length c, .slice B ls.length d, .int .i64 most] w fun e w' => e = .returned (.bool true) ∧ Below w.heap.size w w' := by
  have HC := Lib.hid (few9 (c := c) (d := d) h hl ha hlo)
  have HA := Lib.hid ha
  have HID := Lib.hid hid
  clear h hl ha hlo hid
  go_enter Try.func5, Try.ntmps5
  go_wp2_with fail
  refine Calls.mono HC.out ?_
  intro e w1 hp
  obtain ⟨XA, Xc, VA, Vc, F, vs, rfl, hlaw, hbw⟩ := few_law hp HA.out HID.out
  have HL := Lib.hid hlaw
  have HBW := Lib.hid hbw
  clear hp hlaw hbw HC HA HID
  go_upto_region 2 with fail
  have hg2 : w1.heap.size + 1 = w1.heap.size + 1 := rfl
  generalize (w1.alloc (.cells #[.slice XA F.length Xc] 22)).alloc (.cells #[.slice VA vs.length Vc] 23) = W0 at *
  generalize w1.heap.size = g1 at *
  clear hg2
  have HCS : Hid (∀ W, Below W0.heap.size W0 W → W.cell? ⟨g1, 0, none⟩ = some (.slice XA F.length Xc) ∧ W.cell? ⟨g1 + 1, 0, none⟩ = some (.slice VA vs.length Vc)) := Lib.hid (fun W hW => HL.out.cells hW)
  have c1 := HL.out.c1
  have c2 := HL.out.c2
  have HC18 := Lib.hid (chooseW (most := most) 19 HL.out (asked19 HL.out (Below.refl _ _)))
  have HC21 := Lib.hid (fun (W : World) (hw : Below W0.heap.size W0 W) => rchooseW (most := most) HL.out hw)
  generalize refChoose (ids (toldL F vs)) most = R at *
  go_wp2_with fail
  refine Calls.mono HC18.out ?_
  rintro e w2 ⟨C, q, rfl, hri, h64, _, hb2⟩
  have HRI := Lib.hid hri
  have HB2 := Lib.hid hb2
  have c1 := (HCS.out w2 hb2).1
  have c2 := (HCS.out w2 hb2).2
  have HX := Lib.hid (HC21.out w2 hb2)
  clear hri hb2
  go_wp2_with fail
  refine Calls.mono HX.out ?_
  rintro e w3 ⟨C2, q2, rfl, hri2, hb3⟩
  have HB3 : Hid (Below W0.heap.size W0 w3) := Lib.hid (HB2.out.trans (hb3.mono HB2.out.size))
  have HSAME := Lib.hid (same20 (c := q) (d := q2) (HRI.out.below hb3) hri2 (by omega))
  rw [decide_eq_true rfl] at HSAME
  clear hri2 hb3
  go_wp2_with fail
  refine Calls.mono HSAME.out ?_
  rintro e w4 ⟨rfl, n, rfl⟩
  have HB4 : Hid (Below W0.heap.size W0 (w3.drewN n)) := Lib.hid (below_drewN HB3.out n)
  have HAW := Lib.hid (awakeW HB4.out)
  go_wp2_with fail
  refine Calls.mono HAW.out ?_
  rintro e w5 ⟨rfl, hb5⟩
  have HB5 := Lib.hid hb5
  clear hb5
  go_wp2_with fail
  go_ret
  exact ⟨rfl, HBW.out.trans (HB5.out.mono HBW.out.size)⟩
end Go.Proofs.Ytijdkgklajdbnaa
