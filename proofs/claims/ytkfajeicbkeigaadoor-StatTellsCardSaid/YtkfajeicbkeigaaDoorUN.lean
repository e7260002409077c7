/- The walk over StatTells: all cases joined. -/
import Derived.Test.YtkfajeicbkeigaaDoorUL
import Derived.Test.YtkfajeicbkeigaaDoorUM
namespace Go.Proofs.YtkfajeicbkeigaaDoor
open Go.RowKit Go.Maps
set_option maxRecDepth 100000 in
set_option maxHeartbeats 8000000 in
theorem tells6f {A NA : Option Addr} {c cc : Nat} {us : List Us} {ns : List Nm} {w : World} (h : Uss w A us) (hn : us.length ≤ 9223372036854775807) (hu : ∀ u ∈ us, NmOk u.nm ∧ (∀ c ∈ u.cs, CkOk c) ∧ u.cs.length ≤ 9223372036854775807) (hns : Nms w NA ns) (hno : ∀ s ∈ ns, NmOk s) (_hcc : ns.length ≤ cc) (_hnl : ns.length ≤ 9223372036854775807) (ht : Tb w)  (h8 : 8 < ns.length) :
    Calls Tryd.prog 6 #[.slice A us.length c, .slice NA ns.length cc] w fun e w' => e = .returned (.bool true) ∧ Below w.heap.size w w' := by
  have hq := eq23
  have hg := guard23
  have H := Lib.hid h
  have HU := Lib.hid hu
  have HNS := Lib.hid hns
  have HNO := Lib.hid hno
  have HT := Lib.hid ht
  have HF := Lib.hid (few16 (c := c) h hn (fun u hu' => (hu u hu').2.2))
  clear h hu hns hno ht
  go_enter Tryd.func6, Tryd.ntmps6
  go_wp2_with fail
  refine Calls.mono HF.out ?_
  rintro e w1 ⟨⟨b, rfl, hb⟩, hb1⟩
  have HB1 := Lib.hid hb1
  clear hb1
  cases b
  · clear hb
    go_wp2_with fail
    refine Calls.mono (awake13 _ (HT.out.below HB1.out)) ?_
    rintro e z ⟨rfl, hz⟩
    have HZ : Hid (Below w.heap.size w z) := Lib.hid (HB1.out.trans (hz.mono HB1.out.size))
    clear hz
    go_wp2_with fail
    go_ret
    exact ⟨rfl, HZ.out⟩
  · clear hb
    go_wp2_with fail
    refine Calls.mono (awake13 _ (HT.out.below HB1.out)) ?_
    rintro e z ⟨rfl, hz⟩
    have HZ : Hid (Below w.heap.size w z) := Lib.hid (HB1.out.trans (hz.mono HB1.out.size))
    clear hz
    go_wp2_with fail
    go_ret
    exact ⟨rfl, HZ.out⟩
theorem tells6 {A NA : Option Addr} {c cc : Nat} {us : List Us} {ns : List Nm} {w : World} (h : Uss w A us) (hn : us.length ≤ 9223372036854775807) (hu : ∀ u ∈ us, NmOk u.nm ∧ (∀ c ∈ u.cs, CkOk c) ∧ u.cs.length ≤ 9223372036854775807) (hns : Nms w NA ns) (hno : ∀ s ∈ ns, NmOk s) (hcc : ns.length ≤ cc) (hnl : ns.length ≤ 9223372036854775807) (ht : Tb w) :
    Calls Tryd.prog 6 #[.slice A us.length c, .slice NA ns.length cc] w fun e w' => e = .returned (.bool true) ∧ Below w.heap.size w w' := by
  by_cases h8 : 8 < ns.length
  · exact tells6f h hn hu hns hno hcc hnl ht h8
  rcases chk_two (cnt us) with hch | hch <;> by_cases hm : 1 < ns.length
  · exact tells6d h hn hu hns hno hcc hnl ht (Lib.hid hch) h8 hm
  · exact tells6e h hn hu hns hno hcc hnl ht (Lib.hid hch) h8 hm
  · exact tells6b h hn hu hns hno hcc hnl ht (Lib.hid hch) h8 hm
  · exact tells6c h hn hu hns hno hcc hnl ht (Lib.hid hch) h8 hm
end Go.Proofs.YtkfajeicbkeigaaDoor
