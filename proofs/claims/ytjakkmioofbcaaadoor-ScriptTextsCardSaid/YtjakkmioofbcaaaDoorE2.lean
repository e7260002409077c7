/- The walks over the reference's sizes, Conf. -/
import Derived.Test.YtjakkmioofbcaaaDoorE1
import Derived.Test.YtjakkmioofbcaaaDoorA8
namespace Go.Proofs.YtjakkmioofbcaaaDoor
open Go.RowKit
def szs (ws : List (List UInt8)) : List Int := ws.map sz
set_option maxRecDepth 100000 in
set_option maxHeartbeats 1000000 in
theorem rsizes38 (v : Value) (ws : List (List UInt8)) (w : World) (hw : Ws w v ws) (hl : ws.length ≤ 1000000) (hx : ∀ x ∈ ws, x.length ≤ 1000000) : Calls Tryd.prog 21 #[v] w fun e w' => ∃ u, e = .returned u ∧ Is w' u (szs ws) ∧ Below w.heap.size w w' := by
  obtain ⟨A, cp, rfl⟩ := hw.1
  have HWS := Lib.hid hw
  have HX := Lib.hid hx
  have HLN := Lib.hid hl
  clear hw hx
  obtain ⟨i0, hi, hz0, hz1, hz2⟩ := info_parts info3
  have I0 := Lib.hid hi
  have Z0 := Lib.hid hz0
  have S0 := Lib.hid hz1
  have Y0 := Lib.hid hz2
  clear hi hz0 hz1 hz2
  go_enter Tryd.func21, Tryd.ntmps21
  go_wp2_with fail
  go_loopg [3, 4] ws.length (fun gk out i wr => ∃ k : Nat, k ≤ ws.length ∧ gk = ws.length - k ∧ i = .int .i64 k ∧ wr.ownsRow w.heap.size 3 1 out k (intsV ((szs ws).take k)) ∧ Below w.heap.size w wr)
  case atStart => exact ⟨0, Nat.zero_le _, rfl, rfl, World.ownsRow_nil _ _ _ _, Below.refl _ _⟩
  case round =>
    obtain ⟨k, hk, hgk, rfl, hr, hb⟩ := hrel
    obtain ⟨AA, ac, hv⟩ := own_slice hr
    subst hv
    have HK := Lib.hid hgk
    have HR := Lib.hid hr
    have HB := Lib.hid hb
    clear hgk hr hb
    by_cases hkl : k < ws.length
    · obtain ⟨b, o, c', e, hlt, _, hc⟩ := (HWS.out.below (Nat.le_refl _) HB.out).2 (by intro e; rw [e] at hkl; simp at hkl)
      injection e with e1 e2 e3
      subst e1
      subst e3
      have hcell := hc k hkl
      have h1 : (k : Int) < (ws.length : Int) := by omega
      have HT : Hid ((szs ws).take (k + 1) = (szs ws).take k ++ [sz (ws.getD k [])]) := Lib.hid (by
        rw [List.take_succ_eq_append_getElem (by simpa [szs] using hkl)]
        simp [szs, List.getD, hkl])
      have hxl : (ws.getD k []).length ≤ 1000000 := HX.out _ (by simp [List.getD, hkl])
      generalize ws.getD k [] = x at *
      have HSZ := Lib.hid (rsize36 x hxl wr)
      generalize sz x = q at *
      clear hc e2
      go_wp2_with fail
      refine Calls.mono HSZ.out ?_
      rintro e w3 ⟨rfl, rfl⟩
      go_wp2_with (first
        | (at_builtin; refine wpList_append_own _ rfl (.tmp 11) (.tmp 17) _ rfl w.heap.size 3 i0 _ 1 8 Tryd.underlying60 I0.out Z0.out S0.out Y0.out rfl (by decide) _ _ _ rfl (HR.out.alloc _) _ 1 1 [.int .i64 q] rfl rfl (new1 _ _ _ _ rfl) (by simp [Value.oneCell']) (by have := HLN.out; unfold maxLen; omega) (by have := HLN.out; omega) (Nat.le_trans HB.out.size (by simp)) ?_))
      intro v' w4 hown' hgrow _
      obtain ⟨A3, ac3, hv3⟩ := own_slice hown'
      subst hv3
      go_wp2
      go_roundg (ws.length - (k + 1))
      case measure => rw [HK.out]; omega
      case rel =>
        refine ⟨k + 1, by omega, rfl, by go_num, ?_, (HB.out.alloc HB.out.size _).grown hgrow (Nat.le_trans HB.out.size (by simp)) (fun j e => (HR.out.lt j e).1)⟩
        rw [HT.out, intsV_append]
        exact hown'
    · obtain rfl : k = ws.length := by omega
      have HIS : Hid (Is wr (.slice AA ws.length ac) (szs ws)) := Lib.hid (by
        have hr := HR.out
        rw [List.take_of_length_le (by simp [szs])] at hr
        have : ws.length = (szs ws).length := by simp [szs]
        rw [this] at hr ⊢
        exact Is.of_own hr)
      go_wp2
      go_ret
      exact ⟨_, rfl, HIS.out, HB.out⟩
end Go.Proofs.YtjakkmioofbcaaaDoor
