/- The walks over text. -/
import Derived.Test.YtjakkmioofbcaaaDoorA5
namespace Go.Proofs.YtjakkmioofbcaaaDoor
open Go.RowKit
/-- the text of pairs of digits -/
def txtGo : List UInt8 → Option (List UInt8)
  | a :: b :: r => if val a < 0 ∨ val b < 0 then none else (txtGo r).map (fun t => UInt8.ofNat (16 * val a + val b).toNat :: t)
  | _ => some []
def txt (l : List UInt8) : Option (List UInt8) := if l = [45] then some [] else if l = [] ∨ l.length % 2 = 1 then none else txtGo l
def txtV (l : List UInt8) : Value := match txt l with
  | none => .tuple #[.string (str []), .bool false]
  | some t => .tuple #[.string (str t), .bool true]
set_option maxRecDepth 100000 in
set_option maxHeartbeats 400000 in
theorem text52 (l : List UInt8) (hl : l.length ≤ 1000000) (w : World) : Calls Tryd.prog 81 #[.string (str l)] w fun e w' => e = .returned (txtV l) ∧ Below w.heap.size w w' := by
  have hlz : (str l).size = l.length := str_size l
  by_cases h1 : l = [45]
  · subst h1
    have e1 : ((str [45]).toList == [45]) = true := by rw [str_toList]; rfl
    go_enter Tryd.func81, Tryd.ntmps81
    go_wp2
    go_ret2
    exact ⟨rfl, Below.refl _ _⟩
  · have e1 : ((str l).toList == [45]) = false := by rw [str_toList]; simpa using h1
    by_cases h2 : l = []
    · subst h2
      have e2 : (str []).toList.isEmpty = true := by rw [str_toList]; rfl
      go_enter Tryd.func81, Tryd.ntmps81
      go_wp2
      go_ret2
      exact ⟨rfl, Below.refl _ _⟩
    · have e2 := str_ne l h2
      by_cases h3 : l.length % 2 = 1
      · have e3 : ((l.length : Int) % 2 == 1) = true := by simp; omega
        go_enter Tryd.func81, Tryd.ntmps81
        go_wp2
        go_ret2
        refine ⟨?_, Below.refl _ _⟩
        have : txt l = none := by rw [txt, if_neg h1, if_pos (.inr h3)]
        simp [txtV, this]
        rfl
      · have e3 : ((l.length : Int) % 2 == 1) = false := by simp; omega
        have ht : txt l = txtGo l := by rw [txt, if_neg h1, if_neg (by rintro (h | h); exact h2 h; exact h3 h)]
        have HT := Lib.hid ht
        clear ht h1 h2
        obtain ⟨i0, hi, hz0, hz1, hz2⟩ := info_parts info5
        have I0 := Lib.hid hi
        have Z0 := Lib.hid hz0
        have S0 := Lib.hid hz1
        have Y0 := Lib.hid hz2
        clear hi hz0 hz1 hz2
        go_enter Tryd.func81, Tryd.ntmps81
        go_wp2_with fail
        go_loopg [4, 5] l.length (fun gk v i wr => ∃ (p : Nat) (acc : List UInt8), p ≤ l.length ∧ gk = l.length - p ∧ p = 2 * acc.length ∧ i = .int .i64 (p : Int) ∧ Below w.heap.size w wr ∧ wr.ownsRow w.heap.size 5 1 v acc.length (bytesV acc) ∧ txtGo l = (txtGo (l.drop p)).map (acc ++ ·))
        case atStart => exact ⟨0, [], Nat.zero_le _, rfl, rfl, rfl, Below.refl _ _, World.ownsRow_nil _ _ _ _, by simp⟩
        case round =>
          obtain ⟨p, acc, hk, hgk, hal, rfl, hb, hr, hc⟩ := hrel
          have hpar : p % 2 = 0 := by omega
          have HPAR := Lib.hid hpar
          obtain ⟨AA, ac, hv⟩ := own_slice hr
          subst hv
          have HK := Lib.hid hgk
          have HB := Lib.hid hb
          have HR := Lib.hid hr
          have HC := Lib.hid hc
          have HA := Lib.hid hal
          have hcv := conv_own hr
          clear hgk hb hr hc hal
          by_cases hlt : p < l.length
          · have q1 : (p : Int) < (l.length : Int) := by omega
            have q2 : (p : Int) + 1 < (l.length : Int) := by omega
            clear hpar
            have hg0 := str_get l (p) hlt (by rw [hlz]; exact hlt)
            have hg1 := str_get l (p + 1) (by omega) (by rw [hlz]; omega)
            have HD : Hid (l.drop (p) = l[p]'hlt :: l[p + 1]'(by omega) :: l.drop (p + 2)) := Lib.hid (by rw [drop_at l (p) hlt, drop_at l (p + 1) (by omega)])
            obtain ⟨x, hx⟩ : ∃ x, l[p]'hlt = x := ⟨_, rfl⟩
            obtain ⟨y, hy⟩ : ∃ y, l[p + 1]'(by omega) = y := ⟨_, rfl⟩
            rw [hx] at hg0 HD
            rw [hy] at hg1 HD
            clear hx hy
            obtain ⟨⟨xl, xu⟩, _⟩ := val_all x
            obtain ⟨⟨yl, yu⟩, _⟩ := val_all y
            by_cases cx : val x < 0
            · go_wp2
              go_quiet ((go_at_call 88; refine Calls.quiet_of_same (value58 _ _)))
              have HBQ : Hid (Below w.heap.size w (wr.drewN nq)) := Lib.hid (below_drewN HB.out nq)
              go_wp2
              go_ret2
              refine ⟨?_, HBQ.out⟩
              have : txt l = none := by rw [HT.out, HC.out, HD.out, txtGo, if_pos (.inl cx)]; rfl
              simp [txtV, this]
              rfl
            · by_cases cy : val y < 0
              · go_wp2
                go_quiet ((go_at_call 88; refine Calls.quiet_of_same (value58 _ _)))
                have HBQ : Hid (Below w.heap.size w (wr.drewN nq)) := Lib.hid (below_drewN HB.out nq)
                go_wp2
                go_ret2
                refine ⟨?_, HBQ.out⟩
                have : txt l = none := by rw [HT.out, HC.out, HD.out, txtGo, if_pos (.inr cy)]; rfl
                simp [txtV, this]
                rfl
              · have HN : Hid (txtGo l = (txtGo (l.drop (p + 2))).map (acc ++ [UInt8.ofNat (16 * val x + val y).toNat] ++ ·)) := Lib.hid (by
                  rw [HC.out, HD.out, txtGo, if_neg (by rintro (h | h); exact cx h; exact cy h), Option.map_map]
                  congr 1
                  funext t
                  simp)
                obtain ⟨a, ha⟩ : ∃ a : Nat, val x = (a : Int) := ⟨(val x).toNat, by omega⟩
                obtain ⟨b, hb⟩ : ∃ b : Nat, val y = (b : Int) := ⟨(val y).toNat, by omega⟩
                have ha16 : a < 16 := by omega
                have hb16 : b < 16 := by omega
                have HX : Hid (bytesV (acc ++ [UInt8.ofNat (16 * val x + val y).toNat]) = bytesV acc ++ [.int .u8 (16 * (a : Int) + (b : Int))]) := Lib.hid (by
                  rw [bytesV_append, ha, hb]
                  congr 1
                  simp [bytesV]
                  omega)
                clear cx cy xl xu yl yu
                go_wp2
                go_quiet ((go_at_call 88; refine Calls.quiet_of_same (value58 _ _)))
                have HR2 : Hid ((wr.drewN nq).ownsRow w.heap.size 5 1 (.slice AA acc.length ac) acc.length (bytesV acc)) := Lib.hid (HR.out.drewN nq)
                have HBQ : Hid (Below w.heap.size w (wr.drewN nq)) := Lib.hid (below_drewN HB.out nq)
                generalize wr.drewN nq = wo at *
                have HSO : Hid (w.heap.size ≤ wo.heap.size) := Lib.hid HBQ.out.size
                go_wp2_with (first
                  | (at_builtin; refine wpList_append_own _ rfl (.tmp 39) (.tmp 45) _ rfl w.heap.size 5 i0 _ 1 1 Tryd.underlying70 I0.out Z0.out S0.out Y0.out rfl (by decide) _ _ _ rfl (HR2.out.alloc _) _ 1 1 [.int .u8 (16 * (a : Int) + (b : Int))] rfl rfl (new1 _ _ _ _ rfl) (by simp [Value.oneCell']) (by have := HA.out; simp only [maxLen]; omega) (by have := HA.out; omega) (by have := HSO.out; simp; omega) ?_))
                intro v' w2 hown' hgrow _
                obtain ⟨A3, ac3, hv3⟩ := own_slice hown'
                subst hv3
                go_wp2
                go_roundg (l.length - (p + 2))
                case measure => rw [HK.out]; omega
                case rel =>
                  refine ⟨p + 2, acc ++ [UInt8.ofNat (16 * val x + val y).toNat], by omega, rfl, by have := HA.out; simp; omega, by go_num, (HBQ.out.alloc HSO.out _).grown hgrow (by have := HSO.out; simp; omega) (fun j e => (HR2.out.lt j e).1), ?_, HN.out⟩
                  rw [HX.out, List.length_append]
                  exact hown'
          · obtain hkl : p = l.length := by omega
            have q1 : ¬ (p : Int) < (l.length : Int) := by omega
            go_wp2
            go_ret2
            refine ⟨?_, HB.out⟩
            have : txt l = some acc := by rw [HT.out, HC.out, hkl, List.drop_length]; simp [txtGo]
            simp [txtV, this]
end Go.Proofs.YtjakkmioofbcaaaDoor
