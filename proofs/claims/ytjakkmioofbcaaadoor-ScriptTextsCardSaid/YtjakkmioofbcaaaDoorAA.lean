/- The walk over truths; lists of truths in memory. -/
import Derived.Test.YtjakkmioofbcaaaDoorA9
namespace Go.Proofs.YtjakkmioofbcaaaDoor
open Go.RowKit
/-- a list of truths in memory -/
def Kp (w : World) (v : Value) (l : List Bool) : Prop :=
  (∃ A c, v = .slice A l.length c) ∧ (l ≠ [] → ∃ b o c, v = .slice (some ⟨b, o, none⟩) l.length c ∧ b < w.heap.size ∧ ∀ i, i < l.length → w.cell? ⟨b, o + i, none⟩ = some (.bool (l.getD i false)))
theorem Kp.below {w w' : World} {v : Value} {l : List Bool} (h : Kp w v l) (hb : Below w.heap.size w w') : Kp w' v l := by
  refine ⟨h.1, fun hl => ?_⟩
  obtain ⟨b, o, c, e, hlt, hc⟩ := h.2 hl
  exact ⟨b, o, c, e, Nat.lt_of_lt_of_le hlt hb.size, fun i hi => by rw [hb.cell (p := ⟨b, o + i, none⟩) hlt]; exact hc i hi⟩
theorem Kp.nil (w : World) : Kp w (.slice none 0 0) [] := ⟨⟨none, 0, rfl⟩, fun h => absurd rfl h⟩
def truGo (l : List Bool) : List UInt8 := l.map fun t => if t then 49 else 48
def tru (l : List Bool) : List UInt8 := if l = [] then [45] else truGo l
theorem truGo_take (l : List Bool) (k : Nat) (h : k < l.length) : truGo (l.take (k + 1)) = truGo (l.take k) ++ [if l.getD k false then 49 else 48] := by
  unfold truGo
  rw [List.take_succ_eq_append_getElem h, List.map_append, show l.getD k false = l[k] by simp [List.getD, h]]
  rfl
set_option maxRecDepth 100000 in
set_option maxHeartbeats 400000 in
theorem truths31 (v : Value) (l : List Bool) (hl : l.length ≤ 1000000) (w : World) (hk : Kp w v l) : Calls Tryd.prog 56 #[v] w fun e w' => e = .returned (.string (str (tru l))) ∧ Below w.heap.size w w' := by
  by_cases h0 : l = []
  · subst h0
    obtain ⟨A, c, rfl⟩ := hk.1
    go_enter Tryd.func56, Tryd.ntmps56
    go_wp2
    go_ret
    exact ⟨rfl, Below.refl _ _⟩
  · have HD : Hid (tru l = truGo l) := Lib.hid (if_neg h0)
    obtain ⟨b, o, c, rfl, hlt, hc⟩ := hk.2 h0
    have HC := Lib.hid hc
    have hl0 : ((l.length : Int) == 0) = false := by
      have := List.length_pos_iff.2 h0
      simp; omega
    clear h0 hk hc
    go_enter Tryd.func56, Tryd.ntmps56
    go_wp2_with fail
    go_loopg [11] l.length (fun gk i wr => ∃ k : Nat, k ≤ l.length ∧ gk = l.length - k ∧ i = .int .i64 k ∧ Lib.IsBuilder 72 5 w.heap.size w.heap.size (bytesV (truGo (l.take k))) wr ∧ Below w.heap.size w wr)
    case atStart => exact ⟨0, Nat.zero_le _, rfl, rfl, build_new w, (Below.refl _ _).alloc (Nat.le_refl _) _⟩
    case round =>
      obtain ⟨k, hk, hgk, rfl, hbd, hb⟩ := hrel
      have HK := Lib.hid hgk
      have HBD := Lib.hid hbd
      have HB := Lib.hid hb
      clear hgk hbd hb
      by_cases hkl : k < l.length
      · have h1 : (k : Int) < (l.length : Int) := by omega
        have HT := Lib.hid (truGo_take l k hkl)
        have HL : Hid ((bytesV (truGo (l.take k))).length ≤ 1000000) := Lib.hid (by rw [bytesV_len]; simp [truGo]; omega)
        have hcell : wr.cell? ⟨b, o + k, none⟩ = some (.bool (l.getD k false)) := by rw [HB.out.cell (p := ⟨b, o + k, none⟩) hlt]; exact HC.out k hkl
        obtain ⟨t, ht⟩ : ∃ t, l.getD k false = t := ⟨_, rfl⟩
        rw [ht] at hcell HT
        clear ht
        cases t
        all_goals
          go_wp2_with fail
          refine Calls.mono (Tryd.Builder_WriteByte w.heap.size w.heap.size (bytesV (truGo (l.take k))) _ wr HBD.out (by have := HL.out; omega) HB.out.size) ?_
          rintro e w1 ⟨rfl, hd1, hb1⟩
          have HBD1 := Lib.hid hd1
          have HB1 := Lib.hid (HB.out.trans hb1)
          clear hd1 hb1
          go_wp2
          go_roundg (l.length - (k + 1))
          case measure => rw [HK.out]; omega
          case rel =>
            refine ⟨k + 1, by omega, rfl, by go_num, .inr ?_, HB1.out⟩
            rw [HT.out, bytesV_append]
            exact HBD1.out
      · obtain rfl : k = l.length := by omega
        have HE : Hid (truGo (l.take l.length) = truGo l) := Lib.hid (by rw [List.take_length])
        go_wp2_with fail
        refine Calls.mono (Tryd.Builder_String_any w.heap.size w.heap.size (truGo (l.take l.length)) wr HBD.out HB.out.size) ?_
        rintro e w1 ⟨rfl, hb1⟩
        go_wp2
        go_ret
        exact ⟨by rw [HD.out, ← HE.out]; rfl, HB.out.trans hb1⟩
set_option maxRecDepth 100000 in
set_option maxHeartbeats 400000 in
theorem rtruths42 (v : Value) (l : List Bool) (hl : l.length ≤ 1000000) (w : World) (hk : Kp w v l) : Calls Tryd.prog 63 #[v] w fun e w' => e = .returned (.string (str (tru l))) ∧ Below w.heap.size w w' := by
  obtain ⟨A, c, rfl⟩ := hk.1
  have HKP := Lib.hid hk
  clear hk
  obtain ⟨i0, hi, hz0, hz1, hz2⟩ := info_parts info5
  have I0 := Lib.hid hi
  have Z0 := Lib.hid hz0
  have S0 := Lib.hid hz1
  have Y0 := Lib.hid hz2
  clear hi hz0 hz1 hz2
  go_enter Tryd.func63, Tryd.ntmps63
  go_wp2_with fail
  go_loopg [3, 4] l.length (fun gk v i wr => ∃ k : Nat, k ≤ l.length ∧ gk = l.length - k ∧ i = .int .i64 k ∧ wr.ownsRow w.heap.size 5 1 v k (bytesV (truGo (l.take k))) ∧ Below w.heap.size w wr)
  case atStart => exact ⟨0, Nat.zero_le _, rfl, rfl, World.ownsRow_nil _ _ _ _, Below.refl _ _⟩
  case round =>
    obtain ⟨k, hk, hgk, rfl, hr, hb⟩ := hrel
    obtain ⟨AA, ac, hv⟩ := own_slice hr
    subst hv
    have HK := Lib.hid hgk
    have HR := Lib.hid hr
    have HB := Lib.hid hb
    clear hgk hr hb
    by_cases hkl : k < l.length
    · obtain ⟨b, o, c', e, hlt, hc⟩ := HKP.out.2 (by intro e; subst e; simp at hkl)
      injection e with e1 e2 e3
      subst e1
      subst e3
      have h1 : (k : Int) < (l.length : Int) := by omega
      have HT := Lib.hid (truGo_take l k hkl)
      have hcell : wr.cell? ⟨b, o + k, none⟩ = some (.bool (l.getD k false)) := by rw [HB.out.cell (p := ⟨b, o + k, none⟩) hlt]; exact hc k hkl
      obtain ⟨t, ht⟩ : ∃ t, l.getD k false = t := ⟨_, rfl⟩
      rw [ht] at hcell HT
      clear ht hc e2
      cases t
      · go_wp2_with (first
          | (at_builtin; refine wpList_append_own _ rfl (.tmp 18) (.tmp 19) _ rfl w.heap.size 5 i0 _ 1 1 Tryd.underlying70 I0.out Z0.out S0.out Y0.out rfl (by decide) _ _ _ rfl (HR.out.alloc _) _ 1 1 [.int .u8 48] rfl rfl (new1 _ _ _ _ rfl) (by simp [Value.oneCell']) (by simp only [maxLen]; omega) (by omega) (by have := HB.out.size; simp; omega) ?_))
        intro v' w2 hown' hgrow _
        obtain ⟨A3, ac3, hv3⟩ := own_slice hown'
        subst hv3
        go_wp2
        go_roundg (l.length - (k + 1))
        case measure => rw [HK.out]; omega
        case rel =>
          refine ⟨k + 1, by omega, rfl, by go_num, ?_, (HB.out.alloc HB.out.size _).grown hgrow (by have := HB.out.size; simp; omega) (fun j e => (HR.out.lt j e).1)⟩
          rw [HT.out, bytesV_append]
          exact hown'
      · go_wp2_with (first
          | (at_builtin; refine wpList_append_own _ rfl (.tmp 15) (.tmp 16) _ rfl w.heap.size 5 i0 _ 1 1 Tryd.underlying70 I0.out Z0.out S0.out Y0.out rfl (by decide) _ _ _ rfl (HR.out.alloc _) _ 1 1 [.int .u8 49] rfl rfl (new1 _ _ _ _ rfl) (by simp [Value.oneCell']) (by simp only [maxLen]; omega) (by omega) (by have := HB.out.size; simp; omega) ?_))
        intro v' w2 hown' hgrow _
        obtain ⟨A3, ac3, hv3⟩ := own_slice hown'
        subst hv3
        go_wp2
        go_roundg (l.length - (k + 1))
        case measure => rw [HK.out]; omega
        case rel =>
          refine ⟨k + 1, by omega, rfl, by go_num, ?_, (HB.out.alloc HB.out.size _).grown hgrow (by have := HB.out.size; simp; omega) (fun j e => (HR.out.lt j e).1)⟩
          rw [HT.out, bytesV_append]
          exact hown'
    · obtain rfl : k = l.length := by omega
      have HE : Hid (truGo (l.take l.length) = truGo l) := Lib.hid (by rw [List.take_length])
      have hrr := HR.out
      rw [HE.out] at hrr
      have hcv := conv_own (l := truGo l) (by rw [show (truGo l).length = l.length by simp [truGo]]; exact hrr)
      clear hrr
      by_cases h0 : l = []
      · subst h0
        go_wp2
        go_ret
        exact ⟨rfl, HB.out⟩
      · have HD : Hid (tru l = truGo l) := Lib.hid (if_neg h0)
        have hl0 : ((l.length : Int) == 0) = false := by
          have := List.length_pos_iff.2 h0
          simp; omega
        clear h0
        go_wp2
        go_ret
        exact ⟨by rw [HD.out]; rfl, HB.out⟩
end Go.Proofs.YtjakkmioofbcaaaDoor
