/- The walks over the reference's split, sizes. -/
import Derived.Test.YtjakkmioofbcaaaDoorD5
namespace Go.Proofs.YtjakkmioofbcaaaDoor
open Go.RowKit
theorem str_extract (l : List UInt8) (f k : Nat) : (str l).extract f k = str ((l.drop f).take (k - f)) := by
  apply ByteArray.ext
  rw [ByteArray.data_extract]
  simp [str, List.extract_eq_take_drop]
set_option maxRecDepth 100000 in
set_option maxHeartbeats 1000000 in
theorem rsplit20 (l : List UInt8) (y : UInt8) (hl : l.length ≤ 1000000) (w : World) : Calls Tryd.prog 20 #[.string (str l), .int .u8 (y.toNat : Int)] w fun e w' => ∃ v, e = .returned v ∧ w'.ownsRow w.heap.size 9 1 v (splitL y l).length (strsV (splitL y l)) ∧ Below w.heap.size w w' := by
  have hlz : (str l).size = l.length := str_size l
  obtain ⟨i0, hi, hz0, hz1, hz2⟩ := info_parts info9
  have I0 := Lib.hid hi
  have Z0 := Lib.hid hz0
  have S0 := Lib.hid hz1
  have Y0 := Lib.hid hz2
  have HLL := Lib.hid hl
  clear hi hz0 hz1 hz2
  go_enter Tryd.func20, Tryd.ntmps20
  go_wp2_with fail
  go_loopg [5, 6, 7] l.length (fun gk out fr i wr => ∃ (k f : Nat) (acc : List (List UInt8)), k ≤ l.length ∧ f ≤ k ∧ acc.length ≤ f ∧ gk = l.length - k ∧ i = .int .i64 k ∧ fr = .int .i64 f ∧ splitL y l = acc ++ splitL y (l.drop f) ∧ y ∉ (l.drop f).take (k - f) ∧ wr.ownsRow w.heap.size 9 1 out acc.length (strsV acc) ∧ Below w.heap.size w wr)
  case atStart => exact ⟨0, 0, [], Nat.zero_le _, Nat.le_refl _, Nat.le_refl _, rfl, rfl, rfl, rfl, by simp, World.ownsRow_nil _ _ _ _, Below.refl _ _⟩
  case round =>
    obtain ⟨k, f, acc, hk, hfk, haf, hgk, rfl, rfl, hs, hn, hr, hb⟩ := hrel
    obtain ⟨AA, ac, hv⟩ := own_slice hr
    subst hv
    have HK := Lib.hid hgk
    have HS := Lib.hid hs
    have HN := Lib.hid hn
    have HR := Lib.hid hr
    have HB := Lib.hid hb
    have HAF := Lib.hid haf
    have HFK := Lib.hid hfk
    clear hgk hs hn hr hb haf
    by_cases hkl : k < l.length
    · have h1 : (k : Int) < (l.length : Int) := by omega
      have hg := str_get l k hkl (by rw [hlz]; exact hkl)
      have HD : Hid (l.drop f = (l.drop f).take (k - f) ++ l[k]'hkl :: l.drop (k + 1)) := Lib.hid (by
        have := (List.take_append_drop (k - f) (l.drop f)).symm
        rw [List.drop_drop, show f + (k - f) = k by omega, List.drop_eq_getElem_cons hkl] at this
        exact this)
      have HT : Hid ((l.drop f).take (k + 1 - f) = (l.drop f).take (k - f) ++ [l[k]'hkl]) := Lib.hid (by
        rw [show k + 1 - f = k - f + 1 by omega, List.take_succ_eq_append_getElem (by simp; omega)]
        congr 2
        simp
        congr 1
        omega)
      obtain ⟨c, hcc⟩ : ∃ c, l[k]'hkl = c := ⟨_, rfl⟩
      rw [hcc] at hg HD HT
      clear hcc
      by_cases hy : c = y
      · subst hy
        have heq : ((c.toNat : Int) == (c.toNat : Int)) = true := by simp
        have hx := str_extract l f k
        have hfk2 : (f : Int) ≤ (k : Int) := by omega
        have hkl2 : (k : Int) ≤ (l.length : Int) := by omega
        have HSP : Hid (splitL c l = (acc ++ [(l.drop f).take (k - f)]) ++ splitL c (l.drop (k + 1))) := Lib.hid (by
          have e := HD.out
          generalize (l.drop f).take (k - f) = sg at *
          rw [HS.out, e, splitL_app HN.out, List.append_assoc]; rfl)
        generalize (l.drop f).take (k - f) = sg at *
        go_wp2_with (first
          | (at_builtin; refine wpList_append_own _ rfl (.tmp 19) (.tmp 24) _ rfl w.heap.size 9 i0 _ 1 16 Tryd.underlying52 I0.out Z0.out S0.out Y0.out rfl (by decide) _ _ _ rfl (HR.out.alloc _) _ 1 1 [.string (str sg)] rfl rfl (new1 _ _ _ _ rfl) (by simp [Value.oneCell']) (by have := HAF.out; have := HLL.out; unfold maxLen; omega) (by have := HAF.out; have := HLL.out; omega) (Nat.le_trans HB.out.size (by simp)) ?_))
        intro v' w4 hown' hgrow _
        obtain ⟨A3, ac3, hv3⟩ := own_slice hown'
        subst hv3
        go_wp2
        go_roundg (l.length - (k + 1))
        case measure => rw [HK.out]; omega
        case rel =>
          refine ⟨k + 1, k + 1, acc ++ [sg], by omega, Nat.le_refl _, by have := HAF.out; simp; omega, rfl, by go_num, by go_num, HSP.out, by simp, ?_, (HB.out.alloc HB.out.size _).grown hgrow (Nat.le_trans HB.out.size (by simp)) (fun j e => (HR.out.lt j e).1)⟩
          rw [strsV_append, List.length_append]
          exact hown'
      · have heq : ((c.toNat : Int) == (y.toNat : Int)) = false := by
          simp only [beq_eq_false_iff_ne, ne_eq]
          intro e
          exact hy (UInt8.toNat.inj (by show c.toNat = y.toNat; omega))
        have HY := Lib.hid hy
        clear hy
        go_wp2
        go_roundg (l.length - (k + 1))
        case measure => rw [HK.out]; omega
        case rel =>
          refine ⟨k + 1, f, acc, by omega, by have := HFK.out; omega, HAF.out, rfl, by go_num, rfl, HS.out, ?_, HR.out, HB.out⟩
          rw [HT.out]
          simp only [List.mem_append, List.mem_singleton, not_or]
          exact ⟨HN.out, fun e => HY.out e.symm⟩
    · obtain rfl : k = l.length := by omega
      have hx := str_extract l f l.length
      have HE : Hid ((l.drop f).take (l.length - f) = l.drop f) := Lib.hid (List.take_of_length_le (by simp))
      rw [HE.out] at hx
      have hfk2 : (f : Int) ≤ (l.length : Int) := by have := HFK.out; omega
      have HSP : Hid (splitL y l = acc ++ [l.drop f]) := Lib.hid (by
        have := HN.out
        rw [HE.out] at this
        rw [HS.out, splitL_noSep this])
      generalize l.drop f = sg at *
      go_wp2_with (first
        | (at_builtin; refine wpList_append_own _ rfl (.tmp 28) (.tmp 32) _ rfl w.heap.size 9 i0 _ 1 16 Tryd.underlying52 I0.out Z0.out S0.out Y0.out rfl (by decide) _ _ _ rfl (HR.out.alloc _) _ 1 1 [.string (str sg)] rfl rfl (new1 _ _ _ _ rfl) (by simp [Value.oneCell']) (by have := HAF.out; have := HLL.out; unfold maxLen; omega) (by have := HAF.out; have := HLL.out; omega) (Nat.le_trans HB.out.size (by simp)) ?_))
      intro v' w4 hown' hgrow _
      obtain ⟨A3, ac3, hv3⟩ := own_slice hown'
      subst hv3
      go_wp2
      go_ret
      refine ⟨_, rfl, ?_, (HB.out.alloc HB.out.size _).grown hgrow (Nat.le_trans HB.out.size (by simp)) (fun j e => (HR.out.lt j e).1)⟩
      rw [HSP.out, strsV_append, List.length_append]
      exact hown'
end Go.Proofs.YtjakkmioofbcaaaDoor
