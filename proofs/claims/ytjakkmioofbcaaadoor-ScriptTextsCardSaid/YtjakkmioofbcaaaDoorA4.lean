/- The walks over count, and value (reference). -/
import Derived.Test.YtjakkmioofbcaaaDoorA3
namespace Go.Proofs.YtjakkmioofbcaaaDoor
open Go.RowKit
/-- the number of digits, on from n -/
def cntGo : List UInt8 → Nat → Option Nat
  | [], n => some n
  | c :: r, n => if c.toNat < 48 ∨ 57 < c.toNat then none else if 2147483647 < 10 * n + (c.toNat - 48) then none else cntGo r (10 * n + (c.toNat - 48))
def cnt (l : List UInt8) : Nat × Bool :=
  match cntGo l 0 with
  | none => (0, false)
  | some n => (n, decide (l ≠ [] ∧ (l.head? ≠ some 48 ∨ l.length = 1)))
theorem str_get (l : List UInt8) (k : Nat) (h : k < l.length) (h' : k < (str l).size) : (str l)[k]'h' = l[k]'h := rfl
theorem drop_at (l : List UInt8) (k : Nat) (h : k < l.length) : l.drop k = l[k]'h :: l.drop (k + 1) := by rw [List.drop_eq_getElem_cons h]
def cntV (l : List UInt8) : Value := .tuple #[.int .i64 ((cnt l).1 : Int), .bool (cnt l).2]
set_option maxRecDepth 100000 in
set_option maxHeartbeats 400000 in
theorem count30 (l : List UInt8) (hl : l.length ≤ 1000000) (w : World) : Calls Tryd.prog 41 #[.string (str l)] w fun e w' => e = .returned (cntV l) ∧ w' = w := by
  have HSZ := Lib.hid (str_size l)
  have HL := Lib.hid hl
  have hlz : (str l).size = l.length := str_size l
  go_enter Tryd.func41, Tryd.ntmps41
  go_wp2_with fail
  go_loopg [4, 8] l.length (fun gk n i wr => ∃ k m : Nat, k ≤ l.length ∧ gk = l.length - k ∧ n = .int .i64 m ∧ i = .int .i64 k ∧ cntGo l 0 = cntGo (l.drop k) m ∧ m ≤ 2147483647 ∧ wr = w)
  case atStart => exact ⟨0, 0, Nat.zero_le _, rfl, rfl, rfl, rfl, by omega, rfl⟩
  case round =>
    obtain ⟨k, m, hk, hgk, rfl, rfl, hc, hm, rfl⟩ := hrel
    have HK := Lib.hid hgk
    have HC := Lib.hid hc
    clear hgk hc
    by_cases hlt : k < l.length
    · have h1 : (k : Int) < (l.length : Int) := by omega
      have HD := Lib.hid (drop_at l k hlt)
      have hg := str_get l k hlt (by rw [hlz]; exact hlt)
      obtain ⟨c, hcc⟩ : ∃ c, l[k]'hlt = c := ⟨_, rfl⟩
      rw [hcc] at hg HD
      clear hcc
      by_cases c1 : (c.toNat : Int) < 48
      · go_wp2
        go_ret2
        refine ⟨?_, rfl⟩
        have : cntGo l 0 = none := by rw [HC.out, HD.out, cntGo, if_pos (.inl (by omega))]
        simp [cntV, cnt, this]
      · by_cases c2 : (57 : Int) < (c.toNat : Int)
        · go_wp2
          go_ret2
          refine ⟨?_, rfl⟩
          have : cntGo l 0 = none := by rw [HC.out, HD.out, cntGo, if_pos (.inr (by omega))]
          simp [cntV, cnt, this]
        · by_cases c3 : (2147483647 : Int) < 10 * (m : Int) + ((c.toNat : Int) - 48)
          · go_wp2
            go_ret2
            refine ⟨?_, rfl⟩
            have : cntGo l 0 = none := by rw [HC.out, HD.out, cntGo, if_neg (by omega), if_pos (by omega)]
            simp [cntV, cnt, this]
          · go_wp2
            go_roundg (l.length - (k + 1))
            case measure => rw [HK.out]; omega
            case rel => exact ⟨k + 1, 10 * m + (c.toNat - 48), by omega, rfl, by congr 1; omega, by go_num, by rw [HC.out, HD.out, cntGo, if_neg (by omega), if_neg (by omega)], by omega, rfl⟩
    · have h1 : ¬ (k : Int) < (l.length : Int) := by omega
      obtain rfl : k = l.length := by omega
      have hct : cntGo l 0 = some m := by rw [HC.out, List.drop_length, cntGo]
      have HCT := Lib.hid hct
      clear hct
      cases l with
      | nil =>
        have he : (str []).toList.isEmpty = true := by rw [str_toList]; rfl
        go_wp2
        go_ret2
        refine ⟨?_, rfl⟩
        simp [cntV, cnt, HCT.out]
      | cons c r =>
        have he := str_ne (c :: r) (by simp)
        have hg : (str (c :: r))[0]'(by rw [str_size]; simp) = c := rfl
        by_cases hz : c = 48
        · subst hz
          go_wp2
          go_ret2
          refine ⟨?_, rfl⟩
          simp [cntV, cnt, HCT.out]
          cases r with
          | nil => rfl
          | cons a b => simp; omega
        · have hz' : ¬ (c.toNat : Int) = 48 := fun e => hz (by
            apply UInt8.toNat.inj
            show c.toNat = 48
            omega)
          go_wp2
          go_ret2
          refine ⟨?_, rfl⟩
          simp [cntV, cnt, HCT.out, hz]
end Go.Proofs.YtjakkmioofbcaaaDoor
