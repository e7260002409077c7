/- The walks over the reference's size, sizes. -/
import Derived.Test.YtjakkmioofbcaaaDoorA7
namespace Go.Proofs.YtjakkmioofbcaaaDoor
open Go.RowKit
def szGo : List UInt8 → Nat → Nat
  | [], n => n
  | c :: r, n => szGo r (n * 10 + rval c)
def sz (l : List UInt8) : Int := if l.length ≤ 10 then (szGo l 0 : Int) else -1
theorem szGo_snoc (l : List UInt8) (c : UInt8) (n : Nat) : szGo (l ++ [c]) n = szGo l n * 10 + rval c := by
  induction l generalizing n with
  | nil => rfl
  | cons a r ih => exact ih _
theorem szGo_lt (l : List UInt8) (h : l.length ≤ 10) : szGo l 0 < 10000000000 * 16 := by
  have g : ∀ (l : List UInt8) (n : Nat), szGo l n + 2 ≤ 10 ^ l.length * (n + 2) := by
    intro l
    induction l with
    | nil => intro n; simp [szGo]
    | cons c r ih =>
      intro n
      have h1 := ih (n * 10 + rval c)
      have h2 := rval_lt c
      rw [szGo, List.length_cons, Nat.pow_succ, Nat.mul_assoc]
      refine Nat.le_trans h1 (Nat.mul_le_mul_left _ ?_)
      omega
  have h1 := g l 0
  have h2 : 10 ^ l.length ≤ 10 ^ 10 := Nat.pow_le_pow_right (by decide) h
  omega
set_option maxRecDepth 100000 in
set_option maxHeartbeats 400000 in
theorem rsize36 (l : List UInt8) (hl : l.length ≤ 1000000) (w : World) : Calls Tryd.prog 44 #[.string (str l)] w fun e w' => e = .returned (.int .i64 (sz l)) ∧ w' = w := by
  have hlz : (str l).size = l.length := str_size l
  go_enter Tryd.func44, Tryd.ntmps44
  go_wp2_with fail
  go_loopg [3, 4] l.length (fun gk n i wr => ∃ k : Nat, k ≤ l.length ∧ k ≤ 10 ∧ gk = l.length - k ∧ n = .int .i64 (szGo (l.take k) 0 : Int) ∧ i = .int .i64 k ∧ wr = w)
  case atStart => exact ⟨0, Nat.zero_le _, by omega, rfl, rfl, rfl, rfl⟩
  case round =>
    obtain ⟨k, hk, hk10, hgk, rfl, rfl, rfl⟩ := hrel
    have HK := Lib.hid hgk
    clear hgk
    have hb := szGo_lt (l.take k) (by simp; omega)
    by_cases hlt : k < l.length
    · have h1 : (k : Int) < (l.length : Int) := by omega
      by_cases h10 : k = 10
      · subst h10
        go_wp2
        go_ret
        refine ⟨?_, rfl⟩
        rw [sz, if_neg (by omega)]
        rfl
      · have h2 : ((k : Int) == 10) = false := by simp; omega
        have hg := str_get l k hlt (by rw [hlz]; exact hlt)
        have HT : Hid (szGo (l.take (k + 1)) 0 = szGo (l.take k) 0 * 10 + rval (l[k]'hlt)) := Lib.hid (by rw [List.take_succ_eq_append_getElem hlt, szGo_snoc])
        obtain ⟨c, hcc⟩ : ∃ c, l[k]'hlt = c := ⟨_, rfl⟩
        rw [hcc] at hg HT
        clear hcc
        have hc := rval_lt c
        obtain ⟨z, hz⟩ : ∃ z, szGo (l.take k) 0 = z := ⟨_, rfl⟩
        rw [hz] at hb HT
        rw [hz]
        clear hz
        go_wp2_with fail
        refine Calls.mono (rvalue54 _ _) ?_
        rintro e w1 ⟨rfl, rfl⟩
        go_wp2
        go_roundg (l.length - (k + 1))
        case measure => rw [HK.out]; omega
        case rel => exact ⟨k + 1, by omega, by omega, rfl, by rw [HT.out]; go_num, by go_num, rfl⟩
    · obtain rfl : k = l.length := by omega
      go_wp2
      go_ret
      refine ⟨?_, rfl⟩
      rw [sz, if_pos hk10, List.take_length]
      rfl
end Go.Proofs.YtjakkmioofbcaaaDoor
