/- The digits of numbers; the walks over number. -/
import Derived.Test.YtjakkmioofbcaaaDoorA1
namespace Go.Proofs.YtjakkmioofbcaaaDoor
open Go.RowKit
def digs (n : Nat) : List UInt8 := if n < 10 then [UInt8.ofNat (48 + n)] else digs (n / 10) ++ [UInt8.ofNat (48 + n % 10)]
theorem digs_small {n : Nat} (h : n < 10) : digs n = [UInt8.ofNat (48 + n)] := by rw [digs, if_pos h]
theorem digs_big {n : Nat} (h : ¬ n < 10) : digs n = digs (n / 10) ++ [UInt8.ofNat (48 + n % 10)] := by rw [digs, if_neg h]
theorem str_append (a b : List UInt8) : str a ++ str b = str (a ++ b) := by
  apply ByteArray.ext
  simp [str]
theorem digs_len (n : Nat) : (digs n).length ≤ n + 1 := by
  induction n using Nat.strongRecOn with
  | _ n ih =>
    by_cases h : n < 10
    · rw [digs_small h]; simp
    · rw [digs_big h, List.length_append]
      have := ih (n / 10) (by omega)
      simp
      omega
theorem str_size (l : List UInt8) : (str l).size = l.length := by simp [str, ByteArray.size]
theorem number44s (n : Nat) (h : n < 10) (w : World) : Calls Tryd.prog 54 #[.int .i64 (n : Int)] w fun e w' => e = .returned (.string (str (digs n))) ∧ w' = w := by
  rw [digs_small h]
  have hc : n = 0 ∨ n = 1 ∨ n = 2 ∨ n = 3 ∨ n = 4 ∨ n = 5 ∨ n = 6 ∨ n = 7 ∨ n = 8 ∨ n = 9 := by omega
  rcases hc with rfl | rfl | rfl | rfl | rfl | rfl | rfl | rfl | rfl | rfl
  all_goals
    go_enter Tryd.func54, Tryd.ntmps54
    go_wp2
    go_ret
  all_goals exact ⟨rfl, rfl⟩
theorem number44 (n : Nat) (hn : n ≤ 1000000000000000000) : ∀ w : World, Calls Tryd.prog 54 #[.int .i64 (n : Int)] w fun e w' => e = .returned (.string (str (digs n))) ∧ w' = w := by
  induction n using Nat.strongRecOn with
  | _ n ih =>
    intro w
    by_cases h : n < 10
    · exact number44s n h w
    · have I1 := Lib.hid (ih (n / 10) (by omega) (by omega) w)
      have I2 := Lib.hid (number44s (n % 10) (by omega) w)
      have HD := Lib.hid (digs_big h)
      have HD2 := Lib.hid (digs_small (n := n % 10) (by omega))
      have hsz : ¬ 9223372036854775807 < (str (digs (n / 10))).size + (str (digs (n % 10))).size := by
        rw [str_size, str_size]
        have := digs_len (n / 10)
        have := digs_len (n % 10)
        omega
      have h10 : ¬ (n : Int) < 10 := by omega
      have HE1 : Hid ((n : Int) / 10 = ((n / 10 : Nat) : Int)) := Lib.hid (by omega)
      have HE2 : Hid ((n : Int) % 10 = ((n % 10 : Nat) : Int)) := Lib.hid (by omega)
      clear ih
      go_enter Tryd.func54, Tryd.ntmps54
      go_wp2_with fail
      rw [HE1.out]
      refine Calls.mono I1.out ?_
      rintro e w1 ⟨rfl, rfl⟩
      go_wp2_with fail
      rw [HE2.out]
      refine Calls.mono I2.out ?_
      rintro e w2 ⟨rfl, rfl⟩
      go_wp2
      go_ret
      exact ⟨by rw [HD.out, ← str_append, ← HD2.out]; rfl, rfl⟩
end Go.Proofs.YtjakkmioofbcaaaDoor
