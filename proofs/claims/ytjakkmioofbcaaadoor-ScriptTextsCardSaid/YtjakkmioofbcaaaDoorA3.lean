/- The walk over the reference's number. -/
import Derived.Test.YtjakkmioofbcaaaDoorA2
import Derived.Laws.BytesArg
namespace Go.Proofs.YtjakkmioofbcaaaDoor
open Go.RowKit
/-- what the loop has: the rest m, the digits behind it -/
def Rest (N m : Nat) (acc : List UInt8) : Prop := (acc = [] ∧ m = N) ∨ (acc ≠ [] ∧ m = 0 ∧ digs N = acc) ∨ (acc ≠ [] ∧ 0 < m ∧ digs N = digs m ++ acc)
theorem Rest.step {N m : Nat} {acc : List UInt8} (h : Rest N m acc) (hm : 0 < m ∨ acc = []) : Rest N (m / 10) (UInt8.ofNat (48 + m % 10) :: acc) := by
  have hd : digs N = digs m ++ acc := by
    rcases h with ⟨rfl, rfl⟩ | ⟨h1, rfl, _⟩ | ⟨_, _, h3⟩
    · simp
    · rcases hm with hm | hm
      · omega
      · exact absurd hm h1
    · exact h3
  by_cases hs : m < 10
  · right; left
    refine ⟨by simp, by omega, ?_⟩
    rw [hd, digs_small hs, Nat.mod_eq_of_lt hs]
    rfl
  · right; right
    refine ⟨by simp, by omega, ?_⟩
    rw [hd, digs_big hs]
    simp
theorem Rest.len {N m : Nat} {acc : List UInt8} (h : Rest N m acc) : acc.length ≤ N + 1 := by
  have q := digs_len N
  rcases h with ⟨rfl, _⟩ | ⟨_, _, h3⟩ | ⟨_, _, h3⟩
  · simp
  · rw [← h3]; exact q
  · rw [h3] at q
    simp at q
    omega
theorem str_toList (l : List UInt8) : (str l).toList = l := by rw [ByteArray.toList_eq]; rfl
theorem str_ne (l : List UInt8) (h : l ≠ []) : (str l).toList.isEmpty = false := by rw [str_toList]; cases l <;> simp_all
theorem conv_one (w : World) (x : Int) : (convert 70 9 (.slice (some ⟨w.heap.size, 0, none⟩) 1 1)).run Tryd.prog (w.alloc (.cells #[.int .u8 x] 5)) = .ok (.string (str [UInt8.ofNat x.toNat])) (w.alloc (.cells #[.int .u8 x] 5)) :=
  run_convert_bytes_arg (P := Tryd.prog) (w.alloc (.cells #[.int .u8 x] 5)) 70 5 Tryd.underlying70 Tryd.underlying5 w.heap.size 0 1 1 [x] rfl (fun i hi => by
    obtain rfl : i = 0 := by omega
    rw [World.cell?_alloc_new]
    rfl) 9 Tryd.underlying9
set_option maxRecDepth 100000 in
set_option maxHeartbeats 1000000 in
theorem rnumber41 (n : Nat) (hn : n ≤ 1000000000000000000) (w : World) : Calls Tryd.prog 62 #[.int .i64 (n : Int)] w fun e w' => e = .returned (.string (str (digs n))) ∧ Below w.heap.size w w' := by
  have HN := Lib.hid hn
  clear hn
  go_enter Tryd.func62, Tryd.ntmps62
  go_wp2_with fail
  go_loopg [0, 3] (n + 1) (fun gk i s wr => ∃ (m : Nat) (acc : List UInt8), m ≤ n ∧ gk = m + (if acc = [] then 1 else 0) ∧ i = .int .i64 m ∧ s = .string (str acc) ∧ Rest n m acc ∧ Below w.heap.size w wr)
  case atStart => exact ⟨n, [], Nat.le_refl _, by simp, rfl, rfl, .inl ⟨rfl, rfl⟩, Below.refl _ _⟩
  case round =>
    obtain ⟨m, acc, hm, hgk, rfl, rfl, hr, hb⟩ := hrel
    have HK := Lib.hid hgk
    have HR := Lib.hid hr
    have HB := Lib.hid hb
    have hcv := conv_one wr (48 + (m : Int) % 10)
    have hsz : ¬ 9223372036854775807 < (str [UInt8.ofNat (48 + (m : Int) % 10).toNat]).size + (str acc).size := by
      rw [str_size, str_size]
      have := hr.len
      have := HN.out
      simp
      omega
    have HE1 : Hid ((m : Int) / 10 = ((m / 10 : Nat) : Int)) := Lib.hid (by omega)
    have HE2 : Hid ((48 + (m : Int) % 10).toNat = 48 + m % 10) := Lib.hid (by omega)
    clear hgk hr hb
    by_cases h0 : 0 < m
    · have hp : (0 : Int) < (m : Int) := by omega
      go_wp2
      go_roundg (m / 10)
      case measure => rw [HK.out]; omega
      case rel =>
        have hq := HN.out
        refine ⟨m / 10, _ :: acc, by omega, by simp, ?_, ?_, HR.out.step (.inl h0), HB.out.alloc HB.out.size _⟩
        · rw [show wrap64 ((m : Int) / 10) = (m : Int) / 10 by unfold wrap64; omega, HE1.out]
        · rw [str_append]
          simp [UInt8.ofNat_add]
    · by_cases ha : acc = []
      · subst ha
        obtain rfl : m = 0 := by omega
        have hcv0 := conv_one wr 48
        have he0 : (str []).toList.isEmpty = true := by rw [str_toList]; rfl
        have hsz0 : ¬ 9223372036854775807 < (str [UInt8.ofNat (48 : Int).toNat]).size + (str []).size := by simp [str_size]
        go_wp2
        go_roundg 0
        case measure => rw [HK.out]; simp
        case rel => exact ⟨0, [_], by omega, by simp, rfl, rfl, HR.out.step (.inr rfl), HB.out.alloc HB.out.size _⟩
      · have hp : ¬ (0 : Int) < (m : Int) := by omega
        have hne := str_ne acc ha
        go_wp2
        go_ret
        refine ⟨?_, HB.out⟩
        rcases HR.out with ⟨h, _⟩ | ⟨_, _, h⟩ | ⟨_, h, _⟩
        · exact absurd h ha
        · rw [h]; rfl
        · omega
end Go.Proofs.YtjakkmioofbcaaaDoor
