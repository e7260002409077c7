/- The walk over FormatUint, up to 100. -/
import Derived.Test.YtkfajeicbkeigaaDoorS10
import Derived.Lib.ItoaMem
import Derived.Lib.AppendIntMem
namespace Go.Proofs.YtkfajeicbkeigaaDoor
open Go.RowKit Go.Lib Go.Sort
def digs (n : Nat) : List UInt8 := if n < 10 then [UInt8.ofNat (48 + n)] else digs (n / 10) ++ [UInt8.ofNat (48 + n % 10)]
theorem digs_small {n : Nat} (h : n < 10) : digs n = [UInt8.ofNat (48 + n)] := by rw [digs, if_pos h]
theorem digs_big {n : Nat} (h : ¬ n < 10) : digs n = digs (n / 10) ++ [UInt8.ofNat (48 + n % 10)] := by rw [digs, if_neg h]
theorem digs_len (n : Nat) : (digs n).length ≤ n + 1 := by
  induction n using Nat.strongRecOn with
  | _ n ih =>
    by_cases h : n < 10
    · rw [digs_small h]; simp
    · rw [digs_big h, List.length_append]
      have := ih (n / 10) (by omega)
      simp
      omega
/-- the listed table of powers of ten reads so -/
def Tb (w : World) : Prop := Lib.TabIs Tryd.prog w "internal/strconv.uint64pow10" .u64 Lib.pow10Tab
theorem Tb.below {w w' : World} (h : Tb w) (hb : Below w.heap.size w w') : Tb w' := Lib.tabBelow_of_tabIs h w' hb
theorem digs_dec : ∀ n : Fin 101, (⟨(Lib.decDigits n.1).toArray⟩ : ByteArray) = str (digs n.1) := by decide +kernel
theorem dec_digs (n : Nat) (h : n ≤ 100) : (⟨(Lib.decDigits n).toArray⟩ : ByteArray) = str (digs n) := digs_dec ⟨n, by omega⟩
set_option maxRecDepth 100000 in
set_option maxHeartbeats 2000000 in
theorem fmt53 (n : Nat) (h : n ≤ 100) (w : World) (ht : Tb w) :
    Calls Tryd.prog 53 #[.int .u64 n, .int .i64 10] w fun e w' => e = .returned (.string (str (digs n))) ∧ Below w.heap.size w w' := by
  rw [← dec_digs n h]
  by_cases hs : n < 100
  · go_enter Tryd.func53, Tryd.ntmps53
    go_wp2_with fail
    refine Calls.mono (Tryd.internal_strconv_small n hs _) ?_
    rintro e w3 ⟨rfl, rfl⟩
    go_wp2_with fail
    go_ret
    exact ⟨rfl, Below.refl _ _⟩
  · obtain rfl : n = 100 := by omega
    have hal : Tryd.prog.arrayLen 105 = 24 := by kernel_rfl
    have hn3 : Lib.nDigits 100 = 3 := by decide +kernel
    have hd3 : Lib.decDigits 100 = [49, 48, 48] := by decide +kernel
    have hsl1 : ∀ W, (Instr.sliceAt 105 (.pointer (some ⟨w.heap.size, 0, none⟩)) none (some (.int .i64 3)) none).run Tryd.prog W = .ok (.slice (some ⟨w.heap.size, 0, none⟩) 3 24) W := fun W => by
      rw [run_sliceAt_array_h W 105 ⟨w.heap.size, 0, none⟩ (by simp [Program.arrayLen, Program.elem, Tryd.underlying105]) .i64 3 (by omega) (by rw [hal]; omega)]
      go_simp
    have hH0 : Holds (fun (b : UInt8) => Value.int .u8 (b.toNat : Int)) (w.alloc (.cells Lib.zeros24 105)) w.heap.size 0 (Array.replicate 3 (0 : UInt8)) := fun j hj => by
      have hj' : j < 3 := by simpa using hj
      refine ⟨?_, World.frozen?_alloc_new _ _ _ _⟩
      rw [World.cell?_alloc_new, zeros24_at _ (by omega), getElem!_pos _ j hj]
      simp
    have hfmt := Tryd.internal_strconv_formatBase10 w.heap.size 0 24 100 (Array.replicate 3 0) (w.alloc (.cells Lib.zeros24 105)) hH0 (by simp) (by omega) (by simp)
    rw [Array.size_replicate] at hfmt
    have HC := Lib.hid (Tryd.internal_strconv_numDigits 100 (by omega) (by omega) (w.alloc (.cells Lib.zeros24 105)) (Lib.tabIs_alloc ht _))
    rw [hn3] at HC
    have HF := Lib.hid hfmt
    have HH0 := Lib.hid hH0
    clear hH0 hal hfmt hn3 hs h
    rw [hd3]
    go_enter Tryd.func53, Tryd.ntmps53
    go_wp2_with fail
    refine Calls.mono HC.out ?_
    rintro e w3 ⟨rfl, rfl⟩
    go_wp2_with fail
    refine Calls.mono HF.out ?_
    rintro e w' ⟨rfl, k, v', dk, rfl, hF⟩
    have hcv : (convert 98 9 (.slice (some ⟨w.heap.size, 0, none⟩) 3 24)).run Tryd.prog ((putRow (fun (b : UInt8) => Value.int .u8 (b.toNat : Int)) (w.alloc (.cells Lib.zeros24 105)) w.heap.size 0 dk).drewN k) = .ok (.string ⟨#[49, 48, 48]⟩) ((putRow (fun (b : UInt8) => Value.int .u8 (b.toNat : Int)) (w.alloc (.cells Lib.zeros24 105)) w.heap.size 0 dk).drewN k) := by
      have h3 : dk.size = 3 := hF.size
      have h := run_convert_bytes_back (P := Tryd.prog) ((putRow (fun (b : UInt8) => Value.int .u8 (b.toNat : Int)) (w.alloc (.cells Lib.zeros24 105)) w.heap.size 0 dk).drewN k) 98 9 5 ⟨w.heap.size, 0, none⟩ 24 (Lib.decDigits 100) Tryd.underlying98 Tryd.underlying5 Tryd.underlying9 (fun j hj => by
        have hF' : FmtInv (nDigits 100) 100 0 v' dk := by rw [show nDigits 100 = 3 from by decide +kernel]; exact hF
        rw [Lib.row_is_numeral hF' j hj, Lib.add_plain, World.cell?_drewN]
        exact cell?_putRow (fun (b : UInt8) => Value.int .u8 (b.toNat : Int)) _ w.heap.size 0 _ dk HH0.out (by rw [h3, Array.size_replicate]) j (by rw [h3]; rw [hd3] at hj; exact hj))
      rw [hd3] at h
      exact h
    have HB : Hid (Below w.heap.size w ((putRow (fun (b : UInt8) => Value.int .u8 (b.toNat : Int)) (w.alloc (.cells Lib.zeros24 105)) w.heap.size 0 dk).drewN k)) := Lib.hid (by
      obtain ⟨os, e⟩ := putRow_grow_new (fun (b : UInt8) => Value.int .u8 (b.toNat : Int)) w #[.cells Lib.zeros24 105] w.heap.size 0 dk (Nat.le_refl _)
      rw [alloc_eq_grow, e.2]
      exact Lib.below_grow w.heap.size w (Nat.le_refl _) k os)
    clear hF
    go_wp2_with fail
    go_ret
    exact ⟨rfl, HB.out⟩
theorem fmt42 (n : Nat) (h : n ≤ 100) (w : World) (ht : Tb w) :
    Calls Tryd.prog 42 #[.int .u64 n, .int .i64 10] w fun e w' => e = .returned (.string (str (digs n))) ∧ Below w.heap.size w w' := by
  have HC := Lib.hid (fmt53 n h w ht)
  generalize digs n = d at *
  go_enter Tryd.func42, Tryd.ntmps42
  go_wp2_with fail
  refine Calls.mono HC.out ?_
  rintro e w3 ⟨rfl, hb3⟩
  go_wp2_with fail
  go_ret
  exact ⟨rfl, hb3⟩
end Go.Proofs.YtkfajeicbkeigaaDoor
