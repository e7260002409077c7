/- The walks over the two Num functions, the two May functions, the ender and its closure. -/
import Derived.Test.YtkmhjfcjplnjdaaFp
import Derived.Deep.RegionHeld3
namespace Go.Proofs.Ytkmhjfcjplnjdaa
open Go.RowKit
def numK (f : Fp) : Nat → Int | 0 => 0 | k + 1 => numK f k * 256 + f[k]?.getD 0
theorem getD_bd {f : Fp} (h : IsFp f) (k : Nat) : 0 ≤ f[k]?.getD 0 ∧ f[k]?.getD 0 ≤ 255 := by
  by_cases hk : k < f.length
  · have : f[k]?.getD 0 = f[k] := by simp [hk]
    rw [this]
    exact h.2 _ (List.getElem_mem hk)
  · have : f[k]?.getD 0 = 0 := by simp [List.getElem?_eq_none (Nat.le_of_not_lt hk)]
    rw [this]; omega
theorem numK_bd {f : Fp} (h : IsFp f) (k : Nat) (hk : k ≤ 3) : 0 ≤ numK f k ∧ numK f k < 16777216 := by
  have h0 := getD_bd h 0
  have h1 := getD_bd h 1
  have h2 := getD_bd h 2
  match k, hk with
  | 0, _ => simp [numK]
  | 1, _ => simp only [numK]; omega
  | 2, _ => simp only [numK]; omega
  | 3, _ => simp only [numK]; omega
theorem numK_4 (f : Fp) : numK f 4 = num f := by
  simp only [numK, num]; omega
theorem u32_shl_or (a b : Int) (h0 : 0 ≤ a) (h1 : a < 16777216) (h2 : 0 ≤ b) (h3 : b ≤ 255) : bits .or .u32 (a * 256) b = a * 256 + b := by
  exact bits_join .u32 32 (by decide) (fun n h h' => by rw [IntKind.wrap_u32]; omega) 8 (a * 256) b (by omega) (by omega) (by omega) h2 (by omega) (by omega)
set_option maxHeartbeats 400000 in
theorem refNum (f : Fp) (hf : IsFp f) (w : World) :
    Calls Try.prog 24 #[.agg (fpA f)] w fun e w' => e = .returned (.int .u32 (num f)) ∧ Below w.heap.size w w' := by
  go_enter Try.func24, Try.ntmps24
  go_wp2
  go_loop [3, 4] (fun n i => ∃ k : Nat, k ≤ 4 ∧ i = .int .i64 k ∧ n = .int .u32 (numK f k)) (fun _ i => 4 - (intOf i).toNat)
  case atStart => exact ⟨0, by omega, rfl, rfl⟩
  case round =>
    obtain ⟨k, hk, rfl, rfl⟩ := hrel
    by_cases hlt : k < 4
    · have hb := numK_bd hf k (by omega)
      have hg := getD_bd hf k
      have hcell : (w.alloc (.cells (fpA f) 37)).cell? ⟨w.heap.size, k, none⟩ = some (.int .u8 (f[k]?.getD 0)) := by
        rw [World.cell?_alloc_new]; exact fpA_get hf k (by omega)
      go_wp2
      go_round
      case rel => exact ⟨k + 1, by omega, by go_num, by rw [numK]⟩
      case measure => simp [intOf]; omega
    · obtain rfl : k = 4 := by omega
      rw [numK_4]
      go_wp2
      go_ret
      exact ⟨rfl, (Below.refl _ _).alloc (Nat.le_refl _) _⟩
set_option maxHeartbeats 400000 in
theorem hookNum (f : Fp) (hf : IsFp f) (w : World) :
    Calls Try.prog 26 #[.agg (fpA f)] w fun e w' => e = .returned (.int .u32 (num f)) ∧ Below w.heap.size w w' := by
  go_enter Try.func26, Try.ntmps26
  go_wp2
  go_loop [3, 5, 8] (fun n _ i => ∃ k : Nat, k ≤ 4 ∧ i = .int .i64 k ∧ n = .int .u32 (numK f k)) (fun _ _ i => 4 - (intOf i).toNat)
  case atStart => exact ⟨0, by omega, rfl, rfl⟩
  case round =>
    obtain ⟨k, hk, rfl, rfl⟩ := hrel
    by_cases hlt : k < 4
    · have hb := numK_bd hf k (by omega)
      have hg := getD_bd hf k
      have hcell : (w.alloc (.cells (fpA f) 37)).cell? ⟨w.heap.size, k, none⟩ = some (.int .u8 (f[k]?.getD 0)) := by
        rw [World.cell?_alloc_new]; exact fpA_get hf k (by omega)
      go_wp2
      go_round
      case rel => exact ⟨k + 1, by omega, by go_num, by rw [numK, u32_shl_or _ _ hb.1 hb.2 hg.1 hg.2]⟩
      case measure => simp [intOf]; omega
    · obtain rfl : k = 4 := by omega
      rw [numK_4]
      go_wp2
      go_ret
      exact ⟨rfl, (Below.refl _ _).alloc (Nat.le_refl _) _⟩


/-- settings: all thirteen numbers -/
structure CfX where
  c : Cf
  a0 : Value
  a1 : Value
  a2 : Value
  a3 : Value
  a4 : Value
  a5 : Value
  a6 : Value
  a7 : Value
  a8 : Value
  a9 : Value
abbrev CfX.A (x : CfX) : Array Value := #[x.a0, x.a1, x.a2, x.a3, .int .i64 x.c.mn, .int .i64 x.c.mx, .int .i64 x.c.dv, x.a4, x.a5, x.a6, x.a7, x.a8, x.a9]
set_option maxHeartbeats 400000 in
theorem segMay (x : CfX) (w : World) :
    Calls Try.prog 9 #[.agg x.A] w fun e w' => e = .returned (.bool (may x.c)) ∧ w' = w.alloc (.cells x.A 24) := by
  go_enter Try.func9, Try.ntmps9
  by_cases h1 : 1 ≤ x.c.mn
  · by_cases h2 : x.c.mn ≤ x.c.mx
    · by_cases h3 : x.c.mx ≤ 256
      · by_cases h4 : 1 ≤ x.c.dv
        · by_cases h5 : x.c.dv ≤ 1048576
          all_goals
            go_wp2
            go_ret
            refine ⟨?_, rfl⟩
            simp [may, h1, h2, h3, h4, h5]
        · go_wp2
          go_ret
          refine ⟨?_, rfl⟩
          simp [may]; omega
      · go_wp2
        go_ret
        refine ⟨?_, rfl⟩
        simp [may]; omega
    · go_wp2
      go_ret
      refine ⟨?_, rfl⟩
      simp [may]; omega
  · go_wp2
    go_ret
    refine ⟨?_, rfl⟩
    simp [may]; omega
set_option maxHeartbeats 400000 in
theorem ender (x : CfX) (w : World) :
    Calls Try.prog 23 #[.agg x.A] w fun e w' => e = .returned (.func (.func 25) #[] #[.pointer (some ⟨w.heap.size, 0, none⟩)]) ∧ w' = w.alloc (.cells x.A 24) := by
  go_enter Try.func23, Try.ntmps23
  go_wp2
  go_ret
  exact ⟨rfl, rfl⟩

theorem endB_1 {c : Cf} {k : Nat} {f : Fp} (h : (k : Int) + 1 = c.mx) : endB c k f = true := by simp [endB, h]
theorem endB_2 {c : Cf} {k : Nat} {f : Fp} (h : ¬ (k : Int) + 1 = c.mx) (h2 : (k : Int) + 1 < c.mn) : endB c k f = false := by simp [endB, h]; omega
theorem endB_3 {c : Cf} {k : Nat} {f : Fp} (h : ¬ (k : Int) + 1 = c.mx) (h2 : c.mn ≤ (k : Int) + 1) (h0 : 0 ≤ num f) : endB c k f = ((num f).tmod c.dv == 0) := by
  rw [Int.tmod_eq_emod_of_nonneg h0]; simp [endB, h, h2]; rfl

/-- what the closure reads: three settings, and its own copy of the fingerprint -/
def Sees (x : CfX) (b : Nat) (f : Fp) (g : Nat) (w : World) : Prop :=
  w.cell? ⟨b, 4, none⟩ = some (.int .i64 x.c.mn) ∧ w.cell? ⟨b, 5, none⟩ = some (.int .i64 x.c.mx) ∧ w.cell? ⟨b, 6, none⟩ = some (.int .i64 x.c.dv) ∧ w.rangeAt g 0 (fpL f)
theorem Sees.below {x : CfX} {b : Nat} {f : Fp} {g : Nat} {w w' : World} (h : Sees x b f g w) {B : Nat} (hb : Below B w w') (h1 : b < B) (h2 : g < B) : Sees x b f g w' :=
  ⟨(hb.cell (p := ⟨b, 4, none⟩) h1).trans h.1, (hb.cell (p := ⟨b, 5, none⟩) h1).trans h.2.1, (hb.cell (p := ⟨b, 6, none⟩) h1).trans h.2.2.1, fun j v hv => (hb.cell (p := ⟨g, 0 + j, none⟩) h2).trans (h.2.2.2 j v hv)⟩
set_option maxHeartbeats 1000000 in
theorem enderB (x : CfX) (hc : may x.c = true) (k : Nat) (hk : k ≤ 1000000) (f : Fp) (hf : IsFp f) (b : Nat) (w : World) (hb : w.heap[b]? = some (.cells x.A 24)) :
    Calls Try.prog 25 #[.int .i64 k, .agg (fpA f), .pointer (some ⟨b, 0, none⟩)] w fun e w' => e = .returned (.bool (endB x.c k f)) ∧ Below w.heap.size w w' := by
  have hm := (may_iff x.c).1 hc
  have hbl : b < w.heap.size := (Array.getElem?_eq_some_iff.1 hb).1
  have c4 : w.cell? ⟨b, 4, none⟩ = some (.int .i64 x.c.mn) := cell_of_row w b 4 _ 24 (0, 0) hb
  have c5 : w.cell? ⟨b, 5, none⟩ = some (.int .i64 x.c.mx) := cell_of_row w b 5 _ 24 (0, 0) hb
  have c6 : w.cell? ⟨b, 6, none⟩ = some (.int .i64 x.c.dv) := cell_of_row w b 6 _ 24 (0, 0) hb
  have H := Lib.hid hb
  clear hb
  have hn := num_bd hf
  have hwk : IntKind.i64.wrap ((k : Int) + 1) = (k : Int) + 1 := IntWalk.i64_in _ (by omega)
  by_cases h1 : (k : Int) + 1 = x.c.mx
  · rw [endB_1 h1]
    have hd : ((k : Int) + 1 == x.c.mx) = true := by simpa using h1
    have H1 := Lib.hid h1
    clear h1
    go_enter Try.func25, Try.ntmps25
    go_wp2
    go_quiet (fail)
    go_wp2
    go_ret
    exact ⟨rfl, (((Below.refl _ _).alloc (Nat.le_refl _) _).drewN _)⟩
  · have hd : ((k : Int) + 1 == x.c.mx) = false := by simpa using h1
    by_cases h2 : x.c.mn ≤ (k : Int) + 1
    · rw [endB_3 h1 h2 hn.1]
      have hd2 : decide (x.c.mn ≤ (k : Int) + 1) = true := by simpa using h2
      have H1 := Lib.hid h1
      clear h1
      have hS0 : Sees x b f w.heap.size (w.alloc (.cells (fpA f) 37)).drew := ⟨by rw [World.cell?_drew, World.cell?_alloc_lt _ _ _ hbl]; exact c4, by rw [World.cell?_drew, World.cell?_alloc_lt _ _ _ hbl]; exact c5, by rw [World.cell?_drew, World.cell?_alloc_lt _ _ _ hbl]; exact c6, by
        intro j v hv
        rw [World.cell?_drew, World.cell?_alloc_new, Nat.zero_add]
        simpa [fpA] using hv⟩
      have hdw : IntKind.u32.wrap x.c.dv = x.c.dv := by rw [IntKind.wrap_u32]; omega
      have hdz : (x.c.dv == 0) = false := by simp; omega
      have hdz2 : ¬ x.c.dv = 0 := by omega
      have hu37 := Try.underlying37
      have hi37 : (Try.prog.info? 37).map (·.size) = some (fpL f).length := by rw [info37, fpL_length hf]
      have HS := Lib.hid hS0
      clear hS0
      go_enter Try.func25, Try.ntmps25
      go_wp2
      go_region_held3 (fun w' => w'.cell? ⟨b, 4, none⟩ = some (.int .i64 x.c.mn) ∧ w'.cell? ⟨b, 5, none⟩ = some (.int .i64 x.c.mx) ∧ w'.cell? ⟨b, 6, none⟩ = some (.int .i64 x.c.dv) ∧ w'.rangeAt w.heap.size 0 (fpL f)) (first | exact HS.out | exact HS1.out)
        (first | (go_at_call 26; refine (hookNum f hf _).mono ?_; rintro e w1 ⟨rfl, hb1⟩; have HS1 := Lib.hid (Sees.below HS.out hb1 (by simp; omega) (by simp))))
      go_wp2
      go_ret
      refine ⟨rfl, ?_⟩
      exact (((Below.refl _ w).alloc (Nat.le_refl _) _).drew).trans (hb1.mono (by simp))
    · rw [endB_2 h1 (by omega)]
      have hd2 : decide (x.c.mn ≤ (k : Int) + 1) = false := by simpa using h2
      have H1 := Lib.hid h1
      clear h1
      go_enter Try.func25, Try.ntmps25
      go_wp2
      go_quiet (fail)
      go_wp2
      go_ret
      exact ⟨rfl, (((Below.refl _ _).alloc (Nat.le_refl _) _).drewN _)⟩
end Go.Proofs.Ytkmhjfcjplnjdaa
