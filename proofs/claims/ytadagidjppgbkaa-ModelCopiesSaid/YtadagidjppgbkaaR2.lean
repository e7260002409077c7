/- The walks over the reference's begin, Crash, Names, and over Same of names. -/
import Derived.Test.YtadagidjppgbkaaR1
import Derived.Test.YtadagidjppgbkaaM7
namespace Go.Proofs.Ytadagidjppgbkaa
open Go.RowKit Go.Maps Go.Sort
theorem info27 : (Try.prog.info? 27).map (·.size) = some 4 := by kernel_rfl
def Rm.shut (r : Rm) : Rm := ⟨r.L, false, ByteArray.empty, ByteArray.empty⟩
set_option maxHeartbeats 1000000 in
theorem refCrash {w : World} {A : Option Addr} {c : Nat} (r : Rm) : Calls Try.prog 10 #[.agg (rmA A c r)] w fun e w' => e = .returned (.agg (rmA A c r.shut)) ∧ Below w.heap.size w w' := by
  obtain ⟨L, op, rn, rb⟩ := r
  simp only [rmA, Rm.shut]
  generalize L.length = N
  go_enter Try.func10, Try.ntmps10
  go_wp2
  refine bodyPost_ret (v := .agg #[.slice A N c, .bool false, .string ByteArray.empty, .string ByteArray.empty]) (results_cell_row rfl _ _ (w.heap.size + 1) 27 _ (0, 0) _ rfl ?_ Try.underlying27 rfl info27) rfl ⟨rfl, ((Below.refl _ _).alloc (Nat.le_refl _) _).alloc (by simp) _⟩
  rw [← World.size_alloc w (.cells #[.slice A N c, .bool op, .string rn, .string rb] 27)]
  exact heap_alloc_new _ _
/-- what is wrong with a Begin -/
def rbE (r : Rm) (nm : ByteArray) : Int :=
  if r.op = true then 250 else if nm.size < 1 ∨ 48 < nm.size then 251 else if 0 ≤ atN r.L nm 0 then 252 else if 256 ≤ r.L.length then 240 else 0
set_option maxRecDepth 100000 in
set_option maxHeartbeats 1000000 in
theorem refBegin {w : World} {g b : Nat} {A : Option Addr} {c : Nat} (r : Rm) (hL : Nms w g b A r.L.length r.L) (hn : r.L.length ≤ 1000000) (nm : ByteArray) :
    Calls Try.prog 27 #[.agg (rmA A c r), .string nm] w fun e w' => e = .returned (.int .i64 (rbE r nm)) ∧ Below w.heap.size w w' := by
  have hb0 : Below w.heap.size w (w.alloc (.cells (rmA A c r) 27)) := (Below.refl _ _).alloc (Nat.le_refl _) _
  have hAt := refAt (c := c) r (hL.below hb0) hn nm
  have hcase : (r.op = true ∧ rbE r nm = 250) ∨ (r.op = false ∧ decide ((nm.size : Int) < 1) = true ∧ rbE r nm = 251) ∨ (r.op = false ∧ decide ((nm.size : Int) < 1) = false ∧ decide ((48 : Int) < (nm.size : Int)) = true ∧ rbE r nm = 251) ∨
      (r.op = false ∧ decide ((nm.size : Int) < 1) = false ∧ decide ((48 : Int) < (nm.size : Int)) = false ∧ decide (0 ≤ atN r.L nm 0) = true ∧ rbE r nm = 252) ∨
      (r.op = false ∧ decide ((nm.size : Int) < 1) = false ∧ decide ((48 : Int) < (nm.size : Int)) = false ∧ decide (0 ≤ atN r.L nm 0) = false ∧ decide ((256 : Int) ≤ (r.L.length : Int)) = true ∧ rbE r nm = 240) ∨
      (r.op = false ∧ decide ((nm.size : Int) < 1) = false ∧ decide ((48 : Int) < (nm.size : Int)) = false ∧ decide (0 ≤ atN r.L nm 0) = false ∧ decide ((256 : Int) ≤ (r.L.length : Int)) = false ∧ rbE r nm = 0) := by
    unfold rbE
    cases h1 : r.op
    · by_cases h2 : nm.size < 1
      · exact .inr (.inl ⟨rfl, by simp; omega, by rw [if_neg (by simp), if_pos (.inl h2)]⟩)
      · by_cases h3 : 48 < nm.size
        · exact .inr (.inr (.inl ⟨rfl, by simp; omega, by simp; omega, by rw [if_neg (by simp), if_pos (.inr h3)]⟩))
        · by_cases h4 : 0 ≤ atN r.L nm 0
          · exact .inr (.inr (.inr (.inl ⟨rfl, by simp; omega, by simp; omega, by simpa using h4, by rw [if_neg (by simp), if_neg (by omega), if_pos h4]⟩)))
          · by_cases h5 : 256 ≤ r.L.length
            · exact .inr (.inr (.inr (.inr (.inl ⟨rfl, by simp; omega, by simp; omega, by simpa using h4, by simp; omega, by rw [if_neg (by simp), if_neg (by omega), if_neg h4, if_pos h5]⟩))))
            · exact .inr (.inr (.inr (.inr (.inr ⟨rfl, by simp; omega, by simp; omega, by simpa using h4, by simp; omega, by rw [if_neg (by simp), if_neg (by omega), if_neg h4, if_neg h5]⟩))))
    · exact .inl ⟨rfl, by rw [if_pos rfl]⟩
  have HB0 := Lib.hid hb0
  have HAT := Lib.hid hAt
  clear hL hb0 hAt
  generalize rbE r nm = E at *
  generalize atN r.L nm 0 = K at *
  obtain ⟨L, op, rn, rb⟩ := r
  simp only [rmA] at *
  generalize L.length = N at *
  rcases hcase with ⟨h1, rfl⟩ | ⟨h1, t1, rfl⟩ | ⟨h1, t1, t2, rfl⟩ | ⟨h1, t1, t2, t3, rfl⟩ | ⟨h1, t1, t2, t3, t4, rfl⟩ | ⟨h1, t1, t2, t3, t4, rfl⟩
  all_goals
    subst h1
    go_enter Try.func27, Try.ntmps27
    go_wp2_with (go_at_call 17; refine HAT.out.mono ?_; rintro e w1 ⟨rfl, rfl⟩)
    go_ret
  · exact ⟨rfl, HB0.out⟩
  · exact ⟨rfl, HB0.out⟩
  · exact ⟨rfl, HB0.out⟩
  · exact ⟨rfl, HB0.out.alloc (by simp) _⟩
  · exact ⟨rfl, HB0.out.alloc (by simp) _⟩
  · exact ⟨rfl, HB0.out.alloc (by simp) _⟩
end Go.Proofs.Ytadagidjppgbkaa
