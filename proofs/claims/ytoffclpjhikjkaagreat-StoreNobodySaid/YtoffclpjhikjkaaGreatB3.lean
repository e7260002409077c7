/- The law's walk. -/
import Derived.Test.YtoffclpjhikjkaaGreatB2
import Derived.Test.YtoffclpjhikjkaaGreatE1
import Derived.Test.YtoffclpjhikjkaaGreatRows
set_option linter.unusedSimpArgs false
set_option linter.unusedVariables false
namespace Go.Proofs.YtoffclpjhikjkaaGreat
open Go.RowKit
theorem mount4 (m : Cf) (k : Int) (hk : k = if chkB m = true then 4 else 230) (w : World) : Calls Tryz.prog 4 #[.pointer none, .agg m.A] w fun e w' => e = .returned (.tuple #[.pointer none, .int .i64 k]) ∧ Below w.heap.size w w' := by
  by_cases q : chkB m = true
  · rw [if_pos q] at hk
    subst hk
    have H25 := fun w => check25 m 0 (by rw [if_pos q]) w
    go_enter Tryz.func4, Tryz.ntmps4
    go_wp2_with (first
      | (go_at_call 25; refine (H25 _).mono ?_; rintro e w1 ⟨rfl, hb1⟩)
      | (go_at_call 26; refine (mount26 _).mono ?_; rintro e w2 ⟨rfl, hb2⟩))
    go_ret2
    exact ⟨rfl, ((Below.refl _ _).alloc (Nat.le_refl _) _).trans ((hb1.mono (by simp)).trans (hb2.mono (by have := hb1.size; simp at this; omega)))⟩
  · rw [if_neg q] at hk
    subst hk
    have H25 := fun w => check25 m 230 (by rw [if_neg q]) w
    go_enter Tryz.func4, Tryz.ntmps4
    go_wp2_with (first
      | (go_at_call 25; refine (H25 _).mono ?_; rintro e w1 ⟨rfl, hb1⟩))
    go_ret2
    exact ⟨rfl, ((Below.refl _ _).alloc (Nat.le_refl _) _).trans (hb1.mono (by simp))⟩
theorem format5 (m : Cf) (k : Int) (hk : k = if chkB m = true then 4 else 230) (w : World) : Calls Tryz.prog 5 #[.pointer none, .int .i64 1, .agg m.A] w fun e w' => e = .returned (.tuple #[.pointer none, .int .i64 k]) ∧ Below w.heap.size w w' := by
  by_cases q : chkB m = true
  · rw [if_pos q] at hk
    subst hk
    have H25 := fun w => check25 m 0 (by rw [if_pos q]) w
    go_enter Tryz.func5, Tryz.ntmps5
    go_wp2_with (first
      | (go_at_call 25; refine (H25 _).mono ?_; rintro e w1 ⟨rfl, hb1⟩)
      | (go_at_call 31; refine (format31 _).mono ?_; rintro e w2 ⟨rfl, hb2⟩))
    go_ret2
    exact ⟨rfl, ((Below.refl _ _).alloc (Nat.le_refl _) _).trans ((hb1.mono (by simp)).trans (hb2.mono (by have := hb1.size; simp at this; omega)))⟩
  · rw [if_neg q] at hk
    subst hk
    have H25 := fun w => check25 m 230 (by rw [if_neg q]) w
    go_enter Tryz.func5, Tryz.ntmps5
    go_wp2_with (first
      | (go_at_call 25; refine (H25 _).mono ?_; rintro e w1 ⟨rfl, hb1⟩))
    go_ret2
    exact ⟨rfl, ((Below.refl _ _).alloc (Nat.le_refl _) _).trans (hb1.mono (by simp))⟩

def LawPost (w : World) (e : Ending) (w' : World) : Prop := e = .returned (.bool true) ∧ Below w.heap.size w w'
/-- a row of cells lies at a block -/
def At (k : Nat) (C : Array Value) (W : World) : Prop := k < W.heap.size ∧ ∀ i : Nat, W.cell? ⟨k, i, none⟩ = C[i]?
theorem At.next {k : Nat} {C : Array Value} {W W' : World} (h : At k C W) (hb : Below W.heap.size W W') : At k C W' := ⟨Nat.lt_of_lt_of_le h.1 hb.size, fun i => (hb.cell (p := ⟨k, i, none⟩) h.1).trans (h.2 i)⟩
theorem At.alloc {k : Nat} {C : Array Value} {W : World} (h : At k C W) (o : Obj) : At k C (W.alloc o) := h.next ((Below.refl _ _).alloc (Nat.le_refl _) _)
theorem At.new (W : World) (C : Array Value) (t : TypeId) : At W.heap.size C (W.alloc (.cells C t)) := ⟨by simp, fun i => by rw [World.cell?_alloc_new]⟩
set_option maxHeartbeats 4000000 in
theorem storeNobody (a b d p q : Value) (h3 : Ev.one a = true ∧ Ev.one b = true ∧ Ev.one d = true) (h2 : Ev.one p = true ∧ Ev.one q = true) (m : Cf) (HA : ∀ w, Calls Tryz.prog 24 #[] w fun e w' => e = .returned (.bool true) ∧ Below w.heap.size w w') (w : World) :
    Calls Tryz.prog 3 #[.agg #[a, b, d], .agg #[p, q], .agg m.A] w (LawPost w) := by
  by_cases hq : chkB m = true
  · have H4 := fun w => mount4 m 4 (by rw [if_pos hq]) w
    have H5 := fun w => format5 m 4 (by rw [if_pos hq]) w
    have H6 : ∀ w, Calls Tryz.prog 6 #[.agg m.A] w fun e w' => e = .returned (.bool true) ∧ Below w.heap.size w w' := fun w => (may6 m w).mono fun e w' h => ⟨by rw [h.1, ← chk_may, hq], by rw [h.2]; exact (Below.refl _ _).alloc (Nat.le_refl _) _⟩
    go_enter Tryz.func3, Tryz.ntmps3
    go_wp2_with (first
      | (go_at_call 4; refine (H4 _).mono ?_; rintro e w4 ⟨rfl, hb4⟩
         have hA4 := ((((At.new w #[a, b, d] 24).alloc (.cells #[p, q] 27)).alloc (.cells m.A 29))).next hb4
         have hB4 := ((At.new (w.alloc (.cells #[a, b, d] 24)) #[p, q] 27).alloc (.cells m.A 29)).next hb4
         have hC4 := (At.new ((w.alloc (.cells #[a, b, d] 24)).alloc (.cells #[p, q] 27)) m.A 29).next hb4
         simp only [World.size_alloc] at hB4 hC4
         have cC4 := hC4.2)
      | (go_at_call 5; refine (H5 _).mono ?_; rintro e w5 ⟨rfl, hb5⟩
         have hA5 : At w.heap.size #[a, b, d] w5 := by first | exact hA4.next hb5 | exact (hA4.alloc _).next hb5 | exact ((hA4.alloc _).alloc _).next hb5
         have hB5 : At (w.heap.size + 1) #[p, q] w5 := by first | exact hB4.next hb5 | exact (hB4.alloc _).next hb5 | exact ((hB4.alloc _).alloc _).next hb5
         have hC5 : At (w.heap.size + 1 + 1) m.A w5 := by first | exact hC4.next hb5 | exact (hC4.alloc _).next hb5 | exact ((hC4.alloc _).alloc _).next hb5
         have cC5 := hC5.2
         clear cC4
         skip)
      | (go_at_call 6; refine (H6 _).mono ?_; rintro e w6 ⟨rfl, hb6⟩
         have hA6 : At w.heap.size #[a, b, d] w6 := by first | exact hA5.next hb6 | exact (hA5.alloc _).next hb6 | exact ((hA5.alloc _).alloc _).next hb6
         have hB6 : At (w.heap.size + 1) #[p, q] w6 := by first | exact hB5.next hb6 | exact (hB5.alloc _).next hb6 | exact ((hB5.alloc _).alloc _).next hb6
         have cA6 := hA6.2
         clear cC5
         skip)
      | (go_at_call 7; refine (do7 _ _ _ h3 _).mono ?_; rintro e w7 ⟨rfl, hb7⟩
         have hB7 : At (w.heap.size + 1) #[p, q] w7 := by first | exact hB6.next hb7 | exact (hB6.alloc _).next hb7 | exact ((hB6.alloc _).alloc _).next hb7
         clear cA6
         skip)
      | (go_at_call 8; refine (counts8 _).mono ?_; rintro e w8 ⟨rfl, hb8⟩
         have hB8 : At (w.heap.size + 1) #[p, q] w8 := by first | exact hB7.next hb8 | exact (hB7.alloc _).next hb8 | exact ((hB7.alloc _).alloc _).next hb8
         have hR8 := (At.new w7 #[.int .i64 4, .string .empty, .slice none 0 0] 38).next hb8
         have cB8 := fun o => (hB8.alloc o).2
         skip)
      | (go_at_call 9; refine (chunk9 _ _ h2 _).mono ?_; rintro e w9 ⟨rfl, hb9⟩
         have hR9 : At w7.heap.size #[.int .i64 4, .string .empty, .slice none 0 0] w9 := by first | exact hR8.next hb9 | exact (hR8.alloc _).next hb9 | exact ((hR8.alloc _).alloc _).next hb9
         clear cB8
         skip)
      | (go_at_call 10; refine (list10 _).mono ?_; rintro e w10 ⟨rfl, hb10⟩
         have hR10 := hR9.next hb10
         have cR10 := hR10.2
         skip)
      | (go_at_call 11; refine (alike11 _).mono ?_; rintro e w11 ⟨rfl, hb11⟩
         clear cR10
         skip)
      | (go_at_call 12; refine (begin12 _).mono ?_; rintro e w12 ⟨rfl, hb12⟩
         skip)
      | (go_at_call 13; refine (write13 _).mono ?_; rintro e w13 ⟨rfl, hb13⟩
         skip)
      | (go_at_call 14; refine (commit14 _).mono ?_; rintro e w14 ⟨rfl, hb14⟩
         skip)
      | (go_at_call 15; refine (abort15 _).mono ?_; rintro e w15 ⟨rfl, hb15⟩
         skip)
      | (go_at_call 16; refine (delete16 _).mono ?_; rintro e w16 ⟨rfl, hb16⟩
         skip)
      | (go_at_call 17; refine (turn17 _).mono ?_; rintro e w17 ⟨rfl, hb17⟩
         skip)
      | (go_at_call 18; refine (opened18 _).mono ?_; rintro e w18 ⟨rfl, hb18⟩
         skip)
      | (go_at_call 19; refine (mans19 _).mono ?_; rintro e w19 ⟨rfl, hb19⟩
         skip)
      | (go_at_call 20; refine (heads20 _).mono ?_; rintro e w20 ⟨rfl, hb20⟩
         skip)
      | (go_at_call 22; refine (cat22 _).mono ?_; rintro e w22 ⟨rfl, hb22⟩
         skip)
      | (go_at_call 21; refine (same21 _).mono ?_; rintro e w21 ⟨rfl, hb21⟩
         skip)
      | (go_at_call 23; refine (conf23 _).mono ?_; rintro e w23 ⟨rfl, hb23⟩
         skip)
      | (go_at_call 24; refine (HA _).mono ?_; rintro e w24 ⟨rfl, hb24⟩
         skip))
    go_ret
    have B4 := ((((Below.refl w.heap.size w).alloc (Nat.le_refl _) (.cells #[a, b, d] 24)).alloc (by simp) (.cells #[p, q] 27)).alloc (by simp; omega) (.cells m.A 29)).trans (hb4.mono (by simp; omega))
    have B5 := B4.trans (hb5.mono B4.size)
    have B6 := B5.trans (hb6.mono B5.size)
    have B7 := B6.trans (hb7.mono B6.size)
    have C8 := B7.alloc B7.size (.cells #[.int .i64 4, .string .empty, .slice none 0 0] 38)
    have B8 := C8.trans (hb8.mono C8.size)
    have C9 := B8.alloc B8.size (.cells #[z64, z64, z64, z64, z64, z64, z64, z64, z64] 41)
    have B9 := C9.trans (hb9.mono C9.size)
    have B10 := B9.trans (hb10.mono B9.size)
    have B11 := B10.trans (hb11.mono B10.size)
    have B12 := B11.trans (hb12.mono B11.size)
    have B13 := B12.trans (hb13.mono B12.size)
    have B14 := B13.trans (hb14.mono B13.size)
    have B15 := B14.trans (hb15.mono B14.size)
    have B16 := B15.trans (hb16.mono B15.size)
    have B17 := B16.trans (hb17.mono B16.size)
    have B18 := B17.trans (hb18.mono B17.size)
    have B19 := B18.trans (hb19.mono B18.size)
    have B20 := B19.trans (hb20.mono B19.size)
    have B22 := B20.trans (hb22.mono B20.size)
    have B21 := B22.trans (hb21.mono B22.size)
    have B23 := B21.trans (hb23.mono B21.size)
    have B24 := B23.trans (hb24.mono B23.size)
    exact ⟨rfl, B24⟩
  · rw [Bool.not_eq_true] at hq
    have H4 := fun w => mount4 m 230 (by rw [if_neg (by rw [hq]; decide)]) w
    have H5 := fun w => format5 m 230 (by rw [if_neg (by rw [hq]; decide)]) w
    have H6 : ∀ w, Calls Tryz.prog 6 #[.agg m.A] w fun e w' => e = .returned (.bool false) ∧ Below w.heap.size w w' := fun w => (may6 m w).mono fun e w' h => ⟨by rw [h.1, ← chk_may, hq], by rw [h.2]; exact (Below.refl _ _).alloc (Nat.le_refl _) _⟩
    go_enter Tryz.func3, Tryz.ntmps3
    go_wp2_with (first
      | (go_at_call 4; refine (H4 _).mono ?_; rintro e w4 ⟨rfl, hb4⟩
         have hA4 := ((((At.new w #[a, b, d] 24).alloc (.cells #[p, q] 27)).alloc (.cells m.A 29))).next hb4
         have hB4 := ((At.new (w.alloc (.cells #[a, b, d] 24)) #[p, q] 27).alloc (.cells m.A 29)).next hb4
         have hC4 := (At.new ((w.alloc (.cells #[a, b, d] 24)).alloc (.cells #[p, q] 27)) m.A 29).next hb4
         simp only [World.size_alloc] at hB4 hC4
         have cC4 := hC4.2)
      | (go_at_call 5; refine (H5 _).mono ?_; rintro e w5 ⟨rfl, hb5⟩
         have hA5 : At w.heap.size #[a, b, d] w5 := by first | exact hA4.next hb5 | exact (hA4.alloc _).next hb5 | exact ((hA4.alloc _).alloc _).next hb5
         have hB5 : At (w.heap.size + 1) #[p, q] w5 := by first | exact hB4.next hb5 | exact (hB4.alloc _).next hb5 | exact ((hB4.alloc _).alloc _).next hb5
         have hC5 : At (w.heap.size + 1 + 1) m.A w5 := by first | exact hC4.next hb5 | exact (hC4.alloc _).next hb5 | exact ((hC4.alloc _).alloc _).next hb5
         have cC5 := hC5.2
         clear cC4
         skip)
      | (go_at_call 6; refine (H6 _).mono ?_; rintro e w6 ⟨rfl, hb6⟩
         have hA6 : At w.heap.size #[a, b, d] w6 := by first | exact hA5.next hb6 | exact (hA5.alloc _).next hb6 | exact ((hA5.alloc _).alloc _).next hb6
         have hB6 : At (w.heap.size + 1) #[p, q] w6 := by first | exact hB5.next hb6 | exact (hB5.alloc _).next hb6 | exact ((hB5.alloc _).alloc _).next hb6
         have cA6 := hA6.2
         clear cC5
         skip)
      | (go_at_call 7; refine (do7 _ _ _ h3 _).mono ?_; rintro e w7 ⟨rfl, hb7⟩
         have hB7 : At (w.heap.size + 1) #[p, q] w7 := by first | exact hB6.next hb7 | exact (hB6.alloc _).next hb7 | exact ((hB6.alloc _).alloc _).next hb7
         clear cA6
         skip)
      | (go_at_call 8; refine (counts8 _).mono ?_; rintro e w8 ⟨rfl, hb8⟩
         have hB8 : At (w.heap.size + 1) #[p, q] w8 := by first | exact hB7.next hb8 | exact (hB7.alloc _).next hb8 | exact ((hB7.alloc _).alloc _).next hb8
         have hR8 := (At.new w7 #[.int .i64 4, .string .empty, .slice none 0 0] 38).next hb8
         have cB8 := fun o => (hB8.alloc o).2
         skip)
      | (go_at_call 9; refine (chunk9 _ _ h2 _).mono ?_; rintro e w9 ⟨rfl, hb9⟩
         have hR9 : At w7.heap.size #[.int .i64 4, .string .empty, .slice none 0 0] w9 := by first | exact hR8.next hb9 | exact (hR8.alloc _).next hb9 | exact ((hR8.alloc _).alloc _).next hb9
         clear cB8
         skip)
      | (go_at_call 10; refine (list10 _).mono ?_; rintro e w10 ⟨rfl, hb10⟩
         have hR10 := hR9.next hb10
         have cR10 := hR10.2
         skip)
      | (go_at_call 11; refine (alike11 _).mono ?_; rintro e w11 ⟨rfl, hb11⟩
         clear cR10
         skip)
      | (go_at_call 12; refine (begin12 _).mono ?_; rintro e w12 ⟨rfl, hb12⟩
         skip)
      | (go_at_call 13; refine (write13 _).mono ?_; rintro e w13 ⟨rfl, hb13⟩
         skip)
      | (go_at_call 14; refine (commit14 _).mono ?_; rintro e w14 ⟨rfl, hb14⟩
         skip)
      | (go_at_call 15; refine (abort15 _).mono ?_; rintro e w15 ⟨rfl, hb15⟩
         skip)
      | (go_at_call 16; refine (delete16 _).mono ?_; rintro e w16 ⟨rfl, hb16⟩
         skip)
      | (go_at_call 17; refine (turn17 _).mono ?_; rintro e w17 ⟨rfl, hb17⟩
         skip)
      | (go_at_call 18; refine (opened18 _).mono ?_; rintro e w18 ⟨rfl, hb18⟩
         skip)
      | (go_at_call 19; refine (mans19 _).mono ?_; rintro e w19 ⟨rfl, hb19⟩
         skip)
      | (go_at_call 20; refine (heads20 _).mono ?_; rintro e w20 ⟨rfl, hb20⟩
         skip)
      | (go_at_call 22; refine (cat22 _).mono ?_; rintro e w22 ⟨rfl, hb22⟩
         skip)
      | (go_at_call 21; refine (same21 _).mono ?_; rintro e w21 ⟨rfl, hb21⟩
         skip)
      | (go_at_call 23; refine (conf23 _).mono ?_; rintro e w23 ⟨rfl, hb23⟩
         skip)
      | (go_at_call 24; refine (HA _).mono ?_; rintro e w24 ⟨rfl, hb24⟩
         skip))
    go_ret
    have B4 := ((((Below.refl w.heap.size w).alloc (Nat.le_refl _) (.cells #[a, b, d] 24)).alloc (by simp) (.cells #[p, q] 27)).alloc (by simp; omega) (.cells m.A 29)).trans (hb4.mono (by simp; omega))
    have B5 := B4.trans (hb5.mono B4.size)
    have B6 := B5.trans (hb6.mono B5.size)
    have B7 := B6.trans (hb7.mono B6.size)
    have C8 := B7.alloc B7.size (.cells #[.int .i64 4, .string .empty, .slice none 0 0] 38)
    have B8 := C8.trans (hb8.mono C8.size)
    have C9 := B8.alloc B8.size (.cells #[z64, z64, z64, z64, z64, z64, z64, z64, z64] 41)
    have B9 := C9.trans (hb9.mono C9.size)
    have B10 := B9.trans (hb10.mono B9.size)
    have B11 := B10.trans (hb11.mono B10.size)
    have B12 := B11.trans (hb12.mono B11.size)
    have B13 := B12.trans (hb13.mono B12.size)
    have B14 := B13.trans (hb14.mono B13.size)
    have B15 := B14.trans (hb15.mono B14.size)
    have B16 := B15.trans (hb16.mono B15.size)
    have B17 := B16.trans (hb17.mono B16.size)
    have B18 := B17.trans (hb18.mono B17.size)
    have B19 := B18.trans (hb19.mono B18.size)
    have B20 := B19.trans (hb20.mono B19.size)
    have B22 := B20.trans (hb22.mono B20.size)
    have B21 := B22.trans (hb21.mono B22.size)
    have B23 := B21.trans (hb23.mono B21.size)
    have B24 := B23.trans (hb24.mono B23.size)
    exact ⟨rfl, B24⟩
end Go.Proofs.YtoffclpjhikjkaaGreat
