/- What a store that nobody made tells: run. -/
import Derived.Test.YtoffclpjhikjkaaGreatEvD
import Derived.Test.YtoffclpjhikjkaaGreatTd
import Derived.KernelRfl
set_option linter.unusedSimpArgs false
set_option linter.unusedVariables false
namespace Go.Proofs.YtoffclpjhikjkaaGreat
open Ev
open Go.RowKit
set_option maxRecDepth 1000000
theorem mixed : Tryz.prog.follows .mixedOrders = true := by kernel_rfl
theorem ext363 : ExtIs Tryz.prog 363 Extern.AbiNoEscape.same := ⟨⟨Tryz.f363, Tryz.func363, by kernel_rfl, by kernel_rfl, by kernel_rfl, by kernel_rfl⟩⟩
theorem ext389 : ExtIs Tryz.prog 389 (Extern.BytealgMakeNoZero.makeNoZero #[3] #[167]) := ⟨⟨Tryz.f389, Tryz.func389, by kernel_rfl, by kernel_rfl, by kernel_rfl, by kernel_rfl⟩⟩
theorem x0_ok : ExtOk Tryz.prog X0 := fun g x l aw v aw' ρ xs w hx he hv hW => by
  unfold X0 at hx
  cases h1 : Nat.beq g 363 with
  | true =>
    rw [h1] at hx
    injection hx with hx
    subst hx
    have : g = 363 := Nat.eq_of_beq_eq_true h1
    subst this
    exact noEscape_ok ext363 he hv hW
  | false =>
    rw [h1] at hx
    cases h2 : Nat.beq g 389 with
    | true =>
      rw [h2] at hx
      injection hx with hx
      subst hx
      have : g = 389 := Nat.eq_of_beq_eq_true h2
      subst this
      exact makeNoZero_ok ext389 Tryz.underlying167 (by kernel_rfl) he hv hW
    | false => rw [h2] at hx; cases hx
abbrev z64 : Value := .int .i64 0
theorem counts8 (w : World) : Calls Tryz.prog 8 #[.pointer none] w fun e w' => e = .returned (.tuple #[.agg #[z64, z64, z64, z64, z64, z64, z64, z64, z64], .int .i64 4]) ∧ Below w.heap.size w w' :=
  ev_calls mixed x0_ok (n := 60) (l := [.nl 20]) (v := .tup [.agg [.int 129 0, .int 129 0, .int 129 0, .int 129 0, .int 129 0, .int 129 0, .int 129 0, .int 129 0, .int 129 0], .int 129 4]) (by kernel_rfl) (by kernel_rfl) (.cons _ _ _ _ .nilP .nil) (by kernel_rfl) w
theorem do7 (a b d : Value) (h : one a = true ∧ one b = true ∧ one d = true) (w : World) : Calls Tryz.prog 7 #[.pointer none, .agg #[a, b, d]] w fun e w' => e = .returned (.agg #[.int .i64 4, .string .empty, .slice none 0 0]) ∧ Below w.heap.size w w' :=
  ev_calls mixed x0_ok (n := 60) (l := [.nl 20, .agg [junk, junk, junk]]) (v := .agg [.int 129 4, .str 0 0, .nl 21]) (by kernel_rfl) (by kernel_rfl) (.cons _ _ _ _ .nilP (.cons _ _ _ _ (.agg _ _ (.cons _ _ _ _ (VR.junk a) (.cons _ _ _ _ (VR.junk b) (.cons _ _ _ _ (VR.junk d) .nil))) (by simp [h])) .nil)) (by kernel_rfl) w
theorem chunk9 (a b : Value) (h : one a = true ∧ one b = true) (w : World) : Calls Tryz.prog 9 #[.pointer none, .agg #[a, b]] w fun e w' => e = .returned (.tuple #[.string .empty, .int .i64 4]) ∧ Below w.heap.size w w' :=
  ev_calls mixed x0_ok (n := 60) (l := [.nl 20, .agg [junk, junk]]) (v := .tup [.str 0 0, .int 129 4]) (by kernel_rfl) (by kernel_rfl) (.cons _ _ _ _ .nilP (.cons _ _ _ _ (.agg _ _ (.cons _ _ _ _ (VR.junk a) (.cons _ _ _ _ (VR.junk b) .nil)) (by simp [h])) .nil)) (by kernel_rfl) w
theorem list10 (w : World) : Calls Tryz.prog 10 #[.pointer none] w fun e w' => e = .returned (.tuple #[.slice none 0 0, .int .i64 4]) ∧ Below w.heap.size w w' :=
  ev_calls mixed x0_ok (n := 60) (l := [.nl 20]) (v := .tup [.nl 21, .int 129 4]) (by kernel_rfl) (by kernel_rfl) (.cons _ _ _ _ .nilP .nil) (by kernel_rfl) w
theorem alike11 (w : World) : Calls Tryz.prog 11 #[.agg #[.int .i64 4, .string .empty, .slice none 0 0], .agg #[.int .i64 4, .string .empty, .slice none 0 0]] w fun e w' => e = .returned (.bool true) ∧ Below w.heap.size w w' :=
  ev_calls mixed x0_ok (n := 60) (l := [.agg [.int 129 4, .str 0 0, .nl 21], .agg [.int 129 4, .str 0 0, .nl 21]]) (v := .bool true) (by kernel_rfl) (by kernel_rfl) (.cons _ _ _ _ (.agg _ _ (.cons _ _ _ _ (.int .i64 4 (by decide)) (.cons _ _ _ _ (.str 0 0 (by decide)) (.cons _ _ _ _ .nilS .nil))) (by simp [one])) (.cons _ _ _ _ (.agg _ _ (.cons _ _ _ _ (.int .i64 4 (by decide)) (.cons _ _ _ _ (.str 0 0 (by decide)) (.cons _ _ _ _ .nilS .nil))) (by simp [one])) .nil)) (by kernel_rfl) w
theorem begin12 (w : World) : Calls Tryz.prog 12 #[.pointer none, .string ⟨#[97]⟩] w fun e w' => e = .returned (.int .i64 4) ∧ Below w.heap.size w w' :=
  ev_calls mixed x0_ok (n := 60) (l := [.nl 20, .str 1 97]) (v := .int 129 4) (by kernel_rfl) (by kernel_rfl) (.cons _ _ _ _ .nilP (.cons _ _ _ _ (.str 1 97 (by decide)) .nil)) (by kernel_rfl) w
theorem write13 (w : World) : Calls Tryz.prog 13 #[.pointer none, .string ⟨#[97]⟩] w fun e w' => e = .returned (.int .i64 4) ∧ Below w.heap.size w w' :=
  ev_calls mixed x0_ok (n := 60) (l := [.nl 20, .str 1 97]) (v := .int 129 4) (by kernel_rfl) (by kernel_rfl) (.cons _ _ _ _ .nilP (.cons _ _ _ _ (.str 1 97 (by decide)) .nil)) (by kernel_rfl) w
theorem delete16 (w : World) : Calls Tryz.prog 16 #[.pointer none, .string ⟨#[97]⟩] w fun e w' => e = .returned (.int .i64 4) ∧ Below w.heap.size w w' :=
  ev_calls mixed x0_ok (n := 60) (l := [.nl 20, .str 1 97]) (v := .int 129 4) (by kernel_rfl) (by kernel_rfl) (.cons _ _ _ _ .nilP (.cons _ _ _ _ (.str 1 97 (by decide)) .nil)) (by kernel_rfl) w
theorem commit14 (w : World) : Calls Tryz.prog 14 #[.pointer none] w fun e w' => e = .returned (.int .i64 4) ∧ Below w.heap.size w w' :=
  ev_calls mixed x0_ok (n := 60) (l := [.nl 20]) (v := .int 129 4) (by kernel_rfl) (by kernel_rfl) (.cons _ _ _ _ .nilP .nil) (by kernel_rfl) w
theorem abort15 (w : World) : Calls Tryz.prog 15 #[.pointer none] w fun e w' => e = .returned (.int .i64 4) ∧ Below w.heap.size w w' :=
  ev_calls mixed x0_ok (n := 60) (l := [.nl 20]) (v := .int 129 4) (by kernel_rfl) (by kernel_rfl) (.cons _ _ _ _ .nilP .nil) (by kernel_rfl) w
theorem turn17 (w : World) : Calls Tryz.prog 17 #[.pointer none, .slice none 0 0, .slice none 0 0, .slice none 0 0] w fun e w' => e = .returned (.int .i64 4) ∧ Below w.heap.size w w' :=
  ev_calls mixed x0_ok (n := 60) (l := [.nl 20, .nl 21, .nl 21, .nl 21]) (v := .int 129 4) (by kernel_rfl) (by kernel_rfl) (.cons _ _ _ _ .nilP (.cons _ _ _ _ .nilS (.cons _ _ _ _ .nilS (.cons _ _ _ _ .nilS .nil)))) (by kernel_rfl) w
theorem opened18 (w : World) : Calls Tryz.prog 18 #[.pointer none] w fun e w' => e = .returned (.bool false) ∧ Below w.heap.size w w' :=
  ev_calls mixed x0_ok (n := 60) (l := [.nl 20]) (v := .bool false) (by kernel_rfl) (by kernel_rfl) (.cons _ _ _ _ .nilP .nil) (by kernel_rfl) w
theorem mans19 (w : World) : Calls Tryz.prog 19 #[.pointer none] w fun e w' => e = .returned (.slice none 0 0) ∧ Below w.heap.size w w' :=
  ev_calls mixed x0_ok (n := 60) (l := [.nl 20]) (v := .nl 21) (by kernel_rfl) (by kernel_rfl) (.cons _ _ _ _ .nilP .nil) (by kernel_rfl) w
theorem heads20 (w : World) : Calls Tryz.prog 20 #[.pointer none] w fun e w' => e = .returned (.slice none 0 0) ∧ Below w.heap.size w w' :=
  ev_calls mixed x0_ok (n := 60) (l := [.nl 20]) (v := .nl 21) (by kernel_rfl) (by kernel_rfl) (.cons _ _ _ _ .nilP .nil) (by kernel_rfl) w
theorem cat22 (w : World) : Calls Tryz.prog 22 #[.pointer none] w fun e w' => e = .returned (.agg #[.int .u32 0, .int .u32 0, .slice none 0 0, .slice none 0 0, .slice none 0 0]) ∧ Below w.heap.size w w' :=
  ev_calls mixed x0_ok (n := 60) (l := [.nl 20]) (v := .agg [.int 64 0, .int 64 0, .nl 21, .nl 21, .nl 21]) (by kernel_rfl) (by kernel_rfl) (.cons _ _ _ _ .nilP .nil) (by kernel_rfl) w
theorem same21 (w : World) : Calls Tryz.prog 21 #[.agg #[.int .u32 0, .int .u32 0, .slice none 0 0, .slice none 0 0, .slice none 0 0], .agg #[.int .u32 0, .int .u32 0, .slice none 0 0, .slice none 0 0, .slice none 0 0]] w fun e w' => e = .returned (.bool true) ∧ Below w.heap.size w w' :=
  ev_calls mixed x0_ok (n := 60) (l := [.agg [.int 64 0, .int 64 0, .nl 21, .nl 21, .nl 21], .agg [.int 64 0, .int 64 0, .nl 21, .nl 21, .nl 21]]) (v := .bool true) (by kernel_rfl) (by kernel_rfl) (.cons _ _ _ _ (.agg _ _ (.cons _ _ _ _ (.int .u32 0 (by decide)) (.cons _ _ _ _ (.int .u32 0 (by decide)) (.cons _ _ _ _ .nilS (.cons _ _ _ _ .nilS (.cons _ _ _ _ .nilS .nil))))) (by simp [one])) (.cons _ _ _ _ (.agg _ _ (.cons _ _ _ _ (.int .u32 0 (by decide)) (.cons _ _ _ _ (.int .u32 0 (by decide)) (.cons _ _ _ _ .nilS (.cons _ _ _ _ .nilS (.cons _ _ _ _ .nilS .nil))))) (by simp [one])) .nil)) (by kernel_rfl) w
theorem conf23 (w : World) : Calls Tryz.prog 23 #[.pointer none] w fun e w' => e = .returned (.agg #[z64, z64, z64, z64, z64, z64, z64, z64, z64, z64, z64, z64, z64]) ∧ Below w.heap.size w w' :=
  ev_calls mixed x0_ok (n := 60) (l := [.nl 20]) (v := .agg [.int 129 0, .int 129 0, .int 129 0, .int 129 0, .int 129 0, .int 129 0, .int 129 0, .int 129 0, .int 129 0, .int 129 0, .int 129 0, .int 129 0, .int 129 0]) (by kernel_rfl) (by kernel_rfl) (.cons _ _ _ _ .nilP .nil) (by kernel_rfl) w
theorem mount26 (w : World) : Calls Tryz.prog 26 #[.pointer none] w fun e w' => e = .returned (.tuple #[.pointer none, .int .i64 4]) ∧ Below w.heap.size w w' :=
  ev_calls mixed x0_ok (n := 60) (l := [.nl 20]) (v := .tup [.nl 20, .int 129 4]) (by kernel_rfl) (by kernel_rfl) (.cons _ _ _ _ .nilP .nil) (by kernel_rfl) w
theorem format31 (w : World) : Calls Tryz.prog 31 #[.pointer none, .int .i64 1] w fun e w' => e = .returned (.tuple #[.pointer none, .int .i64 4]) ∧ Below w.heap.size w w' :=
  ev_calls mixed x0_ok (n := 60) (l := [.nl 20, .int 129 1]) (v := .tup [.nl 20, .int 129 4]) (by kernel_rfl) (by kernel_rfl) (.cons _ _ _ _ .nilP (.cons _ _ _ _ (.int .i64 1 (by decide)) .nil)) (by kernel_rfl) w
end Go.Proofs.YtoffclpjhikjkaaGreat
