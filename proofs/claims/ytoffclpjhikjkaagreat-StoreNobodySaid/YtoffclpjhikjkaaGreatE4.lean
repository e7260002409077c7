/- What the tables say is so: run, the others. -/
import Derived.Test.YtoffclpjhikjkaaGreatE2
set_option linter.unusedSimpArgs false
set_option linter.unusedVariables false
namespace Go.Proofs.YtoffclpjhikjkaaGreat
open Ev
set_option maxRecDepth 1000000
theorem r25x0 : RowOk Tryz.prog X0 25 p25x0 := rowOk_of (n := 100) (by kernel_rfl) (by kernel_rfl)
theorem r25 : ∀ p ∈ tb25, RowOk Tryz.prog X0 25 p := rows_cons r25x0 <| rows_nil
theorem r125x0 : RowOk Tryz.prog X0 125 p125x0 := rowOk_of (n := 100) (by kernel_rfl) (by kernel_rfl)
theorem r125x1 : RowOk Tryz.prog X0 125 p125x1 := rowOk_of (n := 100) (by kernel_rfl) (by kernel_rfl)
theorem r125x2 : RowOk Tryz.prog X0 125 p125x2 := rowOk_of (n := 100) (by kernel_rfl) (by kernel_rfl)
theorem r125x3 : RowOk Tryz.prog X0 125 p125x3 := rowOk_of (n := 100) (by kernel_rfl) (by kernel_rfl)
theorem r125x4 : RowOk Tryz.prog X0 125 p125x4 := rowOk_of (n := 100) (by kernel_rfl) (by kernel_rfl)
theorem r125x5 : RowOk Tryz.prog X0 125 p125x5 := rowOk_of (n := 100) (by kernel_rfl) (by kernel_rfl)
theorem r125x6 : RowOk Tryz.prog X0 125 p125x6 := rowOk_of (n := 100) (by kernel_rfl) (by kernel_rfl)
theorem r125x7 : RowOk Tryz.prog X0 125 p125x7 := rowOk_of (n := 100) (by kernel_rfl) (by kernel_rfl)
theorem r125x8 : RowOk Tryz.prog X0 125 p125x8 := rowOk_of (n := 100) (by kernel_rfl) (by kernel_rfl)
theorem r125x9 : RowOk Tryz.prog X0 125 p125x9 := rowOk_of (n := 100) (by kernel_rfl) (by kernel_rfl)
theorem r125x10 : RowOk Tryz.prog X0 125 p125x10 := rowOk_of (n := 100) (by kernel_rfl) (by kernel_rfl)
theorem r125x11 : RowOk Tryz.prog X0 125 p125x11 := rowOk_of (n := 100) (by kernel_rfl) (by kernel_rfl)
theorem r125x12 : RowOk Tryz.prog X0 125 p125x12 := rowOk_of (n := 100) (by kernel_rfl) (by kernel_rfl)
theorem r125x13 : RowOk Tryz.prog X0 125 p125x13 := rowOk_of (n := 100) (by kernel_rfl) (by kernel_rfl)
theorem r125x14 : RowOk Tryz.prog X0 125 p125x14 := rowOk_of (n := 100) (by kernel_rfl) (by kernel_rfl)
theorem r125x15 : RowOk Tryz.prog X0 125 p125x15 := rowOk_of (n := 100) (by kernel_rfl) (by kernel_rfl)
theorem r125x16 : RowOk Tryz.prog X0 125 p125x16 := rowOk_of (n := 100) (by kernel_rfl) (by kernel_rfl)
theorem r125x17 : RowOk Tryz.prog X0 125 p125x17 := rowOk_of (n := 100) (by kernel_rfl) (by kernel_rfl)
theorem r125x18 : RowOk Tryz.prog X0 125 p125x18 := rowOk_of (n := 100) (by kernel_rfl) (by kernel_rfl)
theorem r125 : ∀ p ∈ tb125, RowOk Tryz.prog X0 125 p := rows_cons r125x0 <| rows_cons r125x1 <| rows_cons r125x2 <| rows_cons r125x3 <| rows_cons r125x4 <| rows_cons r125x5 <| rows_cons r125x6 <| rows_cons r125x7 <| rows_cons r125x8 <| rows_cons r125x9 <| rows_cons r125x10 <| rows_cons r125x11 <| rows_cons r125x12 <| rows_cons r125x13 <| rows_cons r125x14 <| rows_cons r125x15 <| rows_cons r125x16 <| rows_cons r125x17 <| rows_cons r125x18 <| rows_nil
theorem r127x0 : RowOk Tryz.prog X0 127 p127x0 := rowOk_of (n := 100) (by kernel_rfl) (by kernel_rfl)
theorem r127x1 : RowOk Tryz.prog X0 127 p127x1 := rowOk_of (n := 100) (by kernel_rfl) (by kernel_rfl)
theorem r127x2 : RowOk Tryz.prog X0 127 p127x2 := rowOk_of (n := 100) (by kernel_rfl) (by kernel_rfl)
theorem r127x3 : RowOk Tryz.prog X0 127 p127x3 := rowOk_of (n := 100) (by kernel_rfl) (by kernel_rfl)
theorem r127x4 : RowOk Tryz.prog X0 127 p127x4 := rowOk_of (n := 100) (by kernel_rfl) (by kernel_rfl)
theorem r127x5 : RowOk Tryz.prog X0 127 p127x5 := rowOk_of (n := 100) (by kernel_rfl) (by kernel_rfl)
theorem r127 : ∀ p ∈ tb127, RowOk Tryz.prog X0 127 p := rows_cons r127x0 <| rows_cons r127x1 <| rows_cons r127x2 <| rows_cons r127x3 <| rows_cons r127x4 <| rows_cons r127x5 <| rows_nil
theorem r128x0 : RowOk Tryz.prog X0 128 p128x0 := rowOk_of (n := 100) (by kernel_rfl) (by kernel_rfl)
theorem r128x1 : RowOk Tryz.prog X0 128 p128x1 := rowOk_of (n := 100) (by kernel_rfl) (by kernel_rfl)
theorem r128x2 : RowOk Tryz.prog X0 128 p128x2 := rowOk_of (n := 100) (by kernel_rfl) (by kernel_rfl)
theorem r128x3 : RowOk Tryz.prog X0 128 p128x3 := rowOk_of (n := 100) (by kernel_rfl) (by kernel_rfl)
theorem r128x4 : RowOk Tryz.prog X0 128 p128x4 := rowOk_of (n := 100) (by kernel_rfl) (by kernel_rfl)
theorem r128 : ∀ p ∈ tb128, RowOk Tryz.prog X0 128 p := rows_cons r128x0 <| rows_cons r128x1 <| rows_cons r128x2 <| rows_cons r128x3 <| rows_cons r128x4 <| rows_nil
theorem r216x0 : RowOk Tryz.prog X0 216 p216x0 := rowOk_of (n := 100) (by kernel_rfl) (by kernel_rfl)
theorem r216 : ∀ p ∈ tb216, RowOk Tryz.prog X0 216 p := rows_cons r216x0 <| rows_nil
theorem r416x0 : RowOk Tryz.prog X0 416 p416x0 := rowOk_of (n := 100) (by kernel_rfl) (by kernel_rfl)
theorem r416 : ∀ p ∈ tb416, RowOk Tryz.prog X0 416 p := rows_cons r416x0 <| rows_nil
theorem r326x0 : RowOk Tryz.prog X0 326 p326x0 := rowOk_of (n := 100) (by kernel_rfl) (by kernel_rfl)
theorem r326x1 : RowOk Tryz.prog X0 326 p326x1 := rowOk_of (n := 100) (by kernel_rfl) (by kernel_rfl)
theorem r326x2 : RowOk Tryz.prog X0 326 p326x2 := rowOk_of (n := 100) (by kernel_rfl) (by kernel_rfl)
theorem r326x3 : RowOk Tryz.prog X0 326 p326x3 := rowOk_of (n := 100) (by kernel_rfl) (by kernel_rfl)
theorem r326 : ∀ p ∈ tb326, RowOk Tryz.prog X0 326 p := rows_cons r326x0 <| rows_cons r326x1 <| rows_cons r326x2 <| rows_cons r326x3 <| rows_nil
theorem r287x0 : RowOk Tryz.prog X0 287 p287x0 := rowOk_of (n := 100) (by kernel_rfl) (by kernel_rfl)
theorem r287x1 : RowOk Tryz.prog X0 287 p287x1 := rowOk_of (n := 100) (by kernel_rfl) (by kernel_rfl)
theorem r287x2 : RowOk Tryz.prog X0 287 p287x2 := rowOk_of (n := 100) (by kernel_rfl) (by kernel_rfl)
theorem r287x3 : RowOk Tryz.prog X0 287 p287x3 := rowOk_of (n := 100) (by kernel_rfl) (by kernel_rfl)
theorem r287x4 : RowOk Tryz.prog X0 287 p287x4 := rowOk_of (n := 100) (by kernel_rfl) (by kernel_rfl)
theorem r287x5 : RowOk Tryz.prog X0 287 p287x5 := rowOk_of (n := 100) (by kernel_rfl) (by kernel_rfl)
theorem r287x6 : RowOk Tryz.prog X0 287 p287x6 := rowOk_of (n := 100) (by kernel_rfl) (by kernel_rfl)
theorem r287x7 : RowOk Tryz.prog X0 287 p287x7 := rowOk_of (n := 100) (by kernel_rfl) (by kernel_rfl)
theorem r287x8 : RowOk Tryz.prog X0 287 p287x8 := rowOk_of (n := 100) (by kernel_rfl) (by kernel_rfl)
theorem r287x9 : RowOk Tryz.prog X0 287 p287x9 := rowOk_of (n := 100) (by kernel_rfl) (by kernel_rfl)
theorem r287x10 : RowOk Tryz.prog X0 287 p287x10 := rowOk_of (n := 100) (by kernel_rfl) (by kernel_rfl)
theorem r287x11 : RowOk Tryz.prog X0 287 p287x11 := rowOk_of (n := 100) (by kernel_rfl) (by kernel_rfl)
theorem r287x12 : RowOk Tryz.prog X0 287 p287x12 := rowOk_of (n := 100) (by kernel_rfl) (by kernel_rfl)
theorem r287x13 : RowOk Tryz.prog X0 287 p287x13 := rowOk_of (n := 100) (by kernel_rfl) (by kernel_rfl)
theorem r287 : ∀ p ∈ tb287, RowOk Tryz.prog X0 287 p := rows_cons r287x0 <| rows_cons r287x1 <| rows_cons r287x2 <| rows_cons r287x3 <| rows_cons r287x4 <| rows_cons r287x5 <| rows_cons r287x6 <| rows_cons r287x7 <| rows_cons r287x8 <| rows_cons r287x9 <| rows_cons r287x10 <| rows_cons r287x11 <| rows_cons r287x12 <| rows_cons r287x13 <| rows_nil
theorem r43x0 : RowOk Tryz.prog X0 43 p43x0 := rowOk_of (n := 100) (by kernel_rfl) (by kernel_rfl)
theorem r43 : ∀ p ∈ tb43, RowOk Tryz.prog X0 43 p := rows_cons r43x0 <| rows_nil
theorem x1_ok : ExtOk Tryz.prog X1 := fun g x l aw v aw' ρ xs w hx he hv hW => by
  unfold X1 at hx
  cases h363 : Nat.beq g 363 with
  | true =>
    rw [h363] at hx
    injection hx with hx
    subst hx
    have : g = 363 := Nat.eq_of_beq_eq_true h363
    subst this
    exact noEscape_ok ext363 he hv hW
  | false =>
  rw [h363] at hx
  cases h389 : Nat.beq g 389 with
  | true =>
    rw [h389] at hx
    injection hx with hx
    subst hx
    have : g = 389 := Nat.eq_of_beq_eq_true h389
    subst this
    exact makeNoZero_ok ext389 Tryz.underlying167 (by kernel_rfl) he hv hW
  | false =>
  rw [h389] at hx
  cases h170 : Nat.beq g 170 with
  | true =>
    rw [h170] at hx
    injection hx with hx
    subst hx
    have : g = 170 := Nat.eq_of_beq_eq_true h170
    subst this
    exact table_ok mixed x0_ok (by kernel_rfl) r170 he hv hW
  | false =>
  rw [h170] at hx
  cases h155 : Nat.beq g 155 with
  | true =>
    rw [h155] at hx
    injection hx with hx
    subst hx
    have : g = 155 := Nat.eq_of_beq_eq_true h155
    subst this
    exact table_ok mixed x0_ok (by kernel_rfl) r155 he hv hW
  | false =>
  rw [h155] at hx
  cases h437 : Nat.beq g 437 with
  | true =>
    rw [h437] at hx
    injection hx with hx
    subst hx
    have : g = 437 := Nat.eq_of_beq_eq_true h437
    subst this
    exact table_ok mixed x0_ok (by kernel_rfl) r437 he hv hW
  | false =>
  rw [h437] at hx
  cases h25 : Nat.beq g 25 with
  | true =>
    rw [h25] at hx
    injection hx with hx
    subst hx
    have : g = 25 := Nat.eq_of_beq_eq_true h25
    subst this
    exact table_ok mixed x0_ok (by kernel_rfl) r25 he hv hW
  | false =>
  rw [h25] at hx
  cases h125 : Nat.beq g 125 with
  | true =>
    rw [h125] at hx
    injection hx with hx
    subst hx
    have : g = 125 := Nat.eq_of_beq_eq_true h125
    subst this
    exact table_ok mixed x0_ok (by kernel_rfl) r125 he hv hW
  | false =>
  rw [h125] at hx
  cases h127 : Nat.beq g 127 with
  | true =>
    rw [h127] at hx
    injection hx with hx
    subst hx
    have : g = 127 := Nat.eq_of_beq_eq_true h127
    subst this
    exact table_ok mixed x0_ok (by kernel_rfl) r127 he hv hW
  | false =>
  rw [h127] at hx
  cases h128 : Nat.beq g 128 with
  | true =>
    rw [h128] at hx
    injection hx with hx
    subst hx
    have : g = 128 := Nat.eq_of_beq_eq_true h128
    subst this
    exact table_ok mixed x0_ok (by kernel_rfl) r128 he hv hW
  | false =>
  rw [h128] at hx
  cases h216 : Nat.beq g 216 with
  | true =>
    rw [h216] at hx
    injection hx with hx
    subst hx
    have : g = 216 := Nat.eq_of_beq_eq_true h216
    subst this
    exact table_ok mixed x0_ok (by kernel_rfl) r216 he hv hW
  | false =>
  rw [h216] at hx
  cases h416 : Nat.beq g 416 with
  | true =>
    rw [h416] at hx
    injection hx with hx
    subst hx
    have : g = 416 := Nat.eq_of_beq_eq_true h416
    subst this
    exact table_ok mixed x0_ok (by kernel_rfl) r416 he hv hW
  | false =>
  rw [h416] at hx
  cases h326 : Nat.beq g 326 with
  | true =>
    rw [h326] at hx
    injection hx with hx
    subst hx
    have : g = 326 := Nat.eq_of_beq_eq_true h326
    subst this
    exact table_ok mixed x0_ok (by kernel_rfl) r326 he hv hW
  | false =>
  rw [h326] at hx
  cases h287 : Nat.beq g 287 with
  | true =>
    rw [h287] at hx
    injection hx with hx
    subst hx
    have : g = 287 := Nat.eq_of_beq_eq_true h287
    subst this
    exact table_ok mixed x0_ok (by kernel_rfl) r287 he hv hW
  | false =>
  rw [h287] at hx
  cases h43 : Nat.beq g 43 with
  | true =>
    rw [h43] at hx
    injection hx with hx
    subst hx
    have : g = 43 := Nat.eq_of_beq_eq_true h43
    subst this
    exact table_ok mixed x0_ok (by kernel_rfl) r43 he hv hW
  | false =>
  rw [h43] at hx
  cases hx
end Go.Proofs.YtoffclpjhikjkaaGreat
