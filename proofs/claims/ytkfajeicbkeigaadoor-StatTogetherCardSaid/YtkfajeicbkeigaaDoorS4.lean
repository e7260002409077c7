/- Shares that are the same. -/
import Derived.Test.YtkfajeicbkeigaaDoorS3
import Derived.Laws.StructEq
namespace Go.Proofs.YtkfajeicbkeigaaDoor
open Go.RowKit
theorem stood23 : Tryd.prog.stoodInHeld 23 = false := by kernel_rfl
theorem guard23 : Tryd.prog.eqGuardType Tryd.prog.depth 23 = false := by kernel_rfl
theorem in23 (o p a b : Int) (W : World) : (Op.equalIn 10000 23 (.agg #[.int .i64 o, .int .i64 a]) (.agg #[.int .i64 p, .int .i64 b])).run Tryd.prog W = .ok (decide (o = p ∧ a = b)) W := by
  rw [run_equalIn_struct W 9999 23 _ _ (by kernel_rfl) stood23]
  have hf : (Tryd.prog.fieldsOf 23).toList = [{ name := "Num", type := 3, offset := 0, embedded := false, tag := "", pkgPath := "", byteOffset := 0 }, { name := "Den", type := 3, offset := 1, embedded := false, tag := "", pkgPath := "", byteOffset := 8 }] := by kernel_rfl
  rw [hf]
  have p0 : ∀ (o a : Int) (W : World), (part 3 #[.int .i64 o, .int .i64 a] 0).run Tryd.prog W = .ok (.int .i64 o) W := fun _ _ _ => by kernel_rfl
  have p1 : ∀ (o a : Int) (W : World), (part 3 #[.int .i64 o, .int .i64 a] 1).run Tryd.prog W = .ok (.int .i64 a) W := fun _ _ _ => by kernel_rfl
  have q0 : ∀ (x y : Int) (W : World), (Op.equalIn 9999 3 (.int .i64 x) (.int .i64 y)).run Tryd.prog W = .ok (x == y) W := fun x y W => run_equalIn_int W 9998 3 .i64 .i64 x y Tryd.underlying3
  simp only [Op.eqFields, Sem.run_bind, p0, p1, q0, Result.andThen_ok, Sem.run_ite, Sem.run_pure]
  by_cases h0 : o = p <;> by_cases h1 : a = b <;> simp [h0, h1]
theorem eq23 (o p a b : Int) (W : World) : (binOp .eql 23 (.agg #[.int .i64 o, .int .i64 a]) (.agg #[.int .i64 p, .int .i64 b])).run Tryd.prog W = .ok (.bool (decide (o = p ∧ a = b))) W := by
  rw [run_eql_struct, in23]; rfl
theorem neq23 (o p a b : Int) (W : World) : (binOp .neq 23 (.agg #[.int .i64 o, .int .i64 a]) (.agg #[.int .i64 p, .int .i64 b])).run Tryd.prog W = .ok (.bool (!decide (o = p ∧ a = b))) W := by
  rw [run_neq_struct, in23]; rfl
/-- the plain law: a share that may be is what Of gives back -/
theorem may_same {a b : Nat} (hb : 1 ≤ b) : ((a / Nat.gcd a b : Nat) : Int) = a ∧ ((b / Nat.gcd a b : Nat) : Int) = b ↔ Nat.gcd a b = 1 := by
  constructor
  · rintro ⟨_, h2⟩
    have h2' : b / Nat.gcd a b = b := by omega
    have hg := gcd_pos a b (by omega)
    rcases Nat.lt_or_ge 1 (Nat.gcd a b) with h | h
    · have := Nat.div_lt_self (show 0 < b by omega) h
      omega
    · omega
  · intro h
    rw [h]
    simp
end Go.Proofs.YtkfajeicbkeigaaDoor
