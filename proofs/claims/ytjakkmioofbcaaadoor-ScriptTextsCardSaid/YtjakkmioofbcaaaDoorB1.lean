/- Steps in memory; the equality of calls, of settings; the walk over just. -/
import Derived.Test.YtjakkmioofbcaaaDoorA4
import Derived.Laws.StructEq
namespace Go.Proofs.YtjakkmioofbcaaaDoor
open Go.RowKit
/-- a step -/
structure St where
  k : Int
  op : Int
  nm : List UInt8
  dt : List UInt8
  n : Int
  kp : List Bool
  c : Fin 13 → Int
abbrev cfA (c : Fin 13 → Int) : Array Value := #[.int .i64 (c 0), .int .i64 (c 1), .int .i64 (c 2), .int .i64 (c 3), .int .i64 (c 4), .int .i64 (c 5), .int .i64 (c 6), .int .i64 (c 7), .int .i64 (c 8), .int .i64 (c 9), .int .i64 (c 10), .int .i64 (c 11), .int .i64 (c 12)]
abbrev stA (k op : Int) (nm dt : List UInt8) (n : Int) (K : Value) (c : Fin 13 → Int) : Array Value := #[.int .i64 k, .int .i64 op, .string (str nm), .string (str dt), .int .i64 n, K, .int .i64 (c 0), .int .i64 (c 1), .int .i64 (c 2), .int .i64 (c 3), .int .i64 (c 4), .int .i64 (c 5), .int .i64 (c 6), .int .i64 (c 7), .int .i64 (c 8), .int .i64 (c 9), .int .i64 (c 10), .int .i64 (c 11), .int .i64 (c 12)]
abbrev St.A (s : St) (K : Value) : Array Value := stA s.k s.op s.nm s.dt s.n K s.c
def c0 : Fin 13 → Int := fun _ => 0
theorem cf_ext (c d : Fin 13 → Int) : c = d ↔ c 0 = d 0 ∧ c 1 = d 1 ∧ c 2 = d 2 ∧ c 3 = d 3 ∧ c 4 = d 4 ∧ c 5 = d 5 ∧ c 6 = d 6 ∧ c 7 = d 7 ∧ c 8 = d 8 ∧ c 9 = d 9 ∧ c 10 = d 10 ∧ c 11 = d 11 ∧ c 12 = d 12 := by
  constructor
  · rintro rfl; simp
  · rintro ⟨h0, h1, h2, h3, h4, h5, h6, h7, h8, h9, h10, h11, h12⟩
    funext i
    match i with
    | 0 => exact h0
    | 1 => exact h1
    | 2 => exact h2
    | 3 => exact h3
    | 4 => exact h4
    | 5 => exact h5
    | 6 => exact h6
    | 7 => exact h7
    | 8 => exact h8
    | 9 => exact h9
    | 10 => exact h10
    | 11 => exact h11
    | 12 => exact h12
instance cfDec (c d : Fin 13 → Int) : Decidable (c = d) := decidable_of_iff _ (cf_ext c d).symm
theorem stood25 : Tryd.prog.stoodInHeld 41 = false := by kernel_rfl
theorem guard25 : Tryd.prog.eqGuardType Tryd.prog.depth 41 = false := by kernel_rfl
theorem stood28 : Tryd.prog.stoodInHeld 23 = false := by kernel_rfl
theorem guard28 : Tryd.prog.eqGuardType Tryd.prog.depth 23 = false := by kernel_rfl
theorem str_beq (a b : List UInt8) : ((str a).toList == (str b).toList) = decide (a = b) := by
  rw [str_toList, str_toList, Bool.eq_iff_iff]; simp
theorem in25 (o p : Int) (a b c d : List UInt8) (W : World) : (Op.equalIn 10000 41 (.agg #[.int .i64 o, .string (str a), .string (str b)]) (.agg #[.int .i64 p, .string (str c), .string (str d)])).run Tryd.prog W = .ok (decide (o = p ∧ a = c ∧ b = d)) W := by
  rw [run_equalIn_struct W 9999 41 _ _ (by kernel_rfl) stood25]
  have hf : (Tryd.prog.fieldsOf 41).toList = [{ name := "Op", type := 39, offset := 0, embedded := false, tag := "", pkgPath := "", byteOffset := 0 }, { name := "Name", type := 9, offset := 1, embedded := false, tag := "", pkgPath := "", byteOffset := 8 }, { name := "Data", type := 9, offset := 2, embedded := false, tag := "", pkgPath := "", byteOffset := 24 }] := by kernel_rfl
  rw [hf]
  have p0 : ∀ (o : Int) (x y : ByteArray) (W : World), (part 39 #[.int .i64 o, .string x, .string y] 0).run Tryd.prog W = .ok (.int .i64 o) W := fun _ _ _ _ => by kernel_rfl
  have p1 : ∀ (o : Int) (x y : ByteArray) (W : World), (part 9 #[.int .i64 o, .string x, .string y] 1).run Tryd.prog W = .ok (.string x) W := fun _ _ _ _ => by kernel_rfl
  have p2 : ∀ (o : Int) (x y : ByteArray) (W : World), (part 9 #[.int .i64 o, .string x, .string y] 2).run Tryd.prog W = .ok (.string y) W := fun _ _ _ _ => by kernel_rfl
  have q0 : ∀ (x y : Int) (W : World), (Op.equalIn 9999 39 (.int .i64 x) (.int .i64 y)).run Tryd.prog W = .ok (x == y) W := fun x y W => run_equalIn_int W 9998 39 .i64 .i64 x y Tryd.underlying39
  have q : ∀ (x y : ByteArray) (W : World), (Op.equalIn 9999 9 (.string x) (.string y)).run Tryd.prog W = .ok (x.toList == y.toList) W := fun x y W => run_equalIn_string W 9998 9 x y Tryd.underlying9
  simp only [Op.eqFields, Sem.run_bind, p0, p1, p2, q0, q, Result.andThen_ok, Sem.run_ite, Sem.run_pure, str_beq]
  by_cases h0 : o = p <;> by_cases h1 : a = c <;> by_cases h2 : b = d <;> simp [h0, h1, h2]
theorem eq25 (o p : Int) (a b c d : List UInt8) (W : World) : (binOp .eql 41 (.agg #[.int .i64 o, .string (str a), .string (str b)]) (.agg #[.int .i64 p, .string (str c), .string (str d)])).run Tryd.prog W = .ok (.bool (decide (o = p ∧ a = c ∧ b = d))) W := by
  rw [run_eql_struct, in25]; rfl
theorem neq25 (o p : Int) (a b c d : List UInt8) (W : World) : (binOp .neq 41 (.agg #[.int .i64 o, .string (str a), .string (str b)]) (.agg #[.int .i64 p, .string (str c), .string (str d)])).run Tryd.prog W = .ok (.bool (!decide (o = p ∧ a = c ∧ b = d))) W := by
  rw [run_neq_struct, in25]; rfl
end Go.Proofs.YtjakkmioofbcaaaDoor
