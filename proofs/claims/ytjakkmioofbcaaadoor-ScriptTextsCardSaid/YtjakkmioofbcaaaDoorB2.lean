/- The equality of settings. -/
import Derived.Test.YtjakkmioofbcaaaDoorB1
namespace Go.Proofs.YtjakkmioofbcaaaDoor
open Go.RowKit
set_option maxRecDepth 100000 in
set_option maxHeartbeats 1000000 in
theorem in28 (c d : Fin 13 → Int) (W : World) : (Op.equalIn 10000 23 (.agg (cfA c)) (.agg (cfA d))).run Tryd.prog W = .ok (decide (c = d)) W := by
  rw [run_equalIn_struct W 9999 23 _ _ (by kernel_rfl) stood28]
  have hf : (Tryd.prog.fieldsOf 23).toList = [{ name := "Min", type := 3, offset := 0, embedded := false, tag := "", pkgPath := "", byteOffset := 0 }, { name := "Max", type := 3, offset := 1, embedded := false, tag := "", pkgPath := "", byteOffset := 8 }, { name := "Main", type := 3, offset := 2, embedded := false, tag := "", pkgPath := "", byteOffset := 16 }, { name := "Backup", type := 3, offset := 3, embedded := false, tag := "", pkgPath := "", byteOffset := 24 }, { name := "SegMin", type := 3, offset := 4, embedded := false, tag := "", pkgPath := "", byteOffset := 32 }, { name := "SegMax", type := 3, offset := 5, embedded := false, tag := "", pkgPath := "", byteOffset := 40 }, { name := "SegDiv", type := 3, offset := 6, embedded := false, tag := "", pkgPath := "", byteOffset := 48 }, { name := "Bits", type := 3, offset := 7, embedded := false, tag := "", pkgPath := "", byteOffset := 56 }, { name := "Champs", type := 3, offset := 8, embedded := false, tag := "", pkgPath := "", byteOffset := 64 }, { name := "PerHook", type := 3, offset := 9, embedded := false, tag := "", pkgPath := "", byteOffset := 72 }, { name := "Index", type := 3, offset := 10, embedded := false, tag := "", pkgPath := "", byteOffset := 80 }, { name := "Slots", type := 3, offset := 11, embedded := false, tag := "", pkgPath := "", byteOffset := 88 }, { name := "Bytes", type := 3, offset := 12, embedded := false, tag := "", pkgPath := "", byteOffset := 96 }] := by kernel_rfl
  rw [hf]
  have p0 : ∀ (c : Fin 13 → Int) (W : World), (part 3 (cfA c) 0).run Tryd.prog W = .ok (.int .i64 (c 0)) W := fun _ _ => by kernel_rfl
  have p1 : ∀ (c : Fin 13 → Int) (W : World), (part 3 (cfA c) 1).run Tryd.prog W = .ok (.int .i64 (c 1)) W := fun _ _ => by kernel_rfl
  have p2 : ∀ (c : Fin 13 → Int) (W : World), (part 3 (cfA c) 2).run Tryd.prog W = .ok (.int .i64 (c 2)) W := fun _ _ => by kernel_rfl
  have p3 : ∀ (c : Fin 13 → Int) (W : World), (part 3 (cfA c) 3).run Tryd.prog W = .ok (.int .i64 (c 3)) W := fun _ _ => by kernel_rfl
  have p4 : ∀ (c : Fin 13 → Int) (W : World), (part 3 (cfA c) 4).run Tryd.prog W = .ok (.int .i64 (c 4)) W := fun _ _ => by kernel_rfl
  have p5 : ∀ (c : Fin 13 → Int) (W : World), (part 3 (cfA c) 5).run Tryd.prog W = .ok (.int .i64 (c 5)) W := fun _ _ => by kernel_rfl
  have p6 : ∀ (c : Fin 13 → Int) (W : World), (part 3 (cfA c) 6).run Tryd.prog W = .ok (.int .i64 (c 6)) W := fun _ _ => by kernel_rfl
  have p7 : ∀ (c : Fin 13 → Int) (W : World), (part 3 (cfA c) 7).run Tryd.prog W = .ok (.int .i64 (c 7)) W := fun _ _ => by kernel_rfl
  have p8 : ∀ (c : Fin 13 → Int) (W : World), (part 3 (cfA c) 8).run Tryd.prog W = .ok (.int .i64 (c 8)) W := fun _ _ => by kernel_rfl
  have p9 : ∀ (c : Fin 13 → Int) (W : World), (part 3 (cfA c) 9).run Tryd.prog W = .ok (.int .i64 (c 9)) W := fun _ _ => by kernel_rfl
  have p10 : ∀ (c : Fin 13 → Int) (W : World), (part 3 (cfA c) 10).run Tryd.prog W = .ok (.int .i64 (c 10)) W := fun _ _ => by kernel_rfl
  have p11 : ∀ (c : Fin 13 → Int) (W : World), (part 3 (cfA c) 11).run Tryd.prog W = .ok (.int .i64 (c 11)) W := fun _ _ => by kernel_rfl
  have p12 : ∀ (c : Fin 13 → Int) (W : World), (part 3 (cfA c) 12).run Tryd.prog W = .ok (.int .i64 (c 12)) W := fun _ _ => by kernel_rfl
  have q : ∀ (x y : Int) (W : World), (Op.equalIn 9999 3 (.int .i64 x) (.int .i64 y)).run Tryd.prog W = .ok (x == y) W := fun x y W => run_equalIn_int W 9998 3 .i64 .i64 x y Tryd.underlying3
  have hx := cf_ext c d
  simp only [cfA] at *
  simp only [Op.eqFields, Sem.run_bind, p0, p1, p2, p3, p4, p5, p6, p7, p8, p9, p10, p11, p12, q, Result.andThen_ok, Sem.run_ite, Sem.run_pure]
  clear p0 p1 p2 p3 p4 p5 p6 p7 p8 p9 p10 p11 p12
  generalize c 0 = a0, d 0 = b0 at *
  generalize c 1 = a1, d 1 = b1 at *
  generalize c 2 = a2, d 2 = b2 at *
  generalize c 3 = a3, d 3 = b3 at *
  generalize c 4 = a4, d 4 = b4 at *
  generalize c 5 = a5, d 5 = b5 at *
  generalize c 6 = a6, d 6 = b6 at *
  generalize c 7 = a7, d 7 = b7 at *
  generalize c 8 = a8, d 8 = b8 at *
  generalize c 9 = a9, d 9 = b9 at *
  generalize c 10 = a10, d 10 = b10 at *
  generalize c 11 = a11, d 11 = b11 at *
  generalize c 12 = a12, d 12 = b12 at *
  by_cases h0 : a0 = b0
  case neg =>
    have hn : ¬ c = d := fun e => h0 (hx.1 e).1
    simp [h0, hn]
  by_cases h1 : a1 = b1
  case neg =>
    have hn : ¬ c = d := fun e => h1 (hx.1 e).2.1
    simp [h0, h1, hn]
  by_cases h2 : a2 = b2
  case neg =>
    have hn : ¬ c = d := fun e => h2 (hx.1 e).2.2.1
    simp [h0, h1, h2, hn]
  by_cases h3 : a3 = b3
  case neg =>
    have hn : ¬ c = d := fun e => h3 (hx.1 e).2.2.2.1
    simp [h0, h1, h2, h3, hn]
  by_cases h4 : a4 = b4
  case neg =>
    have hn : ¬ c = d := fun e => h4 (hx.1 e).2.2.2.2.1
    simp [h0, h1, h2, h3, h4, hn]
  by_cases h5 : a5 = b5
  case neg =>
    have hn : ¬ c = d := fun e => h5 (hx.1 e).2.2.2.2.2.1
    simp [h0, h1, h2, h3, h4, h5, hn]
  by_cases h6 : a6 = b6
  case neg =>
    have hn : ¬ c = d := fun e => h6 (hx.1 e).2.2.2.2.2.2.1
    simp [h0, h1, h2, h3, h4, h5, h6, hn]
  by_cases h7 : a7 = b7
  case neg =>
    have hn : ¬ c = d := fun e => h7 (hx.1 e).2.2.2.2.2.2.2.1
    simp [h0, h1, h2, h3, h4, h5, h6, h7, hn]
  by_cases h8 : a8 = b8
  case neg =>
    have hn : ¬ c = d := fun e => h8 (hx.1 e).2.2.2.2.2.2.2.2.1
    simp [h0, h1, h2, h3, h4, h5, h6, h7, h8, hn]
  by_cases h9 : a9 = b9
  case neg =>
    have hn : ¬ c = d := fun e => h9 (hx.1 e).2.2.2.2.2.2.2.2.2.1
    simp [h0, h1, h2, h3, h4, h5, h6, h7, h8, h9, hn]
  by_cases h10 : a10 = b10
  case neg =>
    have hn : ¬ c = d := fun e => h10 (hx.1 e).2.2.2.2.2.2.2.2.2.2.1
    simp [h0, h1, h2, h3, h4, h5, h6, h7, h8, h9, h10, hn]
  by_cases h11 : a11 = b11
  case neg =>
    have hn : ¬ c = d := fun e => h11 (hx.1 e).2.2.2.2.2.2.2.2.2.2.2.1
    simp [h0, h1, h2, h3, h4, h5, h6, h7, h8, h9, h10, h11, hn]
  by_cases h12 : a12 = b12
  case neg =>
    have hn : ¬ c = d := fun e => h12 (hx.1 e).2.2.2.2.2.2.2.2.2.2.2.2
    simp [h0, h1, h2, h3, h4, h5, h6, h7, h8, h9, h10, h11, h12, hn]
  have hy : c = d := hx.2 ⟨h0, h1, h2, h3, h4, h5, h6, h7, h8, h9, h10, h11, h12⟩
  simp [h0, h1, h2, h3, h4, h5, h6, h7, h8, h9, h10, h11, h12, hy]
theorem eq28 (c d : Fin 13 → Int) (W : World) : (binOp .eql 23 (.agg (cfA c)) (.agg (cfA d))).run Tryd.prog W = .ok (.bool (decide (c = d))) W := by
  rw [run_eql_struct, in28]; rfl
theorem neq28 (c d : Fin 13 → Int) (W : World) : (binOp .neq 23 (.agg (cfA c)) (.agg (cfA d))).run Tryd.prog W = .ok (.bool (!decide (c = d))) W := by
  rw [run_neq_struct, in28]; rfl
end Go.Proofs.YtjakkmioofbcaaaDoor
