/- Arguments opened: numbers, shares; the table that is laid. -/
import Derived.Test.YtkfajeicbkeigaaDoorUA
import Derived.Test.YtkfajeicbkeigaaDoorCards
import Derived.WalkKit
import Derived.ProofKit
import Derived.OpenShut
import Derived.MakeChecks
import Derived.Lib.LaidTab
namespace Go.Proofs.YtkfajeicbkeigaaDoor
open Go.ChangeShapes Go.WideShapes Go.ChangeAt Go.RowKit
theorem tab_of_vars {P : Program} {W : World} {name : String} {k : IntKind} {zs : List Int} {rest : List (String × DataW Unit)} {g : Nat} {t e : TypeId} {n : Nat} {ps : List MemPlace}
    (hg : P.globalNamed name = some g) (hty : (P.globals[g]?).map (·.type) = some t) (ht : P.underlying t = some (.array n e)) (he : P.underlying e = some (.int k)) (hce : P.cellsOf e = 1) (hct : P.cellsOf t = n)
    (h : DataW.LaidVars P W ((name, Lib.tabData k zs) :: rest) ps) : Lib.TabIs P W name k zs := by
  obtain ⟨g', t', cs, fuel, p, q, hg', ht', hvar, hd, _, _⟩ := h
  obtain rfl := Option.some.inj (hg.symm.trans hg')
  obtain rfl := Option.some.inj (hty.symm.trans ht')
  unfold Lib.TabIs
  rw [hvar, ← Lib.cells_of_tab ht he hce hct hd]
abbrev lays : List (String × DataW Unit) := [("math/bits.deBruijn32tab", Rows.laid_math_bits_deBruijn32tab), ("math/bits.deBruijn64tab", Rows.laid_math_bits_deBruijn64tab), ("internal/strconv.uint64pow10", Rows.laid_internal_strconv_uint64pow10)]
theorem laid_third : (Rows.laid_internal_strconv_uint64pow10 : DataW Unit) = Lib.tabData .u64 Lib.pow10Tab := by rfl
theorem tb_of_laid {W : World} (h : laidMetH Tryd.prog lays W) : Tb W := by
  rw [MakeChecks.laidMetH_plain _ _ _ (by kernel_rfl)] at h
  obtain ⟨ps, h, _⟩ := h
  obtain ⟨_, _, _, _, _, q1, _, _, _, _, h, _⟩ := h
  obtain ⟨_, _, _, _, _, q2, _, _, _, _, h, _⟩ := h
  rw [laid_third] at h
  exact tab_of_vars (g := 2) (t := 114) (n := 20) (by kernel_rfl) (by kernel_rfl) Tryd.underlying114 (by kernel_rfl) (by kernel_rfl) (by kernel_rfl) h
theorem cells23 : Tryd.prog.cellsOf 23 = 2 := by kernel_rfl
theorem cells3 : Tryd.prog.cellsOf 3 = 1 := by kernel_rfl
section
variable {H : Type} {enc : TypeId × Value → H} {W : World} {base : Nat} {held : Bool}
set_option maxRecDepth 100000 in
theorem open_i64 {v : Value} {d : DataW H} {p : List MemPlace} (hv : Value.okWide Tryd.prog W .any base 3 v) (h : DataW.Trod enc Tryd.prog W 0 (fun _ => true) held 3 v d p) : ∃ a : Int, v = .int .i64 a ∧ a ≤ 9223372036854775807 := by
  obtain ⟨a, rfl, _, _, hw⟩ := open_int Tryd.underlying3 hv h
  exact ⟨a, rfl, (bounds_i64 hw).2⟩
set_option maxRecDepth 100000 in
theorem open_u16 {v : Value} {d : DataW H} {p : List MemPlace} (hv : Value.okWide Tryd.prog W .any base 37 v) (h : DataW.Trod enc Tryd.prog W 0 (fun _ => true) held 37 v d p) : ∃ a : Nat, v = .int .u16 a ∧ a ≤ 65535 := by
  obtain ⟨a, rfl, _, _, hw⟩ := open_int Tryd.underlying37 hv h
  have hb := bounds_u16 hw
  obtain ⟨n, rfl⟩ := Int.eq_ofNat_of_zero_le hb.1
  exact ⟨n, rfl, by omega⟩
set_option maxRecDepth 100000 in
theorem open_sh {v : Value} {d : DataW H} {p : List MemPlace} (hv : Value.okWide Tryd.prog W .any base 23 v) (h : DataW.Trod enc Tryd.prog W 0 (fun _ => true) held 23 v d p) : ∃ a b : Int, v = .agg #[.int .i64 a, .int .i64 b] ∧ a ≤ 9223372036854775807 ∧ b ≤ 9223372036854775807 := by
  obtain ⟨cs, rfl, hsz⟩ := okWide_struct Tryd.underlying23 hv
  rw [cells23] at hsz
  obtain ⟨l⟩ := cs
  match l, hsz with
  | [c0, c1], _ =>
    obtain ⟨fuel, hf⟩ := h
    obtain ⟨xs, n, _, _, _, hlen, hg⟩ := DataW.trod_struct Tryd.underlying23 hf
    have hlen' : xs.length = 2 := hlen
    have g0 := hg 0 _ rfl
    have g1 := hg 1 _ rfl
    rw [List.getElem?_eq_getElem (by omega)] at g0 g1
    obtain ⟨n0, e0, _, w0⟩ := DataW.trod_int Tryd.underlying3 g0
    obtain ⟨n1, e1, _, w1⟩ := DataW.trod_int Tryd.underlying3 g1
    simp [Value.cells, cells3] at e0 e1
    subst e0
    subst e1
    exact ⟨n0, n1, rfl, (bounds_i64 w0).2, (bounds_i64 w1).2⟩
end
end Go.Proofs.YtkfajeicbkeigaaDoor
