/- What a statement's premises give to the audit walks. -/
import Derived.Test.YtocfhldmnbmapaaGreatDoorAO
import Derived.Test.YtocfhldmnbmapaaGreatDoorRows
import Derived.Stop.LaidErr
import Derived.OpenShut
import Derived.ShutString
import Derived.Shelf.Vars
import Derived.Lay
import Derived.LaidLaws
import Derived.MakeChecks
import Derived.Lib.LaidTab
import Derived.ChangeMaps5
import Derived.ProofKit
import Derived.WalkKit
import Derived.ChangeAt
import Derived.WideShapes
namespace Go.Proofs.YtocfhldmnbmapaaGreatDoor
open Go.ChangeShapes Go.WideShapes Go.ChangeAt Go.RowKit
theorem tab_of_vars {P : Program} {W : World} {name : String} {k : IntKind} {zs : List Int} {rest : List (String × DataW Unit)} {g : Nat} {t e : TypeId} {n : Nat} {ps : List MemPlace}
    (hg : P.globalNamed name = some g) (hty : (P.globals[g]?).map (·.type) = some t) (ht : P.underlying t = some (.array n e)) (he : P.underlying e = some (.int k)) (hce : P.cellsOf e = 1) (hct : P.cellsOf t = n)
    (h : DataW.LaidVars P W ((name, Lib.tabData k zs) :: rest) ps) : Lib.TabIs P W name k zs := by
  obtain ⟨g', t', cs, fuel, p, q, hg', ht', hvar, hd, _, _⟩ := h
  obtain rfl := Option.some.inj (hg.symm.trans hg')
  obtain rfl := Option.some.inj (hty.symm.trans ht')
  unfold Lib.TabIs
  rw [hvar, ← Lib.cells_of_tab ht he hce hct hd]
abbrev lays : List (String × DataW Unit) := [("math/bits.deBruijn32tab", Rows.laid_math_bits_deBruijn32tab), ("math/bits.deBruijn64tab", Rows.laid_math_bits_deBruijn64tab), ("internal/strconv.uint64pow10", Rows.laid_internal_strconv_uint64pow10), ("unicode/utf8.acceptRanges", Rows.laid_unicode_utf8_acceptRanges), ("strconv.ErrRange", Rows.laid_strconv_ErrRange), ("strconv.ErrSyntax", Rows.laid_strconv_ErrSyntax), ("unicode/utf8.first", Rows.laid_unicode_utf8_first)]
theorem laid_third : (Rows.laid_internal_strconv_uint64pow10 : DataW Unit) = Lib.tabData .u64 Lib.pow10Tab := by rfl
theorem star : "*" ++ "errors.errorString" = "*errors.errorString" := by decide
theorem row404 (u : TypeId) (h : Tryz.prog.typeName? 3 u = some "*errors.errorString") : u = 404 :=
  typeName_ptr_named (nm := "errors.errorString") (by rw [star]; kernel_rfl) (by kernel_rfl) (by decide) u (by rw [star]; exact h)
theorem cells406 : Tryz.prog.cellsOf 406 = 1 := by kernel_rfl
theorem cells9 : Tryz.prog.cellsOf 9 = 1 := by kernel_rfl
theorem cells25 : Tryz.prog.cellsOf 25 = 4 := by kernel_rfl
theorem cells22 : Tryz.prog.cellsOf 22 = 1 := by kernel_rfl
theorem cells23 : Tryz.prog.cellsOf 23 = 1 := by kernel_rfl
theorem cells3 : Tryz.prog.cellsOf 3 = 1 := by kernel_rfl
theorem row_last : (((begin Tryz.prog (fun _ _ => 0) default).world.heap[7]?).bind Obj.row?).isSome = true := by kernel_rfl
theorem gSyn : Tryz.prog.globalNamed "strconv.ErrSyntax" = some 2 := by kernel_rfl
theorem gRng : Tryz.prog.globalNamed "strconv.ErrRange" = some 3 := by kernel_rfl
theorem gSynT : (Tryz.prog.globals[2]?).map (·.type) = some 138 := by kernel_rfl
theorem gRngT : (Tryz.prog.globals[3]?).map (·.type) = some 138 := by kernel_rfl
theorem gw_of {W : World} (h : laidMetH Tryz.prog lays W) (hs : W.ShapedOpen Tryz.prog) : Gw W := by
  rw [MakeChecks.laidMetH_plain _ _ _ (by kernel_rfl)] at h
  have h3 := h.tail.tail
  have h5 := h3.tail.tail
  obtain ⟨a1, s1, hv1, -⟩ := laid_sentinel h5 gRng gRngT Tryz.underlying138 row404 Tryz.underlying404 Tryz.underlying406 rfl rfl Tryz.underlying9 cells406 cells9
  obtain ⟨a2, s2, hv2, -⟩ := laid_sentinel h5.tail gSyn gSynT Tryz.underlying138 row404 Tryz.underlying404 Tryz.underlying406 rfl rfl Tryz.underlying9 cells406 cells9
  obtain ⟨ps, h3, _⟩ := h3
  rw [laid_third] at h3
  obtain ⟨⟨z, t⟩, hz⟩ := Option.isSome_iff_exists.1 row_last
  obtain ⟨cs, hc, _⟩ := hs.1 7 z t (of_decide_eq_true (by kernel_rfl)) hz
  refine ⟨lt_of_block hc, ?_, ⟨404, .pointer (some a2), by simpa using World.var?_cell gSyn hv2 0⟩, ⟨404, .pointer (some a1), by simpa using World.var?_cell gRng hv1 0⟩, ?_⟩
  · exact Go.Proofs.cell_of_shapedOpen_int (P := Tryz.prog) (w := W) (g := 1) (t := 3) (zero := #[.int .i64 0]) (k := .i64) hs (of_decide_eq_true (by kernel_rfl)) (by kernel_rfl) rfl (by kernel_rfl) (by kernel_rfl) Tryz.underlying3
  · exact tab_of_vars (g := 0) (t := 287) (n := 20) (by kernel_rfl) (by kernel_rfl) Tryz.underlying287 (by kernel_rfl) (by kernel_rfl) (by kernel_rfl) h3
theorem str_of (s : ByteArray) : s = str s.data.toList := by simp [str]
theorem bounds_u32 {n : Int} (h : (Lit.int .u32 n).wf = true) : 0 ≤ n ∧ n < 4294967296 := by
  simp [Lit.wf, IntKind.min, IntKind.max, IntKind.signed, IntKind.bits] at h
  omega
section
variable {H : Type} {enc : TypeId × Value → H} {W : World} {base : Nat} {held : Bool}
set_option maxRecDepth 100000 in
theorem open_str {v : Value} {d : DataW H} {p : List MemPlace} (hv : Value.okWide Tryz.prog W .any base 9 v) (h : DataW.Trod enc Tryz.prog W 0 (fun _ => true) held 9 v d p) : ∃ l : List UInt8, v = .string (str l) := by
  obtain ⟨s, rfl, _⟩ := ChangeMaps.open_string Tryz.underlying9 hv h
  exact ⟨s.data.toList, by rw [← str_of]⟩
set_option maxRecDepth 100000 in
theorem open_fd {v : Value} {d : DataW H} {p : List MemPlace} (hv : Value.okWide Tryz.prog W .any base 25 v) (h : DataW.Trod enc Tryz.prog W 0 (fun _ => true) held 25 v d p) : ∃ (k : Int) (id : Nat) (nm : List UInt8) (a : Int), v = .agg (fdV ⟨k, id, nm, a⟩) ∧ id < 4294967296 := by
  obtain ⟨cs, rfl, hsz⟩ := okWide_struct Tryz.underlying25 hv
  rw [cells25] at hsz
  obtain ⟨l⟩ := cs
  match l, hsz with
  | [c0, c1, c2, c3], _ =>
    obtain ⟨fuel, hf⟩ := h
    obtain ⟨xs, n, _, _, _, hlen, hg⟩ := DataW.trod_struct Tryz.underlying25 hf
    have hlen' : xs.length = 4 := hlen
    have g0 := hg 0 _ rfl
    have g1 := hg 1 _ rfl
    have g2 := hg 2 _ rfl
    have g3 := hg 3 _ rfl
    rw [List.getElem?_eq_getElem (by omega)] at g0 g1 g2 g3
    obtain ⟨n0, e0, _, w0⟩ := DataW.trod_int Tryz.underlying22 g0
    obtain ⟨n1, e1, _, w1⟩ := DataW.trod_int Tryz.underlying23 g1
    obtain ⟨s2, e2, _, w2⟩ := DataW.trod_string Tryz.underlying9 g2
    obtain ⟨n3, e3, _, w3⟩ := DataW.trod_int Tryz.underlying3 g3
    simp [Value.cells, cells22, cells23, cells9, cells3] at e0 e1 e2 e3
    subst e0
    subst e1
    subst e2
    subst e3
    have hb := bounds_u32 w1
    obtain ⟨m, rfl⟩ := Int.eq_ofNat_of_zero_le hb.1
    refine ⟨n0, m, s2.data.toList, n3, ?_, by omega⟩
    unfold fdV
    simp only
    rw [← str_of]
end
end Go.Proofs.YtocfhldmnbmapaaGreatDoor
