/- The arguments opened: a reply. -/
import Derived.Test.YtadagidjppgbkaaOp4
import Derived.Test.YtadagidjppgbkaaM12
namespace Go.Proofs.Ytadagidjppgbkaa
open Go.ChangeShapes Go.WideShapes Go.ChangeAt Go.RowKit Go.Deep
theorem cells39 : Try.prog.cellsOf 39 = 3 := by kernel_rfl
theorem cells36 : Try.prog.cellsOf 36 = 1 := by kernel_rfl
theorem cells37 : Try.prog.cellsOf 37 = 1 := by kernel_rfl
section
variable {H : Type} {enc : TypeId × Value → H} {W : World} {base : Nat} {held : Bool}
set_option maxRecDepth 100000 in
theorem open_reply {v : Value} {d : DataW H} {p : List MemPlace} (hv : Value.okWide Try.prog W .any base 39 v) (h : DataW.Trod enc Try.prog W 0 (fun _ => true) held 39 v d p) :
    ∃ (e : Int) (da : ByteArray) (A : Option Addr) (n c : Nat) (xs : List ByteArray), v = .agg #[.int .i64 e, .string da, .slice A n c] ∧ Rd W A n xs ∧ n ≤ 9223372036854775807 := by
  obtain ⟨cs, rfl, hsz⟩ := okWide_struct Try.underlying39 hv
  obtain ⟨fuel, hf⟩ := h
  obtain ⟨xs, n, _, _, hl, hlen, hg⟩ := DataW.trod_struct Try.underlying39 hf
  rw [cells39] at hl
  have hlen' : xs.length = 3 := hlen
  obtain ⟨v0, v1, v2, hcs⟩ := list3 hl
  rw [hcs] at hg
  have g0 := hg 0 _ rfl
  have g1 := hg 1 _ rfl
  have g2 := hg 2 _ rfl
  rw [List.getElem?_eq_getElem (by omega)] at g0 g1 g2
  obtain ⟨n0, e0, _, _⟩ := DataW.trod_int Try.underlying36 g0
  obtain ⟨s1, e1, _, _⟩ := DataW.trod_string Try.underlying9 g1
  obtain ⟨A, n2, c2, ls, e2, hr, h1, h2, _⟩ := rows_of_trod (size := 1) rfl Try.underlying37 cells9 (by decide) (fun cs (x : ByteArray) => cs = [.string x]) (fun fuel cs x h hl => by
    obtain ⟨s, e, _, _⟩ := DataW.trod_string Try.underlying9 h
    exact ⟨s, e⟩) g2
  simp [cells36, cells9, cells37] at e0 e1 e2
  subst e0
  subst e1
  subst e2
  refine ⟨n0, s1, A, n2, c2, ls, ?_, ⟨hr.1, fun h0 => ?_⟩, by omega⟩
  · simp only [Value.cells] at hcs
    obtain ⟨l⟩ := cs
    simp at hcs
    rw [hcs]
  · obtain ⟨b, o, e, hb, hc⟩ := hr.2.2 h0
    refine ⟨b, o, e, hb, fun i s hi => ?_⟩
    obtain ⟨cs', hq, _, hj⟩ := hc i s hi
    rw [hq] at hj
    have := hj 0 _ rfl
    simpa using this
end
end Go.Proofs.Ytadagidjppgbkaa
