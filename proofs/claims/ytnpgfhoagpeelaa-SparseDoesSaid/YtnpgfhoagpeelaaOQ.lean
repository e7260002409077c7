/- Acts, bytes, fingerprints handed in, opened. -/
import Derived.Test.YtnpgfhoagpeelaaOP
import Derived.Test.YtnpgfhoagpeelaaBH
namespace Go.Proofs.Ytnpgfhoagpeelaa
open Go.RowKit
open Go.ChangeShapes Go.WideShapes Go.ChangeAt Go.Deep
theorem cells22 : Try.prog.cellsOf 36 = 3 := by kernel_rfl
theorem cells34 : Try.prog.cellsOf 34 = 1 := by kernel_rfl
theorem cells3 : Try.prog.cellsOf 3 = 1 := by kernel_rfl
theorem list3 {α : Type} {l : List α} (h : l.length = 3) : ∃ a b c, l = [a, b, c] := by
  match l, h with
  | [a, b, c], _ => exact ⟨a, b, c, rfl⟩
section
variable {H : Type} {enc : TypeId × Value → H} {W : World} {base : Nat} {held : Bool}
theorem aoz_rows {α : Type} {size : Nat} {Q : List Value → α → Prop} {A : Option Addr} {n c : Nat} {ls : List α} (hr : RowsAt W size Q A n ls) (_h1 : n ≤ c) (_h3 : A = none → c = 0) : AOz A n := by
  by_cases h0 : n = 0
  · cases A with
    | none => exact .inl (.inl ⟨rfl, h0⟩)
    | some a => exact .inr ⟨h0, a, rfl⟩
  · obtain ⟨b, o, rfl, _⟩ := hr.2.2 (by omega)
    exact .inl (.inr ⟨b, o, rfl⟩)
set_option maxRecDepth 100000 in
theorem open_fpz {v : Value} {d : DataW H} {p : List MemPlace} (hv : Value.okWide Try.prog W .any base 34 v) (h : DataW.Trod enc Try.prog W 0 (fun _ => true) held 34 v d p) :
    ∃ A c hs, v = .slice A (List.length hs) c ∧ Fps W A hs ∧ AllFp hs ∧ AOz A hs.length := by
  obtain ⟨A, n, c, hs, rfl, hr, h1, h2, h3⟩ := open_rows Try.underlying34 cells29 (by decide) fpQ (fun _ _ _ h _ => by
    obtain ⟨f, q1, q2⟩ := fp_of_trod h
    exact ⟨f, q2, q1⟩) hv h
  have hll := hr.1
  refine ⟨A, c, hs, by rw [hll], fps_of_rows hr, fun f hf => ?_, by rw [hll]; exact aoz_rows hr h1 h3⟩
  obtain ⟨_, q, _⟩ := hr.2.1 f hf
  exact q.2
def actQ (W : World) (cs : List Value) (a : Act) : Prop := cs = actL a ∧ Fps W a.A a.hs ∧ AllFp a.hs ∧ AOz a.A a.hs.length
set_option maxRecDepth 100000 in
theorem act_of_trod {fuel : Nat} {cs : List Value} {x : DataW H × List MemPlace} (h : DataW.trod enc Try.prog W base (fun _ => true) held fuel 36 cs = some x) : ∃ a, actQ W cs a := by
  obtain ⟨ys, n, _, _, hl, hlen, hg⟩ := DataW.trod_struct Try.underlying36 h
  rw [cells22] at hl
  have hlen' : ys.length = 3 := hlen
  obtain ⟨c0, c1, c2, rfl⟩ := list3 hl
  have g0 := hg 0 _ rfl
  have g1 := hg 1 _ rfl
  have g2 := hg 2 _ rfl
  rw [List.getElem?_eq_getElem (by omega)] at g0 g1 g2
  obtain ⟨n0, e0, _, _⟩ := DataW.trod_int Try.underlying3 g0
  obtain ⟨n1, e1, _, _⟩ := DataW.trod_int Try.underlying33 g1
  obtain ⟨A, m, cp, hs, e2, hr, h1, h2, h3⟩ := rows_of_trod rfl Try.underlying34 cells29 (by decide) fpQ (fun _ _ _ h _ => by
    obtain ⟨f, q1, q2⟩ := fp_of_trod h
    exact ⟨f, q2, q1⟩) g2
  simp [cells3, cells24] at e0 e1
  simp [cells34] at e2
  subst e0
  subst e1
  subst e2
  have hll := hr.1
  refine ⟨⟨n0, n1, A, cp, hs⟩, ?_, fps_of_rows hr, fun f hf => ?_, ?_⟩
  · unfold actL
    simp only
    rw [hll]
  · obtain ⟨_, q, _⟩ := hr.2.1 f hf
    exact q.2
  · simp only
    rw [hll]
    exact aoz_rows hr h1 h3
set_option maxRecDepth 100000 in
theorem open_acts {v : Value} {d : DataW H} {p : List MemPlace} (hv : Value.okWide Try.prog W .any base 22 v) (h : DataW.Trod enc Try.prog W 0 (fun _ => true) held 22 v d p) :
    ∃ A c xs, v = .slice A (List.length xs) c ∧ Acts W A xs := by
  obtain ⟨A, n, c, xs, rfl, hr, h1, h2, _⟩ := open_rows Try.underlying22 cells22 (by decide) (actQ W) (fun _ _ _ h _ => act_of_trod h) hv h
  have hll := hr.1
  refine ⟨A, c, xs, by rw [hll], ?_, fun a ha => ?_⟩
  · exact row_of_rows (f := actL) (fun _ _ q => q.1) (fun _ => rfl) hr (by decide)
  · obtain ⟨cs, q, _⟩ := hr.2.1 a ha
    exact q.2
set_option maxRecDepth 100000 in
theorem open_u8 {v : Value} {d : DataW H} {p : List MemPlace} (hv : Value.okWide Try.prog W .any base 5 v) (h : DataW.Trod enc Try.prog W 0 (fun _ => true) held 5 v d p) : ∃ a : Nat, v = .int .u8 (a : Nat) ∧ a ≤ 255 := by
  obtain ⟨a, rfl⟩ := okWide_int Try.underlying5 hv
  obtain ⟨fuel, hf⟩ := h
  obtain ⟨b, e, _, hw⟩ := DataW.trod_int Try.underlying5 hf
  simp [Value.cells] at e
  subst e
  have := bounds_u8 hw
  refine ⟨a.toNat, ?_, by omega⟩
  rw [Int.toNat_of_nonneg this.1]
set_option maxRecDepth 100000 in
theorem open_u16 {v : Value} {d : DataW H} {p : List MemPlace} (hv : Value.okWide Try.prog W .any base 41 v) (h : DataW.Trod enc Try.prog W 0 (fun _ => true) held 41 v d p) : ∃ a : Nat, v = .int .u16 (a : Nat) ∧ a ≤ 65535 := by
  obtain ⟨a, rfl⟩ := okWide_int Try.underlying41 hv
  obtain ⟨fuel, hf⟩ := h
  obtain ⟨b, e, _, hw⟩ := DataW.trod_int Try.underlying41 hf
  simp [Value.cells] at e
  subst e
  have := bounds_u16 hw
  refine ⟨a.toNat, ?_, by omega⟩
  rw [Int.toNat_of_nonneg this.1]
end
end Go.Proofs.Ytnpgfhoagpeelaa
