/- The arguments opened: a slice of strings, a string. -/
import Derived.Test.YtadagidjppgbkaaOp
import Derived.Test.YtadagidjppgbkaaM8
import Derived.SliceStrings
namespace Go.Proofs.Ytadagidjppgbkaa
open Go.ChangeShapes Go.WideShapes Go.ChangeAt Go.RowKit Go.Deep
theorem spot_none {w : World} {a : Addr} {v : Value} (h : w.cell? a = some v) : a.spot = none := by
  unfold World.cell? at h
  cases hs : a.spot with
  | none => rfl
  | some s =>
    split at h
    · simp [hs] at h
    · cases h
section
variable {H : Type} {enc : TypeId × Value → H} {W : World} {base : Nat} {held : Bool}
set_option maxRecDepth 100000 in
theorem open_strs {v : Value} {d : DataW H} {p : List MemPlace} (hv : Value.okWide Try.prog W .any base 37 v) (h : DataW.Trod enc Try.prog W 0 (fun _ => true) held 37 v d p) :
    ∃ A n c ls, v = .slice A n c ∧ Strs W W.heap.size A n ls ∧ n ≤ c := by
  obtain ⟨A, n, c, rfl⟩ := okWide_slice Try.underlying37 hv
  obtain ⟨fuel, hf⟩ := h
  rcases open_strings Try.underlying37 Try.underlying9 cells9 hf with ⟨hcs, _⟩ | ⟨a, len, cap, ss, hcs, _, hle, _, hlen, _, hc, hs⟩
  · simp [Value.cells] at hcs
    obtain ⟨rfl, rfl, rfl⟩ := hcs
    exact ⟨none, 0, 0, [], rfl, ⟨rfl, fun s hs => by simp at hs, fun h0 => by omega⟩, Nat.le_refl _⟩
  · simp [Value.cells] at hcs
    obtain ⟨rfl, rfl, rfl⟩ := hcs
    have hlen2 : ss.length = c := by simpa using hlen
    refine ⟨some a, n, c, ss.take n, rfl, ⟨by rw [List.length_take]; omega, fun s h1 => hs s (List.mem_of_mem_take h1), fun h0 => ?_⟩, hle⟩
    have h0c := hc 0 (by omega)
    have hsp : a.spot = none := by
      have := spot_none h0c
      simpa [Addr.add] using this
    obtain ⟨b, o, s⟩ := a
    simp at hsp
    subst hsp
    refine ⟨b, o, rfl, ?_, fun i s hi => ?_⟩
    · have := World.block_lt_of_cell? W _ h0c
      simpa [Addr.add] using this
    · have hin : i < n := by
        have := (List.getElem?_eq_some_iff.1 hi).1
        rw [List.length_take] at this
        omega
      have := hc i (by omega)
      rw [Addr.add_mid] at this
      rw [this]
      rw [List.getElem?_take_of_lt hin] at hi
      simp [List.getD, hi]
set_option maxRecDepth 100000 in
theorem open_str {v : Value} {d : DataW H} {p : List MemPlace} {sp : Nat → Bool} (hv : Value.okWide Try.prog W .any base 9 v) (h : DataW.Trod enc Try.prog W 0 sp held 9 v d p) :
    ∃ s : ByteArray, v = .string s ∧ s.size ≤ maxLen := by
  obtain ⟨fuel, hf⟩ := h
  obtain ⟨s, e, _, hs⟩ := DataW.trod_string Try.underlying9 hf
  obtain ⟨s', rfl⟩ := okWide_string Try.underlying9 hv
  simp [Value.cells] at e
  subst e
  exact ⟨_, rfl, hs⟩
end
end Go.Proofs.Ytadagidjppgbkaa
