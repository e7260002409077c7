/- The argument opened: a slice of fingerprints that was never made has no room. -/
import Derived.Test.YtkmhjfcjplnjdaaOp
namespace Go.Proofs.Ytkmhjfcjplnjdaa
open Go.ChangeShapes Go.WideShapes Go.ChangeAt Go.RowKit Go.Deep
variable {H : Type} {enc : TypeId × Value → H} {W : World} {base : Nat} {sp : Nat → Bool} {held : Bool}
theorem open_fps_none {v : Value} {d : DataW H} {p : List MemPlace} (hv : Value.okWide Try.prog W .any base 22 v) (h : DataW.Trod enc Try.prog W 0 (fun _ => true) held 22 v d p) :
    ∃ A n c fs, v = .slice A n c ∧ Fps W W.heap.size A n fs ∧ n ≤ c ∧ c ≤ 9223372036854775807 ∧ (A = none → c = 0) := by
  obtain ⟨A, n, c, rfl⟩ := okWide_slice Try.underlying22 hv
  obtain ⟨fuel, hf⟩ := h
  rcases open_slice Try.underlying22 hf with ⟨hcs, _⟩ | ⟨a, len, c', m, n', D, Pl, hcs, hb, hl, hm, hmm, _, hi⟩
  · simp [Value.cells] at hcs
    obtain ⟨rfl, rfl, rfl⟩ := hcs
    exact ⟨none, 0, 0, [], rfl, ⟨rfl, fun f hf => by simp at hf, fun h0 => by omega⟩, Nat.le_refl _, by omega, fun _ => rfl⟩
  · simp [Value.cells] at hcs
    obtain ⟨rfl, rfl, rfl⟩ := hcs
    have hmm2 : m = c := by simpa using hmm
    clear hmm
    subst hmm2
    have hm2 : m ≤ 9223372036854775807 := by unfold maxLen at hm; omega
    have hex : ∀ i, i < n → ∃ f : Fp, IsFp f ∧ ∀ j v, (fpL f)[j]? = some v → W.cell? (a.add (i * 32 + j)) = some v := by
      intro i hin
      obtain ⟨cs', hc, ht⟩ := hi i (by omega)
      rw [cells37] at hc
      obtain ⟨_, hcl, hat⟩ := World.cells?_some hc
      obtain ⟨f, hf1, hf2⟩ := fp_of_trod ht
      refine ⟨f, hf1, fun j v hj => ?_⟩
      have hj32 : j < 32 := by have := (List.getElem?_eq_some_iff.1 hj).1; rwa [fpL_length hf1] at this
      have := hat j hj32
      rw [Go.Deep.add_add] at this
      rw [this, hf2, hj]
    obtain ⟨fs, hfl, hfs⟩ := choose_list _ n hex
    refine ⟨some a, n, _, fs, rfl, ⟨hfl, fun f hf => ?_, fun h0 => ?_⟩, hl, hm2, fun e => by cases e⟩
    · obtain ⟨i, hi, rfl⟩ := List.getElem_of_mem hf
      exact (hfs i fs[i] (List.getElem?_eq_getElem hi)).1
    · have h1 : fs[0]? = some (fs[0]'(by omega)) := List.getElem?_eq_getElem _
      obtain ⟨h2, h3⟩ := hfs 0 _ h1
      have h4 := h3 0 (.int .u8 ((fs[0]'(by omega))[0]'(by rw [h2.1]; omega))) (by simp [fpL])
      have hsp : a.spot = none := by
        have := spot_of_cell h4
        simpa [Addr.add] using this
      obtain ⟨b, o, s⟩ := a
      simp at hsp
      subst hsp
      refine ⟨b, o, rfl, ?_, fun i f hf j v hv => ?_⟩
      · have := World.block_lt_of_cell? W _ h4
        simpa [Addr.add] using this
      · have := (hfs i f hf).2 j v hv
        rw [Addr.add_mid] at this
        rw [show o + i * 32 + j = o + (i * 32 + j) by omega]
        exact this
end Go.Proofs.Ytkmhjfcjplnjdaa
