/- The arguments opened: a slice of fingerprints, a fingerprint, settings. -/
import Derived.Test.YtkmhjfcjplnjdaaW1
import Derived.ProofKit
import Derived.OpenShut
import Derived.ShutString
import Derived.ChangeOld
import Derived.Deep.Slices
namespace Go.Proofs.Ytkmhjfcjplnjdaa
open Go.ChangeShapes Go.WideShapes Go.ChangeAt Go.RowKit Go.Deep
theorem laidOut : laidOutB Try.prog = true := by kernel_rfl
theorem own : ownKnob Try.prog.godebug = none := by kernel_rfl
theorem cells37 : Try.prog.cellsOf 37 = 32 := by kernel_rfl
theorem cells5 : Try.prog.cellsOf 5 = 1 := by kernel_rfl
theorem cells3 : Try.prog.cellsOf 3 = 1 := by kernel_rfl
theorem cells24 : Try.prog.cellsOf 24 = 13 := by kernel_rfl
theorem choose_list {α : Type} (P : Nat → α → Prop) : ∀ n : Nat, (∀ i, i < n → ∃ a, P i a) → ∃ l : List α, l.length = n ∧ ∀ i a, l[i]? = some a → P i a
  | 0, _ => ⟨[], rfl, fun i a h => by simp at h⟩
  | n + 1, h => by
    obtain ⟨l, hl, hp⟩ := choose_list P n (fun i hi => h i (by omega))
    obtain ⟨a, ha⟩ := h n (by omega)
    refine ⟨l ++ [a], by simp [hl], fun i b hb => ?_⟩
    by_cases hi : i < n
    · rw [List.getElem?_append_left (by omega)] at hb
      exact hp i b hb
    · rw [List.getElem?_append_right (by omega)] at hb
      have : i - l.length = 0 := by
        have := (List.getElem?_eq_some_iff.1 hb).1
        simp at this; omega
      rw [this] at hb
      simp at hb
      subst hb
      have : i = n := by omega
      subst this
      exact ha
theorem spot_of_cell {w : World} {a : Addr} {v : Value} (h : w.cell? a = some v) : a.spot = none := by
  unfold World.cell? at h
  cases hs : a.spot with
  | none => rfl
  | some s =>
    split at h
    · simp [hs] at h
    · cases h
section
variable {H : Type} {enc : TypeId × Value → H} {W : World} {base : Nat} {sp : Nat → Bool} {held : Bool}
/-- an array's cells are bytes -/
theorem fp_of_trod {fuel : Nat} {cs : List Value} {x : DataW H × List MemPlace} (h : DataW.trod enc Try.prog W base sp held fuel 37 cs = some x) : ∃ f : Fp, IsFp f ∧ cs = fpL f := by
  obtain ⟨xs, m, _, _, hl, hn, hi⟩ := DataW.trod_array Try.underlying37 h
  rw [cells37] at hl
  have hb : ∀ i, i < 32 → ∃ n : Int, cs[i]? = some (.int .u8 n) ∧ 0 ≤ n ∧ n ≤ 255 := by
    intro i hi32
    have h1 := hi i hi32
    rw [cells5] at h1
    have h2 : (cs.drop (i * 1)).take 1 = [cs[i]'(by omega)] := by
      rw [Nat.mul_one, List.drop_eq_getElem_cons (by omega)]; rfl
    rw [h2] at h1
    have h3 : xs[i]? = some (xs[i]'(by omega)) := List.getElem?_eq_getElem _
    obtain ⟨n, hc, _, hw⟩ := DataW.trod_int Try.underlying5 (h1.trans h3)
    refine ⟨n, ?_, bounds_u8 hw⟩
    rw [List.getElem?_eq_getElem (by omega)]
    injection hc with hc
    rw [hc]
  obtain ⟨f, hfl, hf⟩ := choose_list (fun i (n : Int) => cs[i]? = some (.int .u8 n) ∧ 0 ≤ n ∧ n ≤ 255) 32 hb
  refine ⟨f, ⟨hfl, fun b hb => ?_⟩, ?_⟩
  · obtain ⟨i, hi, rfl⟩ := List.getElem_of_mem hb
    exact (hf i f[i] (List.getElem?_eq_getElem hi)).2
  · apply List.ext_getElem?
    intro i
    by_cases h32 : i < 32
    · have h1 : f[i]? = some (f[i]'(by omega)) := List.getElem?_eq_getElem _
      rw [(hf i _ h1).1]
      simp [fpL, h1]
    · rw [List.getElem?_eq_none (by omega), List.getElem?_eq_none (by simp [fpL]; omega)]
theorem open_fp {v : Value} {d : DataW H} {p : List MemPlace} (hv : Value.okWide Try.prog W .any base 37 v) (h : DataW.Trod enc Try.prog W 0 sp held 37 v d p) : ∃ f : Fp, IsFp f ∧ v = .agg (fpA f) := by
  obtain ⟨fuel, hf⟩ := h
  simp only [Value.okWide, Try.underlying37] at hv
  obtain ⟨cs, rfl, _⟩ := hv
  obtain ⟨f, hf1, hf2⟩ := fp_of_trod hf
  refine ⟨f, hf1, ?_⟩
  simp only [Value.cells] at hf2
  rw [fpA, ← hf2]
theorem open_fps {v : Value} {d : DataW H} {p : List MemPlace} (hv : Value.okWide Try.prog W .any base 22 v) (h : DataW.Trod enc Try.prog W 0 (fun _ => true) held 22 v d p) :
    ∃ A n c fs, v = .slice A n c ∧ Fps W W.heap.size A n fs ∧ n ≤ c ∧ c ≤ 9223372036854775807 := by
  obtain ⟨A, n, c, rfl⟩ := okWide_slice Try.underlying22 hv
  obtain ⟨fuel, hf⟩ := h
  rcases open_slice Try.underlying22 hf with ⟨hcs, _⟩ | ⟨a, len, c', m, n', D, Pl, hcs, hb, hl, hm, hmm, _, hi⟩
  · simp [Value.cells] at hcs
    obtain ⟨rfl, rfl, rfl⟩ := hcs
    exact ⟨none, 0, 0, [], rfl, ⟨rfl, fun f hf => by simp at hf, fun h0 => by omega⟩, Nat.le_refl _, by omega⟩
  · simp [Value.cells] at hcs
    obtain ⟨rfl, rfl, rfl⟩ := hcs
    have hmm2 : m = c := by simpa using hmm
    clear hmm
    subst hmm2
    have hm2 : m ≤ 9223372036854775807 := by unfold maxLen at hm; omega
    have hex : ∀ i, i < n → ∃ f : Fp, IsFp f ∧ ∀ j v, (fpL f)[j]? = some v → W.cell? (a.add (i * 32 + j)) = some v := by
      intro i hin
      obtain ⟨cs', hc, ht⟩ := hi i (by omega)
      rw [cells37] at hc
      obtain ⟨_, hcl, hat⟩ := World.cells?_some hc
      obtain ⟨f, hf1, hf2⟩ := fp_of_trod ht
      refine ⟨f, hf1, fun j v hj => ?_⟩
      have hj32 : j < 32 := by have := (List.getElem?_eq_some_iff.1 hj).1; rwa [fpL_length hf1] at this
      have := hat j hj32
      rw [Go.Deep.add_add] at this
      rw [this, hf2, hj]
    obtain ⟨fs, hfl, hfs⟩ := choose_list _ n hex
    refine ⟨some a, n, _, fs, rfl, ⟨hfl, fun f hf => ?_, fun h0 => ?_⟩, hl, hm2⟩
    · obtain ⟨i, hi, rfl⟩ := List.getElem_of_mem hf
      exact (hfs i fs[i] (List.getElem?_eq_getElem hi)).1
    · have h1 : fs[0]? = some (fs[0]'(by omega)) := List.getElem?_eq_getElem _
      obtain ⟨h2, h3⟩ := hfs 0 _ h1
      have h4 := h3 0 (.int .u8 ((fs[0]'(by omega))[0]'(by rw [h2.1]; omega))) (by simp [fpL])
      have hsp : a.spot = none := by
        have := spot_of_cell h4
        simpa [Addr.add] using this
      obtain ⟨b, o, s⟩ := a
      simp at hsp
      subst hsp
      refine ⟨b, o, rfl, ?_, fun i f hf j v hv => ?_⟩
      · have := World.block_lt_of_cell? W _ h4
        simpa [Addr.add] using this
      · have := (hfs i f hf).2 j v hv
        rw [Addr.add_mid] at this
        rw [show o + i * 32 + j = o + (i * 32 + j) by omega]
        exact this
theorem open_conf {v : Value} {d : DataW H} {p : List MemPlace} (hv : Value.okWide Try.prog W .any base 24 v) (h : DataW.Trod enc Try.prog W 0 sp held 24 v d p) : ∃ x : CfX, v = .agg x.A := by
  obtain ⟨cs, rfl, hsz⟩ := okWide_struct Try.underlying24 hv
  rw [cells24] at hsz
  obtain ⟨l⟩ := cs
  match l, hsz with
  | [c0, c1, c2, c3, c4, c5, c6, c7, c8, c9, c10, c11, c12], _ =>
    obtain ⟨fuel, hf⟩ := h
    obtain ⟨xs, n, _, _, _, hlen, hg⟩ := DataW.trod_struct Try.underlying24 hf
    have hlen' : xs.length = 13 := hlen
    have g4 := hg 4 _ rfl
    have g5 := hg 5 _ rfl
    have g6 := hg 6 _ rfl
    rw [List.getElem?_eq_getElem (by omega)] at g4 g5 g6
    obtain ⟨n4, e4, _, _⟩ := DataW.trod_int Try.underlying3 g4
    obtain ⟨n5, e5, _, _⟩ := DataW.trod_int Try.underlying3 g5
    obtain ⟨n6, e6, _, _⟩ := DataW.trod_int Try.underlying3 g6
    simp [Value.cells, cells3] at e4 e5 e6
    subst e4
    subst e5
    subst e6
    exact ⟨⟨⟨n4, n5, n6⟩, c0, c1, c2, c3, c7, c8, c9, c10, c11, c12⟩, rfl⟩
end
end Go.Proofs.Ytkmhjfcjplnjdaa
