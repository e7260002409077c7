/- A slice whose elements are structs, opened: whatever each element's cells are. -/
import Derived.Test.YtgdljjoaiogpfaaRows
import Derived.ProofKit
import Derived.OpenShut
import Derived.ShutString
import Derived.ChangeOld
import Derived.Deep.Slices
import Derived.Deep.MidRow
namespace Go.Proofs.Ytgdljjoaiogpfaa
open Go.ChangeShapes Go.WideShapes Go.ChangeAt Go.RowKit Go.Deep
theorem choose_list {α : Type} (P : Nat → α → Prop) : ∀ n : Nat, (∀ i, i < n → ∃ a, P i a) → ∃ l : List α, l.length = n ∧ ∀ i a, l[i]? = some a → P i a
  | 0, _ => ⟨[], rfl, fun i a h => by simp at h⟩
  | n + 1, h => by
    obtain ⟨l, hl, hp⟩ := choose_list P n (fun i hi => h i (by omega))
    obtain ⟨a, ha⟩ := h n (by omega)
    refine ⟨l ++ [a], by simp [hl], fun i b hb => ?_⟩
    by_cases hi : i < n
    · rw [List.getElem?_append_left (by omega)] at hb
      exact hp i b hb
    · rw [List.getElem?_append_right (by omega)] at hb
      have : i - l.length = 0 := by
        have := (List.getElem?_eq_some_iff.1 hb).1
        simp at this; omega
      rw [this] at hb
      simp at hb
      subst hb
      have : i = n := by omega
      subst this
      exact ha
theorem spot_of_cell {w : World} {a : Addr} {v : Value} (h : w.cell? a = some v) : a.spot = none := by
  unfold World.cell? at h
  cases hs : a.spot with
  | none => rfl
  | some s =>
    split at h
    · simp [hs] at h
    · cases h
/-- what a slice's cells read as, element by element -/
def RowsAt {α : Type} (W : World) (size : Nat) (Q : List Value → α → Prop) (A : Option Addr) (n : Nat) (ls : List α) : Prop :=
  ls.length = n ∧ (∀ x ∈ ls, ∃ cs, Q cs x ∧ cs.length = size) ∧ (0 < n → ∃ b o, A = some ⟨b, o, none⟩ ∧ b < W.heap.size ∧ ∀ (i : Nat) (x : α), ls[i]? = some x → ∃ cs, Q cs x ∧ cs.length = size ∧ ∀ j v, cs[j]? = some v → W.cell? ⟨b, o + i * size + j, none⟩ = some v)
section
variable {P : Program} {H : Type} {enc : TypeId × Value → H} {W : World} {held : Bool}
theorem rows_of_trod {α : Type} {base : Nat} {sp : Nat → Bool} (hsp : sp = fun _ => true) {t e : TypeId} {size fuel : Nat} {cs0 : List Value} {x : DataW H × List MemPlace} (ht : P.underlying t = some (.slice e)) (hc : P.cellsOf e = size) (hpos : 0 < size) (Q : List Value → α → Prop)
    (hel : ∀ fuel cs x, DataW.trod enc P W base sp held fuel e cs = some x → cs.length = size → ∃ a, Q cs a) (hf : DataW.trod enc P W base sp held fuel t cs0 = some x) :
    ∃ A n c ls, cs0 = [.slice A n c] ∧ RowsAt W size Q A n ls ∧ n ≤ c ∧ c ≤ 9223372036854775807 ∧ (A = none → c = 0) := by
  subst hsp
  rcases open_slice ht hf with ⟨hcs, _⟩ | ⟨a, n, c, m, n', D, Pl, hcs, hb, hl, hm, hmm, _, hi⟩
  · subst hcs
    exact ⟨none, 0, 0, [], rfl, ⟨rfl, fun f hf => by simp at hf, fun h0 => by omega⟩, Nat.le_refl _, by omega, fun _ => rfl⟩
  · subst hcs
    have hmm2 : m = c := by simpa using hmm
    clear hmm
    subst hmm2
    have hm2 : m ≤ 9223372036854775807 := by unfold maxLen at hm; omega
    have hex : ∀ i, i < n → ∃ f : α, ∃ cs, Q cs f ∧ cs.length = size ∧ ∀ j v, cs[j]? = some v → W.cell? (a.add (i * size + j)) = some v := by
      intro i hin
      obtain ⟨cs', hcc, htt⟩ := hi i (by omega)
      rw [hc] at hcc
      obtain ⟨_, hcl, hat⟩ := World.cells?_some hcc
      obtain ⟨f, hq⟩ := hel _ _ _ htt hcl
      refine ⟨f, cs', hq, hcl, fun j v hj => ?_⟩
      have hjs : j < size := by rw [← hcl]; exact (List.getElem?_eq_some_iff.1 hj).1
      have := hat j hjs
      rw [Go.Deep.add_add] at this
      rw [this, hj]
    obtain ⟨fs, hfl, hfs⟩ := choose_list _ n hex
    refine ⟨some a, n, _, fs, rfl, ⟨hfl, fun f hf => ?_, fun h0 => ?_⟩, hl, hm2, fun e => by cases e⟩
    · obtain ⟨i, hi, rfl⟩ := List.getElem_of_mem hf
      obtain ⟨cs, h1, h2, _⟩ := hfs i fs[i] (List.getElem?_eq_getElem hi)
      exact ⟨cs, h1, h2⟩
    · have h1 : fs[0]? = some (fs[0]'(by omega)) := List.getElem?_eq_getElem _
      obtain ⟨cs, h2, h3, h4⟩ := hfs 0 _ h1
      have h5 := h4 0 (cs[0]'(by omega)) (List.getElem?_eq_getElem _)
      have hsp : a.spot = none := by
        have := spot_of_cell h5
        simpa [Addr.add] using this
      obtain ⟨b, o, s⟩ := a
      simp at hsp
      subst hsp
      refine ⟨b, o, rfl, ?_, fun i f hf => ?_⟩
      · have := World.block_lt_of_cell? W _ h5
        simpa [Addr.add] using this
      · obtain ⟨cs, q1, q2, q3⟩ := hfs i f hf
        refine ⟨cs, q1, q2, fun j v hv => ?_⟩
        have := q3 j v hv
        rw [Addr.add_mid] at this
        rw [show o + i * size + j = o + (i * size + j) by omega]
        exact this
/-- a slice that came in, of elements that are read cell by cell -/
theorem open_rows {α : Type} {base : Nat} {t e : TypeId} {size : Nat} {v : Value} {d : DataW H} {p : List MemPlace} (ht : P.underlying t = some (.slice e)) (hc : P.cellsOf e = size) (hpos : 0 < size) (Q : List Value → α → Prop)
    (hel : ∀ fuel cs x, DataW.trod enc P W 0 (fun _ => true) held fuel e cs = some x → cs.length = size → ∃ a, Q cs a)
    (hv : Value.okWide P W .any base t v) (h : DataW.Trod enc P W 0 (fun _ => true) held t v d p) :
    ∃ A n c ls, v = .slice A n c ∧ RowsAt W size Q A n ls ∧ n ≤ c ∧ c ≤ 9223372036854775807 ∧ (A = none → c = 0) := by
  obtain ⟨A, n, c, rfl⟩ := okWide_slice ht hv
  obtain ⟨fuel, hf⟩ := h
  obtain ⟨A', n', c', ls, hcs, hr, h1, h2, h3⟩ := rows_of_trod rfl ht hc hpos Q hel hf
  simp [Value.cells] at hcs
  obtain ⟨rfl, rfl, rfl⟩ := hcs
  exact ⟨A, n, c, ls, rfl, hr, h1, h2, h3⟩
end
end Go.Proofs.Ytgdljjoaiogpfaa
