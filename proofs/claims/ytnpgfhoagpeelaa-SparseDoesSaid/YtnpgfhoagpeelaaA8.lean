/- slices.Compact at fingerprints. -/
import Derived.Test.YtnpgfhoagpeelaaA7
namespace Go.Proofs.Ytnpgfhoagpeelaa
open Go.RowKit
open Go.Sort Go.Lib
theorem heap_setCells_row {g : Nat} {t : TypeId} : ∀ (vs : List Value) (o : Nat) (w : World) (cur : Array Value), w.heap[g]? = some (.cells cur t (0, 0)) → ∃ cur', (w.setCells g o vs).heap[g]? = some (.cells cur' t (0, 0)) ∧ cur'.size = cur.size
  | [], _, _, cur, h => ⟨cur, h, rfl⟩
  | v :: r, o, w, cur, h => by
    obtain ⟨c2, h2, h3⟩ := heap_setCells_row r (o + 1) _ _ (heap_setCell_same w g o cur t v h)
    exact ⟨c2, h2, by rw [h3]; simp⟩
theorem grown_setCells (w0 : World) (g : Nat) : ∀ (vs : List Value) (o : Nat) {w : World}, w0.grownBy w (some g) → w0.grownBy (w.setCells g o vs) (some g)
  | [], _, _, h => h
  | v :: r, o, w, h => grown_setCells w0 g r (o + 1) (h.trans ⟨rfl, rfl, rfl, by simp, fun k _ hne => Below.heap_setCell w ⟨g, o, none⟩ v k (fun e => hne (by rw [e]))⟩)
theorem own_setCells {w : World} {base e size n g cap o : Nat} {xs L : List Value} (h : w.ownsRow base e size (.slice (some ⟨g, 0, none⟩) n cap) n xs) (ho : o + L.length ≤ n * size) :
    (w.setCells g o L).ownsRow base e size (.slice (some ⟨g, 0, none⟩) n cap) n (xs.take o ++ L ++ xs.drop (o + L.length)) := by
  have hx := h.1
  rcases h.2 with ⟨hv, _⟩ | ⟨g', cap', cur, hv, hg, hh, hn, hc, hz, ht⟩
  · cases hv
  · injection hv with e1 e2 e3
    injection e1 with e1
    injection e1 with e1
    subst e1
    subst e3
    obtain ⟨cur', h1, h2⟩ := heap_setCells_row L o w cur hh
    have hnc : n * size ≤ cap * size := Nat.mul_le_mul_right _ hn
    refine ⟨by rw [List.length_append, List.length_append, List.length_take, List.length_drop]; omega, .inr ⟨g, cap, cur', rfl, hg, h1, hn, hc, by rw [h2]; exact hz, ?_⟩⟩
    apply List.ext_getElem?
    intro p
    rw [List.getElem?_take]
    by_cases hp : p < n * size
    · rw [if_pos hp]
      have e1 : cur'.toList[p]? = (w.setCells g o L).cell? ⟨g, p, none⟩ := by rw [cell_of_row _ g p cur' e (0, 0) h1]; simp
      rw [e1]
      have hin : ∀ j, j < L.length → (w.cell? ⟨g, o + j, none⟩).isSome = true := fun j hj => by
        rw [cell_of_row w g (o + j) cur e (0, 0) hh, Array.getElem?_eq_getElem (by omega)]
        rfl
      by_cases hq : o ≤ p ∧ p < o + L.length
      · obtain ⟨j, rfl⟩ : ∃ j, p = o + j := ⟨p - o, by omega⟩
        have hj : j < L.length := by omega
        rw [World.cell?_setCells_in g L o w hin j hj]
        rw [List.append_assoc, List.getElem?_append_right (by rw [List.length_take]; omega), List.length_take, show o + j - min o xs.length = j by omega, List.getElem?_append_left hj]
        simp [hj]
      · rw [World.cell?_setCells_out g L o w ⟨g, p, none⟩ (fun _ _ => by show p < o ∨ o + L.length ≤ p; omega)]
        rw [cell_of_row w g p cur e (0, 0) hh]
        have e5 : cur[p]? = xs[p]? := by rw [← ht, List.getElem?_take, if_pos hp]; simp
        rw [e5]
        by_cases hpo : p < o
        · rw [List.append_assoc, List.getElem?_append_left (by rw [List.length_take]; omega), List.getElem?_take, if_pos hpo]
        · rw [List.getElem?_append_right (by rw [List.length_append, List.length_take]; omega), List.length_append, List.length_take, List.getElem?_drop]
          congr 1
          omega
    · rw [if_neg hp, List.getElem?_eq_none (by rw [List.length_append, List.length_append, List.length_take, List.length_drop]; omega)]
theorem own_cut {w : World} {base e size n g cap k : Nat} {xs : List Value} (h : w.ownsRow base e size (.slice (some ⟨g, 0, none⟩) n cap) n xs) (hk : k ≤ n) : w.ownsRow base e size (.slice (some ⟨g, 0, none⟩) k cap) k (xs.take (k * size)) := by
  have hx := h.1
  have hks : k * size ≤ n * size := Nat.mul_le_mul_right _ hk
  rcases h.2 with ⟨hv, _⟩ | ⟨g', cap', cur, hv, hg, hh, hn, hc, hz, ht⟩
  · cases hv
  · injection hv with e1 e2 e3
    injection e1 with e1
    injection e1 with e1
    subst e1
    subst e3
    refine ⟨by rw [List.length_take]; omega, .inr ⟨g, cap, cur, rfl, hg, hh, by omega, hc, hz, ?_⟩⟩
    rw [← ht, List.take_take, Nat.min_eq_left hks]
theorem own_there {w : World} {base e size n g cap o m : Nat} {xs : List Value} (h : w.ownsRow base e size (.slice (some ⟨g, 0, none⟩) n cap) n xs) (ho : o + m ≤ n * size) : w.there g o m := by
  intro j hj
  rcases h.2 with ⟨hv, _⟩ | ⟨g', cap', cur, hv, hg, hh, hn, hc, hz, ht⟩
  · cases hv
  · injection hv with e1 e2 e3
    injection e1 with e1
    injection e1 with e1
    subst e1
    subst e3
    refine ⟨?_, frozen_of_row w g _ cur e hh⟩
    have hnc : n * size ≤ cap * size := Nat.mul_le_mul_right _ hn
    rw [cell_of_row w g (o + j) cur e (0, 0) hh, Array.getElem?_eq_getElem (by omega)]
    rfl
theorem fsL_app (a b : List Fp) : fsL (a ++ b) = fsL a ++ fsL b := List.flatMap_append
theorem fsL_take {s : List Fp} (h : AllFp s) (k : Nat) : (fsL s).take (k * 32) = fsL (s.take k) := by
  by_cases hk : k ≤ s.length
  · conv => lhs; rw [← List.take_append_drop k s]
    rw [fsL_app, List.take_append_of_le_length (by rw [fsL_len (fun f hf => h f (List.mem_of_mem_take hf)), List.length_take]; omega), List.take_of_length_le (by rw [fsL_len (fun f hf => h f (List.mem_of_mem_take hf)), List.length_take]; omega)]
  · rw [List.take_of_length_le (l := s) (by omega), List.take_of_length_le (by rw [fsL_len h]; omega)]
theorem fsL_drop {s : List Fp} (h : AllFp s) (k : Nat) : (fsL s).drop (k * 32) = fsL (s.drop k) := by
  by_cases hk : k ≤ s.length
  · conv => lhs; rw [← List.take_append_drop k s]
    have hl : (fsL (s.take k)).length = k * 32 := by rw [fsL_len (fun f hf => h f (List.mem_of_mem_take hf)), List.length_take, Nat.min_eq_left hk]
    rw [fsL_app, ← hl, List.drop_left]
  · rw [List.drop_of_length_le (l := s) (by omega), List.drop_of_length_le (by rw [fsL_len h]; omega)]
    rfl
theorem set_fp {s : List Fp} {k : Nat} {f : Fp} (h : AllFp s) (hf : IsFp f) : AllFp (s.set k f) := fun x hx => (List.mem_or_eq_of_mem_set hx).elim (h x) (fun e => e ▸ hf)
theorem fsL_set {s : List Fp} (h : AllFp s) {k : Nat} {f : Fp} (hf : IsFp f) (hk : k < s.length) : fsL (s.set k f) = (fsL s).take (k * 32) ++ fpL f ++ (fsL s).drop (k * 32 + (fpL f).length) := by
  rw [fpL_length hf, show k * 32 + 32 = (k + 1) * 32 by omega, fsL_take h, fsL_drop h, List.set_eq_take_append_cons_drop, if_pos hk, fsL_app, List.append_assoc]
  rfl
theorem OwnF.set {w : World} {base g cap : Nat} {s : List Fp} (h : OwnF w base g cap s) {k : Nat} {f : Fp} (hk : k < s.length) (hf : IsFp f) : OwnF (w.setCells g (k * 32) (fpL f)) base g cap (s.set k f) := by
  refine ⟨?_, set_fp h.2 hf⟩
  rw [fsL_set h.2 hf hk, List.length_set]
  exact own_setCells h.1 (by rw [fpL_length hf]; omega)
theorem OwnF.range {w : World} {base g cap : Nat} {s : List Fp} (h : OwnF w base g cap s) {k : Nat} {f : Fp} (hk : s[k]? = some f) : w.rangeAt g (k * 32) (fpL f) := by
  obtain ⟨b, o, e, _, hc⟩ := h.fps.get h.2 hk
  injection e with e
  injection e with e1 e2
  subst e1
  subst e2
  rwa [Nat.zero_add] at hc
theorem run_clear_own {w : World} {base n g cap o m c : Nat} {xs : List Value} (h : w.ownsRow base 47 32 (.slice (some ⟨g, 0, none⟩) n cap) n xs) (hm : 0 < m) (ho : o + m * 32 ≤ n * 32) (ty : TypeId) :
    (Builtin.clear_ #[34] ty #[.slice (some ⟨g, o, none⟩) m c]).run Try.prog w = .ok (.tuple #[]) (w.setCells g o (Builtin.zeroCells (Array.replicate 32 (.int .u8 0)) m).toList) := by
  have hz : (Builtin.zeroCells (Array.replicate 32 (Value.int .u8 0)) m).toList.length = m * 32 := by simp [Builtin.zeroCells]
  have h1 : ∀ v ∈ (Builtin.zeroCells (Array.replicate 32 (Value.int .u8 0)) m).toList, v.oneCell' = true := fun v hv => by
    simp [Builtin.zeroCells] at hv
    obtain ⟨i, hi, rfl⟩ := hv
    rw [getElem!_pos _ _ (by simp; omega)]
    simp [Value.oneCell']
  have ht := own_there h (o := o) (m := m * 32) ho
  have hst := run_storeCells_cells (P := Try.prog) g o _ 0 w (fun j hj => (ht j (by omega)).1) (fun j hj => (ht j (by omega)).2) h1
  simp only [Nat.add_zero] at hst
  obtain ⟨k, rfl⟩ : ∃ k, m = k + 1 := ⟨m - 1, by omega⟩
  have hz32 : #[Value.int .u8 0, Value.int .u8 0, Value.int .u8 0, Value.int .u8 0, Value.int .u8 0, Value.int .u8 0, Value.int .u8 0, Value.int .u8 0, Value.int .u8 0, Value.int .u8 0, Value.int .u8 0, Value.int .u8 0, Value.int .u8 0, Value.int .u8 0, Value.int .u8 0, Value.int .u8 0, Value.int .u8 0, Value.int .u8 0, Value.int .u8 0, Value.int .u8 0, Value.int .u8 0, Value.int .u8 0, Value.int .u8 0, Value.int .u8 0, Value.int .u8 0, Value.int .u8 0, Value.int .u8 0, Value.int .u8 0, Value.int .u8 0, Value.int .u8 0, Value.int .u8 0, Value.int .u8 0] = Array.replicate 32 (Value.int .u8 0) := rfl
  simp [Builtin.clear_, run_underlying Try.underlying34, Try.zeroValue47, Value.cells]
  rw [hz32, hst]
  rfl
end Go.Proofs.Ytnpgfhoagpeelaa
