/- Bounds for CompactDone. -/
import Derived.Test.YtgdljjoaiogpfaaD4
namespace Go.Proofs.Ytgdljjoaiogpfaa
open Go.RowKit Go.Maps
theorem idP_small {named : List Plc} {hs : List Hd} {b : Nat} (h : Dst hs) (hl : ∀ x ∈ hs, x.n ≤ b) (g : Int) : (idP named hs g).length ≤ b := by
  by_cases he : ∃ x ∈ hs, x.id = g
  · obtain ⟨x, hx, rfl⟩ := he
    rw [idP_at h hx]
    exact Nat.le_trans (partTo_len named x true x.n) (hl x hx)
  · rw [idP_none (fun y hy e => he ⟨y, hy, e⟩)]
    exact Nat.zero_le _
def lens (G : List (List Int)) : Nat := (G.map List.length).sum
theorem lens_snoc (G : List (List Int)) (g : List Int) : lens (G ++ [g]) = lens G + g.length := by simp [lens]
theorem gfold_lens {named : List Plc} {slots bts : Int} : ∀ hs : List Hd, lens (gfold named slots bts hs).1 ≤ hs.length := by
  intro hs
  induction hs using snoc_ind with
  | nil => simp [gfold, lens]
  | snoc hs x ih =>
    rw [gfold_snoc]
    generalize gfold named slots bts hs = st at *
    obtain ⟨G, s, b⟩ := st
    simp only [List.length_append, List.length_cons, List.length_nil] at *
    by_cases hm : isMixed named x = true
    · by_cases hc : G ≠ [] ∧ s + (part named x true).length ≤ slots ∧ b + bytes named x true ≤ bts
      · obtain ⟨D, g, rfl⟩ : ∃ D g, G = D ++ [g] := ⟨_, _, (List.dropLast_concat_getLast hc.1).symm⟩
        rw [gstep_more hm hc.2.1 hc.2.2]
        simp only [lens_snoc, List.length_append, List.length_cons, List.length_nil] at *
        omega
      · rw [gstep_new hm hc]
        simp only [lens_snoc, List.length_cons, List.length_nil]
        omega
    · rw [gstep_no (by simpa using hm)]
      dsimp only
      omega
theorem newP_len {f : Int → List Plc} {G : List (List Int)} {b : Nat} (hf : ∀ g, (f g).length ≤ b) : ∀ i, (newP f G i).length ≤ b * lens (G.take i)
  | 0 => by simp [newP]
  | i + 1 => by
    have ih := newP_len (G := G) hf i
    cases hg : G[i]? with
    | none =>
      have e : G.take (i + 1) = G.take i := by
        rw [List.take_add_one, hg]
        simp
      simp only [newP, hg, e]
      simpa using ih
    | some g =>
      have e : G.take (i + 1) = G.take i ++ [g] := by rw [List.take_add_one, hg]; rfl
      rw [newP_step hg, e, lens_snoc, List.length_append, rangeP_len, Nat.mul_add]
      exact Nat.add_le_add ih (succTo_le hf g.length)
theorem lens_take (G : List (List Int)) (i : Nat) : lens (G.take i) ≤ lens G := by
  have : lens G = lens (G.take i) + lens (G.drop i) := by
    unfold lens
    rw [← List.sum_append, ← List.map_append, List.take_append_drop]
  omega
theorem wf_big : ∀ j, j < 12 → (Lit.int .u32 (bigId j)).wf = true := by decide
theorem wf_i64 {k : Int} (h : 0 ≤ k) (h2 : k ≤ 1000) : (Lit.int .i64 k).wf = true := by
  simp [Lit.wf, show IntKind.i64.min = -9223372036854775808 from rfl, show IntKind.i64.max = 9223372036854775807 from rfl]
  omega
theorem newP_ok {f : Int → List Plc} {G : List (List Int)} (hG : G.length ≤ 12) (ht : ∀ g ∈ G, (tot f g).length ≤ 1000) : ∀ i, ∀ p ∈ newP f G i, PlcOk p
  | 0, p, h => by simp [newP] at h
  | i + 1, p, h => by
    simp only [newP, List.mem_append] at h
    rcases h with h | h
    · exact newP_ok hG ht i p h
    · split at h
      · rename_i g hg
        have hi := (List.getElem?_eq_some_iff.1 hg).1
        simp only [rangeP, List.mem_map, List.mem_range] at h
        obtain ⟨k, hk, rfl⟩ := h
        have := ht g (List.mem_of_getElem? hg)
        exact ⟨wf_big i (by omega), wf_i64 (by omega) (by omega)⟩
      · simp at h
theorem part_named {named : List Plc} {x : Hd} {p : Plc} (h : p ∈ part named x true) : p ∈ named := by
  obtain ⟨j, _, rfl, hd⟩ := mem_partTo _ h
  simpa using hd
theorem allP_named {named : List Plc} {l : List Hd} {p : Plc} (h : p ∈ allP named true l) : p ∈ named := by
  unfold allP at h
  rw [List.mem_flatMap] at h
  obtain ⟨x, _, hp⟩ := h
  exact part_named hp
theorem full_snoc_yes {named : List Plc} {hs : List Hd} {x : Hd} (h : isFull named x = true) : (hs ++ [x]).filter (isFull named) = hs.filter (isFull named) ++ [x] := by simp [List.filter_append, h]
theorem full_snoc_no {named : List Plc} {hs : List Hd} {x : Hd} (h : isFull named x = false) : (hs ++ [x]).filter (isFull named) = hs.filter (isFull named) := by simp [List.filter_append, h]
end Go.Proofs.Ytgdljjoaiogpfaa
