/- What the calls hand back, as it is read; lengths. -/
import Derived.Test.YtgdljjoaiogpfaaL3
import Derived.Test.YtgdljjoaiogpfaaL1
import Derived.Test.YtgdljjoaiogpfaaR5
import Derived.Test.YtgdljjoaiogpfaaR6
import Derived.Test.YtgdljjoaiogpfaaR8
namespace Go.Proofs.Ytgdljjoaiogpfaa
open Go.RowKit Go.Maps
theorem toPls {f : FuncId} {args : Array Value} {w : World} {l : List Plc} (h : Calls Try.prog f args w fun e w' => ∃ v, e = .returned v ∧ Below w.heap.size w w' ∧ w'.ownsRow w.heap.size 39 2 v l.length (rowP l)) :
    Calls Try.prog f args w fun e w' => ∃ A c, e = .returned (.slice A l.length c) ∧ Below w.heap.size w w' ∧ Pls w' A l.length l := by
  refine h.mono ?_
  rintro e w' ⟨v, rfl, hb, hr⟩
  obtain ⟨A, c, rfl⟩ := own_slice hr
  exact ⟨A, c, rfl, hb, Pls.own hr rfl⟩
theorem Ids.own {w : World} {B k c : Nat} {A : Option Addr} {l : List Int} (h : w.ownsRow B 33 1 (.slice A k c) k (l.map idI)) (hk : l.length = k) : Ids w A k l := by
  refine ⟨hk, fun hpos => ?_⟩
  rcases h.2 with ⟨_, h0⟩ | ⟨g, cap, cur, hv, hb, hg, _⟩
  · omega
  · cases hv
    refine ⟨g, 0, rfl, (Array.getElem?_eq_some_iff.1 hg).1, fun i x hi => ?_⟩
    have c1 := h.cells (g := g) rfl i (idI x) (by simp [hi])
    rw [add_row] at c1
    rw [Nat.zero_add]
    exact c1
theorem map_idV (l : List Hd) : l.map idV = (l.map Hd.id).map idI := by simp [idV, idI, Function.comp_def]
theorem toIds {f : FuncId} {args : Array Value} {w : World} {l : List Hd} (h : Calls Try.prog f args w fun e w' => ∃ v, e = .returned v ∧ Below w.heap.size w w' ∧ w'.ownsRow w.heap.size 33 1 v l.length (l.map idV)) :
    Calls Try.prog f args w fun e w' => ∃ A c, e = .returned (.slice A l.length c) ∧ Below w.heap.size w w' ∧ Ids w' A l.length (l.map Hd.id) := by
  refine h.mono ?_
  rintro e w' ⟨v, rfl, hb, hr⟩
  obtain ⟨A, c, rfl⟩ := own_slice hr
  rw [map_idV] at hr
  exact ⟨A, c, rfl, hb, Ids.own hr (by simp)⟩
theorem partTo_both (named : List Plc) (x : Hd) : ∀ m, (partTo named x true m).length + (partTo named x false m).length = m
  | 0 => rfl
  | m + 1 => by
    have ih := partTo_both named x m
    simp only [partTo, List.length_append]
    by_cases h : decide ((x.id, (m : Int)) ∈ named) = true
    · rw [if_pos h, if_neg (by rw [h]; decide)]; simp; omega
    · rw [if_neg h, if_pos (by simpa using h)]; simp; omega
def sumN : List Hd → Nat
  | [] => 0
  | x :: r => x.n + sumN r
theorem sumN_snoc (x : Hd) : ∀ l, sumN (l ++ [x]) = sumN l + x.n
  | [] => by simp [sumN]
  | y :: r => by simp [sumN, sumN_snoc x r]; omega
theorem allP_both (named : List Plc) : ∀ hs, (allP named true hs).length + (allP named false hs).length = sumN hs
  | [] => rfl
  | x :: r => by
    have ih := allP_both named r
    have h1 := partTo_both named x x.n
    have e1 : ∀ b, (allP named b (x :: r)).length = (part named x b).length + (allP named b r).length := fun b => by simp [allP]
    rw [e1, e1]
    unfold part
    simp only [sumN]
    omega
theorem sumN_le : ∀ {hs : List Hd} {b : Nat}, (∀ x ∈ hs, x.n ≤ b) → sumN hs ≤ b * hs.length
  | [], _, _ => by simp [sumN]
  | x :: r, b, h => by
    have ih := sumN_le (hs := r) (b := b) (fun y hy => h y (by simp [hy]))
    have := h x (by simp)
    simp only [sumN, List.length_cons]
    rw [Nat.mul_add]
    omega
theorem sumN_take {hs : List Hd} {k : Nat} {x : Hd} (hx : hs[k]? = some x) : sumN (hs.take (k + 1)) = sumN (hs.take k) + x.n := by
  rw [List.take_add_one, hx]
  exact sumN_snoc x (hs.take k)
/-- nothing is left to be done: as the law says it -/
theorem doneB_eq {named : List Plc} {hs : List Hd} (hm : May hs) : doneB named hs = (decide ((allP named false hs).length = 0) && decide ((pick isEmpty named hs).length = 0)) := by
  by_cases h : ∀ x ∈ hs, Fine named x
  · rw [doneB_yes ⟨hm, h⟩]
    have e1 : (allP named false hs).length = 0 := by
      rw [List.length_eq_zero_iff]
      unfold allP
      rw [List.flatMap_eq_nil_iff]
      intro x hx
      exact List.length_eq_zero_iff.1 (h x hx).1
    have e2 : pick isEmpty named hs = [] := by
      unfold pick
      rw [List.filter_eq_nil_iff]
      intro x hx
      have := (h x hx).2
      simp [isEmpty] at this ⊢
      simpa using this
    rw [e1, e2]
    rfl
  · rw [doneB_no fun hh => h hh.2]
    symm
    rw [Bool.and_eq_false_iff, decide_eq_false_iff_not, decide_eq_false_iff_not]
    by_cases e1 : (allP named false hs).length = 0
    · right
      intro e2
      refine h fun x hx => ⟨?_, fun e3 => ?_⟩
      · rw [List.length_eq_zero_iff] at e1 ⊢
        unfold allP at e1
        rw [List.flatMap_eq_nil_iff] at e1
        exact e1 x hx
      · have e4 : x ∈ pick isEmpty named hs := by
          unfold pick
          rw [List.mem_filter]
          exact ⟨hx, by simp [isEmpty, e3]⟩
        rw [List.length_eq_zero_iff] at e2
        rw [e2] at e4
        cases e4
    · exact .inl e1
theorem inOk_few {w : World} {A : Option Addr} {n : Nat} {hs : List Hd} {B : Option Addr} {m : Nat} {named : List Plc} (h : Hds w A n hs) (hi : ∀ x ∈ hs, (Lit.int .u32 x.id).wf = true) (hp : Pls w B m named) (hok : ∀ p ∈ named, PlcOk p)
    (hn : n ≤ 12) (hm : m ≤ 60) (hx : ∀ x ∈ hs, x.n ≤ 20) : InOk w A n hs B m named :=
  ⟨h, ⟨by rw [h.len]; omega, fun x hh => by have := hx x hh; omega⟩, hi, hp, hok, by omega⟩
end Go.Proofs.Ytgdljjoaiogpfaa
