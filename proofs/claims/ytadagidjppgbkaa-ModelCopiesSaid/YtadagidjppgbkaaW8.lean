/- The plain law: two models are the same where the reference's rows are one; and the state of ModelCopies. -/
import Derived.Test.YtadagidjppgbkaaM14
namespace Go.Proofs.Ytadagidjppgbkaa
open Go.RowKit Go.Maps Go.Sort
theorem sameB_eq {s1 s2 : Md} {L1 L2 : List Named} (k1 : keysOf s1.D = namesL L1) (k2 : keysOf s2.D = namesL L2) (h1 : Look s1 L1) (h2 : Look s2 L2) (r1 : Srt L1) (r2 : Srt L2) : sameB s1 s2 = decide (L1 = L2) := by
  unfold sameB
  rw [k1, k2]
  by_cases h : L1 = L2
  · subst h
    have hd : (namesL L1).any (dif s1 s2) = false := by
      rw [List.any_eq_false]
      intro k hk
      obtain ⟨x, hx, rfl⟩ := List.mem_map.1 hk
      obtain ⟨i, hi⟩ := List.getElem?_of_mem hx
      have hl := lookL_of_get r1 hi
      simp [dif, (h1 x.1).2 _ hl, (h2 x.1).2 _ hl]
    simp [hd]
  · rw [decide_eq_false h]
    by_cases hn : namesL L1 = namesL L2
    · rw [decide_eq_true hn, Bool.true_and]
      have hlen : L1.length = L2.length := by have := congrArg List.length hn; simpa [namesL] using this
      have : ∃ i : Nat, L1[i]? ≠ L2[i]? := by
        false_or_by_contra
        rename_i hc
        exact h (List.ext_getElem? fun i => by
          false_or_by_contra
          rename_i hi
          exact hc ⟨i, hi⟩)
      obtain ⟨i, hi⟩ := this
      have hil : i < L1.length := by
        false_or_by_contra
        rename_i hc
        rw [List.getElem?_eq_none (by omega), List.getElem?_eq_none (by omega)] at hi
        exact hi rfl
      obtain ⟨x, hx⟩ : ∃ x, L1[i]? = some x := ⟨L1[i], by simp⟩
      obtain ⟨y, hy⟩ : ∃ y, L2[i]? = some y := ⟨L2[i]'(by omega), by simp⟩
      have hxy : x.1 = y.1 := by
        have := congrArg (·[i]?) hn
        simp only [namesL, List.getElem?_map, hx, hy, Option.map_some, Option.some.injEq] at this
        exact Go.WideShapes.bytes_inj this
      have hx2 : x.2 ≠ y.2 := fun e => hi (by rw [hx, hy, Prod.ext hxy e])
      have l1 := lookL_of_get r1 hx
      have l2 := lookL_of_get r2 hy
      have ha : (namesL L1).any (dif s1 s2) = true := by
        rw [List.any_eq_true]
        refine ⟨x.1.data.toList, List.mem_map.2 ⟨x, List.mem_of_getElem? hx, rfl⟩, ?_⟩
        have v1 := (h1 x.1).2 _ l1
        have v2 := (h2 y.1).2 _ l2
        rw [← hxy] at v2
        simp [dif, v1, v2, hx2]
      rw [ha]; rfl
    · rw [decide_eq_false hn]; rfl
/-- the reference's model behind so many calls, from one on -/
def runF (r : Rm) (cs : List CallT) : Nat → Rm
  | 0 => r
  | k + 1 => match cs[k]? with
    | some x => (runF r cs k).step x.op x.nm x.da
    | none => runF r cs k
theorem runF_succ {r : Rm} {cs : List CallT} {k : Nat} {x : CallT} (h : cs[k]? = some x) : runF r cs (k + 1) = (runF r cs k).step x.op x.nm x.da := by
  rw [runF, h]
/-- two models of the call's own, and two variables that hold the reference's -/
structure MC (w : World) (g b g2 b2 R1 R2 : Nat) (s s2 : Md) (r r2 : Rm) (A : Option Addr) (c : Nat) (A2 : Option Addr) (c2 : Nat) (W : World) : Prop where
  one : MdAt g b s W
  two : MdAt g2 b2 s2 W
  base : Below w.heap.size w W
  box1 : W.heap[R1]? = some (.cells (rmA A c r) 27)
  box2 : W.heap[R2]? = some (.cells (rmA A2 c2 r2) 27)
  nms1 : Nms W g b A r.L.length r.L
  nms2 : Nms W g b A2 r2.L.length r2.L
theorem MC.below {w : World} {g b g2 b2 R1 R2 : Nat} {s s2 : Md} {r r2 : Rm} {A : Option Addr} {c : Nat} {A2 : Option Addr} {c2 : Nat} {W W' : World} (h : MC w g b g2 b2 R1 R2 s s2 r r2 A c A2 c2 W) (hb : Below W.heap.size W W') : MC w g b g2 b2 R1 R2 s s2 r r2 A c A2 c2 W' :=
  ⟨h.one.below hb, h.two.below hb, h.base.trans (hb.mono h.base.size), (hb.block R1 (Array.getElem?_eq_some_iff.1 h.box1).1).trans h.box1, (hb.block R2 (Array.getElem?_eq_some_iff.1 h.box2).1).trans h.box2, h.nms1.below hb, h.nms2.below hb⟩
theorem Nms.pair {w : World} {g b g' b' : Nat} {A : Option Addr} {n : Nat} {L : List Named} (h : Nms w g b A n L) (hn : 0 < n → ∀ a, A = some a → a.block ≠ g' ∧ a.block ≠ b') : Nms w g' b' A n L :=
  ⟨h.1, h.2.1, fun h0 => by
    obtain ⟨r, o, e, hl, h1, h2, hc⟩ := h.2.2 h0
    obtain ⟨k1, k2⟩ := hn h0 _ e
    exact ⟨r, o, e, hl, k1, k2, hc⟩⟩
end Go.Proofs.Ytadagidjppgbkaa
