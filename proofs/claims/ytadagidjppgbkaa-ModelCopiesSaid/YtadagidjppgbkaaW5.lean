/- The walk over model.Run. -/
import Derived.Test.YtadagidjppgbkaaW4
import Derived.Test.YtadagidjppgbkaaOp3
namespace Go.Proofs.Ytadagidjppgbkaa
open Go.RowKit Go.Maps Go.Sort
/-- the slice value reads as calls -/
def Cls (w : World) (B : Nat) (A : Option Addr) (n : Nat) (ls : List CallT) : Prop :=
  ls.length = n ∧ (∀ x ∈ ls, x.nm.size ≤ maxLen ∧ x.da.size ≤ maxLen) ∧ (0 < n → ∃ b o, A = some ⟨b, o, none⟩ ∧ b < B ∧ ∀ (i : Nat) (x : CallT), ls[i]? = some x →
    w.cell? ⟨b, o + i * 3, none⟩ = some (.int .i64 x.op) ∧ w.cell? ⟨b, o + i * 3 + 1, none⟩ = some (.string x.nm) ∧ w.cell? ⟨b, o + i * 3 + 2, none⟩ = some (.string x.da))
theorem Cls.below {w w' : World} {B n : Nat} {A : Option Addr} {ls : List CallT} (h : Cls w B A n ls) (hb : Below B w w') : Cls w' B A n ls :=
  ⟨h.1, h.2.1, fun hn => by
    obtain ⟨b, o, e, hl, hc⟩ := h.2.2 hn
    refine ⟨b, o, e, hl, fun i x hi => ?_⟩
    obtain ⟨h0, h1, h2⟩ := hc i x hi
    exact ⟨(hb.cell (p := ⟨b, o + i * 3, none⟩) hl).trans h0, (hb.cell (p := ⟨b, o + i * 3 + 1, none⟩) hl).trans h1, (hb.cell (p := ⟨b, o + i * 3 + 2, none⟩) hl).trans h2⟩⟩
/-- the reference's model behind so many calls -/
def runAt (cs : List CallT) : Nat → Rm
  | 0 => rm0
  | k + 1 => match cs[k]? with
    | some x => (runAt cs k).step x.op x.nm x.da
    | none => runAt cs k
theorem runAt_succ {cs : List CallT} {k : Nat} {x : CallT} (h : cs[k]? = some x) : runAt cs (k + 1) = (runAt cs k).step x.op x.nm x.da := by
  rw [runAt, h]
/-- a reply in memory -/
structure RepT where
  a : Ans
  v : Value
def repsL (l : List RepT) : List Value := l.flatMap fun x => [.int .i64 x.a.E, .string x.a.D, x.v]
theorem repsL_snoc (l : List RepT) (x : RepT) : repsL (l ++ [x]) = repsL l ++ [.int .i64 x.a.E, .string x.a.D, x.v] := by simp [repsL]
theorem repsL_get : ∀ (l : List RepT) (i : Nat) (x : RepT), l[i]? = some x → (repsL l)[i * 3]? = some (.int .i64 x.a.E) ∧ (repsL l)[i * 3 + 1]? = some (.string x.a.D) ∧ (repsL l)[i * 3 + 2]? = some x.v
  | [], i, x, h => by simp at h
  | y :: l, 0, x, h => by simp at h; subst h; simp [repsL]
  | y :: l, i + 1, x, h => by
    simp at h
    obtain ⟨h0, h1, h2⟩ := repsL_get l i x h
    have e : ∀ j, (repsL (y :: l))[(i + 1) * 3 + j]? = (repsL l)[i * 3 + j]? := fun j => by
      show (List.flatMap _ (y :: l))[(i + 1) * 3 + j]? = _
      rw [List.flatMap_cons, List.getElem?_append_right (by simp; omega)]
      simp [repsL, show (i + 1) * 3 + j - 3 = i * 3 + j by omega]
    have e0 := e 0
    simp only [Nat.add_zero] at e0
    rw [e0, e 1, e 2]
    exact ⟨h0, h1, h2⟩
/-- each reply's names are there -/
def RepsOk (w : World) (B : Nat) (cs : List CallT) (l : List RepT) : Prop :=
  ∀ i x, l[i]? = some x → w.ownsRow B 9 1 x.v x.a.ks.length (x.a.ks.map encStr) ∧ ∃ c, cs[i]? = some c ∧ x.a = (runAt cs i).ans c.op c.nm c.da
theorem row_ne {w w' : World} {base B n m g : Nat} {v : Value} {xs : List Value} (h : w.ownsRow B 9 1 v n xs) {cap : Nat} {ys : List Value} (ho : w.ownsRow base 39 3 (.slice (some ⟨g, 0, none⟩) m cap) m ys) (hg : w.grownBy w' (some g)) : w'.ownsRow B 9 1 v n xs := by
  rcases h.2 with h2 | ⟨r, c, cur, hv, hbr, hh, hrest⟩
  · exact ⟨h.1, .inl h2⟩
  · refine ⟨h.1, .inr ⟨r, c, cur, hv, hbr, (hg.block r (Array.getElem?_eq_some_iff.1 hh).1 ?_).trans hh, hrest⟩⟩
    intro e
    injection e with e
    subst e
    rcases ho.2 with ⟨h3, _⟩ | ⟨r', c', cur', hv', _, hh', _⟩
    · simp at h3
    · injection hv' with e1 e2 e3
      injection e1 with e1
      injection e1 with e1
      subst e1
      rw [hh] at hh'
      injection hh' with hh'
      injection hh' with _ h4 _
      simp at h4
theorem info39' : (Try.prog.info? 39).map (fun i => (i.zero, i.size, i.bytes)) = some (some (.agg #[.int .i64 0, .string ByteArray.empty, .slice none 0 0]), 3, 48) := by kernel_rfl
end Go.Proofs.Ytadagidjppgbkaa
