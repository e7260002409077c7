/- The walk over ModelPieces. -/
import Derived.Test.YtadagidjppgbkaaM7
namespace Go.Proofs.Ytadagidjppgbkaa
open Go.RowKit Go.Maps Go.Sort
/-- the slice value reads as strings -/
def Strs (w : World) (B : Nat) (A : Option Addr) (n : Nat) (ls : List ByteArray) : Prop :=
  ls.length = n ∧ (∀ s ∈ ls, s.size ≤ maxLen) ∧ (0 < n → ∃ b o, A = some ⟨b, o, none⟩ ∧ b < B ∧ ∀ (i : Nat) (s : ByteArray), ls[i]? = some s → w.cell? ⟨b, o + i, none⟩ = some (.string s))
theorem Strs.below {w w' : World} {B n : Nat} {A : Option Addr} {ls : List ByteArray} (h : Strs w B A n ls) (hb : Below B w w') : Strs w' B A n ls :=
  ⟨h.1, h.2.1, fun hn => by
    obtain ⟨b, o, e, hl, hc⟩ := h.2.2 hn
    exact ⟨b, o, e, hl, fun i s hi => (hb.cell (p := ⟨b, o + i, none⟩) hl).trans (hc i s hi)⟩⟩
theorem ownsMap_block {w w' : World} {b n : Nat} {D : DataW Unit} (h : w.ownsMap Try.prog 9 (plainElem Try.prog 9) b n D) (hb : w'.heap[b]? = w.heap[b]?) : w'.ownsMap Try.prog 9 (plainElem Try.prog 9) b n D := by
  obtain ⟨es, clock, h1, h2⟩ := h
  exact ⟨es, clock, hb.trans h1, h2⟩
theorem MdAt.turn {g b g2 b2 : Nat} {s : Md} {w w' : World} (h : MdAt g b s w) (ht : Turn g2 b2 w w') (h1 : g ≠ g2) (h2 : g ≠ b2) (h3 : b ≠ g2) (h4 : b ≠ b2) : MdAt g b s w' :=
  ⟨(ht.block g h.lt.1 h1 h2).trans h.1, ownsMap_block h.2 (ht.block b h.lt.2 h3 h4)⟩
/-- a model under way: its name, its bytes -/
def stO (nm al : ByteArray) : Md := ⟨.map [], 0, true, nm, al⟩
def stK (nm al : ByteArray) : Md := ⟨.map [(.string nm.data.toList, .lit (.string al.data.toList))], 1, false, ByteArray.empty, ByteArray.empty⟩
theorem begun_stO {nm : ByteArray} (h1 : 1 ≤ nm.size) (h2 : nm.size ≤ 48) : beginE st0 nm = 0 ∧ st0.begun nm = stO nm ByteArray.empty := by
  have : beginE st0 nm = 0 := by
    rw [beginE, if_neg (by simp [st0]), if_neg (by omega), if_neg (by simp [has, st0, Maps.has]), if_neg (by simp [st0, Maps.size])]
  refine ⟨this, ?_⟩
  rw [Md.begun, if_pos this]; rfl
theorem wrote_stO {nm al da : ByteArray} (h : al.size + da.size ≤ 1048576) : writeE (stO nm al) da = 0 ∧ (stO nm al).wrote da = stO nm (al ++ da) := by
  have : writeE (stO nm al) da = 0 := by
    rw [writeE, if_neg (by simp [stO]), if_neg (by show ¬ 1048576 < al.size + da.size; omega)]
  refine ⟨this, ?_⟩
  rw [Md.wrote, if_pos this]; rfl
theorem ended_stO (nm al : ByteArray) : endE (stO nm al) = 0 ∧ (stO nm al).ended true = stK nm al := by
  refine ⟨by rw [endE, if_neg (by simp [stO])], ?_⟩
  rw [Md.ended, if_neg (by simp [stO]), if_pos rfl]; rfl
theorem has_stK (nm al : ByteArray) : has (stK nm al) nm = true := by simp [has, stK, Maps.has, Lit.sameKey]
theorem val_stK (nm al : ByteArray) : valOf (stK nm al) nm = al := by simp [valOf, stK, DataW.atKey, Lit.sameKey]
/-- two models of the call's own -/
structure Two (w : World) (g b g2 b2 : Nat) (s s2 : Md) (W : World) : Prop where
  one : AwAt w g b s W
  two : AwAt w g2 b2 s2 W
  ne : g ≠ g2 ∧ g ≠ b2 ∧ b ≠ g2 ∧ b ≠ b2
theorem Two.left {w : World} {g b g2 b2 : Nat} {s s' s2 : Md} {W W' : World} (h : Two w g b g2 b2 s s2 W) (hm : MdAt g b s' W') (ht : Turn g b W W') : Two w g b g2 b2 s' s2 W' :=
  ⟨h.one.turn hm ht, ⟨h.two.1.turn ht (Ne.symm h.ne.1) (Ne.symm h.ne.2.2.1) (Ne.symm h.ne.2.1) (Ne.symm h.ne.2.2.2), (h.one.turn hm ht).2.1, h.two.2.2⟩, h.ne⟩
theorem Two.right {w : World} {g b g2 b2 : Nat} {s s' s2 : Md} {W W' : World} (h : Two w g b g2 b2 s s2 W) (hm : MdAt g2 b2 s' W') (ht : Turn g2 b2 W W') : Two w g b g2 b2 s s' W' :=
  ⟨⟨h.one.1.turn ht h.ne.1 h.ne.2.1 h.ne.2.2.1 h.ne.2.2.2, (h.two.turn hm ht).2.1, h.one.2.2⟩, h.two.turn hm ht, h.ne⟩
theorem Two.below {w : World} {g b g2 b2 : Nat} {s s2 : Md} {W W' : World} (h : Two w g b g2 b2 s s2 W) (hb : Below W.heap.size W W') : Two w g b g2 b2 s s2 W' :=
  h.left (h.one.1.below hb) (Turn.of_below hb)
theorem AwAt.second {w : World} {g b : Nat} {s : Md} {W W' : World} (h : AwAt w g b s W) {g2 b2 : Nat} {s2 : Md} (hb : Below W.heap.size W W') (hg : W.heap.size ≤ g2) (hb2 : W.heap.size ≤ b2) (hm : MdAt g2 b2 s2 W') : Two w g b g2 b2 s s2 W' := by
  have hl := h.1.lt
  have hs := h.2.1.size
  have h1 := h.2.1.trans (hb.mono hs)
  exact ⟨⟨h.1.below hb, h1, h.2.2⟩, ⟨hm, h1, by omega, by omega⟩, by omega, by omega, by omega, by omega⟩
end Go.Proofs.Ytadagidjppgbkaa
