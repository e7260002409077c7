/- Words for memory: a slice that reads as a list of fingerprints. -/
import Derived.Test.YtkmhjfcjplnjdaaRows
import Derived.Test.YtkmhjfcjplnjdaaPlain
import Derived.WalkKit
import Derived.WalkSpells
import Derived.WalkLawsBesides
import Derived.Deep.MidRow
import Derived.Deep.QuietTactic
import Derived.BigQuiet
import Derived.Lib.Hide
import Derived.Deep.AppendLies
import Derived.Deep.Draws
import Derived.Deep.WholeRow
namespace Go.Proofs.Ytkmhjfcjplnjdaa
open Go.RowKit

def fpL (f : Fp) : List Value := f.map (Value.int .u8)
def fpA (f : Fp) : Array Value := (fpL f).toArray
theorem fpL_length {f : Fp} (h : IsFp f) : (fpL f).length = 32 := by simp [fpL, h.1]
theorem fpA_size {f : Fp} (h : IsFp f) : (fpA f).size = 32 := by simp [fpA, fpL_length h]
theorem fpL_one {f : Fp} : ∀ v ∈ fpL f, v.oneCell' = true := by
  intro v hv
  simp [fpL] at hv
  obtain ⟨b, _, rfl⟩ := hv
  rfl
theorem fpA_get {f : Fp} (h : IsFp f) (i : Nat) (hi : i < 32) : (fpA f)[i]? = some (.int .u8 (f[i]?.getD 0)) := by
  have : i < f.length := by rw [h.1]; exact hi
  simp [fpA, fpL, this]

/-- the slice value '.slice A n c' reads as the fingerprints fs; its cells lie below block B -/
def Fps (w : World) (B : Nat) (A : Option Addr) (n : Nat) (fs : List Fp) : Prop :=
  fs.length = n ∧ (∀ f ∈ fs, IsFp f) ∧ (0 < n → ∃ b o, A = some ⟨b, o, none⟩ ∧ b < B ∧ ∀ i f, fs[i]? = some f → w.rangeAt b (o + i * 32) (fpL f))

section
variable {w w' : World} {B B' n : Nat} {A : Option Addr} {fs : List Fp}
theorem Fps.keep (h : Fps w B A n fs) (hk : ∀ p : Addr, p.block < B → w'.cell? p = w.cell? p) : Fps w' B A n fs :=
  ⟨h.1, h.2.1, fun hn => by
    obtain ⟨b, o, e, hb, hc⟩ := h.2.2 hn
    exact ⟨b, o, e, hb, fun i f hf j v hv => (hk _ hb).trans (hc i f hf j v hv)⟩⟩
theorem Fps.more (h : Fps w B A n fs) (hB : B ≤ B') : Fps w B' A n fs :=
  ⟨h.1, h.2.1, fun hn => by
    obtain ⟨b, o, e, hb, hc⟩ := h.2.2 hn
    exact ⟨b, o, e, by omega, hc⟩⟩
theorem Fps.below (h : Fps w B A n fs) (hb : Below B w w') : Fps w' B A n fs := h.keep fun _ hp => hb.cell hp
theorem Fps.drew (h : Fps w B A n fs) : Fps w.drew B A n fs := h
theorem Fps.drewN (h : Fps w B A n fs) (k : Nat) : Fps (w.drewN k) B A n fs := h
theorem Fps.alloc (h : Fps w B A n fs) (hB : B ≤ w.heap.size) (o : Obj) : Fps (w.alloc o) B A n fs := h.keep fun p hp => World.cell?_alloc_lt w o p (by omega)
theorem Fps.take (h : Fps w B A n fs) {k : Nat} (hk : k ≤ n) : Fps w B A k (fs.take k) :=
  ⟨by rw [List.length_take, h.1]; omega, fun f hf => h.2.1 f (List.mem_of_mem_take hf), fun h0 => by
    obtain ⟨b, o, e, hb, hc⟩ := h.2.2 (by omega)
    refine ⟨b, o, e, hb, fun i f hf => hc i f ?_⟩
    rw [List.getElem?_take] at hf
    split at hf
    · exact hf
    · cases hf⟩
end

theorem _root_.Go.RowKit.Below.drewN {B : Nat} {a w : World} (h : Below B a w) (n : Nat) : Below B a (w.drewN n) := ⟨h.os, h.tape, h.output, h.size, h.block⟩
section
variable {P : Program}
/-- a whole array goes into the block that was made last -/
theorem wpList_store_new {ops : Array Oper} {rest : List Oper} {op : Oper} {a : Act} {w : World} {Q : Exit → Act → World → Prop} (hgd : op.guard = none) (ty : TypeId) (x y : Operand) (ho : op.op = .store ty x y)
    (c c' : Array Value) (hx : a.eval x = .pointer (some ⟨w.heap.size, 0, none⟩)) (hy : a.eval y = .agg c') (hi : (P.info? ty).map (·.size) = some c'.size) (hs : c.size = c'.size) (h1 : c'.all (·.oneCell') = true)
    (h : wpList P ops Q rest (a.put op.dst undef) (w.alloc (.cells c' ty))) : wpList P ops Q (op :: rest) a (w.alloc (.cells c ty)) :=
  wpList_plain hgd fun _ hK => by
    have hr := run_storeAt_new (P := P) w ty c c' hi hs h1
    unfold Oper.wp execOp
    simp only [ho, hx, hy, hr, Sem.run_bind, Sem.run_pure, Result.andThen_ok]
    exact hK _ _ h
/-- the array is read out of the block that was made last -/
theorem wpList_load_new {ops : Array Oper} {rest : List Oper} {op : Oper} {a : Act} {w : World} {Q : Exit → Act → World → Prop} (hgd : op.guard = none) (ty : TypeId) (x : Operand) (ho : op.op = .load ty x)
    (c : Array Value) (n : Nat) (e : TypeId) (hx : a.eval x = .pointer (some ⟨w.heap.size, 0, none⟩)) (hu : P.underlying ty = some (.array n e)) (hi : (P.info? ty).map (·.size) = some c.size)
    (h : wpList P ops Q rest (a.put op.dst (.agg c)) (w.alloc (.cells c ty))) : wpList P ops Q (op :: rest) a (w.alloc (.cells c ty)) :=
  wpList_plain hgd fun _ hK => by
    have hr := run_loadAt_new (P := P) w ty c n e hu hi
    unfold Oper.wp execOp
    simp only [ho, hx, hr, Sem.run_bind, Sem.run_pure, Result.andThen_ok]
    exact hK _ _ h
end
theorem info37 : (Try.prog.info? 37).map (·.size) = some 32 := by kernel_rfl

end Go.Proofs.Ytkmhjfcjplnjdaa
