/- Fingerprints as keys of a map. -/
import Derived.Test.YtnpgfhoagpeelaaAB
import Derived.Maps.OwnIn
import Derived.Maps.OwnSet
import Derived.Maps.OwnOps
import Derived.Maps.RangeWalk
import Derived.DeepKeys4
namespace Go.Proofs.Ytnpgfhoagpeelaa
open Go.RowKit
open Go.Maps
abbrev Tok := DataW Value
/-- how a value reads: as a token -/
def RV (v : Value) : Option (Tok × List MemPlace) := some (.held v, [])
theorem laidOk : laidOutB Try.prog = true := by kernel_rfl
theorem keyed47 : Keyed Try.prog 47 := Keyed.of_law (deep_law_laid laidOk (m := 2) (by omega) (of_decide_eq_true (by kernel_rfl)) (by kernel_rfl) (by kernel_rfl))
theorem keyTy47 : Try.prog.keyType 47 = true := by kernel_rfl
theorem c47 : Try.prog.cellsOf 47 = 32 := by kernel_rfl
theorem c5 : Try.prog.cellsOf 5 = 1 := by kernel_rfl
theorem mapM_some {α β : Type} {g : α → Option β} {h : α → β} : ∀ {l : List α}, (∀ x ∈ l, g x = some (h x)) → l.mapM g = some (l.map h)
  | [], _ => rfl
  | a :: r, hh => by
    rw [List.mapM_cons, hh a (List.mem_cons_self ..), mapM_some (fun x hx => hh x (List.mem_cons_of_mem _ hx))]
    rfl
theorem mapM_all {α β : Type} {g : α → Option β} : ∀ {l : List α} {r : List β}, l.mapM g = some r → ∀ x ∈ l, ∃ y, g x = some y
  | [], _, _, x, hx => by cases hx
  | a :: l, r, h, x, hx => by
    rw [List.mapM_cons] at h
    cases ha : g a with
    | none => rw [ha] at h; cases h
    | some y =>
      rw [ha] at h
      cases hl : l.mapM g with
      | none => rw [hl] at h; cases h
      | some ys =>
        rcases List.mem_cons.1 hx with rfl | hx
        · exact ⟨y, ha⟩
        · exact mapM_all hl x hx
theorem keyU8 (d : Nat) (z : Int) : Try.prog.keyLits (d + 1) 5 [.int .u8 z] = if (Lit.int .u8 z).wf = true then some [.int .u8 z] else none := by
  unfold Program.keyLits
  rw [Try.underlying5]
  simp
theorem wfU8 {z : Int} : (Lit.int .u8 z).wf = true ↔ 0 ≤ z ∧ z ≤ 255 := by
  have h1 : IntKind.u8.min = 0 := by decide
  have h2 : IntKind.u8.max = 255 := by decide
  simp [Lit.wf, h1, h2]
theorem take1 {α : Type} (l : List α) (i : Nat) (h : i < l.length) : (l.drop i).take 1 = [l[i]] := by
  rw [List.drop_eq_getElem_cons h]
  rfl
theorem lits47 {f : Fp} (h : IsFp f) (d : Nat) : Try.prog.keyLits (d + 2) 47 (fpL f) = some (((List.range 32).map fun i => [Lit.int .u8 (f.getD i 0)]).flatten) := by
  unfold Program.keyLits
  rw [Try.underlying47]
  simp only [c47, c5, fpL_length h, if_true]
  rw [mapM_some (h := fun i => [Lit.int .u8 (f.getD i 0)])]
  · rfl
  · intro i hi
    have hi32 : i < f.length := by rw [h.1]; exact List.mem_range.1 hi
    have e1 : ((fpL f).drop (i * 1)).take 1 = [.int .u8 (f.getD i 0)] := by
      rw [Nat.mul_one, take1 (fpL f) i (by rw [fpL_length h, ← h.1]; exact hi32)]
      simp [fpL, List.getElem?_eq_getElem hi32]
    rw [e1, keyU8, if_pos (wfU8.2 (by
      have := h.2 (f.getD i 0) (by rw [List.getD_eq_getElem?_getD, List.getElem?_eq_getElem hi32]; exact List.getElem_mem hi32)
      exact this))]
def fpKey (f : Fp) : Lit := .string (keyBytes (((List.range 32).map fun i => [Lit.int .u8 (f.getD i 0)]).flatten))
theorem keyOf_eq47 (v : Value) : keyOf Try.prog 47 v = (if Try.prog.keyType 47 && v.formed Try.prog 47 then (Try.prog.keyLits (Try.prog.types.size + 1) 47 v.cells.toList).map fun ls => .string (keyBytes ls) else none) := by
  have hu : ∃ n e, Try.prog.underlying 47 = some (.array n e) := ⟨_, _, Try.underlying47⟩
  obtain ⟨n, e, hu⟩ := hu
  unfold keyOf
  rw [hu]
theorem formed47 (cs : Array Value) : (Value.agg cs).formed Try.prog 47 = (cs.size == 32) := by
  unfold Value.formed
  rw [Try.underlying47, c47]
theorem types_pos : ∃ m, Try.prog.types.size + 1 = m + 2 := ⟨Try.prog.types.size - 1, by have hts : 0 < Try.prog.types.size := of_decide_eq_true (by kernel_rfl); omega⟩
theorem keyOf47 {f : Fp} (h : IsFp f) : keyOf Try.prog 47 (.agg (fpL f).toArray) = some (fpKey f) := by
  rw [keyOf_eq47, keyTy47, formed47]
  have e : ((fpL f).toArray.size == 32) = true := by simp [fpL_length h]
  obtain ⟨m, hm⟩ := types_pos
  rw [e, hm]
  have := lits47 h m
  simp only [Bool.and_self, if_true, Value.cells]
  rw [this]
  rfl
theorem fpKey_inj {f g : Fp} (hf : IsFp f) (hg : IsFp g) (h : fpKey f = fpKey g) : f = g := by
  have := keyed47.inj (keyOf47 hf) (by rw [h]; exact keyOf47 hg)
  simp only [Value.agg.injEq] at this
  exact fpL_inj (by simpa using this)
set_option maxRecDepth 100000 in
theorem keyOf47_inv {v : Value} {kl : Lit} (h : keyOf Try.prog 47 v = some kl) : ∃ f, IsFp f ∧ v = .agg (fpL f).toArray ∧ kl = fpKey f := by
  have h0 := h
  rw [keyOf_eq47] at h
  split at h
  case isFalse => cases h
  case isTrue hc =>
    rw [Bool.and_eq_true] at hc
    have hv : ∃ cs : Array Value, v = .agg cs ∧ cs.size = 32 := by
      have hf := hc.2
      cases v with
      | agg cs => rw [formed47] at hf; exact ⟨cs, rfl, by simpa using hf⟩
      | _ => unfold Value.formed at hf; rw [Try.underlying47] at hf; simp at hf
    obtain ⟨cs, rfl, hs⟩ := hv
    obtain ⟨m, hm⟩ := types_pos
    rw [hm] at h
    have hl : cs.toList.length = 32 := by simpa using hs
    unfold Program.keyLits at h
    rw [Try.underlying47] at h
    simp only [Value.cells, c47, c5, hl, if_true, Option.map_eq_some_iff] at h
    obtain ⟨ls, ⟨lss, hmm, rfl⟩, rfl⟩ := h
    have hall := mapM_all hmm
    have hcell : ∀ i, i < 32 → ∃ z, cs.toList[i]? = some (.int .u8 z) ∧ 0 ≤ z ∧ z ≤ 255 := fun i hi => by
      obtain ⟨y, hy⟩ := hall i (List.mem_range.2 hi)
      have hi2 : i < cs.toList.length := by omega
      have e1 : (cs.toList.drop (i * 1)).take 1 = [cs.toList[i]] := by
        rw [Nat.mul_one, take1 _ i hi2]
      rw [e1] at hy
      unfold Program.keyLits at hy
      rw [Try.underlying5] at hy
      rw [List.getElem?_eq_getElem hi2]
      cases hq : cs.toList[i] with
      | int k n =>
        rw [hq] at hy
        simp only at hy
        split at hy
        · rename_i hw
          obtain ⟨rfl, hw⟩ := hw
          exact ⟨n, rfl, wfU8.1 hw⟩
        · cases hy
      | _ => rw [hq] at hy; simp at hy
    refine ⟨cs.toList.map intOf, ⟨by simpa using hs, fun b hb => ?_⟩, ?_, ?_⟩
    · obtain ⟨v, hv, rfl⟩ := List.mem_map.1 hb
      obtain ⟨i, hi, rfl⟩ := List.mem_iff_getElem.1 hv
      obtain ⟨z, hz, h1, h2⟩ := hcell i (by omega)
      rw [List.getElem?_eq_getElem hi] at hz
      rw [Option.some.inj hz]
      exact ⟨h1, h2⟩
    · congr 1
      have e : fpL (cs.toList.map intOf) = cs.toList := by
        unfold fpL
        rw [List.map_map]
        apply List.ext_getElem?
        intro i
        rw [List.getElem?_map]
        by_cases hi : i < 32
        · obtain ⟨z, hz, _⟩ := hcell i hi
          rw [hz]; rfl
        · rw [List.getElem?_eq_none (by omega)]; rfl
      rw [e]
    · have e : fpL (cs.toList.map intOf) = cs.toList := by
        unfold fpL
        rw [List.map_map]
        apply List.ext_getElem?
        intro i
        rw [List.getElem?_map]
        by_cases hi : i < 32
        · obtain ⟨z, hz, _⟩ := hcell i hi
          rw [hz]; rfl
        · rw [List.getElem?_eq_none (by omega)]; rfl
      have hfp : IsFp (cs.toList.map intOf) := ⟨by simpa using hs, fun b hb => by
        obtain ⟨v, hv, rfl⟩ := List.mem_map.1 hb
        obtain ⟨i, hi, rfl⟩ := List.mem_iff_getElem.1 hv
        obtain ⟨z, hz, h1, h2⟩ := hcell i (by omega)
        rw [List.getElem?_eq_getElem hi] at hz
        rw [Option.some.inj hz]
        exact ⟨h1, h2⟩⟩
      have h2 := keyOf47 hfp
      rw [e] at h2
      have h3 : keyOf Try.prog 47 (.agg cs) = some (fpKey (cs.toList.map intOf)) := h2
      rw [h0] at h3
      exact Option.some.inj h3
theorem keyLit (f : Fp) : WideAt.IsKeyLit (fpKey f) := trivial
end Go.Proofs.Ytnpgfhoagpeelaa
