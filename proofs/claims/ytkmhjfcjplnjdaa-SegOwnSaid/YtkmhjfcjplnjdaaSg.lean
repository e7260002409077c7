/- Words for memory: a row of segments, each in an array of its own. -/
import Derived.Test.YtkmhjfcjplnjdaaW2
namespace Go.Proofs.Ytkmhjfcjplnjdaa
open Go.RowKit

theorem ownsRow_succ {W : World} {base : Nat} {e : TypeId} {size : Nat} {v : Value} {k : Nat} {xs : List Value} (h : W.ownsRow base e size v k xs) (hk : 0 < k) :
    ∃ g cap, v = .slice (some ⟨g, 0, none⟩) k cap ∧ base ≤ g ∧ g < W.heap.size := by
  rcases h.2 with ⟨_, h0⟩ | ⟨g, cap, cur, hv, hb, hh, _⟩
  · omega
  · exact ⟨g, cap, hv, hb, (Array.getElem?_eq_some_iff.1 hh).1⟩
theorem ownsRow_base {W : World} {base base' : Nat} {e : TypeId} {size : Nat} {v : Value} {k : Nat} {xs : List Value} (h : W.ownsRow base e size v k xs) (hb : base' ≤ base) : W.ownsRow base' e size v k xs := by
  refine ⟨h.1, ?_⟩
  rcases h.2 with h0 | ⟨g, cap, cur, hv, hb', hr⟩
  · exact .inl h0
  · exact .inr ⟨g, cap, cur, hv, by omega, hr⟩

/-- the cells of some fingerprints, one behind the other -/
def fpsL (fs : List Fp) : List Value := fs.flatMap fpL
theorem fpsL_length {fs : List Fp} (h : ∀ f ∈ fs, IsFp f) : (fpsL fs).length = fs.length * 32 := by
  induction fs with
  | nil => rfl
  | cons f r ih =>
    have h1 := fpL_length (h f (by simp))
    have h2 := ih (fun g hg => h g (by simp [hg]))
    unfold fpsL at h2 ⊢
    rw [List.flatMap_cons, List.length_append, h1, h2, List.length_cons]; omega
theorem fpsL_one (fs : List Fp) : ∀ v ∈ fpsL fs, v.oneCell' = true := by
  intro v hv
  simp only [fpsL, List.mem_flatMap] at hv
  obtain ⟨f, _, hf⟩ := hv
  exact fpL_one v hf
theorem fpsL_get : ∀ {fs : List Fp} (_ : ∀ f ∈ fs, IsFp f) (i j : Nat), j < 32 → (fpsL fs)[i * 32 + j]? = (fs[i]?).bind (fun f => (fpL f)[j]?)
  | [], _, i, j, _ => by simp [fpsL]
  | f :: r, h, 0, j, hj => by
    have h1 := fpL_length (h f (by simp))
    show (List.flatMap fpL (f :: r))[0 * 32 + j]? = _
    rw [List.flatMap_cons, List.getElem?_append_left (by omega)]
    simp
  | f :: r, h, i + 1, j, hj => by
    have h1 := fpL_length (h f (by simp))
    have h2 := fpsL_get (fs := r) (fun g hg => h g (by simp [hg])) i j hj
    show (List.flatMap fpL (f :: r))[(i + 1) * 32 + j]? = _
    rw [List.flatMap_cons, List.getElem?_append_right (by omega), h1, show (i + 1) * 32 + j - 32 = i * 32 + j by omega]
    exact h2
/-- the cells that an append reads -/
theorem Fps.cells {w : World} {B n : Nat} {b o : Nat} {fs : List Fp} (h : Fps w B (some ⟨b, o, none⟩) n fs) (p m : Nat) :
    ∀ j u, (fpsL ((fs.drop p).take m))[j]? = some u → w.cell? ((⟨b, o + p * 32, none⟩ : Addr).add j) = some u := by
  intro j u hu
  have hq : ∀ f ∈ (fs.drop p).take m, IsFp f := fun f hf => h.2.1 f (List.mem_of_mem_drop (List.mem_of_mem_take hf))
  rw [show j = j / 32 * 32 + j % 32 by omega, fpsL_get hq _ _ (Nat.mod_lt _ (by omega))] at hu
  cases hf : ((fs.drop p).take m)[j / 32]? with
  | none => rw [hf] at hu; cases hu
  | some f =>
    rw [hf] at hu
    simp only [Option.bind_some] at hu
    rw [List.getElem?_take] at hf
    split at hf
    · rename_i hlt
      rw [List.getElem?_drop] at hf
      have hlen := h.1
      obtain ⟨b', o', e, _, hc⟩ := h.2.2 (by have := (List.getElem?_eq_some_iff.1 hf).1; omega)
      injection e with e
      injection e with e1 e2
      subst e1
      subst e2
      have := hc _ _ hf _ _ hu
      rw [Addr.add_mid]
      rw [show o + p * 32 + j = o + (p + j / 32) * 32 + j % 32 by omega]
      exact this
    · cases hf
theorem Fps.drop {w : World} {B n : Nat} {b o : Nat} {fs : List Fp} (h : Fps w B (some ⟨b, o, none⟩) n fs) (p : Nat) (hp : p ≤ n) : Fps w B (some ⟨b, o + p * 32, none⟩) (n - p) (fs.drop p) := by
  refine ⟨by rw [List.length_drop, h.1], fun f hf => h.2.1 f (List.mem_of_mem_drop hf), fun h0 => ?_⟩
  obtain ⟨b', o', e, hb, hc⟩ := h.2.2 (by omega)
  injection e with e
  injection e with e1 e2
  subst e1
  subst e2
  refine ⟨b, o + p * 32, rfl, hb, fun i f hf => ?_⟩
  rw [List.getElem?_drop] at hf
  have := hc _ _ hf
  rw [show o + p * 32 + i * 32 = o + (p + i) * 32 by omega]
  exact this

/-- a segment in an array of the call's own -/
def OwnFps (w : World) (base : Nat) (g cap : Nat) (s : List Fp) : Prop :=
  w.ownsRow base 37 32 (.slice (some ⟨g, 0, none⟩) s.length cap) s.length (fpsL s) ∧ ∀ f ∈ s, IsFp f
theorem OwnFps.fps {w : World} {base g cap : Nat} {s : List Fp} (h : OwnFps w base g cap s) {B : Nat} (hB : g < B) : Fps w B (some ⟨g, 0, none⟩) s.length s := by
  refine ⟨rfl, h.2, fun _ => ⟨g, 0, rfl, hB, fun i f hf j v hv => ?_⟩⟩
  have hj : j < 32 := by have := (List.getElem?_eq_some_iff.1 hv).1; rw [fpL_length (h.2 f (List.mem_of_getElem? hf))] at this; exact this
  have hx : (fpsL s)[i * 32 + j]? = some v := by rw [fpsL_get h.2 i j hj, hf]; exact hv
  have := h.1.cells (g := g) rfl _ _ hx
  rw [Addr.add_mid] at this
  rw [show 0 + i * 32 + j = 0 + (i * 32 + j) by omega]
  exact this
theorem OwnFps.kept {w w' : World} {base g cap : Nat} {s : List Fp} (h : OwnFps w base g cap s) (hb : w'.heap[g]? = w.heap[g]?) : OwnFps w' base g cap s := by
  refine ⟨⟨h.1.1, ?_⟩, h.2⟩
  rcases h.1.2 with ⟨hv, _⟩ | ⟨g', cap', cur, hv, hg, hh, hr⟩
  · cases hv
  · injection hv with e1 e2 e3
    injection e1 with e1
    injection e1 with e1
    subst e1
    subst e3
    exact .inr ⟨g, cap, cur, rfl, hg, hb.trans hh, hr⟩
theorem OwnFps.block {w : World} {base g cap : Nat} {s : List Fp} (h : OwnFps w base g cap s) : base ≤ g ∧ ∃ cur, w.heap[g]? = some (.cells cur 37 (0, 0)) := by
  rcases h.1.2 with ⟨hv, _⟩ | ⟨g', cap', cur, hv, hg, hh, hr⟩
  · cases hv
  · injection hv with e1 e2 e3
    injection e1 with e1
    injection e1 with e1
    subst e1
    exact ⟨hg, cur, hh⟩
theorem OwnFps.lt {w : World} {base g cap : Nat} {s : List Fp} (h : OwnFps w base g cap s) : g < w.heap.size := by
  obtain ⟨_, cur, hc⟩ := h.block
  exact (Array.getElem?_eq_some_iff.1 hc).1
theorem OwnFps.base {w : World} {base base' g cap : Nat} {s : List Fp} (h : OwnFps w base g cap s) (hb : base' ≤ base) : OwnFps w base' g cap s := ⟨ownsRow_base h.1 hb, h.2⟩

def segV (g : Nat × Nat) (s : List Fp) : Value := .slice (some ⟨g.1, 0, none⟩) s.length g.2
/-- the slice value v owns the row of the segments ss -/
def SegsAt (w : World) (base : Nat) (v : Value) (ss : List (List Fp)) (gs : List (Nat × Nat)) : Prop :=
  gs.length = ss.length ∧ (gs.map (·.1)).Nodup ∧ w.ownsRow base 22 1 v ss.length (List.zipWith segV gs ss) ∧ ∀ (i : Nat) (g : Nat × Nat) (s : List Fp), gs[i]? = some g → ss[i]? = some s → OwnFps w base g.1 g.2 s
theorem SegsAt.nil (w : World) (base : Nat) : SegsAt w base (.slice none 0 0) [] [] :=
  ⟨rfl, List.nodup_nil, World.ownsRow_nil _ _ _ _, fun i g s h => by simp at h⟩
/-- whatever leaves these blocks alone keeps them -/
theorem SegsAt.keep {w w' : World} {base : Nat} {v : Value} {ss : List (List Fp)} {gs : List (Nat × Nat)} (h : SegsAt w base v ss gs) (hb : Below w.heap.size w w') : SegsAt w' base v ss gs := by
  refine ⟨h.1, h.2.1, ?_, fun i g s hg hs => (h.2.2.2 i g s hg hs).kept (hb.block _ (h.2.2.2 i g s hg hs).lt)⟩
  refine h.2.2.1.kept (row := none) ⟨hb.os, hb.tape, hb.output, hb.size, fun k hk _ => hb.block k hk⟩ ?_
  cases v.ownBlock <;> simp
/-- one segment more -/
theorem SegsAt.push {w w' : World} {base : Nat} {v v' : Value} {ss : List (List Fp)} {gs : List (Nat × Nat)} (h : SegsAt w base v ss gs) {g cap : Nat} {s : List Fp} (hs : OwnFps w base g cap s) (hnew : ∀ p ∈ gs, p.1 ≠ g)
    (ho : w'.ownsRow base 22 1 v' (ss.length + 1) (List.zipWith segV gs ss ++ [.slice (some ⟨g, 0, none⟩) s.length cap])) (hg : w.grownBy w' v.ownBlock) : SegsAt w' base v' (ss ++ [s]) (gs ++ [(g, cap)]) := by
  have hne : ∀ (k : Nat) (cur : Array Value), w.heap[k]? = some (.cells cur 37 (0, 0)) → some k ≠ v.ownBlock := by
    intro k cur hk e
    rcases h.2.2.1.2 with ⟨hv, _⟩ | ⟨g', cap', cur', hv, _, hh, _⟩
    · rw [hv] at e; cases e
    · rw [hv] at e
      injection e with e
      subst e
      rw [hk] at hh
      injection hh with hh
      injection hh with _ h2
      cases h2
  refine ⟨by simp [h.1], ?_, ?_, ?_⟩
  · rw [List.map_append, List.nodup_append]
    refine ⟨h.2.1, by simp, ?_⟩
    intro a ha b hb e
    simp at hb
    obtain ⟨p, hp, rfl⟩ := List.mem_map.1 ha
    exact hnew p hp (e.trans hb)
  · rw [List.zipWith_append h.1]
    simpa [segV] using ho
  · intro i g1 s1 h1 h2
    have hkeep : ∀ {g2 c2 s2}, OwnFps w base g2 c2 s2 → OwnFps w' base g2 c2 s2 := by
      intro g2 c2 s2 hx
      obtain ⟨_, cur, hc⟩ := hx.block
      exact hx.kept (hg.block _ hx.lt (hne _ _ hc))
    by_cases hi : i < gs.length
    · rw [List.getElem?_append_left hi] at h1
      rw [List.getElem?_append_left (by rw [← h.1]; exact hi)] at h2
      exact hkeep (h.2.2.2 i g1 s1 h1 h2)
    · rw [List.getElem?_append_right (by omega)] at h1
      rw [List.getElem?_append_right (by rw [← h.1]; omega)] at h2
      have e1 : i - gs.length = 0 := by
        have := (List.getElem?_eq_some_iff.1 h1).1
        simp at this; omega
      rw [e1] at h1
      rw [← h.1, e1] at h2
      simp at h1 h2
      subst h1
      subst h2
      exact hkeep hs
theorem SegsAt.get {w : World} {base : Nat} {v : Value} {ss : List (List Fp)} {gs : List (Nat × Nat)} (h : SegsAt w base v ss gs) {i : Nat} (hi : i < ss.length) :
    ∃ g cap s gv cv, ss[i]? = some s ∧ gs[i]? = some (g, cap) ∧ OwnFps w base g cap s ∧ v = .slice (some ⟨gv, 0, none⟩) ss.length cv ∧ base ≤ gv ∧ gv < w.heap.size ∧ w.cell? ⟨gv, i, none⟩ = some (.slice (some ⟨g, 0, none⟩) s.length cap) := by
  obtain ⟨gv, cv, hv, hb, hlt⟩ := ownsRow_succ h.2.2.1 (by omega)
  have h1 : gs[i]? = some (gs[i]'(by rw [h.1]; exact hi)) := List.getElem?_eq_getElem (by rw [h.1]; exact hi)
  have h2 : ss[i]? = some (ss[i]) := List.getElem?_eq_getElem hi
  refine ⟨_, _, _, gv, cv, h2, h1, h.2.2.2 i _ _ h1 h2, hv, hb, hlt, ?_⟩
  have h3 : (List.zipWith segV gs ss)[i]? = some (segV (gs[i]'(by rw [h.1]; exact hi)) ss[i]) := by simp [List.getElem?_zipWith, h1, h2]
  have := h.2.2.1.cells (g := gv) (by rw [hv]; rfl) _ _ h3
  rw [Addr.add_mid, Nat.zero_add] at this
  exact this

theorem info37' : (Try.prog.info? 37).map (fun i => (i.zero, i.size, i.bytes)) = some (some (.agg (Array.replicate 32 (.int .u8 0))), 32, 32) := by kernel_rfl
theorem info22 : (Try.prog.info? 22).map (fun i => (i.zero, i.size, i.bytes)) = some (some (.slice none 0 0), 1, 24) := by kernel_rfl
theorem info3 : (Try.prog.info? 3).map (fun i => (i.zero, i.size, i.bytes)) = some (some (.int .i64 0), 1, 8) := by kernel_rfl
end Go.Proofs.Ytkmhjfcjplnjdaa
