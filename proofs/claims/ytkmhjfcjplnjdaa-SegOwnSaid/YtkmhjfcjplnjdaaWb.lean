/- Words for memory: a row of segments that is written into. -/
import Derived.Test.YtkmhjfcjplnjdaaWa
import Derived.Maps.AppendAt
import Derived.Laws.AppendOwnNone
namespace Go.Proofs.Ytkmhjfcjplnjdaa
open Go.RowKit
set_option linter.unusedSimpArgs false
theorem below_cells {B : Nat} {a : World} (b : Nat) (hb : B ≤ b) : ∀ (vs : List Value) (o : Nat) {w : World}, Below B a w → Below B a (w.setCells b o vs)
  | [], _, _, h => h
  | v :: r, o, _, h => below_cells b hb r (o + 1) (h.setCell (p := ⟨b, o, none⟩) hb v)
theorem heap_cells_other (w : World) (g o : Nat) (vs : List Value) {i : Nat} (hi : i < w.heap.size) (hne : i ≠ g) : (w.setCells g o vs).heap[i]? = w.heap[i]? :=
  (World.keptBut_setCells g (may := fun p => p.block = g) vs o w (fun _ _ => rfl)).block hi (fun _ hp e => hne (e.symm.trans hp))
theorem heap_setCells_row {g : Nat} {t : TypeId} : ∀ (vs : List Value) (o : Nat) (w : World) (cur : Array Value), w.heap[g]? = some (.cells cur t (0, 0)) → ∃ cur', (w.setCells g o vs).heap[g]? = some (.cells cur' t (0, 0)) ∧ cur'.size = cur.size
  | [], _, _, cur, h => ⟨cur, h, rfl⟩
  | v :: r, o, w, cur, h => by
    obtain ⟨c2, h2, h3⟩ := heap_setCells_row r (o + 1) _ _ (heap_setCell_same w g o cur t v h)
    exact ⟨c2, h2, by rw [h3]; simp⟩
theorem set_isFp {s : List Fp} {k : Nat} {f : Fp} (h : ∀ x ∈ s, IsFp x) (hf : IsFp f) : ∀ x ∈ s.set k f, IsFp x := by
  intro x hx
  rcases List.mem_or_eq_of_mem_set hx with h1 | h1
  · exact h x h1
  · subst h1; exact hf
/-- one fingerprint is put into a segment -/
theorem OwnFps.set {w : World} {base g cap : Nat} {s : List Fp} (h : OwnFps w base g cap s) {k : Nat} {f : Fp} (hk : k < s.length) (hf : IsFp f) : OwnFps (w.setCells g (k * 32) (fpL f)) base g cap (s.set k f) := by
  have hall := set_isFp (k := k) h.2 hf
  refine ⟨⟨by rw [fpsL_length hall], ?_⟩, hall⟩
  rcases h.1.2 with ⟨hv, _⟩ | ⟨g', cap', cur, hv, hg, hh, hn, hc, hz, ht⟩
  · cases hv
  · injection hv with e1 e2 e3
    injection e1 with e1
    injection e1 with e1
    subst e1
    subst e3
    obtain ⟨cur', h1, h2⟩ := heap_setCells_row (fpL f) (k * 32) w cur hh
    refine .inr ⟨g, cap, cur', by rw [List.length_set], hg, h1, by rw [List.length_set]; exact hn, hc, by rw [h2]; exact hz, ?_⟩
    rw [List.length_set]
    apply List.ext_getElem?
    intro p
    have hl1 := fpsL_length h.2
    have hl2 := fpsL_length hall
    rw [List.length_set] at hl2
    have hfl := fpL_length hf
    rw [List.getElem?_take]
    by_cases hp : p < s.length * 32
    · rw [if_pos hp]
      have e1 : cur'.toList[p]? = (w.setCells g (k * 32) (fpL f)).cell? ⟨g, p, none⟩ := by rw [cell_of_row _ g p cur' 37 (0, 0) h1]; simp
      rw [e1]
      have e2 : p = p / 32 * 32 + p % 32 := by omega
      have e3 : (fpsL (s.set k f))[p]? = ((s.set k f)[p / 32]?).bind (fun f => (fpL f)[p % 32]?) := by
        conv => lhs; rw [e2]
        exact fpsL_get hall _ _ (Nat.mod_lt _ (by omega))
      rw [e3]
      by_cases hpk : p / 32 = k
      · have e4 : p = k * 32 + p % 32 := by omega
        conv => lhs; rw [e4]
        rw [World.cell?_setCells_in g (fpL f) (k * 32) w (fun j hj => ?_) (p % 32) (by rw [hfl]; exact Nat.mod_lt _ (by omega))]
        · rw [hpk, List.getElem?_set_self hk]
          simp
        · rw [cell_of_row w g (k * 32 + j) cur 37 (0, 0) hh]
          have q1 : (k + 1) * 32 ≤ s.length * 32 := Nat.mul_le_mul_right _ hk
          have q2 : s.length * 32 ≤ cap * 32 := Nat.mul_le_mul_right _ hn
          rw [Array.getElem?_eq_getElem (by omega)]
          rfl
      · rw [World.cell?_setCells_out g (fpL f) (k * 32) w ⟨g, p, none⟩ (fun _ _ => by rw [hfl]; show p < k * 32 ∨ k * 32 + 32 ≤ p; omega)]
        rw [List.getElem?_set_ne (fun e => hpk e.symm)]
        rw [cell_of_row w g p cur 37 (0, 0) hh]
        have e5 : cur[p]? = (fpsL s)[p]? := by rw [← ht, List.getElem?_take, if_pos hp]; simp
        rw [e5]
        conv => lhs; rw [e2]
        exact fpsL_get h.2 _ _ (Nat.mod_lt _ (by omega))
    · rw [if_neg hp, List.getElem?_eq_none (by rw [hl2]; omega)]

/-- a row of segments, each in a block of its own -/
structure SegsO (w : World) (base : Nat) (v : Value) (ss : List (List Fp)) (gs : List (Nat × Nat)) : Prop where
  len : gs.length = ss.length
  inj : ∀ (i j : Nat) (g g' : Nat × Nat), gs[i]? = some g → gs[j]? = some g' → g.1 = g'.1 → i = j
  row : w.ownsRow base 22 1 v ss.length (List.zipWith segV gs ss)
  own : ∀ (i : Nat) (g : Nat × Nat) (s : List Fp), gs[i]? = some g → ss[i]? = some s → OwnFps w base g.1 g.2 s
theorem SegsAt.o {w : World} {base : Nat} {v : Value} {ss : List (List Fp)} {gs : List (Nat × Nat)} (h : SegsAt w base v ss gs) : SegsO w base v ss gs := by
  refine ⟨h.1, ?_, h.2.2.1, h.2.2.2⟩
  intro i j g g' hi hj e
  obtain ⟨hil, hi2⟩ := List.getElem?_eq_some_iff.1 hi
  obtain ⟨hjl, hj2⟩ := List.getElem?_eq_some_iff.1 hj
  have hn := List.pairwise_iff_getElem.1 h.2.1
  rcases Nat.lt_trichotomy i j with hlt | rfl | hlt
  · have := hn i j (by simpa using hil) (by simpa using hjl) hlt
    simp [hi2, hj2] at this
    exact absurd e this
  · rfl
  · have := hn j i (by simpa using hjl) (by simpa using hil) hlt
    simp [hi2, hj2] at this
    exact absurd e.symm this
theorem SegsO.keep {w w' : World} {base : Nat} {v : Value} {ss : List (List Fp)} {gs : List (Nat × Nat)} (h : SegsO w base v ss gs) (hb : Below w.heap.size w w') : SegsO w' base v ss gs := by
  refine ⟨h.len, h.inj, ?_, fun i g s hg hs => (h.own i g s hg hs).kept (hb.block _ (h.own i g s hg hs).lt)⟩
  refine h.row.kept (row := none) ⟨hb.os, hb.tape, hb.output, hb.size, fun k hk _ => hb.block k hk⟩ ?_
  cases v.ownBlock <;> simp
theorem SegsO.get {w : World} {base : Nat} {v : Value} {ss : List (List Fp)} {gs : List (Nat × Nat)} (h : SegsO w base v ss gs) {i : Nat} {s : List Fp} (hs : ss[i]? = some s) :
    ∃ g cap gv cv, gs[i]? = some (g, cap) ∧ OwnFps w base g cap s ∧ v = .slice (some ⟨gv, 0, none⟩) ss.length cv ∧ base ≤ gv ∧ gv < w.heap.size ∧ w.cell? ⟨gv, i, none⟩ = some (.slice (some ⟨g, 0, none⟩) s.length cap) ∧ w.frozen? ⟨gv, i, none⟩ = false := by
  have hi : i < ss.length := (List.getElem?_eq_some_iff.1 hs).1
  obtain ⟨gv, cv, hv, hb, hlt⟩ := ownsRow_succ h.row (by omega)
  have h1 : gs[i]? = some (gs[i]'(by rw [h.len]; exact hi)) := List.getElem?_eq_getElem (by rw [h.len]; exact hi)
  have h3 : (List.zipWith segV gs ss)[i]? = some (segV (gs[i]'(by rw [h.len]; exact hi)) s) := by simp [List.getElem?_zipWith, h1, hs]
  have hc := h.row.cells (g := gv) (by rw [hv]; rfl) _ _ h3
  rw [Addr.add_mid, Nat.zero_add] at hc
  refine ⟨_, _, gv, cv, h1, h.own i _ _ h1 hs, hv, hb, hlt, hc, ?_⟩
  rcases h.row.2 with ⟨hv2, _⟩ | ⟨g', cap', cur, hv2, _, hh, _⟩
  · rw [hv] at hv2; cases hv2
  · rw [hv] at hv2
    injection hv2 with e1 e2 e3
    injection e1 with e1
    injection e1 with e1
    subst e1
    exact frozen_of_row w gv i cur 22 hh
theorem SegsO.other {w : World} {base : Nat} {v : Value} {ss : List (List Fp)} {gs : List (Nat × Nat)} (h : SegsO w base v ss gs) {g : Nat} {cur : Array Value} (hk : w.heap[g]? = some (.cells cur 37 (0, 0))) : v.ownBlock ≠ some g := by
  intro e
  rcases h.row.2 with ⟨hv, _⟩ | ⟨g', cap', cur', hv, _, hh, _⟩
  · rw [hv] at e; cases e
  · rw [hv] at e
    injection e with e
    subst e
    rw [hk] at hh
    injection hh with hh
    injection hh with _ h2
    cases h2
theorem zip_set {gs : List (Nat × Nat)} {ss : List (List Fp)} {i : Nat} (hi : i < ss.length) (hl : gs.length = ss.length) (g : Nat × Nat) (s : List Fp) : List.zipWith segV (gs.set i g) (ss.set i s) = (List.zipWith segV gs ss).set i (segV g s) := by
  apply List.ext_getElem?
  intro p
  by_cases hp : i = p
  · subst hp
    simp [List.getElem?_zipWith, List.getElem?_set_self, hi, hl]
  · simp [List.getElem?_zipWith, List.getElem?_set_ne hp]
theorem zip_same {gs : List (Nat × Nat)} {ss : List (List Fp)} {i k : Nat} {s : List Fp} {f : Fp} (hs : ss[i]? = some s) : List.zipWith segV gs (ss.set i (s.set k f)) = List.zipWith segV gs ss := by
  apply List.ext_getElem?
  intro p
  by_cases hp : i = p
  · subst hp
    have hi := (List.getElem?_eq_some_iff.1 hs).1
    simp only [List.getElem?_zipWith, List.getElem?_set_self hi, hs]
    cases gs[i]? with
    | none => rfl
    | some g => simp [segV]
  · simp [List.getElem?_zipWith, List.getElem?_set_ne hp]
/-- one fingerprint is put into one of the segments -/
theorem SegsO.setElem {w : World} {base : Nat} {v : Value} {ss : List (List Fp)} {gs : List (Nat × Nat)} (h : SegsO w base v ss gs) {i k g cap : Nat} {s : List Fp} {f : Fp} (hs : ss[i]? = some s) (hg : gs[i]? = some (g, cap)) (hk : k < s.length) (hf : IsFp f) :
    SegsO (w.setCells g (k * 32) (fpL f)) base v (ss.set i (s.set k f)) gs := by
  have hO := h.own i _ _ hg hs
  obtain ⟨_, cur, hcur⟩ := hO.block
  have hb := below_cells (B := 0) (a := w) g (Nat.zero_le _) (fpL f) (k * 32) (Below.refl 0 w)
  have hgr : w.grownBy (w.setCells g (k * 32) (fpL f)) (some g) := ⟨hb.os, hb.tape, hb.output, hb.size, fun q hq hne => heap_cells_other w g _ _ hq (fun e => hne (by rw [e]))⟩
  refine ⟨by rw [List.length_set]; exact h.len, h.inj, ?_, ?_⟩
  · rw [List.length_set, zip_same hs]
    exact h.row.kept hgr (.inr (h.other hcur))
  · intro q g1 s1 h1 h2
    by_cases hq : i = q
    · subst hq
      rw [hg] at h1
      injection h1 with h1
      subst h1
      rw [List.getElem?_set_self (List.getElem?_eq_some_iff.1 hs).1] at h2
      injection h2 with h2
      subst h2
      exact hO.set hk hf
    · rw [List.getElem?_set_ne hq] at h2
      have hO1 := h.own q _ _ h1 h2
      refine hO1.kept (hgr.block _ hO1.lt ?_)
      intro e
      injection e with e
      exact hq (h.inj i q _ _ hg h1 e.symm)
theorem ownsRow_set {w : World} {base e gv n cv : Nat} {xs : List Value} (h : w.ownsRow base e 1 (.slice (some ⟨gv, 0, none⟩) n cv) n xs) (i : Nat) (u : Value) : (w.setCell ⟨gv, i, none⟩ u).ownsRow base e 1 (.slice (some ⟨gv, 0, none⟩) n cv) n (xs.set i u) := by
  refine ⟨by rw [List.length_set]; exact h.1, ?_⟩
  rcases h.2 with ⟨hv, _⟩ | ⟨g', cap', cur, hv, hg, hh, hn, hc, hz, ht⟩
  · cases hv
  · injection hv with e1 e2 e3
    injection e1 with e1
    injection e1 with e1
    subst e1
    subst e3
    refine .inr ⟨gv, cv, _, rfl, hg, heap_setCell_same w gv i cur e u hh, hn, hc, by simpa using hz, ?_⟩
    rw [Array.toList_setIfInBounds, List.take_set, ht]
/-- one segment grows: the append, then its new value is put into the row -/
theorem SegsO.grow {w w1 w3 : World} {base : Nat} {v : Value} {ss : List (List Fp)} {gs : List (Nat × Nat)} (h : SegsO w base v ss gs) {i g cap gv cv g3 c3 : Nat} {s s3 : List Fp} (hs : ss[i]? = some s) (hg : gs[i]? = some (g, cap)) (hv : v = .slice (some ⟨gv, 0, none⟩) ss.length cv)
    (h1 : Below w.heap.size w w1) (hg3 : w1.grownBy w3 (some g)) (hO : OwnFps w3 base g3 c3 s3) (hat : g3 = g ∨ g3 = w1.heap.size) :
    SegsO (w3.setCell ⟨gv, i, none⟩ (.slice (some ⟨g3, 0, none⟩) s3.length c3)) base v (ss.set i s3) (gs.set i (g3, c3)) := by
  have hO0 := h.own i _ _ hg hs
  have hi := (List.getElem?_eq_some_iff.1 hs).1
  obtain ⟨_, cur, hcur⟩ := hO0.block
  have hne := h.other hcur
  have hK := h.keep h1
  have hK3 : w3.ownsRow base 22 1 v ss.length (List.zipWith segV gs ss) := hK.row.kept hg3 (.inr hne)
  have hgv : gv ≠ g := fun e => hne (by rw [hv, e]; rfl)
  have hgv3 : gv < w.heap.size := (h.row.lt gv (by rw [hv]; rfl)).2
  have hg3v : g3 ≠ gv := by
    rcases hat with e | e
    · omega
    · have := h1.size; omega
  refine ⟨by rw [List.length_set, List.length_set]; exact h.len, ?_, ?_, ?_⟩
  · intro a b x y ha hb e
    have hnew : ∀ q p, q ≠ i → gs[q]? = some p → p.1 ≠ g3 := by
      intro q p hq hp e
      have hpl : p.1 < w.heap.size := by
        have hql : q < ss.length := by rw [← h.len]; exact (List.getElem?_eq_some_iff.1 hp).1
        exact (h.own q _ _ hp (List.getElem?_eq_getElem hql)).lt
      rcases hat with e1 | e1
      · exact hq (h.inj q i _ _ hp hg (by rw [e, e1]))
      · have := h1.size; omega
    by_cases hai : i = a
    · by_cases hbi : i = b
      · omega
      · subst hai
        rw [List.getElem?_set_self (by rw [h.len]; exact hi)] at ha
        rw [List.getElem?_set_ne hbi] at hb
        injection ha with ha
        subst ha
        exact absurd e.symm (hnew b y (fun e => hbi e.symm) hb)
    · by_cases hbi : i = b
      · subst hbi
        rw [List.getElem?_set_self (by rw [h.len]; exact hi)] at hb
        rw [List.getElem?_set_ne hai] at ha
        injection hb with hb
        subst hb
        exact absurd e (hnew a x (fun e => hai e.symm) ha)
      · rw [List.getElem?_set_ne hai] at ha
        rw [List.getElem?_set_ne hbi] at hb
        exact h.inj a b x y ha hb e
  · rw [List.length_set, zip_set hi h.len, hv]
    rw [hv] at hK3
    exact ownsRow_set hK3 i _
  · intro q g1 s1 h2 h4
    have hset : ∀ {g2 c2 s2}, g2 ≠ gv → OwnFps w3 base g2 c2 s2 → OwnFps (w3.setCell ⟨gv, i, none⟩ (.slice (some ⟨g3, 0, none⟩) s3.length c3)) base g2 c2 s2 := fun hne hx => hx.kept (heap_setCell_other w3 _ _ _ hne)
    by_cases hq : i = q
    · subst hq
      rw [List.getElem?_set_self (by rw [h.len]; exact hi)] at h2
      rw [List.getElem?_set_self hi] at h4
      injection h2 with h2
      injection h4 with h4
      subst h2
      subst h4
      exact hset hg3v hO
    · rw [List.getElem?_set_ne hq] at h2
      rw [List.getElem?_set_ne hq] at h4
      have hx := hK.own q _ _ h2 h4
      have hxl := (h.own q _ _ h2 h4)
      obtain ⟨_, cur1, hcur1⟩ := hxl.block
      have hne1 := h.other hcur1
      refine hset (fun e => hne1 (by rw [hv, ← e]; rfl)) (hx.kept (hg3.block _ hx.lt ?_))
      intro e
      injection e with e
      exact hq (h.inj i q _ _ hg h2 e.symm)
section
variable {P : Program}
/-- an append of whatever there is: of nothing that was never made, too -/
theorem wpList_append_own_any {w : World} {ops : Array Oper} {rest : List Oper} {o : Oper} {a : Act} {Q : Exit → Act → World → Prop} (hgd : o.guard = none) (s x : Operand) (t : TypeId)
    (ho : o.op = .call { callee := .builtin .append, args := #[s, x], argTypes := #[t, t] })
    (base : Nat) (e : TypeId) (i : TypeInfo) (z : Value) (size bytes : Nat) (ht : P.underlying t = some (.slice e)) (hi : P.info? e = some i) (hz : i.zero = some z)
    (hsize : i.size = size) (hby : i.bytes = bytes) (hzs : z.cells.size = size) (hsz : 0 < size)
    (v : Value) (n : Nat) (xs : List Value) (hs : a.eval s = v) (hown : w.ownsRow base e size v n xs)
    (A : Option Addr) (m c : Nat) (news : List Value) (hx : a.eval x = .slice A m c) (hl : news.length = m * size) (hA : A = none → m = 0 ∧ c = 0) (hnews : ∀ ad, A = some ad → ∀ j u, news[j]? = some u → w.cell? (ad.add j) = some u) (h1 : ∀ u ∈ news, u.oneCell' = true)
    (h63 : n + m ≤ maxLen) (hbytes : (n + m) * bytes ≤ 140737488355328) (hbase : base ≤ w.heap.size)
    (h : ∀ v' w', w'.ownsRow base e size v' (n + m) (xs ++ news) → w.grownBy w' v.ownBlock → (v' = .slice none 0 0 ↔ v = .slice none 0 0 ∧ m = 0) → wpList P ops Q rest (a.put o.dst v') w') : wpList P ops Q (o :: rest) a w := by
  cases A with
  | none =>
    obtain ⟨rfl, rfl⟩ := hA rfl
    have hn : news = [] := List.eq_nil_of_length_eq_zero (by simpa using hl)
    subst hn
    exact wpList_append_own_none hgd s x t ho base e i size ht hi v n xs hs hown hx (h v w (by simpa using hown) ⟨rfl, rfl, rfl, Nat.le_refl _, fun _ _ _ => rfl⟩ (by simp))
  | some ad => exact wpList_append_own w hgd s x t ho base e i z size bytes ht hi hz hsize hby hzs hsz v n xs hs hown ad m c news hx hl (hnews ad rfl) h1 h63 hbytes hbase h
end
end Go.Proofs.Ytkmhjfcjplnjdaa
