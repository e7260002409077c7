/- The arguments opened. -/
import Derived.Test.YtnpgfhoagpeelaaBC
import Derived.Deep.Slices
import Derived.ShutString
import Derived.ChangeOld
import Derived.OpenShut
import Derived.ProofKit
namespace Go.Proofs.Ytnpgfhoagpeelaa
open Go.RowKit
open Go.ChangeShapes Go.WideShapes Go.ChangeAt Go.Deep
theorem idok_wf {x : Id} (h : (Lit.int .u32 x).wf = true) : IdOk x := by
  change (decide (IntKind.u32.min ≤ x) && decide (x ≤ IntKind.u32.max)) = true at h
  rw [Bool.and_eq_true, decide_eq_true_eq, decide_eq_true_eq] at h
  exact ⟨h.1, h.2⟩
theorem choose_list {α : Type} (P : Nat → α → Prop) : ∀ n : Nat, (∀ i, i < n → ∃ a, P i a) → ∃ l : List α, l.length = n ∧ ∀ i a, l[i]? = some a → P i a
  | 0, _ => ⟨[], rfl, fun i a h => by simp at h⟩
  | n + 1, h => by
    obtain ⟨l, hl, hp⟩ := choose_list P n (fun i hi => h i (by omega))
    obtain ⟨a, ha⟩ := h n (by omega)
    refine ⟨l ++ [a], by simp [hl], fun i b hb => ?_⟩
    by_cases hi : i < n
    · rw [List.getElem?_append_left (by omega)] at hb
      exact hp i b hb
    · rw [List.getElem?_append_right (by omega)] at hb
      have : i - l.length = 0 := by
        have := (List.getElem?_eq_some_iff.1 hb).1
        simp at this; omega
      rw [this] at hb
      simp at hb
      subst hb
      have : i = n := by omega
      subst this
      exact ha
theorem spot_of_cell {w : World} {a : Addr} {v : Value} (h : w.cell? a = some v) : a.spot = none := by
  unfold World.cell? at h
  cases hs : a.spot with
  | none => rfl
  | some s =>
    split at h
    · simp [hs] at h
    · cases h
/-- what a slice's cells read as, element by element -/
def RowsAt {α : Type} (W : World) (size : Nat) (Q : List Value → α → Prop) (A : Option Addr) (n : Nat) (ls : List α) : Prop :=
  ls.length = n ∧ (∀ x ∈ ls, ∃ cs, Q cs x ∧ cs.length = size) ∧ (0 < n → ∃ b o, A = some ⟨b, o, none⟩ ∧ b < W.heap.size ∧ ∀ (i : Nat) (x : α), ls[i]? = some x → ∃ cs, Q cs x ∧ cs.length = size ∧ ∀ j v, cs[j]? = some v → W.cell? ⟨b, o + i * size + j, none⟩ = some v)
section
variable {P : Program} {H : Type} {enc : TypeId × Value → H} {W : World} {held : Bool}
theorem rows_of_trod {α : Type} {base : Nat} {sp : Nat → Bool} (hsp : sp = fun _ => true) {t e : TypeId} {size fuel : Nat} {cs0 : List Value} {x : DataW H × List MemPlace} (ht : P.underlying t = some (.slice e)) (hc : P.cellsOf e = size) (hpos : 0 < size) (Q : List Value → α → Prop)
    (hel : ∀ fuel cs x, DataW.trod enc P W base sp held fuel e cs = some x → cs.length = size → ∃ a, Q cs a) (hf : DataW.trod enc P W base sp held fuel t cs0 = some x) :
    ∃ A n c ls, cs0 = [.slice A n c] ∧ RowsAt W size Q A n ls ∧ n ≤ c ∧ c ≤ 9223372036854775807 ∧ (A = none → c = 0) := by
  subst hsp
  rcases open_slice ht hf with ⟨hcs, _⟩ | ⟨a, n, c, m, n', D, Pl, hcs, hb, hl, hm, hmm, _, hi⟩
  · subst hcs
    exact ⟨none, 0, 0, [], rfl, ⟨rfl, fun f hf => by simp at hf, fun h0 => by omega⟩, Nat.le_refl _, by omega, fun _ => rfl⟩
  · subst hcs
    have hmm2 : m = c := by simpa using hmm
    clear hmm
    subst hmm2
    have hm2 : m ≤ 9223372036854775807 := by unfold maxLen at hm; omega
    have hex : ∀ i, i < n → ∃ f : α, ∃ cs, Q cs f ∧ cs.length = size ∧ ∀ j v, cs[j]? = some v → W.cell? (a.add (i * size + j)) = some v := by
      intro i hin
      obtain ⟨cs', hcc, htt⟩ := hi i (by omega)
      rw [hc] at hcc
      obtain ⟨_, hcl, hat⟩ := World.cells?_some hcc
      obtain ⟨f, hq⟩ := hel _ _ _ htt hcl
      refine ⟨f, cs', hq, hcl, fun j v hj => ?_⟩
      have hjs : j < size := by rw [← hcl]; exact (List.getElem?_eq_some_iff.1 hj).1
      have := hat j hjs
      rw [Go.Deep.add_add] at this
      rw [this, hj]
    obtain ⟨fs, hfl, hfs⟩ := choose_list _ n hex
    refine ⟨some a, n, _, fs, rfl, ⟨hfl, fun f hf => ?_, fun h0 => ?_⟩, hl, hm2, fun e => by cases e⟩
    · obtain ⟨i, hi, rfl⟩ := List.getElem_of_mem hf
      obtain ⟨cs, h1, h2, _⟩ := hfs i fs[i] (List.getElem?_eq_getElem hi)
      exact ⟨cs, h1, h2⟩
    · have h1 : fs[0]? = some (fs[0]'(by omega)) := List.getElem?_eq_getElem _
      obtain ⟨cs, h2, h3, h4⟩ := hfs 0 _ h1
      have h5 := h4 0 (cs[0]'(by omega)) (List.getElem?_eq_getElem _)
      have hsp : a.spot = none := by
        have := spot_of_cell h5
        simpa [Addr.add] using this
      obtain ⟨b, o, s⟩ := a
      simp at hsp
      subst hsp
      refine ⟨b, o, rfl, ?_, fun i f hf => ?_⟩
      · have := World.block_lt_of_cell? W _ h5
        simpa [Addr.add] using this
      · obtain ⟨cs, q1, q2, q3⟩ := hfs i f hf
        refine ⟨cs, q1, q2, fun j v hv => ?_⟩
        have := q3 j v hv
        rw [Addr.add_mid] at this
        rw [show o + i * size + j = o + (i * size + j) by omega]
        exact this
/-- a slice that came in, of elements that are read cell by cell -/
theorem open_rows {α : Type} {base : Nat} {t e : TypeId} {size : Nat} {v : Value} {d : DataW H} {p : List MemPlace} (ht : P.underlying t = some (.slice e)) (hc : P.cellsOf e = size) (hpos : 0 < size) (Q : List Value → α → Prop)
    (hel : ∀ fuel cs x, DataW.trod enc P W 0 (fun _ => true) held fuel e cs = some x → cs.length = size → ∃ a, Q cs a)
    (hv : Value.okWide P W .any base t v) (h : DataW.Trod enc P W 0 (fun _ => true) held t v d p) :
    ∃ A n c ls, v = .slice A n c ∧ RowsAt W size Q A n ls ∧ n ≤ c ∧ c ≤ 9223372036854775807 ∧ (A = none → c = 0) := by
  obtain ⟨A, n, c, rfl⟩ := okWide_slice ht hv
  obtain ⟨fuel, hf⟩ := h
  obtain ⟨A', n', c', ls, hcs, hr, h1, h2, h3⟩ := rows_of_trod rfl ht hc hpos Q hel hf
  simp [Value.cells] at hcs
  obtain ⟨rfl, rfl, rfl⟩ := hcs
  exact ⟨A, n, c, ls, rfl, hr, h1, h2, h3⟩
end

theorem cells29 : Try.prog.cellsOf 47 = 32 := by kernel_rfl
theorem cells30 : Try.prog.cellsOf 44 = 1 := by kernel_rfl
theorem cells24 : Try.prog.cellsOf 33 = 1 := by kernel_rfl
theorem cells5 : Try.prog.cellsOf 5 = 1 := by kernel_rfl
theorem row_of_rows {α : Type} {W : World} {size : Nat} {Q : List Value → α → Prop} {f : α → List Value} (hQ : ∀ cs x, Q cs x → cs = f x) (hf : ∀ x, (f x).length = size) {A : Option Addr} {n : Nat} {ls : List α} (h : RowsAt W size Q A n ls) (hs : 0 < size) : Row W A (ls.flatMap f) := by
  intro hne
  obtain ⟨hl, _, hr⟩ := h
  have hn : 0 < n := by
    rcases Nat.eq_zero_or_pos n with h0 | h0
    · rw [h0] at hl
      rw [List.length_eq_zero_iff.1 hl] at hne
      exact absurd rfl hne
    · exact h0
  obtain ⟨b, o, e, hb, hi⟩ := hr hn
  refine ⟨b, o, e, hb, fun j v hj => ?_⟩
  have hlt := (List.getElem?_eq_some_iff.1 hj).1
  rw [flat_len (fun x _ => hf x)] at hlt
  have hq : j / size < ls.length := Nat.div_lt_of_lt_mul (by rw [Nat.mul_comm]; exact hlt)
  obtain ⟨x, hx⟩ : ∃ x, ls[j / size]? = some x := ⟨_, List.getElem?_eq_getElem hq⟩
  obtain ⟨cs, h1, h2, h3⟩ := hi _ x hx
  have hm := Nat.mod_lt j hs
  have hjj : j / size * size + j % size = j := by rw [Nat.mul_comm]; exact Nat.div_add_mod j size
  obtain ⟨u, hu⟩ : ∃ u, (f x)[j % size]? = some u := ⟨_, List.getElem?_eq_getElem (by rw [hf]; exact hm)⟩
  have h4 := flat_get (fun x _ => hf x) (j / size) (j % size) x u hx hu
  rw [hjj, hj] at h4
  obtain rfl := Option.some.inj h4
  have h5 := h3 (j % size) v (by rw [hQ cs x h1]; exact hu)
  rw [Nat.add_assoc, hjj] at h5
  exact h5
section
variable {H : Type} {enc : TypeId × Value → H} {W : World} {base : Nat} {held : Bool} {sp : Nat → Bool}
/-- an array's cells are bytes -/
theorem fp_of_trod {fuel : Nat} {cs : List Value} {x : DataW H × List MemPlace} (h : DataW.trod enc Try.prog W base sp held fuel 47 cs = some x) : ∃ f : Fp, IsFp f ∧ cs = fpL f := by
  obtain ⟨xs, m, _, _, hl, hn, hi⟩ := DataW.trod_array Try.underlying47 h
  rw [cells29] at hl
  have hb : ∀ i, i < 32 → ∃ n : Int, cs[i]? = some (.int .u8 n) ∧ 0 ≤ n ∧ n ≤ 255 := by
    intro i hi32
    have h1 := hi i hi32
    rw [cells5] at h1
    have h2 : (cs.drop (i * 1)).take 1 = [cs[i]'(by omega)] := by
      rw [Nat.mul_one, List.drop_eq_getElem_cons (by omega)]; rfl
    rw [h2] at h1
    have h3 : xs[i]? = some (xs[i]'(by omega)) := List.getElem?_eq_getElem _
    obtain ⟨n, hc, _, hw⟩ := DataW.trod_int Try.underlying5 (h1.trans h3)
    refine ⟨n, ?_, bounds_u8 hw⟩
    rw [List.getElem?_eq_getElem (by omega)]
    injection hc with hc
    rw [hc]
  obtain ⟨f, hfl, hf⟩ := choose_list (fun i (n : Int) => cs[i]? = some (.int .u8 n) ∧ 0 ≤ n ∧ n ≤ 255) 32 hb
  refine ⟨f, ⟨hfl, fun b hb => ?_⟩, ?_⟩
  · obtain ⟨i, hi, rfl⟩ := List.getElem_of_mem hb
    exact (hf i f[i] (List.getElem?_eq_getElem hi)).2
  · apply List.ext_getElem?
    intro i
    by_cases h32 : i < 32
    · have h1 : f[i]? = some (f[i]'(by omega)) := List.getElem?_eq_getElem _
      rw [(hf i _ h1).1]
      simp [fpL, h1]
    · rw [List.getElem?_eq_none (by omega), List.getElem?_eq_none (by simp [fpL]; omega)]
def fpQ (cs : List Value) (f : Fp) : Prop := cs = fpL f ∧ IsFp f
def idQ (cs : List Value) (x : Id) : Prop := cs = [.int .u32 x] ∧ (Lit.int .u32 x).wf = true
theorem flat_ids (l : List Id) : (l.flatMap fun x => [Value.int .u32 x]) = idL l := by
  unfold idL
  induction l with
  | nil => rfl
  | cons a r ih => rw [List.flatMap_cons, ih]; rfl
theorem id_of_trod {fuel : Nat} {cs : List Value} {x : DataW H × List MemPlace} (h : DataW.trod enc Try.prog W base (fun _ => true) held fuel 33 cs = some x) : ∃ a, idQ cs a := by
  obtain ⟨n0, e0, _, w0⟩ := DataW.trod_int Try.underlying33 h
  exact ⟨n0, e0, w0⟩
theorem ids_of_rows {A : Option Addr} {n : Nat} {l : List Id} (hr : RowsAt W 1 idQ A n l) : Ids W A l ∧ ∀ x ∈ l, IdOk x := by
  refine ⟨?_, fun x hx => ?_⟩
  · have := row_of_rows (f := fun x => [Value.int .u32 x]) (fun _ _ q => q.1) (fun _ => rfl) hr (by decide)
    rw [flat_ids] at this
    exact this
  · obtain ⟨_, q, _⟩ := hr.2.1 x hx
    exact idok_wf q.2
theorem fps_of_rows {A : Option Addr} {n : Nat} {l : List Fp} (hr : RowsAt W 32 fpQ A n l) : Row W A (fsL l) := by
  intro hne
  obtain ⟨hl, hall, hrr⟩ := hr
  have hn : 0 < n := by
    rcases Nat.eq_zero_or_pos n with h0 | h0
    · rw [h0] at hl
      rw [List.length_eq_zero_iff.1 hl] at hne
      exact absurd rfl hne
    · exact h0
  have hfp : ∀ f ∈ l, IsFp f := fun f hf => by
    obtain ⟨_, q, _⟩ := hall f hf
    exact q.2
  obtain ⟨b, o, e, hb, hi⟩ := hrr hn
  refine ⟨b, o, e, hb, fun j v hj => ?_⟩
  have hlt := (List.getElem?_eq_some_iff.1 hj).1
  rw [fsL_len hfp] at hlt
  have hq : j / 32 < l.length := Nat.div_lt_of_lt_mul (by omega)
  obtain ⟨x, hx⟩ : ∃ x, l[j / 32]? = some x := ⟨_, List.getElem?_eq_getElem hq⟩
  obtain ⟨cs, h1, h2, h3⟩ := hi _ x hx
  have hm := Nat.mod_lt j (show 0 < 32 by decide)
  have hjj : j / 32 * 32 + j % 32 = j := by omega
  have hxl : (fpL x).length = 32 := fpL_length h1.2
  obtain ⟨u, hu⟩ : ∃ u, (fpL x)[j % 32]? = some u := ⟨_, List.getElem?_eq_getElem (by rw [hxl]; exact hm)⟩
  have h4 := flat_get (f := fpL) (n := 32) (fun f hf => fpL_length (hfp f hf)) (j / 32) (j % 32) x u hx hu
  rw [hjj] at h4
  change (fsL l)[j]? = some u at h4
  rw [hj] at h4
  obtain rfl := Option.some.inj h4
  have h5 := h3 (j % 32) v (by rw [h1.1]; exact hu)
  rw [show o + j / 32 * 32 + j % 32 = o + j by omega] at h5
  exact h5
set_option maxRecDepth 100000 in
theorem open_fps {v : Value} {d : DataW H} {p : List MemPlace} (hv : Value.okWide Try.prog W .any base 34 v) (h : DataW.Trod enc Try.prog W 0 (fun _ => true) held 34 v d p) :
    ∃ A c hs, v = .slice A hs.length c ∧ Fps W A hs ∧ AllFp hs := by
  obtain ⟨A, n, c, hs, rfl, hr, h1, h2, _⟩ := open_rows Try.underlying34 cells29 (by decide) fpQ (fun _ _ _ h _ => by
    obtain ⟨f, q1, q2⟩ := fp_of_trod h
    exact ⟨f, q2, q1⟩) hv h
  have hll := hr.1
  refine ⟨A, c, hs, by rw [hll], fps_of_rows hr, fun f hf => ?_⟩
  obtain ⟨_, q, _⟩ := hr.2.1 f hf
  exact q.2
set_option maxRecDepth 100000 in
theorem open_fp {v : Value} {d : DataW H} {p : List MemPlace} (hv : Value.okWide Try.prog W .any base 47 v) (h : DataW.Trod enc Try.prog W 0 (fun _ => true) held 47 v d p) : ∃ f : Fp, v = .agg (fpL f).toArray ∧ IsFp f := by
  have hu := Try.underlying47
  simp only [Value.okWide, hu] at hv
  obtain ⟨cs, rfl, _, _⟩ := hv
  obtain ⟨fuel, hf⟩ := h
  obtain ⟨f, h1, h2⟩ := fp_of_trod hf
  have h3 : cs.toList = fpL f := h2
  exact ⟨f, by rw [← h3], h1⟩
set_option maxRecDepth 100000 in
theorem open_u32 {v : Value} {d : DataW H} {p : List MemPlace} (hv : Value.okWide Try.prog W .any base 33 v) (h : DataW.Trod enc Try.prog W 0 (fun _ => true) held 33 v d p) : ∃ a : Int, v = .int .u32 a ∧ IdOk a := by
  obtain ⟨a, rfl⟩ := okWide_int Try.underlying33 hv
  obtain ⟨fuel, hf⟩ := h
  obtain ⟨b, e, _, hw⟩ := DataW.trod_int Try.underlying33 hf
  simp [Value.cells] at e
  subst e
  exact ⟨a, rfl, idok_wf hw⟩
set_option maxRecDepth 100000 in
theorem open_i64 {v : Value} {d : DataW H} {p : List MemPlace} (hv : Value.okWide Try.prog W .any base 3 v) (h : DataW.Trod enc Try.prog W 0 (fun _ => true) held 3 v d p) : ∃ a : Int, v = .int .i64 a ∧ (Lit.int .i64 a).wf = true := by
  obtain ⟨a, rfl⟩ := okWide_int Try.underlying3 hv
  obtain ⟨fuel, hf⟩ := h
  obtain ⟨b, e, _, hw⟩ := DataW.trod_int Try.underlying3 hf
  simp [Value.cells] at e
  subst e
  exact ⟨a, rfl, hw⟩
end
end Go.Proofs.Ytnpgfhoagpeelaa
