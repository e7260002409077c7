/- A script handed in, opened. -/
import Derived.Test.YtjakkmioofbcaaaDoorK8
namespace Go.Proofs.YtjakkmioofbcaaaDoor
open Go.ChangeShapes Go.WideShapes Go.ChangeAt Go.RowKit Go.Deep
theorem choose_list {α : Type} (P : Nat → α → Prop) : ∀ n : Nat, (∀ i, i < n → ∃ a, P i a) → ∃ l : List α, l.length = n ∧ ∀ i a, l[i]? = some a → P i a
  | 0, _ => ⟨[], rfl, fun i a h => by simp at h⟩
  | n + 1, h => by
    obtain ⟨l, hl, hp⟩ := choose_list P n (fun i hi => h i (by omega))
    obtain ⟨a, ha⟩ := h n (by omega)
    refine ⟨l ++ [a], by simp [hl], fun i b hb => ?_⟩
    by_cases hi : i < n
    · rw [List.getElem?_append_left (by omega)] at hb
      exact hp i b hb
    · rw [List.getElem?_append_right (by omega)] at hb
      have : i - l.length = 0 := by
        have := (List.getElem?_eq_some_iff.1 hb).1
        simp at this; omega
      rw [this] at hb
      simp at hb
      subst hb
      have : i = n := by omega
      subst this
      exact ha
theorem spot_of_cell {w : World} {a : Addr} {v : Value} (h : w.cell? a = some v) : a.spot = none := by
  unfold World.cell? at h
  cases hs : a.spot with
  | none => rfl
  | some s =>
    split at h
    · simp [hs] at h
    · cases h
/-- what a slice's cells read as, element by element -/
def RowsAt {α : Type} (W : World) (size : Nat) (Q : List Value → α → Prop) (A : Option Addr) (n : Nat) (ls : List α) : Prop :=
  ls.length = n ∧ (∀ x ∈ ls, ∃ cs, Q cs x ∧ cs.length = size) ∧ (0 < n → ∃ b o, A = some ⟨b, o, none⟩ ∧ b < W.heap.size ∧ ∀ (i : Nat) (x : α), ls[i]? = some x → ∃ cs, Q cs x ∧ cs.length = size ∧ ∀ j v, cs[j]? = some v → W.cell? ⟨b, o + i * size + j, none⟩ = some v)
section
variable {P : Program} {H : Type} {enc : TypeId × Value → H} {W : World} {held : Bool}
theorem rows_of_trod {α : Type} {base : Nat} {sp : Nat → Bool} (hsp : sp = fun _ => true) {t e : TypeId} {size fuel : Nat} {cs0 : List Value} {x : DataW H × List MemPlace} (ht : P.underlying t = some (.slice e)) (hc : P.cellsOf e = size) (hpos : 0 < size) (Q : List Value → α → Prop)
    (hel : ∀ fuel cs x, DataW.trod enc P W base sp held fuel e cs = some x → cs.length = size → ∃ a, Q cs a) (hf : DataW.trod enc P W base sp held fuel t cs0 = some x) :
    ∃ A n c ls, cs0 = [.slice A n c] ∧ RowsAt W size Q A n ls ∧ n ≤ c ∧ c ≤ 9223372036854775807 ∧ (A = none → c = 0) := by
  subst hsp
  rcases open_slice ht hf with ⟨hcs, _⟩ | ⟨a, n, c, m, n', D, Pl, hcs, hb, hl, hm, hmm, _, hi⟩
  · subst hcs
    exact ⟨none, 0, 0, [], rfl, ⟨rfl, fun f hf => by simp at hf, fun h0 => by omega⟩, Nat.le_refl _, by omega, fun _ => rfl⟩
  · subst hcs
    have hmm2 : m = c := by simpa using hmm
    clear hmm
    subst hmm2
    have hm2 : m ≤ 9223372036854775807 := by unfold maxLen at hm; omega
    have hex : ∀ i, i < n → ∃ f : α, ∃ cs, Q cs f ∧ cs.length = size ∧ ∀ j v, cs[j]? = some v → W.cell? (a.add (i * size + j)) = some v := by
      intro i hin
      obtain ⟨cs', hcc, htt⟩ := hi i (by omega)
      rw [hc] at hcc
      obtain ⟨_, hcl, hat⟩ := World.cells?_some hcc
      obtain ⟨f, hq⟩ := hel _ _ _ htt hcl
      refine ⟨f, cs', hq, hcl, fun j v hj => ?_⟩
      have hjs : j < size := by rw [← hcl]; exact (List.getElem?_eq_some_iff.1 hj).1
      have := hat j hjs
      rw [Go.Deep.add_add] at this
      rw [this, hj]
    obtain ⟨fs, hfl, hfs⟩ := choose_list _ n hex
    refine ⟨some a, n, _, fs, rfl, ⟨hfl, fun f hf => ?_, fun h0 => ?_⟩, hl, hm2, fun e => by cases e⟩
    · obtain ⟨i, hi, rfl⟩ := List.getElem_of_mem hf
      obtain ⟨cs, h1, h2, _⟩ := hfs i fs[i] (List.getElem?_eq_getElem hi)
      exact ⟨cs, h1, h2⟩
    · have h1 : fs[0]? = some (fs[0]'(by omega)) := List.getElem?_eq_getElem _
      obtain ⟨cs, h2, h3, h4⟩ := hfs 0 _ h1
      have h5 := h4 0 (cs[0]'(by omega)) (List.getElem?_eq_getElem _)
      have hsp : a.spot = none := by
        have := spot_of_cell h5
        simpa [Addr.add] using this
      obtain ⟨b, o, s⟩ := a
      simp at hsp
      subst hsp
      refine ⟨b, o, rfl, ?_, fun i f hf => ?_⟩
      · have := World.block_lt_of_cell? W _ h5
        simpa [Addr.add] using this
      · obtain ⟨cs, q1, q2, q3⟩ := hfs i f hf
        refine ⟨cs, q1, q2, fun j v hv => ?_⟩
        have := q3 j v hv
        rw [Addr.add_mid] at this
        rw [show o + i * size + j = o + (i * size + j) by omega]
        exact this
/-- a slice that came in, of elements that are read cell by cell -/
theorem open_rows {α : Type} {base : Nat} {t e : TypeId} {size : Nat} {v : Value} {d : DataW H} {p : List MemPlace} (ht : P.underlying t = some (.slice e)) (hc : P.cellsOf e = size) (hpos : 0 < size) (Q : List Value → α → Prop)
    (hel : ∀ fuel cs x, DataW.trod enc P W 0 (fun _ => true) held fuel e cs = some x → cs.length = size → ∃ a, Q cs a)
    (hv : Value.okWide P W .any base t v) (h : DataW.Trod enc P W 0 (fun _ => true) held t v d p) :
    ∃ A n c ls, v = .slice A n c ∧ RowsAt W size Q A n ls ∧ n ≤ c ∧ c ≤ 9223372036854775807 ∧ (A = none → c = 0) := by
  obtain ⟨A, n, c, rfl⟩ := okWide_slice ht hv
  obtain ⟨fuel, hf⟩ := h
  obtain ⟨A', n', c', ls, hcs, hr, h1, h2, h3⟩ := rows_of_trod rfl ht hc hpos Q hel hf
  simp [Value.cells] at hcs
  obtain ⟨rfl, rfl, rfl⟩ := hcs
  exact ⟨A, n, c, ls, rfl, hr, h1, h2, h3⟩
end

theorem cells16 : Tryd.prog.cellsOf 30 = 16 := by kernel_rfl
theorem cells24 : Tryd.prog.cellsOf 24 = 1 := by kernel_rfl
/-- a step's cells as they came in -/
def StQ (W : World) (cs : List Value) (s : St) : Prop := ∃ (A : Option Addr) (cap : Nat), cs = s.L (.slice A s.kp.length cap) ∧ Kp W (.slice A s.kp.length cap) s.kp ∧ s.kp.length ≤ cap ∧ cap ≤ maxLen ∧ s.nm.length ≤ maxLen ∧ s.dt.length ≤ maxLen
section
variable {H : Type} {enc : TypeId × Value → H} {W : World} {base : Nat} {held : Bool}
set_option maxRecDepth 100000 in
theorem step_of_trod {fuel : Nat} {cs : List Value} {x : DataW H × List MemPlace} (hf : DataW.trod enc Tryd.prog W base (fun _ => true) held fuel 44 cs = some x) (hc : cs.length = 19) : ∃ s, StQ W cs s := by
  obtain ⟨xs, n, _, _, hl, hlen, hg⟩ := DataW.trod_struct Tryd.underlying44 hf
  have hlen' : xs.length = 5 := hlen
  obtain ⟨a0, a1, a2, a3, a4, a5, a6, a7, a8, a9, a10, a11, a12, a13, a14, a15, a16, a17, a18, rfl⟩ := list19 hc
  have g0 := hg 0 _ rfl
  have g1 := hg 1 _ rfl
  have g2 := hg 2 _ rfl
  have g3 := hg 3 _ rfl
  have g4 := hg 4 _ rfl
  rw [List.getElem?_eq_getElem (by omega)] at g0 g1 g2 g3 g4
  obtain ⟨k, e0, _, _⟩ := DataW.trod_int Tryd.underlying38 g0
  obtain ⟨op, nm, dt, e1, w1, w2⟩ := call_of_trod g1
  obtain ⟨nn, e2, _, _⟩ := DataW.trod_int Tryd.underlying3 g2
  obtain ⟨A, kp, cap, e3, hk, hk1, hk2⟩ := keep_of_trod g3
  obtain ⟨c, e4⟩ := conf_of_trod g4
  simp [cells22, cells25, cells3, cells26, cells28] at e0 e1 e2 e3 e4
  obtain ⟨rfl, rfl, rfl⟩ := e1
  subst e0 e2 e3
  refine ⟨⟨k, op, nm, dt, nn, kp, c⟩, A, cap, ?_, hk, hk1, hk2, w1, w2⟩
  show _ = stL k op nm dt nn (.slice A kp.length cap) c
  rw [show stL k op nm dt nn (.slice A kp.length cap) c = [.int .i64 k, .int .i64 op, .string (str nm), .string (str dt), .int .i64 nn, .slice A kp.length cap] ++ cfL c from rfl, ← e4]
  rfl
theorem prm_of_rows {A : Option Addr} {n c : Nat} {ls : List St} (h : RowsAt W 19 (StQ W) A n ls) (hn : n ≤ c) (hc : c ≤ 9223372036854775807) : Prm W (.slice A n c) ls := by
  obtain ⟨hl, _, hr⟩ := h
  subst hl
  refine ⟨⟨A, c, rfl⟩, by unfold maxLen; omega, fun hne => ?_⟩
  obtain ⟨b, o, rfl, hb, hi⟩ := hr (List.length_pos_iff.2 hne)
  refine ⟨b, o, c, rfl, hb, fun i s hs => ?_⟩
  obtain ⟨cs, ⟨B, cap, rfl, q⟩, _, hj⟩ := hi i s hs
  exact ⟨B, cap, fun j v hv => hj j v hv, q⟩
theorem list16 {α : Type} {l : List α} (h : l.length = 16) : ∃ a0 a1 a2 a3 a4 a5 a6 a7 a8 a9 a10 a11 a12 a13 a14 a15, l = [a0, a1, a2, a3, a4, a5, a6, a7, a8, a9, a10, a11, a12, a13, a14, a15] := by
  match l, h with
  | [a0, a1, a2, a3, a4, a5, a6, a7, a8, a9, a10, a11, a12, a13, a14, a15], _ => exact ⟨a0, a1, a2, a3, a4, a5, a6, a7, a8, a9, a10, a11, a12, a13, a14, a15, rfl⟩
set_option maxRecDepth 100000 in
theorem open_script {v : Value} {d : DataW H} {p : List MemPlace} (hv : Value.okWide Tryd.prog W .any base 30 v) (h : DataW.Trod enc Tryd.prog W 0 (fun _ => true) held 30 v d p) :
    ∃ (a b : Int) (c : Fin 13 → Int) (V : Value) (l : List St), v = .agg (scL a b c V).toArray ∧ Prm W V l := by
  obtain ⟨cs, rfl, hsz⟩ := okWide_struct Tryd.underlying30 hv
  obtain ⟨fuel, hf⟩ := h
  obtain ⟨xs, n, _, _, hl, hlen, hg⟩ := DataW.trod_struct Tryd.underlying30 hf
  have hlen' : xs.length = 4 := hlen
  have hc : cs.toList.length = 16 := by rw [cells16] at hsz; simpa using hsz
  obtain ⟨L, rfl⟩ : ∃ L : List Value, cs = L.toArray := ⟨cs.toList, by simp⟩
  obtain ⟨a0, a1, a2, a3, a4, a5, a6, a7, a8, a9, a10, a11, a12, a13, a14, a15, rfl⟩ := list16 (l := L) (by simpa using hc)
  have g0 := hg 0 _ rfl
  have g1 := hg 1 _ rfl
  have g2 := hg 2 _ rfl
  have g3 := hg 3 _ rfl
  rw [List.getElem?_eq_getElem (by omega)] at g0 g1 g2 g3
  obtain ⟨a, e0, _, _⟩ := DataW.trod_int Tryd.underlying3 g0
  obtain ⟨b, e1, _, _⟩ := DataW.trod_int Tryd.underlying3 g1
  obtain ⟨c, e2⟩ := conf_of_trod g2
  obtain ⟨A, m, cp, ls, e3, hr, h1, h2, _⟩ := rows_of_trod rfl Tryd.underlying24 cells30 (by decide) (StQ W) (fun _ _ _ h hl => step_of_trod h hl) g3
  simp [Value.cells, cells3, cells28, cells24] at e0 e1 e2 e3
  subst e0 e1 e3
  refine ⟨a, b, c, .slice A m cp, ls, ?_, prm_of_rows hr h1 h2⟩
  rw [show scL a b c (.slice A m cp) = [.int .i64 a, .int .i64 b] ++ cfL c ++ [.slice A m cp] from rfl, ← e2]
  rfl
end
end Go.Proofs.YtjakkmioofbcaaaDoor
