/- Rows that came in, opened: names, uses. -/
import Derived.Test.YtkfajeicbkeigaaDoorUB
import Derived.Deep.Slices
import Derived.ShutString
import Derived.ChangeOld
namespace Go.Proofs.YtkfajeicbkeigaaDoor
open Go.ChangeShapes Go.WideShapes Go.ChangeAt Go.RowKit Go.Deep
theorem choose_list {α : Type} (P : Nat → α → Prop) : ∀ n : Nat, (∀ i, i < n → ∃ a, P i a) → ∃ l : List α, l.length = n ∧ ∀ i a, l[i]? = some a → P i a
  | 0, _ => ⟨[], rfl, fun i a h => by simp at h⟩
  | n + 1, h => by
    obtain ⟨l, hl, hp⟩ := choose_list P n (fun i hi => h i (by omega))
    obtain ⟨a, ha⟩ := h n (by omega)
    refine ⟨l ++ [a], by simp [hl], fun i b hb => ?_⟩
    by_cases hi : i < n
    · rw [List.getElem?_append_left (by omega)] at hb
      exact hp i b hb
    · rw [List.getElem?_append_right (by omega)] at hb
      have : i - l.length = 0 := by
        have := (List.getElem?_eq_some_iff.1 hb).1
        simp at this; omega
      rw [this] at hb
      simp at hb
      subst hb
      have : i = n := by omega
      subst this
      exact ha
theorem spot_of_cell {w : World} {a : Addr} {v : Value} (h : w.cell? a = some v) : a.spot = none := by
  unfold World.cell? at h
  cases hs : a.spot with
  | none => rfl
  | some s =>
    split at h
    · simp [hs] at h
    · cases h
/-- what a slice's cells read as, element by element -/
def RowsAt {α : Type} (W : World) (size : Nat) (Q : List Value → α → Prop) (A : Option Addr) (n : Nat) (ls : List α) : Prop :=
  ls.length = n ∧ (∀ x ∈ ls, ∃ cs, Q cs x ∧ cs.length = size) ∧ (0 < n → ∃ b o, A = some ⟨b, o, none⟩ ∧ b < W.heap.size ∧ ∀ (i : Nat) (x : α), ls[i]? = some x → ∃ cs, Q cs x ∧ cs.length = size ∧ ∀ j v, cs[j]? = some v → W.cell? ⟨b, o + i * size + j, none⟩ = some v)
section
variable {P : Program} {H : Type} {enc : TypeId × Value → H} {W : World} {held : Bool}
theorem rows_of_trod {α : Type} {base : Nat} {sp : Nat → Bool} (hsp : sp = fun _ => true) {t e : TypeId} {size fuel : Nat} {cs0 : List Value} {x : DataW H × List MemPlace} (ht : P.underlying t = some (.slice e)) (hc : P.cellsOf e = size) (hpos : 0 < size) (Q : List Value → α → Prop)
    (hel : ∀ fuel cs x, DataW.trod enc P W base sp held fuel e cs = some x → cs.length = size → ∃ a, Q cs a) (hf : DataW.trod enc P W base sp held fuel t cs0 = some x) :
    ∃ A n c ls, cs0 = [.slice A n c] ∧ RowsAt W size Q A n ls ∧ n ≤ c ∧ c ≤ 9223372036854775807 ∧ (A = none → c = 0) := by
  subst hsp
  rcases open_slice ht hf with ⟨hcs, _⟩ | ⟨a, n, c, m, n', D, Pl, hcs, hb, hl, hm, hmm, _, hi⟩
  · subst hcs
    exact ⟨none, 0, 0, [], rfl, ⟨rfl, fun f hf => by simp at hf, fun h0 => by omega⟩, Nat.le_refl _, by omega, fun _ => rfl⟩
  · subst hcs
    have hmm2 : m = c := by simpa using hmm
    clear hmm
    subst hmm2
    have hm2 : m ≤ 9223372036854775807 := by unfold maxLen at hm; omega
    have hex : ∀ i, i < n → ∃ f : α, ∃ cs, Q cs f ∧ cs.length = size ∧ ∀ j v, cs[j]? = some v → W.cell? (a.add (i * size + j)) = some v := by
      intro i hin
      obtain ⟨cs', hcc, htt⟩ := hi i (by omega)
      rw [hc] at hcc
      obtain ⟨_, hcl, hat⟩ := World.cells?_some hcc
      obtain ⟨f, hq⟩ := hel _ _ _ htt hcl
      refine ⟨f, cs', hq, hcl, fun j v hj => ?_⟩
      have hjs : j < size := by rw [← hcl]; exact (List.getElem?_eq_some_iff.1 hj).1
      have := hat j hjs
      rw [Go.Deep.add_add] at this
      rw [this, hj]
    obtain ⟨fs, hfl, hfs⟩ := choose_list _ n hex
    refine ⟨some a, n, _, fs, rfl, ⟨hfl, fun f hf => ?_, fun h0 => ?_⟩, hl, hm2, fun e => by cases e⟩
    · obtain ⟨i, hi, rfl⟩ := List.getElem_of_mem hf
      obtain ⟨cs, h1, h2, _⟩ := hfs i fs[i] (List.getElem?_eq_getElem hi)
      exact ⟨cs, h1, h2⟩
    · have h1 : fs[0]? = some (fs[0]'(by omega)) := List.getElem?_eq_getElem _
      obtain ⟨cs, h2, h3, h4⟩ := hfs 0 _ h1
      have h5 := h4 0 (cs[0]'(by omega)) (List.getElem?_eq_getElem _)
      have hsp : a.spot = none := by
        have := spot_of_cell h5
        simpa [Addr.add] using this
      obtain ⟨b, o, s⟩ := a
      simp at hsp
      subst hsp
      refine ⟨b, o, rfl, ?_, fun i f hf => ?_⟩
      · have := World.block_lt_of_cell? W _ h5
        simpa [Addr.add] using this
      · obtain ⟨cs, q1, q2, q3⟩ := hfs i f hf
        refine ⟨cs, q1, q2, fun j v hv => ?_⟩
        have := q3 j v hv
        rw [Addr.add_mid] at this
        rw [show o + i * size + j = o + (i * size + j) by omega]
        exact this
/-- a slice that came in, of elements that are read cell by cell -/
theorem open_rows {α : Type} {base : Nat} {t e : TypeId} {size : Nat} {v : Value} {d : DataW H} {p : List MemPlace} (ht : P.underlying t = some (.slice e)) (hc : P.cellsOf e = size) (hpos : 0 < size) (Q : List Value → α → Prop)
    (hel : ∀ fuel cs x, DataW.trod enc P W 0 (fun _ => true) held fuel e cs = some x → cs.length = size → ∃ a, Q cs a)
    (hv : Value.okWide P W .any base t v) (h : DataW.Trod enc P W 0 (fun _ => true) held t v d p) :
    ∃ A n c ls, v = .slice A n c ∧ RowsAt W size Q A n ls ∧ n ≤ c ∧ c ≤ 9223372036854775807 ∧ (A = none → c = 0) := by
  obtain ⟨A, n, c, rfl⟩ := okWide_slice ht hv
  obtain ⟨fuel, hf⟩ := h
  obtain ⟨A', n', c', ls, hcs, hr, h1, h2, h3⟩ := rows_of_trod rfl ht hc hpos Q hel hf
  simp [Value.cells] at hcs
  obtain ⟨rfl, rfl, rfl⟩ := hcs
  exact ⟨A, n, c, ls, rfl, hr, h1, h2, h3⟩
end

theorem cells9 : Tryd.prog.cellsOf 9 = 1 := by kernel_rfl
theorem cells60 : Tryd.prog.cellsOf 60 = 2 := by kernel_rfl
theorem cells67 : Tryd.prog.cellsOf 67 = 3 := by kernel_rfl
theorem cells65 : Tryd.prog.cellsOf 65 = 2 := by kernel_rfl
theorem cells63 : Tryd.prog.cellsOf 63 = 1 := by kernel_rfl
theorem cells58 : Tryd.prog.cellsOf 58 = 1 := by kernel_rfl
theorem flat_one (ns : List Nm) : (ns.flatMap fun s => [Value.string (str s)]) = ns.map fun s => .string (str s) := by
  induction ns with
  | nil => rfl
  | cons a r ih => rw [List.flatMap_cons, ih]; rfl
def nmQ (cs : List Value) (s : Nm) : Prop := cs = [.string (str s)] ∧ NmOk s
def ckQ (cs : List Value) (c : Ck) : Prop := cs = ckV c ∧ PlcOk c.1 ∧ (Lit.int .i64 c.2).wf = true
theorem row_of_rows {α : Type} {W : World} {size : Nat} {Q : List Value → α → Prop} {f : α → List Value} (hQ : ∀ cs x, Q cs x → cs = f x) (hf : ∀ x, (f x).length = size) {A : Option Addr} {n : Nat} {ls : List α} (h : RowsAt W size Q A n ls) (hs : 0 < size) : Row W A (ls.flatMap f) := by
  intro hne
  obtain ⟨hl, _, hr⟩ := h
  have hn : 0 < n := by
    rcases Nat.eq_zero_or_pos n with h0 | h0
    · rw [h0] at hl
      rw [List.length_eq_zero_iff.1 hl] at hne
      exact absurd rfl hne
    · exact h0
  obtain ⟨b, o, e, hb, hi⟩ := hr hn
  refine ⟨b, o, e, hb, fun j v hj => ?_⟩
  have hlt := (List.getElem?_eq_some_iff.1 hj).1
  rw [flat_len hf] at hlt
  have hq : j / size < ls.length := Nat.div_lt_of_lt_mul (by rw [Nat.mul_comm]; exact hlt)
  obtain ⟨x, hx⟩ : ∃ x, ls[j / size]? = some x := ⟨_, List.getElem?_eq_getElem hq⟩
  obtain ⟨cs, h1, h2, h3⟩ := hi _ x hx
  have hm := Nat.mod_lt j hs
  have hjj : j / size * size + j % size = j := by rw [Nat.mul_comm]; exact Nat.div_add_mod j size
  obtain ⟨u, hu⟩ : ∃ u, (f x)[j % size]? = some u := ⟨_, List.getElem?_eq_getElem (by rw [hf]; exact hm)⟩
  have h4 := flat_get hf ls (j / size) (j % size) x u hx hu
  rw [hjj, hj] at h4
  obtain rfl := Option.some.inj h4
  have h5 := h3 (j % size) v (by rw [hQ cs x h1]; exact hu)
  rw [Nat.add_assoc, hjj] at h5
  exact h5
section
variable {H : Type} {enc : TypeId × Value → H} {W : World} {base : Nat} {held : Bool}
theorem str_data (s : ByteArray) : str s.data.toList = s := by simp [str]
theorem nm_of_trod {fuel : Nat} {cs : List Value} {x : DataW H × List MemPlace} (hf : DataW.trod enc Tryd.prog W base (fun _ => true) held fuel 9 cs = some x) : ∃ s, nmQ cs s := by
  obtain ⟨s, e, _, hw⟩ := DataW.trod_string Tryd.underlying9 hf
  exact ⟨s.data.toList, by rw [e, str_data], hw⟩
set_option maxRecDepth 100000 in
theorem plc_of_trod {fuel : Nat} {cs : List Value} {x : DataW H × List MemPlace} (h : DataW.trod enc Tryd.prog W base (fun _ => true) held fuel 65 cs = some x) : ∃ p : Plc, cs = [.int .u32 p.1, .int .i64 p.2] ∧ PlcOk p := by
  obtain ⟨xs, n, _, _, hl, hlen, hg⟩ := DataW.trod_struct Tryd.underlying65 h
  rw [cells65] at hl
  have hlen' : xs.length = 2 := hlen
  match cs, hl with
  | [a, b], _ =>
    have g0 := hg 0 _ rfl
    have g1 := hg 1 _ rfl
    rw [List.getElem?_eq_getElem (by omega)] at g0 g1
    obtain ⟨n0, e0, _, w0⟩ := DataW.trod_int Tryd.underlying63 g0
    obtain ⟨n1, e1, _, w1⟩ := DataW.trod_int Tryd.underlying3 g1
    simp [cells63, cells3] at e0 e1
    subst e0 e1
    exact ⟨(n0, n1), rfl, w0, w1⟩
set_option maxRecDepth 100000 in
theorem ck_of_trod {fuel : Nat} {cs : List Value} {x : DataW H × List MemPlace} (h : DataW.trod enc Tryd.prog W base (fun _ => true) held fuel 67 cs = some x) (hc : cs.length = 3) : ∃ c : Ck, ckQ cs c := by
  obtain ⟨xs, n, _, _, hl, hlen, hg⟩ := DataW.trod_struct Tryd.underlying67 h
  have hlen' : xs.length = 2 := hlen
  match cs, hc with
  | [a, b, c], _ =>
    have g0 := hg 0 _ rfl
    have g1 := hg 1 _ rfl
    rw [List.getElem?_eq_getElem (by omega)] at g0 g1
    obtain ⟨p, e0, hp⟩ := plc_of_trod g0
    obtain ⟨n1, e1, _, w1⟩ := DataW.trod_int Tryd.underlying3 g1
    simp [cells65, cells3] at e0 e1
    obtain ⟨rfl, rfl⟩ := e0
    subst e1
    exact ⟨(p, n1), rfl, hp, w1⟩
/-- a use's cells as they came in -/
def usQ (W : World) (cs : List Value) (u : Us) : Prop := cs = usV u ∧ NmOk u.nm ∧ Cks W u.A u.cs ∧ (∀ c ∈ u.cs, PlcOk c.1 ∧ (Lit.int .i64 c.2).wf = true) ∧ u.cs.length ≤ 9223372036854775807
set_option maxRecDepth 100000 in
theorem us_of_trod {fuel : Nat} {cs : List Value} {x : DataW H × List MemPlace} (h : DataW.trod enc Tryd.prog W base (fun _ => true) held fuel 60 cs = some x) (hc : cs.length = 2) : ∃ u : Us, usQ W cs u := by
  obtain ⟨xs, n, _, _, hl, hlen, hg⟩ := DataW.trod_struct Tryd.underlying60 h
  have hlen' : xs.length = 2 := hlen
  match cs, hc with
  | [a, b], _ =>
    have g0 := hg 0 _ rfl
    have g1 := hg 1 _ rfl
    rw [List.getElem?_eq_getElem (by omega)] at g0 g1
    obtain ⟨s, e0, hs⟩ := nm_of_trod g0
    obtain ⟨A, m, cp, ls, e1, hr, h1, h2, _⟩ := rows_of_trod rfl Tryd.underlying58 cells67 (by decide) ckQ (fun _ _ _ h hl => ck_of_trod h hl) g1
    simp [cells9, cells58] at e0 e1
    subst e0 e1
    have hll := hr.1
    refine ⟨⟨s, A, cp, ls⟩, by rw [← hll]; rfl, hs, row_of_rows (fun _ _ q => q.1) ckV_len hr (by decide), fun c hc => ?_, by show ls.length ≤ _; omega⟩
    obtain ⟨_, q, _⟩ := hr.2.1 c hc
    exact q.2
set_option maxRecDepth 100000 in
theorem open_uses {v : Value} {d : DataW H} {p : List MemPlace} (hv : Value.okWide Tryd.prog W .any base 39 v) (h : DataW.Trod enc Tryd.prog W 0 (fun _ => true) held 39 v d p) :
    ∃ A c us, v = .slice A us.length c ∧ Uss W A us ∧ (∀ u ∈ us, NmOk u.nm ∧ (∀ c ∈ u.cs, PlcOk c.1 ∧ (Lit.int .i64 c.2).wf = true) ∧ u.cs.length ≤ 9223372036854775807) ∧ us.length ≤ 9223372036854775807 := by
  obtain ⟨A, n, c, us, rfl, hr, h1, h2, _⟩ := open_rows Tryd.underlying39 cells60 (by decide) (usQ W) (fun _ _ _ h hl => us_of_trod h hl) hv h
  have hll := hr.1
  have hq : ∀ u ∈ us, ∃ cs, usQ W cs u := fun u hu => by
    obtain ⟨cs, q, _⟩ := hr.2.1 u hu
    exact ⟨cs, q⟩
  refine ⟨A, c, us, by rw [hll], ⟨row_of_rows (fun _ _ q => q.1) usV_len hr (by decide), fun u hu => ?_⟩, fun u hu => ?_, by omega⟩
  · obtain ⟨_, q⟩ := hq u hu
    exact q.2.2.1
  · obtain ⟨_, q⟩ := hq u hu
    exact ⟨q.2.1, q.2.2.2.1, q.2.2.2.2⟩
set_option maxRecDepth 100000 in
theorem open_names {v : Value} {d : DataW H} {p : List MemPlace} (hv : Value.okWide Tryd.prog W .any base 40 v) (h : DataW.Trod enc Tryd.prog W 0 (fun _ => true) held 40 v d p) :
    ∃ A c ns, v = .slice A (List.length ns) c ∧ Nms W A ns ∧ (∀ s ∈ ns, NmOk s) ∧ ns.length ≤ c ∧ ns.length ≤ 9223372036854775807 := by
  obtain ⟨A, n, c, ns, rfl, hr, h1, h2, _⟩ := open_rows Tryd.underlying40 cells9 (by decide) nmQ (fun _ _ _ h _ => nm_of_trod h) hv h
  have hll := hr.1
  refine ⟨A, c, ns, by rw [hll], ?_, fun s hs => ?_, by omega, by omega⟩
  · have := row_of_rows (f := fun s => [.string (str s)]) (fun _ _ q => q.1) (fun _ => rfl) hr (by decide)
    unfold Nms
    rwa [flat_one] at this
  · obtain ⟨_, q, _⟩ := hr.2.1 s hs
    exact q.2
end
end Go.Proofs.YtkfajeicbkeigaaDoor
