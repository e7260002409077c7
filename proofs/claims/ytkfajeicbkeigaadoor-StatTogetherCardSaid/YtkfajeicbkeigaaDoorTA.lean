/- Uses and chunks as memory holds them; maps as functions. -/
import Derived.Test.YtkfajeicbkeigaaDoorSE
import Derived.Maps.OwnIn
import Derived.Maps.OwnSet
import Derived.Maps.OwnOps
import Derived.Maps.Views
import Derived.Maps.AppendAt
import Derived.DeepKeys4
import Derived.StringKeys
import Derived.Laws.Rows
namespace Go.Proofs.YtkfajeicbkeigaaDoor
open Go.RowKit Go.Maps
abbrev Nm := List UInt8
abbrev Plc := Int × Int
abbrev Ck := Plc × Int
def ckV (c : Ck) : List Value := [.int .u32 c.1.1, .int .i64 c.1.2, .int .i64 c.2]
structure Us where
  nm : Nm
  A : Option Addr
  c : Nat
  cs : List Ck
def usV (u : Us) : List Value := [.string (str u.nm), .slice u.A u.cs.length u.c]
theorem flat_len {α : Type} {f : α → List Value} {n : Nat} (hf : ∀ x, (f x).length = n) : ∀ l : List α, (l.flatMap f).length = l.length * n
  | [] => by simp
  | x :: r => by rw [List.flatMap_cons, List.length_append, hf, flat_len hf r, List.length_cons, Nat.add_mul]; omega
theorem flat_get {α : Type} {f : α → List Value} {n : Nat} (hf : ∀ x, (f x).length = n) : ∀ (l : List α) (i j : Nat) (x : α) (v : Value), l[i]? = some x → (f x)[j]? = some v → (l.flatMap f)[i * n + j]? = some v
  | [], i, j, x, v, h, _ => by simp at h
  | q :: r, 0, j, x, v, h, hj => by
    simp at h
    subst h
    have hl : j < (f q).length := (List.getElem?_eq_some_iff.1 hj).1
    rw [List.flatMap_cons, Nat.zero_mul, Nat.zero_add, List.getElem?_append_left hl]
    exact hj
  | q :: r, i + 1, j, x, v, h, hj => by
    simp at h
    have h3 : (f q).length = n := hf q
    rw [List.flatMap_cons, List.getElem?_append_right (by rw [h3, Nat.add_mul]; omega), h3, show (i + 1) * n + j - n = i * n + j by rw [Nat.add_mul]; omega]
    exact flat_get hf r i j x v h hj
theorem ckV_len (c : Ck) : (ckV c).length = 3 := rfl
theorem usV_len (u : Us) : (usV u).length = 2 := rfl
/-- the cells at an address -/
def Row (w : World) (A : Option Addr) (L : List Value) : Prop := L ≠ [] → ∃ b o, A = some ⟨b, o, none⟩ ∧ b < w.heap.size ∧ w.rangeAt b o L
theorem Row.below {w w' : World} {A : Option Addr} {L : List Value} (h : Row w A L) (hb : Below w.heap.size w w') : Row w' A L := fun hl => by
  obtain ⟨b, o, e, hlt, hc⟩ := h hl
  exact ⟨b, o, e, Nat.lt_of_lt_of_le hlt hb.size, fun j v hj => (hb.cell (p := ⟨b, o + j, none⟩) hlt).trans (hc j v hj)⟩
theorem Row.nil (w : World) (A : Option Addr) : Row w A [] := fun h => absurd rfl h
theorem row_own {w : World} {base e size n : Nat} {A : Option Addr} {c : Nat} {xs : List Value} (h : w.ownsRow base e size (.slice A n c) n xs) : Row w A xs := by
  intro hx
  rcases h.2 with ⟨h2, hn⟩ | ⟨g, cap, cur, h2, hg, hh, hn, hm, hs, ht⟩
  · exfalso
    have := h.1
    subst hn
    exact hx (List.length_eq_zero_iff.1 (by simpa using this))
  · injection h2 with h2 _ h3
    subst h2
    refine ⟨g, 0, rfl, (Array.getElem?_eq_some_iff.1 hh).1, fun j v hj => ?_⟩
    rw [← ht] at hj
    have hlt := (List.getElem?_eq_some_iff.1 hj).1
    rw [List.length_take] at hlt
    rw [List.getElem?_take_of_lt (by omega)] at hj
    rw [cell_of_row w g _ cur e _ hh, Nat.zero_add]
    simpa using hj
def Cks (w : World) (A : Option Addr) (cs : List Ck) : Prop := Row w A (cs.flatMap ckV)
def Uss (w : World) (A : Option Addr) (us : List Us) : Prop := Row w A (us.flatMap usV) ∧ ∀ u ∈ us, Cks w u.A u.cs
theorem Cks.below {w w' : World} {A : Option Addr} {cs : List Ck} (h : Cks w A cs) (hb : Below w.heap.size w w') : Cks w' A cs := Row.below h hb
theorem Uss.below {w w' : World} {A : Option Addr} {us : List Us} (h : Uss w A us) (hb : Below w.heap.size w w') : Uss w' A us := ⟨h.1.below hb, fun u hu => (h.2 u hu).below hb⟩
theorem Uss.nil (w : World) (A : Option Addr) : Uss w A [] := ⟨Row.nil w A, fun u hu => by cases hu⟩
theorem Cks.get {w : World} {A : Option Addr} {cs : List Ck} (h : Cks w A cs) {k : Nat} {c : Ck} (hk : cs[k]? = some c) :
    ∃ b o, A = some ⟨b, o, none⟩ ∧ b < w.heap.size ∧ w.rangeAt b (o + k * 3) (ckV c) := by
  have hlt := (List.getElem?_eq_some_iff.1 hk).1
  have hne : cs.flatMap ckV ≠ [] := fun e => by
    have := flat_len ckV_len cs
    rw [e] at this
    simp at this
    omega
  obtain ⟨b, o, e, hb, hc⟩ := h hne
  exact ⟨b, o, e, hb, fun j v hj => by rw [Nat.add_assoc]; exact hc _ v (flat_get ckV_len cs k j c v hk hj)⟩
theorem Uss.get {w : World} {A : Option Addr} {us : List Us} (h : Uss w A us) {k : Nat} {u : Us} (hk : us[k]? = some u) :
    ∃ b o, A = some ⟨b, o, none⟩ ∧ b < w.heap.size ∧ w.rangeAt b (o + k * 2) (usV u) ∧ Cks w u.A u.cs := by
  have hlt := (List.getElem?_eq_some_iff.1 hk).1
  have hne : us.flatMap usV ≠ [] := fun e => by
    have := flat_len usV_len us
    rw [e] at this
    simp at this
    omega
  obtain ⟨b, o, e, hb, hc⟩ := h.1 hne
  exact ⟨b, o, e, hb, fun j v hj => by rw [Nat.add_assoc]; exact hc _ v (flat_get usV_len us k j u v hk hj), h.2 u (List.mem_of_getElem? hk)⟩
/-- a map as a function -/
def FMap {α H : Type} (key : α → Lit) (Ok : α → Prop) (z : DataW H) (D : DataW H) (f : α → DataW H) : Prop := IsMap D ∧ ∀ a, Ok a → D.atKey (key a) z = f a
theorem FMap.nil {α H : Type} (key : α → Lit) (Ok : α → Prop) (z : DataW H) : FMap key Ok z (.map []) (fun _ => z) := ⟨isMap_empty, fun _ _ => rfl⟩
theorem FMap.put {α H : Type} [DecidableEq α] {key : α → Lit} {Ok : α → Prop} {z D : DataW H} {f : α → DataW H} (h : FMap key Ok z D f) {x : α} (hk : WideAt.IsKeyLit (key x)) (hi : ∀ a, Ok a → key a = key x → a = x) (d : DataW H) : FMap key Ok z (D.put (key x) d) (fun a => if a = x then d else f a) := by
  refine ⟨h.1.put _ _, fun a ha => ?_⟩
  by_cases e : a = x
  · subst e
    show _ = (if a = a then d else f a)
    rw [if_pos rfl]
    exact atKey_put_same h.1 hk d z
  · show _ = (if a = x then d else f a)
    rw [if_neg e, atKey_put_other (fun e' => e (hi a ha e')), h.2 a ha]
/-- names as keys -/
def nmKey (s : Nm) : Lit := .string s
def NmOk (s : Nm) : Prop := s.length ≤ maxLen
theorem law9 : Keyed Tryd.prog 9 := string_keyed Tryd.underlying9
theorem key9 {s : Nm} (h : NmOk s) : keyOf Tryd.prog 9 (.string (str s)) = some (nmKey s) := WideMaps.keyOf_string_mk Tryd.underlying9 (by rw [str_size]; exact h)
theorem nmKey_lit (s : Nm) : WideAt.IsKeyLit (nmKey s) := trivial
theorem nmKey_inj {s t : Nm} (h : nmKey s = nmKey t) : s = t := by
  injection h with h
/-- places as keys -/
theorem laid65 : laidOutB Tryd.prog = true := by kernel_rfl
theorem law65 : Keyed Tryd.prog 65 := Keyed.of_law (deep_law_laid laid65 (m := 2) (by omega) (of_decide_eq_true (by kernel_rfl)) (by kernel_rfl) (by kernel_rfl))
def plcVal (p : Plc) : Value := .agg #[.int .u32 p.1, .int .i64 p.2]
def PlcOk (p : Plc) : Prop := (Lit.int .u32 p.1).wf = true ∧ (Lit.int .i64 p.2).wf = true
def plcKey (p : Plc) : Lit := .string (keyBytes [.int .u32 p.1, .int .i64 p.2])
theorem keyTy65 : Tryd.prog.keyType 65 = true := by kernel_rfl
theorem key65 {p : Plc} (h : PlcOk p) : keyOf Tryd.prog 65 (plcVal p) = some (plcKey p) := by
  have hu : ∃ fs, Tryd.prog.underlying 65 = some (.struct fs) := ⟨_, Tryd.underlying65⟩
  obtain ⟨fs, hu⟩ := hu
  have hf : (plcVal p).formed Tryd.prog 65 = true := by kernel_rfl
  have e1 : keyOf Tryd.prog 65 (plcVal p) = (if Tryd.prog.keyType 65 && (plcVal p).formed Tryd.prog 65 then (Tryd.prog.keyLits (Tryd.prog.types.size + 1) 65 (plcVal p).cells.toList).map fun ls => .string (keyBytes ls) else none) := by
    unfold keyOf
    rw [hu]
  rw [e1, keyTy65, hf]
  have e2 : Tryd.prog.keyLits (Tryd.prog.types.size + 1) 65 (plcVal p).cells.toList = some [.int .u32 p.1, .int .i64 p.2] := by
    have hts : 0 < Tryd.prog.types.size := of_decide_eq_true (by kernel_rfl)
    obtain ⟨m, hm⟩ : ∃ m, Tryd.prog.types.size = m + 1 := ⟨Tryd.prog.types.size - 1, by omega⟩
    rw [hm]
    have w1 := h.1
    have w2 := h.2
    have c65 : Tryd.prog.cellsOf 65 = 2 := by kernel_rfl
    have c63 : Tryd.prog.cellsOf 63 = 1 := by kernel_rfl
    have c3 : Tryd.prog.cellsOf 3 = 1 := by kernel_rfl
    have k63 : ∀ d, Tryd.prog.keyLits (d + 1) 63 [.int .u32 p.1] = some [.int .u32 p.1] := fun d => by
      unfold Program.keyLits
      rw [Tryd.underlying63]
      simp [w1]
    have k3 : ∀ d, Tryd.prog.keyLits (d + 1) 3 [.int .i64 p.2] = some [.int .i64 p.2] := fun d => by
      unfold Program.keyLits
      rw [Tryd.underlying3]
      simp [w2]
    unfold Program.keyLits
    rw [Tryd.underlying65]
    simp only [plcVal, Value.cells]
    simp [c65, c63, c3, k63, k3]
  rw [e2]
  rfl
theorem plcKey_lit (p : Plc) : WideAt.IsKeyLit (plcKey p) := trivial
theorem plcKey_inj {p q : Plc} (hp : PlcOk p) (hq : PlcOk q) (h : plcKey p = plcKey q) : p = q := by
  have := law65.inj (key65 hp) (by rw [h]; exact key65 hq)
  simp [plcVal] at this
  exact Prod.ext this.1 this.2
abbrev Dat := DataW Unit
def one : Dat := .lit (.int .i64 1)
/-- the set of names that a map keeps -/
def setS (l : List Nm) : Dat := l.foldl (fun m p => m.put (nmKey p) one) (.map [])
theorem setS_snoc (l : List Nm) (p : Nm) : setS (l ++ [p]) = (setS l).put (nmKey p) one := by simp [setS, List.foldl_append]
/-- names, each once -/
def ddStep (a : List Nm) (x : Nm) : List Nm := if x ∈ a then a else a ++ [x]
def dd (l : List Nm) : List Nm := l.foldl ddStep []
theorem dd_snoc (l : List Nm) (x : Nm) : dd (l ++ [x]) = if x ∈ dd l then dd l else dd l ++ [x] := by
  rw [dd, List.foldl_append]
  rfl
theorem snoc_ind {α : Type} {P : List α → Prop} (h0 : P []) (h1 : ∀ l x, P l → P (l ++ [x])) (l : List α) : P l := by
  have : ∀ n, ∀ l : List α, l.length = n → P l := by
    intro n
    induction n with
    | zero => intro l hl; rw [List.length_eq_zero_iff.1 hl]; exact h0
    | succ n ih =>
      intro l hl
      have hne : l ≠ [] := fun e => by rw [e] at hl; simp at hl
      rw [← List.dropLast_concat_getLast hne]
      exact h1 _ _ (ih _ (by rw [List.length_dropLast, hl]; rfl))
  exact this _ l rfl
theorem mem_dd {x : Nm} {l : List Nm} : x ∈ dd l ↔ x ∈ l := by
  induction l using snoc_ind with
  | h0 => simp [dd]
  | h1 l y ih =>
    rw [dd_snoc]
    split
    · rename_i h
      rw [ih, List.mem_append, List.mem_singleton]
      constructor
      · exact .inl
      · rintro (h1 | rfl)
        · exact h1
        · exact ih.1 h
    · simp [ih]
theorem nodup_dd (l : List Nm) : (dd l).Nodup := by
  induction l using snoc_ind with
  | h0 => simp [dd]
  | h1 l y ih =>
    rw [dd_snoc]
    split
    · exact ih
    · rename_i h
      rw [List.nodup_append]
      exact ⟨ih, by simp, fun a ha b hb => by rw [List.mem_singleton] at hb; subst hb; rintro rfl; exact h ha⟩
theorem tidy_setS (l : List Nm) : Tidy (setS l) := by
  induction l using snoc_ind with
  | h0 => exact tidy_empty
  | h1 l x ih => rw [setS_snoc]; exact ih.put (nmKey_lit x) one
theorem atKey_setS (l : List Nm) (s : Nm) : (setS l).atKey (nmKey s) (.lit (.int .i64 0)) = .lit (.int .i64 (if s ∈ l then 1 else 0)) := by
  induction l using snoc_ind with
  | h0 => simp [setS, DataW.atKey]
  | h1 l x ih =>
    rw [setS_snoc]
    by_cases e : s = x
    · subst e
      rw [atKey_put_same (tidy_setS l).isMap (nmKey_lit s)]
      simp [one]
    · rw [atKey_put_other (fun e' => e (nmKey_inj e')), ih]
      simp [e]
theorem has_setS (l : List Nm) (s : Nm) : Maps.has (setS l) (nmKey s) = decide (s ∈ l) := by
  induction l using snoc_ind with
  | h0 => simp [setS, Maps.has]
  | h1 l x ih =>
    rw [setS_snoc]
    by_cases e : s = x
    · subst e
      rw [has_put_same (tidy_setS l).isMap (nmKey_lit s)]
      simp
    · rw [has_put_other (fun e' => e (nmKey_inj e')), ih]
      simp [e]
theorem size_setS (l : List Nm) : Maps.size (setS l) = (dd l).length := by
  induction l using snoc_ind with
  | h0 => simp [setS, dd, Maps.size]
  | h1 l x ih =>
    rw [setS_snoc, size_put (tidy_setS l), has_setS, dd_snoc, ih]
    by_cases e : x ∈ l
    · rw [if_pos (by simpa using e), if_pos (mem_dd.2 e)]
    · rw [if_neg (by simpa using e), if_neg (fun h => e (mem_dd.1 h)), List.length_append]
      rfl
end Go.Proofs.YtkfajeicbkeigaaDoor
