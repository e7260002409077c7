/- Words for memory: rows of numbers, of fingerprints, of lists of numbers. -/
import Derived.Test.YtnpgfhoagpeelaaRows
import Derived.WalkKit
import Derived.WalkSpells
import Derived.WalkLawsBesides
import Derived.Deep.MidRow
import Derived.Deep.QuietTactic
import Derived.BigQuiet
import Derived.Lib.Hide
import Derived.Deep.AppendLies
import Derived.Deep.Draws
import Derived.Deep.WholeRow
import Derived.Stop.BytesEq
import Derived.Maps.AppendAt
import Derived.Deep.RegionHeld3
import Derived.Deep.LoopGhost
namespace Go.Proofs.Ytnpgfhoagpeelaa
open Go.RowKit
theorem below_drewN {B : Nat} {a w : World} (h : Below B a w) (n : Nat) : Below B a (w.drewN n) := ⟨h.os, h.tape, h.output, h.size, h.block⟩
theorem below_drew {B : Nat} {a w : World} (h : Below B a w) : Below B a w.drew := ⟨h.os, h.tape, h.output, h.size, h.block⟩
/-- the cells at an address -/
def Row (w : World) (A : Option Addr) (L : List Value) : Prop := L ≠ [] → ∃ b o, A = some ⟨b, o, none⟩ ∧ b < w.heap.size ∧ w.rangeAt b o L
theorem Row.below {w w' : World} {A : Option Addr} {L : List Value} (h : Row w A L) (hb : Below w.heap.size w w') : Row w' A L := fun hl => by
  obtain ⟨b, o, e, hlt, hc⟩ := h hl
  exact ⟨b, o, e, Nat.lt_of_lt_of_le hlt hb.size, fun j v hj => (hb.cell (p := ⟨b, o + j, none⟩) hlt).trans (hc j v hj)⟩
theorem Row.nil (w : World) (A : Option Addr) : Row w A [] := fun h => absurd rfl h
theorem Row.kept {w w' : World} {A : Option Addr} {L : List Value} {row : Option Nat} (h : Row w A L) (hg : w.grownBy w' row) (hne : ∀ a, A = some a → row ≠ some a.block) : Row w' A L := fun hl => by
  obtain ⟨b, o, e, hlt, hc⟩ := h hl
  exact ⟨b, o, e, Nat.lt_of_lt_of_le hlt hg.size, fun j v hj => (hg.cell (hc j v hj) (fun e2 => hne _ e e2.symm))⟩
theorem row_own {w : World} {base e size n : Nat} {A : Option Addr} {c : Nat} {xs : List Value} (h : w.ownsRow base e size (.slice A n c) n xs) : Row w A xs := by
  intro hx
  rcases h.2 with ⟨h2, hn⟩ | ⟨g, cap, cur, h2, hg, hh, hn, hm, hs, ht⟩
  · exfalso
    have := h.1
    subst hn
    exact hx (List.length_eq_zero_iff.1 (by simpa using this))
  · injection h2 with h2 _ h3
    subst h2
    refine ⟨g, 0, rfl, (Array.getElem?_eq_some_iff.1 hh).1, fun j v hj => ?_⟩
    rw [← ht] at hj
    have hlt := (List.getElem?_eq_some_iff.1 hj).1
    rw [List.length_take] at hlt
    rw [List.getElem?_take_of_lt (by omega)] at hj
    rw [cell_of_row w g _ cur e _ hh, Nat.zero_add]
    simpa using hj
theorem own_slice {w : World} {base n e size : Nat} {v : Value} {xs : List Value} (h : w.ownsRow base e size v n xs) : ∃ A c, v = .slice A n c := by
  rcases h.2 with ⟨rfl, rfl⟩ | ⟨g, cap, cur, rfl, _⟩
  · exact ⟨_, _, rfl⟩
  · exact ⟨_, _, rfl⟩
theorem own_cap {w : World} {base e size n : Nat} {A : Option Addr} {c : Nat} {xs : List Value} (h : w.ownsRow base e size (.slice A n c) n xs) : n ≤ c := by
  rcases h.2 with ⟨h2, hn⟩ | ⟨g, cap, cur, h2, hg, hh, hn, hm, hs, ht⟩
  · subst hn; exact Nat.zero_le _
  · injection h2 with h2 _ h3
    subst h3
    exact hn
theorem grown_of_below {w w' : World} (h : Below w.heap.size w w') : w.grownBy w' none := ⟨h.os, h.tape, h.output, h.size, fun k hk _ => h.block k hk⟩
theorem own_below {w w' : World} {base e size n : Nat} {v : Value} {xs : List Value} (h : w.ownsRow base e size v n xs) (hb : Below w.heap.size w w') : w'.ownsRow base e size v n xs := h.kept (grown_of_below hb) (by cases v.ownBlock <;> simp)
theorem own_mono {w : World} {b b' e size n : Nat} {v : Value} {xs : List Value} (h : w.ownsRow b e size v n xs) (hb : b' ≤ b) : w.ownsRow b' e size v n xs :=
  ⟨h.1, h.2.imp id (fun ⟨g, cap, cur, h1, h2, h3⟩ => ⟨g, cap, cur, h1, Nat.le_trans hb h2, h3⟩)⟩
theorem own_ne {w : World} {b b' e e' s s' n n' : Nat} {v v' : Value} {xs xs' : List Value} (h : w.ownsRow b e s v n xs) (h' : w.ownsRow b' e' s' v' n' xs') (hne : e ≠ e') : v.ownBlock = none ∨ v.ownBlock ≠ v'.ownBlock := by
  rcases h.2 with ⟨rfl, _⟩ | ⟨g, cap, cur, rfl, _, hg, _⟩
  · exact .inl rfl
  · rcases h'.2 with ⟨rfl, _⟩ | ⟨g', cap', cur', rfl, _, hg', _⟩
    · exact .inr (by simp [Value.ownBlock])
    · refine .inr (fun q => ?_)
      simp only [Value.ownBlock, Option.some.injEq] at q
      subst q
      rw [hg] at hg'
      exact hne (by injection hg' with q; injection q)
theorem empty_own (W : World) (t s : Nat) : (W.alloc (.cells #[] t)).ownsRow W.heap.size t s (.slice (some ⟨W.heap.size, 0, none⟩) 0 0) 0 [] :=
  ⟨by simp, .inr ⟨W.heap.size, 0, #[], rfl, Nat.le_refl _, heap_alloc_new _ _, Nat.le_refl _, by simp [maxLen], by simp, by simp⟩⟩
theorem new1 (W : World) (a : Value) (t : TypeId) (g : Nat) (hg : g = W.heap.size) : ∀ j u, [a][j]? = some u → (W.alloc (.cells #[a] t)).cell? ((⟨g, 0, none⟩ : Addr).add j) = some u := by
  subst hg
  exact cell_one_new W a t
theorem flat_len {α : Type} {f : α → List Value} {n : Nat} : ∀ {l : List α}, (∀ x ∈ l, (f x).length = n) → (l.flatMap f).length = l.length * n
  | [], _ => by simp
  | a :: r, h => by
    rw [List.flatMap_cons, List.length_append, flat_len (fun x hx => h x (List.mem_cons_of_mem _ hx)), h a (List.mem_cons_self ..), List.length_cons, Nat.succ_mul, Nat.add_comm]
theorem flat_get {α : Type} {f : α → List Value} {n : Nat} : ∀ {l : List α}, (∀ x ∈ l, (f x).length = n) → ∀ (i j : Nat) (x : α) (v : Value), l[i]? = some x → (f x)[j]? = some v → (l.flatMap f)[i * n + j]? = some v
  | [], _, i, j, x, v, h, _ => by simp at h
  | a :: r, hf, 0, j, x, v, h, hv => by
    simp at h; subst h
    rw [List.flatMap_cons, Nat.zero_mul, Nat.zero_add, List.getElem?_append_left (List.getElem?_eq_some_iff.1 hv).1]
    exact hv
  | a :: r, hf, i + 1, j, x, v, h, hv => by
    have := flat_get (fun x hx => hf x (List.mem_cons_of_mem _ hx)) i j x v (by simpa using h) hv
    rw [List.flatMap_cons, List.getElem?_append_right (by rw [hf a (List.mem_cons_self ..), Nat.succ_mul]; omega), hf a (List.mem_cons_self ..), Nat.succ_mul, show i * n + n + j - n = i * n + j by omega]
    exact this
/- fingerprints -/
abbrev Fp := List Int
def IsFp (f : Fp) : Prop := f.length = 32 ∧ ∀ b ∈ f, 0 ≤ b ∧ b ≤ 255
def fpL (f : Fp) : List Value := f.map (Value.int .u8)
def fpA (f : Fp) : Array Value := (fpL f).toArray
theorem fpL_length {f : Fp} (h : IsFp f) : (fpL f).length = 32 := by simp [fpL, h.1]
theorem fpA_size {f : Fp} (h : IsFp f) : (fpA f).size = 32 := by simp [fpA, fpL_length h]
theorem fpL_one {f : Fp} : ∀ v ∈ fpL f, v.oneCell' = true := by
  intro v hv
  simp [fpL] at hv
  obtain ⟨b, _, rfl⟩ := hv
  rfl
def fpU (f : Fp) : List UInt8 := f.map fun z => UInt8.ofNat z.toNat
theorem fpU_cell {f : Fp} (h : ∀ b ∈ f, 0 ≤ b ∧ b ≤ 255) : fpL f = (fpU f).map Extern.Stop.cell := by
  unfold fpL fpU
  rw [List.map_map]
  apply List.map_congr_left
  intro b hb
  have := h b hb
  simp [Extern.Stop.cell]
  omega
def intOf : Value → Int
  | .int _ n => n
  | _ => 0
theorem fpL_inj {f g : Fp} (e : fpL f = fpL g) : f = g := by
  unfold fpL at e
  have : (List.map (Value.int .u8) f).map intOf = (List.map (Value.int .u8) g).map intOf := by rw [e]
  simpa [List.map_map, Function.comp_def, intOf] using this
theorem fpU_inj {f g : Fp} (hf : ∀ b ∈ f, 0 ≤ b ∧ b ≤ 255) (hg : ∀ b ∈ g, 0 ≤ b ∧ b ≤ 255) (h : fpU f = fpU g) : f = g :=
  fpL_inj (by rw [fpU_cell hf, fpU_cell hg, h])
set_option maxRecDepth 10000 in
theorem fp_equal {f g : Fp} (hf : IsFp f) (hg : IsFp g) (w : World) : (Op.equalIn 10000 47 (.agg (fpA f)) (.agg (fpA g))).run Try.prog w = .ok (decide (f = g)) w := by
  have h := run_equalIn_bytes (P := Try.prog) w 9998 47 5 32 Try.underlying47 Try.underlying5 (fun w => Try.sizeOf5 w) (fpU f) (fpU g) (by simp [fpU, hf.1]) (by simp [fpU, hg.1])
  rw [← fpU_cell hf.2, ← fpU_cell hg.2] at h
  rw [show fpA f = (fpL f).toArray from rfl, show fpA g = (fpL g).toArray from rfl, h]
  congr 1
  rw [Bool.eq_iff_iff]
  simp
  exact ⟨fpU_inj hf.2 hg.2, fun e => by rw [e]⟩
theorem info29 : (Try.prog.info? 47).map (·.size) = some 32 := by kernel_rfl
/-- in a quiet region: a whole array is read -/
theorem wpQuiet_load_mid {P : Program} {ops : Array Oper} {rest : List Oper} {op : Oper} {a : Act} {C : World → Prop} {Q : Act → Prop} (hw : Region.wanted op (yielded ops a.tmps) = true) (ty : TypeId) (x : Operand) (ho : op.op = .load ty x)
    (b o : Nat) (hx : a.eval x = .pointer (some ⟨b, o, none⟩)) (cs : List Value) (d : TypeDesc) (hS : ∀ w, C w → w.rangeAt b o cs)
    (hu : P.underlying ty = some d) (hd : d.isRow = true) (hi : (P.info? ty).map (·.size) = some cs.length) (h : wpQuiet P ops C Q rest (a.put op.dst (.agg cs.toArray))) : wpQuiet P ops C Q (op :: rest) a := by
  refine wpQuiet_step fun K hK => ?_
  rw [if_pos hw]
  refine ⟨.agg cs.toArray, fun w hC => ?_, hK _ h⟩
  unfold Oper.quietAt execOp
  simp only [ho, hx, Instr.loadAt, Instr.sureAddr, Sem.run_bind, Sem.run_pure, Result.andThen_ok, run_loadVar_mid w b o ty cs d (hS w hC) hu hd hi]
  exact ⟨rfl, rfl⟩
def fsL (fs : List Fp) : List Value := fs.flatMap fpL
theorem fsL_len {fs : List Fp} (h : ∀ f ∈ fs, IsFp f) : (fsL fs).length = fs.length * 32 := flat_len (fun f hf => fpL_length (h f hf))
def AllFp (fs : List Fp) : Prop := ∀ f ∈ fs, IsFp f
def Fps (w : World) (A : Option Addr) (fs : List Fp) : Prop := Row w A (fsL fs)
theorem Fps.below {w w' : World} {A : Option Addr} {fs : List Fp} (h : Fps w A fs) (hb : Below w.heap.size w w') : Fps w' A fs := Row.below h hb
theorem Fps.nil (w : World) (A : Option Addr) : Fps w A [] := Row.nil w A
theorem Fps.get {w : World} {A : Option Addr} {fs : List Fp} (h : Fps w A fs) (ha : AllFp fs) {k : Nat} {f : Fp} (hk : fs[k]? = some f) :
    ∃ b o, A = some ⟨b, o, none⟩ ∧ b < w.heap.size ∧ w.rangeAt b (o + k * 32) (fpL f) := by
  have hg := fun j v hv => flat_get (f := fpL) (n := 32) (l := fs) (fun f hf => fpL_length (ha f hf)) k j f v hk hv
  have hf := fpL_length (ha f (List.mem_of_getElem? hk))
  obtain ⟨b, o, e, hl, hc⟩ := h (fun e => by
    have := hg 0 _ (List.getElem?_eq_getElem (by omega))
    unfold fsL at e
    rw [e] at this
    cases this)
  refine ⟨b, o, e, hl, fun j v hv => ?_⟩
  have := hc _ _ (hg j v hv)
  rwa [Nat.add_assoc]
/- numbers -/
abbrev Id := Int
def IdOk (x : Id) : Prop := 0 ≤ x ∧ x ≤ 4294967295
def idL (l : List Id) : List Value := l.map (Value.int .u32)
theorem idL_len (l : List Id) : (idL l).length = l.length := List.length_map ..
theorem idL_one (l : List Id) : ∀ u ∈ idL l, u.oneCell' = true := fun u hu => by
  obtain ⟨x, _, rfl⟩ := List.mem_map.1 hu
  rfl
def Ids (w : World) (A : Option Addr) (l : List Id) : Prop := Row w A (idL l)
theorem Ids.below {w w' : World} {A : Option Addr} {l : List Id} (h : Ids w A l) (hb : Below w.heap.size w w') : Ids w' A l := Row.below h hb
theorem Ids.nil (w : World) (A : Option Addr) : Ids w A [] := Row.nil w A
theorem Ids.get {w : World} {A : Option Addr} {l : List Id} (h : Ids w A l) {k : Nat} {x : Id} (hk : l[k]? = some x) :
    ∃ b o, A = some ⟨b, o, none⟩ ∧ b < w.heap.size ∧ w.cell? ⟨b, o + k, none⟩ = some (.int .u32 x) := by
  have hv : (idL l)[k]? = some (.int .u32 x) := by unfold idL; rw [List.getElem?_map, hk]; rfl
  obtain ⟨b, o, e, hl, hc⟩ := h (fun e => by rw [e] at hv; cases hv)
  exact ⟨b, o, e, hl, hc k _ hv⟩
/- lists of numbers -/
structure Lst where
  A : Option Addr
  c : Nat
  l : List Id
def lsV (x : Lst) : Value := .slice x.A x.l.length x.c
def lsL (ls : List Lst) : List Value := ls.map lsV
theorem lsL_len (ls : List Lst) : (lsL ls).length = ls.length := List.length_map ..
theorem lsL_one (ls : List Lst) : ∀ u ∈ lsL ls, u.oneCell' = true := fun u hu => by
  obtain ⟨x, _, rfl⟩ := List.mem_map.1 hu
  rfl
def Inner (w : World) (ls : List Lst) : Prop := ∀ x ∈ ls, Ids w x.A x.l ∧ x.l.length ≤ x.c
theorem Inner.below {w w' : World} {ls : List Lst} (h : Inner w ls) (hb : Below w.heap.size w w') : Inner w' ls := fun x hx => ⟨(h x hx).1.below hb, (h x hx).2⟩
def Ls (w : World) (A : Option Addr) (ls : List Lst) : Prop := Row w A (lsL ls) ∧ Inner w ls
theorem Ls.below {w w' : World} {A : Option Addr} {ls : List Lst} (h : Ls w A ls) (hb : Below w.heap.size w w') : Ls w' A ls := ⟨h.1.below hb, h.2.below hb⟩
theorem Ls.nil (w : World) (A : Option Addr) : Ls w A [] := ⟨Row.nil w A, fun _ hx => nomatch hx⟩
theorem Ls.get {w : World} {A : Option Addr} {ls : List Lst} (h : Ls w A ls) {k : Nat} {x : Lst} (hk : ls[k]? = some x) :
    ∃ b o, A = some ⟨b, o, none⟩ ∧ b < w.heap.size ∧ w.cell? ⟨b, o + k, none⟩ = some (.slice x.A x.l.length x.c) ∧ Ids w x.A x.l ∧ x.l.length ≤ x.c := by
  have hv : (lsL ls)[k]? = some (lsV x) := by unfold lsL; rw [List.getElem?_map, hk]; rfl
  obtain ⟨b, o, e, hl, hc⟩ := h.1 (fun e => by rw [e] at hv; cases hv)
  exact ⟨b, o, e, hl, hc k _ hv, h.2 x (List.mem_of_getElem? hk)⟩
def ids (ls : List Lst) : List (List Id) := ls.map (·.l)
theorem ids_len (ls : List Lst) : (ids ls).length = ls.length := List.length_map ..
theorem ids_get {ls : List Lst} {k : Nat} {x : Lst} (h : ls[k]? = some x) : (ids ls)[k]? = some x.l := by unfold ids; rw [List.getElem?_map, h]; rfl
/- what a type's description says -/
theorem info_parts {P : Program} {t : TypeId} {z : Option Value} {s b : Nat} (h : (P.info? t).map (fun i => (i.zero, i.size, i.bytes)) = some (z, s, b)) : ∃ i, P.info? t = some i ∧ i.zero = z ∧ i.size = s ∧ i.bytes = b := by
  cases hi : P.info? t with
  | none => rw [hi] at h; cases h
  | some i =>
    rw [hi] at h
    injection h with h
    injection h with h1 h2
    injection h2 with h2 h3
    exact ⟨i, rfl, h1, h2, h3⟩
theorem info24 : (Try.prog.info? 33).map (fun i => (i.zero, i.size, i.bytes)) = some (some (.int .u32 0), 1, 4) := by kernel_rfl
theorem info30 : (Try.prog.info? 44).map (fun i => (i.zero, i.size, i.bytes)) = some (some (.slice none 0 0), 1, 24) := by kernel_rfl
theorem info29' : (Try.prog.info? 47).map (fun i => (i.zero, i.size, i.bytes)) = some (some (.agg (Array.replicate 32 (.int .u8 0))), 32, 32) := by kernel_rfl
end Go.Proofs.Ytnpgfhoagpeelaa
