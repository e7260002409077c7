/- The table of uses: what it holds. -/
import Derived.Test.YtkfajeicbkeigaaDoorTC
namespace Go.Proofs.YtkfajeicbkeigaaDoor
open Go.RowKit Go.Maps
abbrev Pr := Nm × Ck
def plStep (a : List Ck) (x : Pr) : List Ck := if x.2.1 ∈ a.map (·.1) then a else a ++ [x.2]
/-- the places, each once, with the length that is met first -/
def pl (P : List Pr) : List Ck := P.foldl plStep []
def plSet (P : List Pr) : List Plc := (pl P).map (·.1)
theorem pl_snoc (P : List Pr) (x : Pr) : pl (P ++ [x]) = if x.2.1 ∈ plSet P then pl P else pl P ++ [x.2] := by
  rw [pl, List.foldl_append]
  rfl
def lenL (l : List Ck) (p : Plc) : Int := match l.find? (fun c => decide (c.1 = p)) with
  | some c => c.2
  | none => 0
def lenF (P : List Pr) (p : Plc) : Int := lenL (pl P) p
def nmF (P : List Pr) (p : Plc) : List Nm := (P.filter fun x => decide (x.2.1 = p)).map (·.1)
theorem pl_old {P : List Pr} {x : Pr} (h : x.2.1 ∈ plSet P) : pl (P ++ [x]) = pl P := by rw [pl_snoc, if_pos h]
theorem pl_new {P : List Pr} {x : Pr} (h : x.2.1 ∉ plSet P) : pl (P ++ [x]) = pl P ++ [x.2] := by rw [pl_snoc, if_neg h]
theorem plSet_mem {P : List Pr} {p : Plc} : p ∈ plSet P ↔ ∃ x ∈ P, x.2.1 = p := by
  induction P using snoc_ind with
  | h0 => simp [plSet, pl]
  | h1 P x ih =>
    by_cases h : x.2.1 ∈ plSet P
    · have e : plSet (P ++ [x]) = plSet P := by unfold plSet; rw [pl_old h]
      rw [e]
      constructor
      · intro hp
        obtain ⟨y, hy, e⟩ := ih.1 hp
        exact ⟨y, List.mem_append.2 (.inl hy), e⟩
      · rintro ⟨y, hy, e2⟩
        rcases List.mem_append.1 hy with hy | hy
        · exact ih.2 ⟨y, hy, e2⟩
        · rw [List.mem_singleton] at hy; subst hy; rw [← e2]; exact h
    · have e : plSet (P ++ [x]) = plSet P ++ [x.2.1] := by unfold plSet; rw [pl_new h, List.map_append]; rfl
      rw [e, List.mem_append, ih]
      constructor
      · rintro (⟨y, hy, e⟩ | hp)
        · exact ⟨y, List.mem_append.2 (.inl hy), e⟩
        · rw [List.mem_singleton] at hp; exact ⟨x, by simp, hp.symm⟩
      · rintro ⟨y, hy, e2⟩
        rcases List.mem_append.1 hy with hy | hy
        · exact .inl ⟨y, hy, e2⟩
        · rw [List.mem_singleton] at hy; subst hy; exact .inr (by rw [List.mem_singleton]; exact e2.symm)
theorem lenF_old {P : List Pr} {x : Pr} (h : x.2.1 ∈ plSet P) (p : Plc) : lenF (P ++ [x]) p = lenF P p := by unfold lenF; rw [pl_old h]
theorem find_none {l : List Ck} {p : Plc} (h : p ∉ l.map (·.1)) : l.find? (fun c => decide (c.1 = p)) = none := by
  rw [List.find?_eq_none]
  intro c hc
  simp only [decide_eq_true_eq]
  intro e
  exact h (List.mem_map.2 ⟨c, hc, e⟩)
theorem lenF_new {P : List Pr} {x : Pr} (h : x.2.1 ∉ plSet P) (p : Plc) : lenF (P ++ [x]) p = if p = x.2.1 then x.2.2 else lenF P p := by
  unfold lenF lenL
  rw [pl_new h, List.find?_append]
  by_cases e : p = x.2.1
  · rw [if_pos e, e, find_none h]
    simp
  · rw [if_neg e]
    have : [x.2].find? (fun c => decide (c.1 = p)) = none := by
      rw [List.find?_eq_none]
      intro c hc
      rw [List.mem_singleton] at hc
      subst hc
      simpa using fun q => e q.symm
    rw [this]
    simp
theorem nmF_snoc (P : List Pr) (x : Pr) (p : Plc) : nmF (P ++ [x]) p = if p = x.2.1 then nmF P p ++ [x.1] else nmF P p := by
  unfold nmF
  rw [List.filter_append, List.map_append]
  by_cases e : p = x.2.1
  · rw [if_pos e]; simp [e]
  · rw [if_neg e]
    have : decide (x.2.1 = p) = false := by simpa using fun q => e q.symm
    simp [this]
theorem nmF_none {P : List Pr} {p : Plc} (h : p ∉ plSet P) : nmF P p = [] := by
  unfold nmF
  rw [List.map_eq_nil_iff, List.filter_eq_nil_iff]
  intro x hx
  simp only [decide_eq_true_eq]
  exact fun e => h (plSet_mem.2 ⟨x, hx, e⟩)
theorem pl_len (P : List Pr) : (pl P).length ≤ P.length := by
  induction P using snoc_ind with
  | h0 => exact Nat.le_refl _
  | h1 P x ih =>
    rw [pl_snoc, List.length_append]
    split
    · omega
    · rw [List.length_append]; simp; omega
theorem plSet_nodup (P : List Pr) : (plSet P).Nodup := by
  induction P using snoc_ind with
  | h0 => simp [plSet, pl]
  | h1 P x ih =>
    by_cases h : x.2.1 ∈ plSet P
    · have e : plSet (P ++ [x]) = plSet P := by unfold plSet; rw [pl_old h]
      rw [e]; exact ih
    · have e : plSet (P ++ [x]) = plSet P ++ [x.2.1] := by unfold plSet; rw [pl_new h, List.map_append]; rfl
      rw [e, List.nodup_append]
      exact ⟨ih, by simp, fun a ha b hb => by rw [List.mem_singleton] at hb; subst hb; rintro rfl; exact h ha⟩
/-- the pairs of names and chunks -/
def prs (us : List Us) : List Pr := us.flatMap fun u => u.cs.map fun c => (u.nm, c)
def prU (u : Us) (m : Nat) : List Pr := (u.cs.take m).map fun c => (u.nm, c)
theorem prs_take {us : List Us} {k : Nat} {u : Us} (h : us[k]? = some u) : prs (us.take (k + 1)) = prs (us.take k) ++ prU u u.cs.length := by
  unfold prs prU
  rw [List.take_add_one, h, List.flatMap_append, List.take_length]
  simp
theorem prU_snoc {u : Us} {m : Nat} {c : Ck} (h : u.cs[m]? = some c) : prU u (m + 1) = prU u m ++ [(u.nm, c)] := by
  unfold prU
  rw [List.take_add_one, h, List.map_append]
  rfl
theorem prs_len (us : List Us) : (prs us).length = numC us := by
  unfold prs numC
  rw [List.length_flatMap]
  simp
/-- all of a use's numbers are what Go holds -/
def CkOk (c : Ck) : Prop := PlcOk c.1 ∧ (Lit.int .i64 c.2).wf = true
def AllOk (us : List Us) : Prop := ∀ u ∈ us, ∀ c ∈ u.cs, CkOk c
def plV (c : Ck) : List Value := [.int .u32 c.1.1, .int .i64 c.1.2]
theorem plV_len (c : Ck) : (plV c).length = 2 := rfl
abbrev Tok := DataW Value
def RV (v : Value) : Option (Tok × List MemPlace) := some (.held v, [])
abbrev tabA (UA : Option Addr) (n c ms mb : Nat) (PA : Option Addr) (pn pc : Nat) : Array Value := #[.slice UA n c, .map (some ms), .map (some mb), .slice PA pn pc]
/-- what the table holds -/
structure Mem (B : Nat) (W : World) (t ms mb : Nat) (UA : Option Addr) (n c : Nat) (L : List Ck) (PA : Option Addr) (pc : Nat) (fs : Plc → Int) (fi : Plc → Option Nat) (nf : Plc → List Nm) (N : Nat) : Prop where
  lo : t < B ∧ ms < B ∧ mb < B ∧ ms ≠ mb
  tab : W.heap[t]? = some (.cells (tabA UA n c ms mb PA L.length pc) 90)
  row : W.ownsRow B 65 2 (.slice PA L.length pc) L.length (L.flatMap plV)
  size : ∃ D : Dat, W.ownsMap Tryd.prog 65 (plainElem Tryd.prog 3) ms N D ∧ FMap plcKey PlcOk (.lit (.int .i64 0)) D (fun p => .lit (.int .i64 (fs p)))
  by_ : ∃ D : Tok, W.ownsMap Tryd.prog 65 RV mb N D ∧ FMap plcKey PlcOk (.held (.map none)) D (fun p => .held (.map (fi p)))
  inn : ∀ p a, fi p = some a → B ≤ a ∧ W.ownsMap Tryd.prog 9 (plainElem Tryd.prog 3) a N (setS (nf p))
  inj : ∀ p q a, fi p = some a → fi q = some a → p = q
theorem ownsMap_obj {H : Type} {P : Program} {k : TypeId} {R : Value → Option (DataW H × List MemPlace)} {w : World} {b n : Nat} {D : DataW H} (h : w.ownsMap P k R b n D) : ∃ es clock, w.heap[b]? = some (.map es clock) := by
  obtain ⟨es, clock, hb, _⟩ := h
  exact ⟨es, clock, hb⟩
theorem row_ne_map {w : World} {base e size n b : Nat} {v : Value} {xs : List Value} (h : w.ownsRow base e size v n xs) (hb : ∃ es clock, w.heap[b]? = some (.map es clock)) : v.ownBlock ≠ some b := by
  intro q
  rcases h.2 with ⟨rfl, _⟩ | ⟨g, cap, cur, rfl, _, hg, _⟩
  · cases q
  · obtain ⟨es, clock, hm⟩ := hb
    simp only [Value.ownBlock, Option.some.injEq] at q
    subst q
    rw [hg] at hm
    cases hm
section
variable {B : Nat} {W W' : World} {t ms mb : Nat} {UA : Option Addr} {n c : Nat} {L : List Ck} {PA : Option Addr} {pc : Nat} {fs : Plc → Int} {fi : Plc → Option Nat} {nf : Plc → List Nm} {N : Nat}
theorem Mem.tl (h : Mem B W t ms mb UA n c L PA pc fs fi nf N) : t < W.heap.size := (Array.getElem?_eq_some_iff.1 h.tab).1
theorem Mem.t_not_map (h : Mem B W t ms mb UA n c L PA pc fs fi nf N) {b : Nat} (hb : ∃ es clock, W.heap[b]? = some (.map es clock)) : t ≠ b := by
  rintro rfl
  obtain ⟨es, clock, hm⟩ := hb
  rw [h.tab] at hm
  cases hm
/-- the table stays where nothing of it turns -/
theorem Mem.grown (h : Mem B W t ms mb UA n c L PA pc fs fi nf N) (hb : Below W.heap.size W W') : Mem B W' t ms mb UA n c L PA pc fs fi nf N := by
  have hg := grown_of_below hb
  refine ⟨h.lo, (hb.block t h.tl).trans h.tab, own_below h.row hb, ?_, ?_, ?_, h.inj⟩
  · obtain ⟨D, h1, h2⟩ := h.size
    exact ⟨D, h1.kept hg (by simp), h2⟩
  · obtain ⟨D, h1, h2⟩ := h.by_
    exact ⟨D, h1.kept hg (by simp), h2⟩
  · intro p a hp
    obtain ⟨h1, h2⟩ := h.inn p a hp
    exact ⟨h1, h2.kept hg (by simp)⟩
theorem Mem.putBy (h : Mem B W t ms mb UA n c L PA pc fs fi nf N) {p : Plc} (hp : PlcOk p) {g : Nat} (hB : B ≤ g) (hg0 : W.ownsMap Tryd.prog 9 (plainElem Tryd.prog 3) g N (setS (nf p))) (hfr : ∀ q a, fi q = some a → a ≠ g) {D : Tok} (hD : FMap plcKey PlcOk (.held (.map none)) D (fun p => .held (.map (fi p))))
    (hown : W'.ownsMap Tryd.prog 65 RV mb (N + 1) (D.put (plcKey p) (.held (.map (some g))))) (hg : W.grownBy W' (some mb)) :
    Mem B W' t ms mb UA n c L PA pc fs (fun q => if q = p then some g else fi q) nf (N + 1) := by
  have hlo := h.lo
  have hmb : ∃ es clock, W.heap[mb]? = some (.map es clock) := by obtain ⟨D, h1, _⟩ := h.by_; exact ownsMap_obj h1
  refine ⟨h.lo, (hg.block t h.tl (fun e => h.t_not_map hmb (Option.some.inj e))).trans h.tab, h.row.kept hg (.inr (row_ne_map h.row hmb)), ?_, ?_, ?_, ?_⟩
  · obtain ⟨D, h1, h2⟩ := h.size
    exact ⟨D, (h1.kept hg (fun e => hlo.2.2.2 (Option.some.inj e))).mono (Nat.le_succ _), h2⟩
  · refine ⟨_, hown, ?_⟩
    have := hD.put (x := p) (plcKey_lit p) (fun a ha e => plcKey_inj ha hp e) (.held (.map (some g)))
    refine ⟨this.1, fun a ha => ?_⟩
    rw [this.2 a ha]
    dsimp only
    split <;> rfl
  · intro q a hq
    by_cases e : q = p
    · rw [if_pos e] at hq
      cases hq
      subst e
      exact ⟨hB, (hg0.kept hg (fun e => by have := Option.some.inj e; omega)).mono (Nat.le_succ _)⟩
    · rw [if_neg e] at hq
      obtain ⟨h1, h2⟩ := h.inn q a hq
      exact ⟨h1, (h2.kept hg (fun e => by have := Option.some.inj e; omega)).mono (Nat.le_succ _)⟩
  · intro x y a hx hy
    by_cases e1 : x = p <;> by_cases e2 : y = p
    · rw [e1, e2]
    · rw [if_pos e1] at hx; rw [if_neg e2] at hy; cases hx; exact absurd rfl (hfr y _ hy)
    · rw [if_neg e1] at hx; rw [if_pos e2] at hy; cases hy; exact absurd rfl (hfr x _ hx)
    · rw [if_neg e1] at hx; rw [if_neg e2] at hy; exact h.inj x y a hx hy
theorem Mem.putSize (h : Mem B W t ms mb UA n c L PA pc fs fi nf N) {p : Plc} (hp : PlcOk p) {v : Int} {D : Dat} (hD : FMap plcKey PlcOk (.lit (.int .i64 0)) D (fun p => .lit (.int .i64 (fs p))))
    (hown : W'.ownsMap Tryd.prog 65 (plainElem Tryd.prog 3) ms (N + 1) (D.put (plcKey p) (.lit (.int .i64 v)))) (hg : W.grownBy W' (some ms)) :
    Mem B W' t ms mb UA n c L PA pc (fun q => if q = p then v else fs q) fi nf (N + 1) := by
  have hlo := h.lo
  have hmb : ∃ es clock, W.heap[ms]? = some (.map es clock) := by obtain ⟨D, h1, _⟩ := h.size; exact ownsMap_obj h1
  refine ⟨h.lo, (hg.block t h.tl (fun e => h.t_not_map hmb (Option.some.inj e))).trans h.tab, h.row.kept hg (.inr (row_ne_map h.row hmb)), ?_, ?_, ?_, h.inj⟩
  · refine ⟨_, hown, ?_⟩
    have := hD.put (x := p) (plcKey_lit p) (fun a ha e => plcKey_inj ha hp e) (.lit (.int .i64 v))
    refine ⟨this.1, fun a ha => ?_⟩
    rw [this.2 a ha]
    dsimp only
    split <;> rfl
  · obtain ⟨D, h1, h2⟩ := h.by_
    exact ⟨D, (h1.kept hg (fun e => hlo.2.2.2 (Option.some.inj e).symm)).mono (Nat.le_succ _), h2⟩
  · intro q a hq
    obtain ⟨h1, h2⟩ := h.inn q a hq
    exact ⟨h1, (h2.kept hg (fun e => by have := Option.some.inj e; omega)).mono (Nat.le_succ _)⟩
theorem Mem.putName (h : Mem B W t ms mb UA n c L PA pc fs fi nf N) {p : Plc} {a : Nat} (ha : fi p = some a) {x : Nm}
    (hown : W'.ownsMap Tryd.prog 9 (plainElem Tryd.prog 3) a (N + 1) ((setS (nf p)).put (nmKey x) one)) (hg : W.grownBy W' (some a)) :
    Mem B W' t ms mb UA n c L PA pc fs fi (fun q => if q = p then nf q ++ [x] else nf q) (N + 1) := by
  have hlo := h.lo
  obtain ⟨hBa, hoa⟩ := h.inn p a ha
  have hmb : ∃ es clock, W.heap[a]? = some (.map es clock) := ownsMap_obj hoa
  refine ⟨h.lo, (hg.block t h.tl (fun e => h.t_not_map hmb (Option.some.inj e))).trans h.tab, h.row.kept hg (.inr (row_ne_map h.row hmb)), ?_, ?_, ?_, h.inj⟩
  · obtain ⟨D, h1, h2⟩ := h.size
    exact ⟨D, (h1.kept hg (fun e => by have := Option.some.inj e; omega)).mono (Nat.le_succ _), h2⟩
  · obtain ⟨D, h1, h2⟩ := h.by_
    exact ⟨D, (h1.kept hg (fun e => by have := Option.some.inj e; omega)).mono (Nat.le_succ _), h2⟩
  · intro q b hq
    obtain ⟨h1, h2⟩ := h.inn q b hq
    refine ⟨h1, ?_⟩
    by_cases e : q = p
    · subst e
      rw [ha] at hq
      cases hq
      rw [if_pos rfl, setS_snoc]
      exact hown
    · rw [if_neg e]
      exact (h2.kept hg (fun e2 => e (h.inj q p a (by rw [hq, Option.some.inj e2]) ha))).mono (Nat.le_succ _)
theorem Mem.push (h : Mem B W t ms mb UA n c L PA pc fs fi nf N) {x : Ck} {A' : Option Addr} {c' : Nat}
    (hown : W'.ownsRow B 65 2 (.slice A' (L.length + 1) c') (L.length + 1) (L.flatMap plV ++ plV x)) (hg : W.grownBy W' (Value.slice PA L.length pc).ownBlock) :
    Mem B (W'.setCell ⟨t, 3, none⟩ (.slice A' (L.length + 1) c')) t ms mb UA n c (L ++ [x]) A' c' fs fi nf N := by
  have hlo := h.lo
  have htr : some t ≠ (Value.slice PA L.length pc).ownBlock := fun e => by have := (h.row.lt t e.symm).1; omega
  have ht' : W'.heap[t]? = some (.cells (tabA UA n c ms mb PA L.length pc) 90) := (hg.block t h.tl htr).trans h.tab
  have hk : ∀ b, (∃ es clock, W.heap[b]? = some (.map es clock)) → some b ≠ (Value.slice PA L.length pc).ownBlock ∧ b ≠ t := fun b hb => ⟨fun e => row_ne_map h.row hb e.symm, fun e => h.t_not_map hb e.symm⟩
  refine ⟨h.lo, ?_, ?_, ?_, ?_, ?_, h.inj⟩
  · rw [Go.heap_setCell_same _ _ 3 _ _ _ ht', List.length_append]
    rfl
  · rw [List.length_append, List.flatMap_append]
    have := ownsRow_setCell_below hown (a := ⟨t, 3, none⟩) hlo.1 (.slice A' (L.length + 1) c')
    simpa using this
  · obtain ⟨D, h1, h2⟩ := h.size
    obtain ⟨k1, k2⟩ := hk ms (ownsMap_obj h1)
    exact ⟨D, (h1.kept hg k1).setCell k2 _, h2⟩
  · obtain ⟨D, h1, h2⟩ := h.by_
    obtain ⟨k1, k2⟩ := hk mb (ownsMap_obj h1)
    exact ⟨D, (h1.kept hg k1).setCell k2 _, h2⟩
  · intro q a hq
    obtain ⟨h1, h2⟩ := h.inn q a hq
    obtain ⟨k1, k2⟩ := hk a (ownsMap_obj h2)
    exact ⟨h1, (h2.kept hg k1).setCell k2 _⟩
theorem Mem.more (h : Mem B W t ms mb UA n c L PA pc fs fi nf N) (k : Nat) : Mem B W t ms mb UA n c L PA pc fs fi nf (N + k) := by
  refine ⟨h.lo, h.tab, h.row, ?_, ?_, fun p a hp => ⟨(h.inn p a hp).1, (h.inn p a hp).2.mono (Nat.le_add_right _ _)⟩, h.inj⟩
  · obtain ⟨D, h1, h2⟩ := h.size
    exact ⟨D, h1.mono (Nat.le_add_right _ _), h2⟩
  · obtain ⟨D, h1, h2⟩ := h.by_
    exact ⟨D, h1.mono (Nat.le_add_right _ _), h2⟩
end
/-- what the table holds when these pairs have been put -/
def Made (B : Nat) (W : World) (t ms mb : Nat) (UA : Option Addr) (n c : Nat) (P : List Pr) (im : Plc → Option Nat) (PA : Option Addr) (pc : Nat) : Prop :=
  Mem B W t ms mb UA n c (pl P) PA pc (lenF P) im (nmF P) (3 * P.length) ∧ ∀ p, im p = none ↔ p ∉ plSet P
theorem Made.grown {B : Nat} {W W' : World} {t ms mb : Nat} {UA : Option Addr} {n c : Nat} {P : List Pr} {im : Plc → Option Nat} {PA : Option Addr} {pc : Nat} (h : Made B W t ms mb UA n c P im PA pc) (hb : Below W.heap.size W W') : Made B W' t ms mb UA n c P im PA pc := ⟨h.1.grown hb, h.2⟩
end Go.Proofs.YtkfajeicbkeigaaDoor
