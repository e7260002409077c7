/- A range over a function: what Look of bytes 0 hands back. -/
import Derived.Test.YtocfhldmnbmapaaGreatDoorAL
import Derived.RangeFuncBox
import Derived.RangeFuncNested
import Derived.RangeFuncBound
import Derived.RangeFuncCalls
import Derived.RangeFuncLeaves
import Derived.OwnWalkIn
import Derived.TacticsInMore
import Derived.LoopNIn
import Derived.LoopIn
import Derived.Maps.OwnIn
import Derived.Maps.AppendAt
import Derived.Shelf.Abstract
namespace Go.Proofs.YtocfhldmnbmapaaGreatDoor
open Go.RowKit
attribute [local go_sem] Oper.semAt_some
/-- the blocks of X lie as they lay -/
def KeepX (X : Nat → Prop) (A B : World) : Prop := ∀ b, X b → B.heap[b]? = A.heap[b]?
theorem KeepX.refl {X : Nat → Prop} {A : World} : KeepX X A A := fun _ _ => rfl
theorem KeepX.trans {X : Nat → Prop} {A B C : World} (h : KeepX X A B) (k : KeepX X B C) : KeepX X A C := fun b hb => (k b hb).trans (h b hb)
theorem KeepX.grown {X : Nat → Prop} {A B : World} {row : Option Nat} (h : A.grownBy B row) (hX : ∀ b, X b → b < A.heap.size ∧ some b ≠ row) : KeepX X A B := fun b hb => h.block b (hX b hb).1 (hX b hb).2
theorem yieldAt_any {P : Program} {l : Nat} {args : Array Value} {W : World} {R : Ending → World → Prop} {m : Nat} (h : YieldAt Fence.wide m P l args W R) (k : Nat) : YieldAt Fence.wide k P l args W R := by
  obtain ⟨fn, tmps, assign, body, hy, hF, hR⟩ := h
  exact ⟨fn, tmps, assign, body, hy, hF, fun c cs _ => hR c cs (room_wide _)⟩
/-- what an iterator promises: of each x of xs, in their order, a value y is handed over of which Ex tells (in memory too); between two rounds only new blocks are laid; the blocks of X are read -/
def Yields {α β : Type} (P : Program) (gf : FuncId) (lb : Array Value) (enc : β → Value) (Ex : α → β → World → Prop) (X : Nat → Prop) (xs : List α) (w : World) : Prop :=
  ∀ (l : Nat) (J : List α → World → Prop) (Jx : World → Prop) (W : World), Below w.heap.size w W →
    (∀ pre A B, J pre A → Below A.heap.size A B → J pre B) → (∀ A B, Jx A → Below A.heap.size A B → Jx B) →
    (∀ pre x rest y A, xs = pre ++ x :: rest → J pre A → Ex x y A → YieldAt Fence.wide 1 P l #[enc y] A fun e B =>
      (e = .returned (.bool true) ∧ J (pre ++ [x]) B ∧ A.heap.size ≤ B.heap.size ∧ KeepX X A B) ∨ (e = .returned (.bool false) ∧ Jx B)) →
    J [] W → Calls P gf (#[.func (.yield l) #[] #[]] ++ lb) W fun e B => (∃ v, e = .returned v) ∧ (J xs B ∨ Jx B)
def endsE {α : Type} (B : Nat) (X : Nat → Prop) (I : List α → World → Prop) (Ix : Code → World → Prop) (xs : List α) (W : World) : Exit → Act → World → Prop
  | .normal, _, V => KeepsFrom B W V ∧ KeepX X W V ∧ I xs V
  | .ret, _, V => KeepsFrom B W V ∧ Ix .ret V
  | .exit id, _, V => KeepsFrom B W V ∧ Ix (.exit id) V
  | .goto t, _, V => KeepsFrom B W V ∧ Ix (.goto t) V
  | .panic _, _, _ => False
  | .outgrown, _, _ => False
theorem own_grown {α : Type} {B : Nat} {I : α → World → Prop} (h : OwnFrom B I) {s : α} {A C : World} (hI : I s A) (hb : Below A.heap.size A C) : I s C :=
  h s A C none hI (grown_of_below hb) (fun _ e => by cases e)
/-- the loop's record and the block of its late calls, in a world -/
def Laid (lp : LoopState → Option Code → Loop) (B : Nat) (s : LoopState) (j : Option Code) (W : World) : Prop :=
  W.heap[B + 1]? = some (.loop (lp s j)) ∧ W.heap[B]? = some (.deferred (some []))
theorem Laid.below {lp : LoopState → Option Code → Loop} {B : Nat} {s : LoopState} {j : Option Code} {A C : World} (h : Laid lp B s j A) (hb : Below A.heap.size A C) : Laid lp B s j C :=
  ⟨(hb.block _ (Array.getElem?_eq_some_iff.1 h.1).1).trans h.1, (hb.block _ (Array.getElem?_eq_some_iff.1 h.2).1).trans h.2⟩
theorem Laid.keeps {lp : LoopState → Option Code → Loop} {B : Nat} {s : LoopState} {j : Option Code} {A C : World} (h : Laid lp B s j A) (hb : KeepsFrom B A C) : Laid lp B s j C :=
  ⟨hb.same _ _ (Nat.le_succ _) h.1 rfl, hb.same _ _ (Nat.le_refl _) h.2 rfl⟩
theorem Laid.put {lp : LoopState → Option Code → Loop} {B : Nat} {s s' : LoopState} {j j' : Option Code} {A : World} (h : Laid lp B s j A) : Laid lp B s' j' (A.putObj (B + 1) (.loop (lp s' j'))) :=
  ⟨World.putObj_heap_same (Array.getElem?_eq_some_iff.1 h.1).1, (World.putObj_heap_other (by omega)).trans h.2⟩
/-- the law -/
theorem wpIn_rangeE {α β : Type} {P : Program} {g : Operand} {p : Tmp} {assign body : Code} {Q : Exit → Act → World → Prop} {a : Act} {w : World} {n : Nat} {gf : Nat} {lb : Array Value}
    (hg : a.eval g = .func (.func gf) #[] lb) (eg : ∀ args w, (callFunc gf args).run P w = .ok (.enter gf args) w)
    {enc : β → Value} {Ex : α → β → World → Prop} {X : Nat → Prop} {xs : List α} (hseq : Yields P gf lb enc Ex X xs w) (hX : ∀ b, X b → b < w.heap.size)
    (hEx : ∀ x y, Own (fun (_ : Unit) W => Ex x y W))
    (I : List α → World → Prop) (Ix : Code → World → Prop) (hI : OwnFrom w.heap.size I) (hIx : OwnFrom w.heap.size Ix) (h0 : I [] w)
    (ob : β → Obj) (a₁ : Nat → β → Act)
    (hassign : ∀ (l : Nat) (y : β) (W : World) (K : Act → World → Prop), K (a₁ W.heap.size y) (W.alloc (ob y)) →
      assign.wpIn (Fence.wide.inRound l) n P (Exit.then K (fun _ _ _ => False)) { tmps := a.tmps.setIfInBounds p (enc y), defers := [] } W)
    (hbody : ∀ (l : Nat) (pre : List α) (x : α) (rest : List α) (y : β) (b : Nat) (W : World), w.heap.size ≤ l → xs = pre ++ x :: rest → I pre W → Ex x y W → W.heap[b]? = some (ob y) → w.heap.size ≤ b → w.heap.size ≤ W.heap.size →
      body.wpIn (Fence.wide.inRound l) n P (endsE w.heap.size X I Ix (pre ++ [x]) W) (a₁ b y) W)
    (hdone : ∀ (D : Nat) (W : World), w.heap.size ≤ D → I xs W → W.heap[D]? = some (.deferred (some [])) → Q .normal { a with defers := { target := .collected D, args := #[] } :: a.defers } W)
    (hstop : ∀ (D : Nat) (c : Code) (W : World), w.heap.size ≤ D → Ix c W → W.heap[D]? = some (.deferred (some [])) → c.wpIn Fence.wide n P Q { a with defers := { target := .collected D, args := #[] } :: a.defers } W) :
    (Code.rangeFunc g #[p] assign body).wpIn Fence.wide n P Q a w := by
  refine wpIn_rangeFunc fun fn hfn => ?_
  let lp : LoopState → Option Code → Loop := fun s j => { state := s, pending := j, fn, tmps := a.tmps, params := #[p], assign, body, defers := w.heap.size }
  obtain ⟨W1, hW1⟩ : ∃ W1, (w.alloc (.deferred (some []))).alloc (.loop (lp .ready none)) = W1 := ⟨_, rfl⟩
  have hL : Laid lp w.heap.size .ready none W1 := by
    subst hW1
    refine ⟨?_, (Below.heap_alloc _ _ _ (by simp)).trans (World.alloc_heap_new w _)⟩
    have := World.alloc_heap_new (w.alloc (.deferred (some []))) (.loop (lp .ready none))
    rwa [World.size_alloc] at this
  have hb1 : Below w.heap.size w W1 := by
    subst hW1
    exact ((Below.refl _ w).alloc (Nat.le_refl _) _).alloc (by simp) _
  have hI1 : I [] W1 := own_grown hI h0 hb1
  refine ⟨w.heap.size + 1, [{ target := .collected w.heap.size, args := #[] }], W1, { target := .fn (.func gf) lb, args := #[.func (.yield (w.heap.size + 1)) #[] #[]] }, W1, gf, #[.func (.yield (w.heap.size + 1)) #[] #[]] ++ lb, W1, ?_, ?_, fun _ _ => trivial, ?_, (fun h => by cases h), ?_⟩
  · subst hW1
    exact run_enterLoop_outer _ _ _ _ _
  · simp only [resolve, hg]
    simp [go_sem]
  · simp [invoke, go_sem, eg]
  refine callsIn_wide.2 ?_
  refine (hseq (w.heap.size + 1) (fun pre W => I pre W ∧ Laid lp w.heap.size .ready none W ∧ w.heap.size ≤ W.heap.size) (fun W => ∃ c, Ix c W ∧ Laid lp w.heap.size .done (some c) W) W1 hb1
    (fun pre A B h hb => ⟨own_grown hI h.1 hb, h.2.1.below hb, Nat.le_trans h.2.2 hb.size⟩)
    (fun A B h hb => by obtain ⟨c, h1, h2⟩ := h; exact ⟨c, own_grown hIx h1 hb, h2.below hb⟩) ?_ ⟨hI1, hL, hb1.size⟩).mono ?_
  · rintro pre x rest y A hxs ⟨hi, hl, hsz⟩ hex
    have hlt := (Array.getElem?_eq_some_iff.1 hl.1).1
    have hy : (Instr.yield (w.heap.size + 1) #[enc y]).run P A = .ok (.round (w.heap.size + 1) fn (a.tmps.setIfInBounds p (enc y)) assign body) A := by
      have h0 := run_yield (P := P) (args := #[enc y]) hl.1 rfl
      simpa [lp] using h0
    refine yieldAt_any (m := n) ⟨fn, _, assign, body, hy, roundIn_of_wpIn hfn ?_⟩ 1
    have hal : Laid lp w.heap.size .ready none (A.alloc (ob y)) := hl.below ((Below.refl _ A).alloc (Nat.le_refl _) _)
    refine hassign _ y A _ ⟨_, run_beginRound hal.1 rfl, ?_⟩
    have hg1 : A.grownBy ((A.alloc (ob y)).putObj (w.heap.size + 1) (.loop (lp .busy none))) (some (w.heap.size + 1)) := by
      have h2 := grownBy_putObj' (A.alloc (ob y)) (w.heap.size + 1) (.loop (lp .busy none))
      exact ⟨rfl, rfl, rfl, by simp, fun k hk hne => (h2.block k (by simp; omega) hne).trans (Below.heap_alloc _ _ _ hk)⟩
    have hrow : ∀ r, some (w.heap.size + 1) = some r → w.heap.size ≤ r ∧ ∃ o : Obj, A.heap[r]? = some o ∧ o.isCells = false := fun r e => by cases e; exact ⟨Nat.le_succ _, _, hl.1, rfl⟩
    have hL2 : Laid lp w.heap.size .busy none ((A.alloc (ob y)).putObj (w.heap.size + 1) (.loop (lp .busy none))) := hal.put
    have hbk : ((A.alloc (ob y)).putObj (w.heap.size + 1) (.loop (lp .busy none))).heap[A.heap.size]? = some (ob y) := (World.putObj_heap_other (by omega)).trans (World.alloc_heap_new A _)
    obtain ⟨W2, hW2⟩ : ∃ W2, (A.alloc (ob y)).putObj (w.heap.size + 1) (.loop (lp .busy none)) = W2 := ⟨_, rfl⟩
    have hst2 : (A.alloc (ob y)).putObj (w.heap.size + 1) (.loop { lp .ready none with state := .busy }) = W2 := hW2
    rw [hst2]
    rw [hW2] at hg1 hL2 hbk
    refine wpIn_mono (hbody _ pre x rest y A.heap.size W2 (Nat.le_succ _) hxs (hI _ _ _ _ hi hg1 hrow) (hEx x y () _ _ _ hex hg1 fun r e => (hrow r e).2) hbk hsz (Nat.le_trans hsz hg1.size)) ?_
    have hk1 : KeepX X A W2 := KeepX.grown hg1 fun b hb => ⟨Nat.lt_of_lt_of_le (hX b hb) hsz, fun e => by cases e; have := hX _ hb; omega⟩
    have fin : ∀ (j : Option Code) (V : World), KeepsFrom w.heap.size W2 V → (Instr.endRound (w.heap.size + 1) j).run P V = .ok (.bool j.isNone) (V.putObj (w.heap.size + 1) (.loop (lp (if j.isNone then .ready else .done) j))) ∧
        Laid lp w.heap.size (if j.isNone then .ready else .done) j (V.putObj (w.heap.size + 1) (.loop (lp (if j.isNone then .ready else .done) j))) ∧ V.grownBy (V.putObj (w.heap.size + 1) (.loop (lp (if j.isNone then .ready else .done) j))) (some (w.heap.size + 1)) ∧
        (∀ r, some (w.heap.size + 1) = some r → w.heap.size ≤ r ∧ ∃ o : Obj, V.heap[r]? = some o ∧ o.isCells = false) := fun j V hk => by
      have h3 := hL2.keeps hk
      exact ⟨run_endRound (P := P) j h3.1, h3.put, grownBy_putObj' _ _ _, fun r e => by cases e; exact ⟨Nat.le_succ _, _, h3.1, rfl⟩⟩
    have out : ∀ (c : Code) (V : World), KeepsFrom w.heap.size W2 V ∧ Ix c V → ∃ v V', (Instr.endRound (w.heap.size + 1) (some c)).run P V = .ok v V' ∧
        ((Ending.returned v = .returned (.bool true) ∧ (I (pre ++ [x]) V' ∧ Laid lp w.heap.size .ready none V' ∧ w.heap.size ≤ V'.heap.size) ∧ A.heap.size ≤ V'.heap.size ∧ KeepX X A V') ∨ (Ending.returned v = .returned (.bool false) ∧ ∃ c, Ix c V' ∧ Laid lp w.heap.size .done (some c) V')) := fun c V h => by
      obtain ⟨f1, f2, f3, f4⟩ := fin (some c) V h.1
      exact ⟨_, _, f1, .inr ⟨rfl, c, hIx _ _ _ _ h.2 f3 f4, f2⟩⟩
    intro e a3 V hp
    cases e with
    | normal =>
      obtain ⟨k1, k2, k3⟩ := hp
      obtain ⟨f1, f2, f3, f4⟩ := fin none V k1
      refine ⟨_, _, f1, .inl ⟨rfl, ⟨hI _ _ _ _ k3 f3 f4, f2, ?_⟩, Nat.le_trans hg1.size (Nat.le_trans k1.size f3.size), (hk1.trans k2).trans (KeepX.grown f3 fun b hb => ⟨?_, fun e => by cases e; have := hX _ hb; omega⟩)⟩⟩
      · exact Nat.le_trans hsz (Nat.le_trans hg1.size (Nat.le_trans k1.size f3.size))
      · exact Nat.lt_of_lt_of_le (hX b hb) (Nat.le_trans hsz (Nat.le_trans hg1.size k1.size))
    | ret => exact out _ V hp
    | exit id => exact out _ V hp
    | goto t => exact out _ V hp
    | panic ch => exact hp.elim
    | outgrown => exact hp.elim
  · rintro e V ⟨⟨v, rfl⟩, (⟨hi, hl, _⟩ | ⟨c, hi, hl⟩)⟩
    · refine ⟨none, _, run_endLoop (P := P) hl.1 (by simp [lp]), hdone _ _ (Nat.le_refl _) (hI _ _ _ _ hi (grownBy_putObj' _ _ _) fun r e => ?_) ((World.putObj_heap_other (by omega)).trans hl.2)⟩
      cases e; exact ⟨Nat.le_succ _, _, hl.1, rfl⟩
    · refine ⟨some c, _, run_endLoop (P := P) hl.1 (by simp [lp]), hstop _ c _ (Nat.le_refl _) (hIx _ _ _ _ hi (grownBy_putObj' _ _ _) fun r e => ?_) ((World.putObj_heap_other (by omega)).trans hl.2)⟩
      cases e; exact ⟨Nat.le_succ _, _, hl.1, rfl⟩
def FL : List Value := [.int .i64 1, .int .u32 0, .string ⟨#[]⟩, .int .i64 0]
def FVs : Unit → Value := fun _ => .agg #[.int .i64 1, .int .u32 0, .string ⟨#[]⟩, .int .i64 0]
def rowU (l : List Unit) : List Value := (l.map fun _ => FL).flatten
theorem rowU_len (l : List Unit) : (rowU l).length = 4 * l.length := by
  induction l with
  | nil => rfl
  | cons a l ih => simp only [rowU, List.map_cons, List.flatten_cons, List.length_append, List.length_cons] at *; rw [ih]; simp [FL]; omega
set_option maxRecDepth 100000 in
set_option maxHeartbeats 2000000 in
theorem finds80 {bx : Nat} {w0 : World} (hbx : w0.heap[bx]? = some (.cells #[.string (str (zs 640))] 9 (0, 0))) :
    Yields Tryz.prog 80 #[.pointer (some ⟨bx, 0, none⟩)] FVs (fun _ _ _ => True) (fun _ => False) [()] w0 := by
  intro l J Jx W hW hJ hJx hY h0
  have HJ := Lib.hid hJ
  have HY := Lib.hid hY
  have H0 := Lib.hid h0
  have HO := Lib.hid open58
  have cb := cell_of_row W bx 0 _ 9 (0, 0) ((hW.block _ (lt_of_block hbx)).trans hbx)
  clear hJ hJx hY h0 hW hbx
  generalize str (zs 640) = Z at *
  refine (callsIn_wide (n := 9)).1 ?_
  refine callsIn_of_wp Tryz.func80 rfl trivial ?_ rfl
  simp only [Tryz.ntmps80, List.size_toArray, List.length_cons, List.length_nil, Nat.reduceAdd, Nat.reduceSub, Array.replicate_succ, Array.replicate_zero, List.push_toArray, List.append_toArray, List.nil_append, List.cons_append]
  gi_wp2_with (refine ⟨trivial, ?_⟩; gi_at_call 58; refine (callsIn_wide.2 (HO.out W)).mono ?_; rintro e w1 ⟨rfl, hb⟩; obtain ⟨fn, tmps, assign, body, hy, hR⟩ := yieldAt_any (HY.out [] () [] () w1 rfl (HJ.out _ _ _ H0.out hb) trivial) 8; dsimp only [FVs] at hy; have HR := Lib.hid hR; clear hR hb)
  refine HR.out.mono ?_
  rintro e W3 (⟨rfl, hJ3, hsz3, hk3⟩ | ⟨rfl, hJx3⟩)
  · gi_wp2
    refine bodyPost_ret (results_none rfl _ _ _) rfl ?_
    exact ⟨⟨_, rfl⟩, .inl hJ3⟩
  · gi_wp2
    refine bodyPost_ret (results_none rfl _ _ _) rfl ?_
    exact ⟨⟨_, rfl⟩, .inr hJx3⟩
theorem seq49 (S : ByteArray) (w : World) : Calls Tryz.prog 49 #[.string S] w fun e w' => e = .returned (.func (.func 80) #[] #[.pointer (some ⟨w.heap.size, 0, none⟩)]) ∧ w' = w.alloc (.cells #[.string S] 9) := by
  have hmf : ∀ (fn : Fn) (first cap : Array Value) (w : World), (Instr.makeFunc fn first cap).run Tryz.prog w = .ok (.func fn first cap) w := fun _ _ _ _ => rfl
  go_enter Tryz.func49, Tryz.ntmps49
  go_wp2_with fail
  go_ret
  exact ⟨rfl, rfl⟩
theorem info25M : (Tryz.prog.info? 25).map (fun i => (i.zero, i.size, i.bytes)) = some (some (.agg #[.int .i64 0, .int .u32 0, .string ⟨#[]⟩, .int .i64 0]), 4, 40) := by kernel_rfl
theorem new4 (W : World) (a b c d : Value) (t : TypeId) (g : Nat) (hg : g = W.heap.size) : ∀ j u, [a, b, c, d][j]? = some u → (W.alloc (.cells #[a, b, c, d] t)).cell? ((⟨g, 0, none⟩ : Addr).add j) = some u := by
  subst hg
  intro j u hu
  have hh := heap_alloc_new W (.cells #[a, b, c, d] t)
  rcases j with _ | _ | _ | _ | j
  · simp at hu; subst hu; exact cell_of_row _ _ 0 _ t (0, 0) hh
  · simp at hu; subst hu; exact cell_of_row _ _ 1 _ t (0, 0) hh
  · simp at hu; subst hu; exact cell_of_row _ _ 2 _ t (0, 0) hh
  · simp at hu; subst hu; exact cell_of_row _ _ 3 _ t (0, 0) hh
  · simp at hu
theorem row_low {w : World} {base base' n e size : Nat} {v : Value} {xs : List Value} (h : w.ownsRow base e size v n xs) (hb : base' ≤ base) : w.ownsRow base' e size v n xs := by
  refine ⟨h.1, ?_⟩
  rcases h.2 with h' | ⟨g, cap, cur, e, h1, r⟩
  · exact .inl h'
  · exact .inr ⟨g, cap, cur, e, Nat.le_trans hb h1, r⟩
set_option maxRecDepth 100000 in
set_option maxHeartbeats 4000000 in
theorem look17 (w : World) : Calls Tryz.prog 17 #[.string (str (zs 640))] w fun e w' => ∃ v, e = .returned v ∧ Below w.heap.size w w' ∧ w'.ownsRow w.heap.size 25 4 v 1 FL := by
  have HS := Lib.hid (seq49 (str (zs 640)))
  obtain ⟨w1, hw1⟩ : ∃ w1, (w.alloc (.cells #[.slice none 0 0] 34)).alloc (.cells #[.string (str (zs 640))] 9) = w1 := ⟨_, rfl⟩
  have hb0 : Below w.heap.size w w1 := by rw [← hw1]; exact ((Below.refl _ _).alloc (Nat.le_refl _) _).alloc (by rw [World.size_alloc]; omega) _
  have hbx0 : w1.heap[w.heap.size + 1]? = some (.cells #[.string (str (zs 640))] 9 (0, 0)) := by
    have := heap_alloc_new (w.alloc (.cells #[.slice none 0 0] 34)) (.cells #[.string (str (zs 640))] 9)
    rwa [World.size_alloc, hw1] at this
  have hbox : Boxed w1 w.heap.size 34 (.slice none 0 0) := by
    rw [← hw1]
    exact (Below.heap_alloc _ _ _ (by simp)).trans (Boxed.new w 34 (.slice none 0 0))
  have hsz1 : w1.heap.size = w.heap.size + 1 + 1 := by rw [← hw1, World.size_alloc, World.size_alloc]
  have HF := Lib.hid (finds80 hbx0)
  clear hbx0
  generalize str (zs 640) = Z at *
  refine (callsIn_wide (n := 9)).1 ?_
  refine callsIn_of_wp_marks Tryz.func17 rfl trivial ?_ rfl
  simp only [Tryz.ntmps17, List.size_toArray, List.length_cons, List.length_nil, Nat.reduceAdd, Nat.reduceSub, Array.replicate_succ, Array.replicate_zero, List.push_toArray, List.append_toArray, List.nil_append, List.cons_append]
  gi_wp2_with (refine ⟨trivial, ?_⟩; gi_at_call 49; refine (callsIn_wide.2 (HS.out _)).mono ?_; rintro e y ⟨rfl, hy⟩; rw [hw1] at hy; rw [hy]; clear hy y)
  obtain ⟨i0, hi, hz0, hz1, hz2⟩ := info_parts info25M
  refine wpIn_rangeE (gf := 80) (lb := #[.pointer (some ⟨w.heap.size + 1, 0, none⟩)]) rfl (enters_of Tryz.func80 (by kernel_rfl) rfl) HF.out (fun _ hq => hq.elim) (fun _ _ _ _ _ _ h _ _ => h)
    (fun pre W => (∃ v, Boxed W w.heap.size 34 v ∧ W.ownsRow w1.heap.size 25 4 v pre.length (rowU pre) ∧ True) ∧ Below w.heap.size w W) (fun _ _ => False)
    (OwnFrom.and (Own.from (holdsRow_own w1.heap.size w.heap.size 34 25 4 (fun pre => pre.length) (fun pre => rowU pre) (fun _ _ => True)) _) (ownFrom_below (Nat.le_refl _) (by omega)))
    (fun _ _ _ _ hf _ _ => hf) ⟨⟨_, hbox, World.ownsRow_nil _ _ _ _, trivial⟩, hb0⟩ (fun _ => .cells #[.int .i64 1, .int .u32 0, .string ⟨#[]⟩, .int .i64 0] 25)
    (fun b y => { tmps := #[.string Z, undef, .slice none 0 0, .pointer (some ⟨w.heap.size, 0, none⟩), .pointer (some ⟨b, 0, none⟩), .string Z, .func (.func 80) #[] #[.pointer (some ⟨w.heap.size + 1, 0, none⟩)], FVs y, undef, undef, undef, undef, undef], defers := [] }) ?assign ?body ?done ?stop
  case assign =>
    intro l y W K hK
    simp only [FVs] at *
    gi_wp2
    exact hK
  case body =>
    rintro l pre x rest y b W hl hxs ⟨⟨v, hv, hr, _⟩, hB⟩ hex hbk hle hwl
    simp only [FVs] at *
    obtain ⟨AA, ac, hva⟩ := own_slice hr
    subst hva
    have hc1 := hv.cell
    have hf1 := hv.frozen
    have g0 := cell_of_row W b 0 _ 25 (0, 0) hbk
    have g1 := cell_of_row W b 1 _ 25 (0, 0) hbk
    have g2 := cell_of_row W b 2 _ 25 (0, 0) hbk
    have g3 := cell_of_row W b 3 _ 25 (0, 0) hbk
    have HV := Lib.hid hv
    have HR := Lib.hid hr
    have HB := Lib.hid hB
    have HLEN : Hid (pre = []) := Lib.hid (by rcases pre with _ | ⟨u, p⟩; rfl; simp at hxs)
    have hsz2 : w1.heap.size ≤ W.heap.size := hwl
    clear hv hr hB hbk
    gi_wp2_with (first
      | (gi_at_builtin; refine wpListIn_append_own_at _ rfl (.tmp 8) (.tmp 10) _ rfl w1.heap.size 25 i0 _ 4 40 Tryz.underlying34 hi hz0 hz1 hz2 rfl (by decide) _ _ _ rfl (HR.out.alloc _) _ 1 1 FL rfl rfl ?newsA (by simp [FL, Value.oneCell']) ?h63A ?hbyA ?hbaseA ?_))
    case newsA => exact new4 _ _ _ _ _ _ _ rfl
    case h63A => rw [HLEN.out]; decide
    case hbyA => rw [HLEN.out]; decide
    case hbaseA => simp; omega
    intro v' w2 hown' hgrow _ _
    obtain ⟨A3, ac3, hv3⟩ := own_slice hown'
    subst hv3
    have hva := HV.out.alloc (.cells #[.int .i64 1, .int .u32 0, .string ⟨#[]⟩, .int .i64 0] 25)
    have hra := HR.out.alloc (.cells #[.int .i64 1, .int .u32 0, .string ⟨#[]⟩, .int .i64 0] 25)
    have hv2 : Boxed w2 w.heap.size 34 _ := hva.kept hgrow (hva.not_row (by decide) hra)
    have hc2 := hv2.cell
    have hf2 := hv2.frozen
    have HV2 := Lib.hid hv2
    clear hv2 hva
    gi_wp2
    have hk2 : KeepsOthers W w2 := (KeepsOthers.alloc W _).trans (KeepsOthers.of_grownBy hgrow fun j o ej hj => by
      rcases hra.2 with ⟨e0, _⟩ | ⟨g, cap, cur, e0, _, hgb, _⟩
      · rw [e0] at ej; simp [Value.ownBlock] at ej
      · rw [e0] at ej
        obtain rfl : g = j := by simpa [Value.ownBlock] using ej
        rw [hgb] at hj; cases hj; rfl)
    have hgb : ∀ j, (Value.slice AA pre.length ac).ownBlock = some j → w1.heap.size ≤ j := fun j e => (HR.out.lt j e).1
    refine ⟨(hk2.trans (KeepsOthers.setCell _ _ _)).from _, fun _ h => h.elim, ⟨⟨_, HV2.out.set _, ?_, trivial⟩, ?_⟩⟩
    · have hrw : rowU (pre ++ [x]) = rowU pre ++ FL := by simp [rowU]
      rw [hrw, List.length_append, hsz1]
      exact hown'.kept (grownBy_setCell' _ _ _) (.inr (HV2.out.not_row (by decide) hown').symm)
    · have hba := HB.out.alloc HB.out.size (.cells #[.int .i64 1, .int .u32 0, .string ⟨#[]⟩, .int .i64 0] 25)
      exact (hba.grown hgrow hba.size (fun j e => by have := hgb j e; omega)).setCell (p := ⟨w.heap.size, 0, none⟩) (Nat.le_refl _) _
  case done =>
    rintro D W hD ⟨⟨v, hv, hr, _⟩, hB⟩ hK
    obtain ⟨AA, ac, hva⟩ := own_slice hr
    subst hva
    have hc1 := hv.cell
    have HR := Lib.hid hr
    have HB := Lib.hid hB
    clear hv hr hB
    gi_wp2
    refine ⟨by simp, .inl ⟨_, _, rfl, run_takeDeferred hK, ?_⟩⟩
    refine ⟨_, results_tmp rfl _ _ _, _, rfl, HB.out.trans (belowK_b (w := w) (Nat.le_refl _) W D _ _ (by omega) hK rfl rfl), ?_⟩
    exact row_low (ownsRow_putObj HR.out _ hK rfl) (by omega)
  case stop =>
    rintro D c' W _ hf _
    exact hf.elim
end Go.Proofs.YtocfhldmnbmapaaGreatDoor
