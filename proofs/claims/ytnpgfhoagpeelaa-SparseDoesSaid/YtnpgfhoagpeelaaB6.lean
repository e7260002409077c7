/- The walk over oldest. -/
import Derived.Test.YtnpgfhoagpeelaaB5
import Derived.Maps.RangeWalk
import Derived.Maps.Views
namespace Go.Proofs.Ytnpgfhoagpeelaa
open Go.RowKit
open Go.Maps
/-- the row of a hook -/
def fmE (E : List En) (f : Fp) : Option Nat := (E.find? fun e => decide (e.h = f)).map (·.p)
def uE (E : List En) (f : Fp) : Nat := ((E.find? fun e => decide (e.h = f)).map (·.u)).getD 0
def HkE (E : List En) : Prop := (E.map (·.h)).Nodup ∧ ∀ e ∈ E, IsFp e.h
theorem find_mid {P S : List En} {e : En} (h : HkE (P ++ e :: S)) : (P ++ e :: S).find? (fun x => decide (x.h = e.h)) = some e := by
  rw [List.find?_append, List.find?_eq_none.2 (fun x hx => ?_)]
  · simp
  · have := h.1
    rw [List.map_append, List.map_cons, List.nodup_append] at this
    have h3 := this.2.2 x.h (List.mem_map.2 ⟨x, hx, rfl⟩) e.h (by simp)
    simpa using h3
theorem find_mem {E : List En} (h : HkE E) {e : En} (he : e ∈ E) : E.find? (fun x => decide (x.h = e.h)) = some e := by
  obtain ⟨P, S, rfl⟩ := List.append_of_mem he
  exact find_mid h
theorem fm_mem {E : List En} (h : HkE E) {e : En} (he : e ∈ E) : fmE E e.h = some e.p := by unfold fmE; rw [find_mem h he]; rfl
theorem u_mem {E : List En} (h : HkE E) {e : En} (he : e ∈ E) : uE E e.h = e.u := by unfold uE; rw [find_mem h he]; rfl
theorem fm_some {E : List En} {f : Fp} (h : (fmE E f).isSome = true) : ∃ e ∈ E, e.h = f := by
  unfold fmE at h
  rw [Option.isSome_map] at h
  obtain ⟨e, he⟩ := Option.isSome_iff_exists.1 h
  exact ⟨e, List.mem_of_find?_eq_some he, by simpa using List.find?_some he⟩
/-- those that a loop over the map has met -/
def MetF (E : List En) (left : Lit → Bool) (xs : List Fp) : Prop := xs.Nodup ∧ (∀ f ∈ xs, IsFp f) ∧ ∀ f, IsFp f → (f ∈ xs ↔ ((fmE E f).isSome = true ∧ left (fpKey f) = false))
theorem MetF.start {E : List En} {D : Tok} (h : ∀ f, IsFp f → Maps.has D (fpKey f) = (fmE E f).isSome) : MetF E (Maps.has D) [] := ⟨List.nodup_nil, (fun f hf => by cases hf), (fun f hf => by rw [h f hf]; cases (fmE E f).isSome <;> simp)⟩
theorem MetF.step {E : List En} {left : Lit → Bool} {xs : List Fp} {f : Fp} (h : MetF E left xs) (hf : IsFp f) (hl : left (fpKey f) = true) (hs : (fmE E f).isSome = true) : MetF E (fun z => left z && !z.sameKey (fpKey f)) (xs ++ [f]) := by
  obtain ⟨h1, h2, h3⟩ := h
  have hnm : f ∉ xs := fun q => by
    have := ((h3 f hf).1 q).2
    rw [hl] at this
    cases this
  refine ⟨List.nodup_append.2 ⟨h1, by simp, fun a ha b hb => ?_⟩, fun g hg => ?_, fun g hg => ?_⟩
  · rw [List.mem_singleton] at hb
    subst hb
    exact fun q => hnm (by rw [← q]; exact ha)
  · rcases List.mem_append.1 hg with hg | hg
    · exact h2 g hg
    · rw [List.mem_singleton] at hg; subst hg; exact hf
  · by_cases e : g = f
    · subst e
      show g ∈ xs ++ [g] ↔ (fmE E g).isSome = true ∧ (left (fpKey g) && !(fpKey g).sameKey (fpKey g)) = false
      rw [WideAt.sameKey_self (keyLit g)]
      simp [hs]
    · have hk : (fpKey g).sameKey (fpKey f) = false := by
        cases hq : (fpKey g).sameKey (fpKey f) with
        | false => rfl
        | true => exact absurd (fpKey_inj hg hf (WideAt.sameKey_eq hq)) e
      show g ∈ xs ++ [f] ↔ (fmE E g).isSome = true ∧ (left (fpKey g) && !(fpKey g).sameKey (fpKey f)) = false
      rw [hk, List.mem_append, List.mem_singleton]
      simp only [e, or_false, Bool.not_false, Bool.and_true]
      exact h3 g hg
theorem MetF.fin {E : List En} {left : Lit → Bool} {xs : List Fp} (hk : HkE E) (h : MetF E left xs) (hl : ∀ kl, left kl = false) : xs.Perm (E.map (·.h)) := by
  rw [List.perm_ext_iff_of_nodup h.1 hk.1]
  intro f
  constructor
  · intro hf
    obtain ⟨e, he, rfl⟩ := fm_some (((h.2.2 f (h.2.1 f hf)).1 hf).1)
    exact List.mem_map.2 ⟨e, he, rfl⟩
  · intro hf
    obtain ⟨e, he, rfl⟩ := List.mem_map.1 hf
    exact (h.2.2 e.h (hk.2 e he)).2 ⟨by rw [fm_mem hk he]; rfl, hl _⟩
def OldI (E : List En) (now : Nat) (xs : List Fp) (o : Fp) (least : Nat) : Prop := (∀ f ∈ xs, least ≤ uE E f) ∧ (least = now + 1 ∨ (o ∈ xs ∧ least = uE E o))
theorem OldI.step {E : List En} {now least : Nat} {xs : List Fp} {o : Fp} (h : OldI E now xs o least) (f : Fp) : OldI E now (xs ++ [f]) (if uE E f < least then f else o) (if uE E f < least then uE E f else least) := by
  by_cases e : uE E f < least
  · rw [if_pos e, if_pos e]
    refine ⟨fun g hg => ?_, .inr ⟨by simp, rfl⟩⟩
    rcases List.mem_append.1 hg with hg | hg
    · have := h.1 g hg; omega
    · rw [List.mem_singleton] at hg; subst hg; exact Nat.le_refl _
  · rw [if_neg e, if_neg e]
    refine ⟨fun g hg => ?_, h.2.imp id (fun q => ⟨by simp [q.1], q.2⟩)⟩
    rcases List.mem_append.1 hg with hg | hg
    · exact h.1 g hg
    · rw [List.mem_singleton] at hg; subst hg; omega
theorem OldI.fin {e : En} {S : List En} {now least : Nat} {xs : List Fp} {o : Fp} (hk : HkE (e :: S)) (h : OldI (e :: S) now xs o least) (hp : xs.Perm ((e :: S).map (·.h))) (hs : (e :: S).Pairwise (fun a b => a.u < b.u)) (hn : e.u ≤ now) : o = e.h := by
  have h1 := h.1 e.h (hp.mem_iff.2 (by simp))
  rw [u_mem hk (List.mem_cons_self ..)] at h1
  rcases h.2 with q | ⟨q, r⟩
  · omega
  · obtain ⟨x, hx, rfl⟩ := List.mem_map.1 (hp.mem_iff.1 q)
    rw [u_mem hk hx] at r
    rcases List.mem_cons.1 hx with rfl | hx
    · rfl
    · have := (List.pairwise_cons.1 hs).1 x hx
      omega
section
variable {P : Program}
/-- a whole array goes into the block that was made last -/
theorem wpList_store_new {ops : Array Oper} {rest : List Oper} {op : Oper} {a : Act} {w : World} {Q : Exit → Act → World → Prop} (hgd : op.guard = none) (ty : TypeId) (x y : Operand) (ho : op.op = .store ty x y)
    (c c' : Array Value) (hx : a.eval x = .pointer (some ⟨w.heap.size, 0, none⟩)) (hy : a.eval y = .agg c') (hi : (P.info? ty).map (·.size) = some c'.size) (hs : c.size = c'.size) (h1 : c'.all (·.oneCell') = true)
    (h : wpList P ops Q rest (a.put op.dst undef) (w.alloc (.cells c' ty))) : wpList P ops Q (op :: rest) a (w.alloc (.cells c ty)) :=
  wpList_plain hgd fun _ hK => by
    have hr := run_storeAt_new (P := P) w ty c c' hi hs h1
    unfold Oper.wp execOp
    simp only [ho, hx, hy, hr, Sem.run_bind, Sem.run_pure, Result.andThen_ok]
    exact hK _ _ h
/-- the array is read out of the block that was made last -/
theorem wpList_load_new {ops : Array Oper} {rest : List Oper} {op : Oper} {a : Act} {w : World} {Q : Exit → Act → World → Prop} (hgd : op.guard = none) (ty : TypeId) (x : Operand) (ho : op.op = .load ty x)
    (c : Array Value) (n : Nat) (e : TypeId) (hx : a.eval x = .pointer (some ⟨w.heap.size, 0, none⟩)) (hu : P.underlying ty = some (.array n e)) (hi : (P.info? ty).map (·.size) = some c.size)
    (h : wpList P ops Q rest (a.put op.dst (.agg c)) (w.alloc (.cells c ty))) : wpList P ops Q (op :: rest) a (w.alloc (.cells c ty)) :=
  wpList_plain hgd fun _ hK => by
    have hr := run_loadAt_new (P := P) w ty c n e hu hi
    unfold Oper.wp execOp
    simp only [ho, hx, hr, Sem.run_bind, Sem.run_pure, Result.andThen_ok]
    exact hK _ _ h
end
theorem At.keptz {T : Nat → Prop} {W0 W W' : World} {base xb mb ph mo now n : Nat} {pairs : Int} {fm : Fp → Option Nat} {E : List En} {row : Option Nat} (h : At T W0 W base xb mb ph mo pairs now n fm E) (hg : W.grownBy W' row) (hr : ∀ b, row = some b → W0.heap.size ≤ b ∧ ¬ XB xb mb E b) : At T W0 W' base xb mb ph mo pairs now n fm E :=
  ⟨h.mem.kept hg (fun b q => (hr b q).2), h.inz, h.tn.grown hg (fun b q => .inr (hr b q).1)⟩
theorem setRow_grown (w : World) (g : Nat) (cs : Array Value) : w.grownBy (w.setRow g cs) (some g) := ⟨rfl, rfl, rfl, by simp, fun k _ hne => setRow_other w g k cs (fun e => hne (by rw [e]))⟩
theorem zfp_is : IsFp (List.replicate 32 0) := ⟨by simp, fun b hb => by rw [List.mem_replicate] at hb; omega⟩
set_option maxRecDepth 100000 in
set_option maxHeartbeats 4000000 in
theorem oldest51 {T : Nat → Prop} {W0 W : World} {base xb mb ph mo now n : Nat} {pairs : Int} {fm : Fp → Option Nat} {e : En} {S : List En} (h : At T W0 W base xb mb ph mo pairs now n fm (e :: S)) (hfm : ∀ f, IsFp f → fm f = fmE (e :: S) f) (hk : HkE (e :: S)) (hs : (e :: S).Pairwise (fun a b => a.u < b.u)) (hu : ∀ x ∈ e :: S, x.u ≤ now) (hn : now < 1000000000) :
    Calls Try.prog 51 #[.pointer (some ⟨xb, 0, none⟩)] W fun r W' => r = .returned (.agg (fpL e.h).toArray) ∧ At T W0 W' base xb mb ph mo pairs now n fm (e :: S) := by
  obtain ⟨D, hown, hmap, hD⟩ := h.mem.mp
  have HD := Lib.hid hD
  have H := Lib.hid h
  have hU := u64_in hn
  have HFIN : Hid (∀ left xs o least, MetF (e :: S) left xs → OldI (e :: S) now xs o least → (∀ kl, left kl = false) → o = e.h) := Lib.hid (fun left xs o least h1 h2 h3 => h2.fin hk (h1.fin hk h3) hs (hu e (by simp)))
  have HK := Lib.hid hk
  have HFM := Lib.hid hfm
  have c4 := h.mem.c.2.2.2.2
  have c2 := h.mem.c.2.2.1
  have hLT : Hid (∀ b, XB xb mb (e :: S) b → b < W.heap.size) := Lib.hid (fun b hb => (h.mem.lt hb).1)
  generalize e :: S = E at *
  clear h hD hk hs hu hn hfm
  have hz : (#[Value.int .u8 0, Value.int .u8 0, Value.int .u8 0, Value.int .u8 0, Value.int .u8 0, Value.int .u8 0, Value.int .u8 0, Value.int .u8 0, Value.int .u8 0, Value.int .u8 0, Value.int .u8 0, Value.int .u8 0, Value.int .u8 0, Value.int .u8 0, Value.int .u8 0, Value.int .u8 0, Value.int .u8 0, Value.int .u8 0, Value.int .u8 0, Value.int .u8 0, Value.int .u8 0, Value.int .u8 0, Value.int .u8 0, Value.int .u8 0, Value.int .u8 0, Value.int .u8 0, Value.int .u8 0, Value.int .u8 0, Value.int .u8 0, Value.int .u8 0, Value.int .u8 0, Value.int .u8 0] : Array Value) = (fpL (List.replicate 32 0)).toArray := by rfl
  have HZ := Lib.hid hz
  have hsz : (#[Value.int .u8 0, Value.int .u8 0, Value.int .u8 0, Value.int .u8 0, Value.int .u8 0, Value.int .u8 0, Value.int .u8 0, Value.int .u8 0, Value.int .u8 0, Value.int .u8 0, Value.int .u8 0, Value.int .u8 0, Value.int .u8 0, Value.int .u8 0, Value.int .u8 0, Value.int .u8 0, Value.int .u8 0, Value.int .u8 0, Value.int .u8 0, Value.int .u8 0, Value.int .u8 0, Value.int .u8 0, Value.int .u8 0, Value.int .u8 0, Value.int .u8 0, Value.int .u8 0, Value.int .u8 0, Value.int .u8 0, Value.int .u8 0, Value.int .u8 0, Value.int .u8 0, Value.int .u8 0] : Array Value).size = 32 := rfl
  clear hz
  go_enter Try.func51, Try.ntmps51
  go_upto_region 2 with fail
  have H1 := Lib.hid ((H.out.alloc (.cells #[Value.int .u8 0, Value.int .u8 0, Value.int .u8 0, Value.int .u8 0, Value.int .u8 0, Value.int .u8 0, Value.int .u8 0, Value.int .u8 0, Value.int .u8 0, Value.int .u8 0, Value.int .u8 0, Value.int .u8 0, Value.int .u8 0, Value.int .u8 0, Value.int .u8 0, Value.int .u8 0, Value.int .u8 0, Value.int .u8 0, Value.int .u8 0, Value.int .u8 0, Value.int .u8 0, Value.int .u8 0, Value.int .u8 0, Value.int .u8 0, Value.int .u8 0, Value.int .u8 0, Value.int .u8 0, Value.int .u8 0, Value.int .u8 0, Value.int .u8 0, Value.int .u8 0, Value.int .u8 0] 47)).alloc (.cells #[Value.int .u8 0, Value.int .u8 0, Value.int .u8 0, Value.int .u8 0, Value.int .u8 0, Value.int .u8 0, Value.int .u8 0, Value.int .u8 0, Value.int .u8 0, Value.int .u8 0, Value.int .u8 0, Value.int .u8 0, Value.int .u8 0, Value.int .u8 0, Value.int .u8 0, Value.int .u8 0, Value.int .u8 0, Value.int .u8 0, Value.int .u8 0, Value.int .u8 0, Value.int .u8 0, Value.int .u8 0, Value.int .u8 0, Value.int .u8 0, Value.int .u8 0, Value.int .u8 0, Value.int .u8 0, Value.int .u8 0, Value.int .u8 0, Value.int .u8 0, Value.int .u8 0, Value.int .u8 0] 47))
  have HP0 : Hid (((W.alloc (.cells #[Value.int .u8 0, Value.int .u8 0, Value.int .u8 0, Value.int .u8 0, Value.int .u8 0, Value.int .u8 0, Value.int .u8 0, Value.int .u8 0, Value.int .u8 0, Value.int .u8 0, Value.int .u8 0, Value.int .u8 0, Value.int .u8 0, Value.int .u8 0, Value.int .u8 0, Value.int .u8 0, Value.int .u8 0, Value.int .u8 0, Value.int .u8 0, Value.int .u8 0, Value.int .u8 0, Value.int .u8 0, Value.int .u8 0, Value.int .u8 0, Value.int .u8 0, Value.int .u8 0, Value.int .u8 0, Value.int .u8 0, Value.int .u8 0, Value.int .u8 0, Value.int .u8 0, Value.int .u8 0] 47)).alloc (.cells #[Value.int .u8 0, Value.int .u8 0, Value.int .u8 0, Value.int .u8 0, Value.int .u8 0, Value.int .u8 0, Value.int .u8 0, Value.int .u8 0, Value.int .u8 0, Value.int .u8 0, Value.int .u8 0, Value.int .u8 0, Value.int .u8 0, Value.int .u8 0, Value.int .u8 0, Value.int .u8 0, Value.int .u8 0, Value.int .u8 0, Value.int .u8 0, Value.int .u8 0, Value.int .u8 0, Value.int .u8 0, Value.int .u8 0, Value.int .u8 0, Value.int .u8 0, Value.int .u8 0, Value.int .u8 0, Value.int .u8 0, Value.int .u8 0, Value.int .u8 0, Value.int .u8 0, Value.int .u8 0] 47)).heap[W.heap.size]? = some (.cells #[Value.int .u8 0, Value.int .u8 0, Value.int .u8 0, Value.int .u8 0, Value.int .u8 0, Value.int .u8 0, Value.int .u8 0, Value.int .u8 0, Value.int .u8 0, Value.int .u8 0, Value.int .u8 0, Value.int .u8 0, Value.int .u8 0, Value.int .u8 0, Value.int .u8 0, Value.int .u8 0, Value.int .u8 0, Value.int .u8 0, Value.int .u8 0, Value.int .u8 0, Value.int .u8 0, Value.int .u8 0, Value.int .u8 0, Value.int .u8 0, Value.int .u8 0, Value.int .u8 0, Value.int .u8 0, Value.int .u8 0, Value.int .u8 0, Value.int .u8 0, Value.int .u8 0, Value.int .u8 0] 47 (0, 0))) := Lib.hid (((Below.refl (W.alloc (.cells #[Value.int .u8 0, Value.int .u8 0, Value.int .u8 0, Value.int .u8 0, Value.int .u8 0, Value.int .u8 0, Value.int .u8 0, Value.int .u8 0, Value.int .u8 0, Value.int .u8 0, Value.int .u8 0, Value.int .u8 0, Value.int .u8 0, Value.int .u8 0, Value.int .u8 0, Value.int .u8 0, Value.int .u8 0, Value.int .u8 0, Value.int .u8 0, Value.int .u8 0, Value.int .u8 0, Value.int .u8 0, Value.int .u8 0, Value.int .u8 0, Value.int .u8 0, Value.int .u8 0, Value.int .u8 0, Value.int .u8 0, Value.int .u8 0, Value.int .u8 0, Value.int .u8 0, Value.int .u8 0] 47)).heap.size (W.alloc (.cells #[Value.int .u8 0, Value.int .u8 0, Value.int .u8 0, Value.int .u8 0, Value.int .u8 0, Value.int .u8 0, Value.int .u8 0, Value.int .u8 0, Value.int .u8 0, Value.int .u8 0, Value.int .u8 0, Value.int .u8 0, Value.int .u8 0, Value.int .u8 0, Value.int .u8 0, Value.int .u8 0, Value.int .u8 0, Value.int .u8 0, Value.int .u8 0, Value.int .u8 0, Value.int .u8 0, Value.int .u8 0, Value.int .u8 0, Value.int .u8 0, Value.int .u8 0, Value.int .u8 0, Value.int .u8 0, Value.int .u8 0, Value.int .u8 0, Value.int .u8 0, Value.int .u8 0, Value.int .u8 0] 47))).alloc (Nat.le_refl _) (.cells #[Value.int .u8 0, Value.int .u8 0, Value.int .u8 0, Value.int .u8 0, Value.int .u8 0, Value.int .u8 0, Value.int .u8 0, Value.int .u8 0, Value.int .u8 0, Value.int .u8 0, Value.int .u8 0, Value.int .u8 0, Value.int .u8 0, Value.int .u8 0, Value.int .u8 0, Value.int .u8 0, Value.int .u8 0, Value.int .u8 0, Value.int .u8 0, Value.int .u8 0, Value.int .u8 0, Value.int .u8 0, Value.int .u8 0, Value.int .u8 0, Value.int .u8 0, Value.int .u8 0, Value.int .u8 0, Value.int .u8 0, Value.int .u8 0, Value.int .u8 0, Value.int .u8 0, Value.int .u8 0] 47)).block W.heap.size (by rw [World.size_alloc]; omega) |>.trans (heap_alloc_new _ _))
  have HP1 : Hid (((W.alloc (.cells #[Value.int .u8 0, Value.int .u8 0, Value.int .u8 0, Value.int .u8 0, Value.int .u8 0, Value.int .u8 0, Value.int .u8 0, Value.int .u8 0, Value.int .u8 0, Value.int .u8 0, Value.int .u8 0, Value.int .u8 0, Value.int .u8 0, Value.int .u8 0, Value.int .u8 0, Value.int .u8 0, Value.int .u8 0, Value.int .u8 0, Value.int .u8 0, Value.int .u8 0, Value.int .u8 0, Value.int .u8 0, Value.int .u8 0, Value.int .u8 0, Value.int .u8 0, Value.int .u8 0, Value.int .u8 0, Value.int .u8 0, Value.int .u8 0, Value.int .u8 0, Value.int .u8 0, Value.int .u8 0] 47)).alloc (.cells #[Value.int .u8 0, Value.int .u8 0, Value.int .u8 0, Value.int .u8 0, Value.int .u8 0, Value.int .u8 0, Value.int .u8 0, Value.int .u8 0, Value.int .u8 0, Value.int .u8 0, Value.int .u8 0, Value.int .u8 0, Value.int .u8 0, Value.int .u8 0, Value.int .u8 0, Value.int .u8 0, Value.int .u8 0, Value.int .u8 0, Value.int .u8 0, Value.int .u8 0, Value.int .u8 0, Value.int .u8 0, Value.int .u8 0, Value.int .u8 0, Value.int .u8 0, Value.int .u8 0, Value.int .u8 0, Value.int .u8 0, Value.int .u8 0, Value.int .u8 0, Value.int .u8 0, Value.int .u8 0] 47)).heap[W.heap.size + 1]? = some (.cells (fpL (List.replicate 32 0)).toArray 47 (0, 0))) := Lib.hid (by rw [← HZ.out]; have := heap_alloc_new (W.alloc (.cells #[Value.int .u8 0, Value.int .u8 0, Value.int .u8 0, Value.int .u8 0, Value.int .u8 0, Value.int .u8 0, Value.int .u8 0, Value.int .u8 0, Value.int .u8 0, Value.int .u8 0, Value.int .u8 0, Value.int .u8 0, Value.int .u8 0, Value.int .u8 0, Value.int .u8 0, Value.int .u8 0, Value.int .u8 0, Value.int .u8 0, Value.int .u8 0, Value.int .u8 0, Value.int .u8 0, Value.int .u8 0, Value.int .u8 0, Value.int .u8 0, Value.int .u8 0, Value.int .u8 0, Value.int .u8 0, Value.int .u8 0, Value.int .u8 0, Value.int .u8 0, Value.int .u8 0, Value.int .u8 0] 47)) (.cells #[Value.int .u8 0, Value.int .u8 0, Value.int .u8 0, Value.int .u8 0, Value.int .u8 0, Value.int .u8 0, Value.int .u8 0, Value.int .u8 0, Value.int .u8 0, Value.int .u8 0, Value.int .u8 0, Value.int .u8 0, Value.int .u8 0, Value.int .u8 0, Value.int .u8 0, Value.int .u8 0, Value.int .u8 0, Value.int .u8 0, Value.int .u8 0, Value.int .u8 0, Value.int .u8 0, Value.int .u8 0, Value.int .u8 0, Value.int .u8 0, Value.int .u8 0, Value.int .u8 0, Value.int .u8 0, Value.int .u8 0, Value.int .u8 0, Value.int .u8 0, Value.int .u8 0, Value.int .u8 0] 47); rwa [World.size_alloc] at this)
  have HN1 : Hid (W0.heap.size ≤ W.heap.size) := Lib.hid H.out.tn.size
  have HSZ1 : Hid (W.heap.size + 1 < ((W.alloc (.cells #[Value.int .u8 0, Value.int .u8 0, Value.int .u8 0, Value.int .u8 0, Value.int .u8 0, Value.int .u8 0, Value.int .u8 0, Value.int .u8 0, Value.int .u8 0, Value.int .u8 0, Value.int .u8 0, Value.int .u8 0, Value.int .u8 0, Value.int .u8 0, Value.int .u8 0, Value.int .u8 0, Value.int .u8 0, Value.int .u8 0, Value.int .u8 0, Value.int .u8 0, Value.int .u8 0, Value.int .u8 0, Value.int .u8 0, Value.int .u8 0, Value.int .u8 0, Value.int .u8 0, Value.int .u8 0, Value.int .u8 0, Value.int .u8 0, Value.int .u8 0, Value.int .u8 0, Value.int .u8 0] 47)).alloc (.cells #[Value.int .u8 0, Value.int .u8 0, Value.int .u8 0, Value.int .u8 0, Value.int .u8 0, Value.int .u8 0, Value.int .u8 0, Value.int .u8 0, Value.int .u8 0, Value.int .u8 0, Value.int .u8 0, Value.int .u8 0, Value.int .u8 0, Value.int .u8 0, Value.int .u8 0, Value.int .u8 0, Value.int .u8 0, Value.int .u8 0, Value.int .u8 0, Value.int .u8 0, Value.int .u8 0, Value.int .u8 0, Value.int .u8 0, Value.int .u8 0, Value.int .u8 0, Value.int .u8 0, Value.int .u8 0, Value.int .u8 0, Value.int .u8 0, Value.int .u8 0, Value.int .u8 0, Value.int .u8 0] 47)).heap.size) := Lib.hid (by rw [World.size_alloc, World.size_alloc]; omega)
  have hown1 : ((W.alloc (.cells #[Value.int .u8 0, Value.int .u8 0, Value.int .u8 0, Value.int .u8 0, Value.int .u8 0, Value.int .u8 0, Value.int .u8 0, Value.int .u8 0, Value.int .u8 0, Value.int .u8 0, Value.int .u8 0, Value.int .u8 0, Value.int .u8 0, Value.int .u8 0, Value.int .u8 0, Value.int .u8 0, Value.int .u8 0, Value.int .u8 0, Value.int .u8 0, Value.int .u8 0, Value.int .u8 0, Value.int .u8 0, Value.int .u8 0, Value.int .u8 0, Value.int .u8 0, Value.int .u8 0, Value.int .u8 0, Value.int .u8 0, Value.int .u8 0, Value.int .u8 0, Value.int .u8 0, Value.int .u8 0] 47)).alloc (.cells #[Value.int .u8 0, Value.int .u8 0, Value.int .u8 0, Value.int .u8 0, Value.int .u8 0, Value.int .u8 0, Value.int .u8 0, Value.int .u8 0, Value.int .u8 0, Value.int .u8 0, Value.int .u8 0, Value.int .u8 0, Value.int .u8 0, Value.int .u8 0, Value.int .u8 0, Value.int .u8 0, Value.int .u8 0, Value.int .u8 0, Value.int .u8 0, Value.int .u8 0, Value.int .u8 0, Value.int .u8 0, Value.int .u8 0, Value.int .u8 0, Value.int .u8 0, Value.int .u8 0, Value.int .u8 0, Value.int .u8 0, Value.int .u8 0, Value.int .u8 0, Value.int .u8 0, Value.int .u8 0] 47)).ownsMap Try.prog 47 RV mb n D := (hown.alloc _).alloc _
  clear H hown
  generalize (W.alloc (.cells #[Value.int .u8 0, Value.int .u8 0, Value.int .u8 0, Value.int .u8 0, Value.int .u8 0, Value.int .u8 0, Value.int .u8 0, Value.int .u8 0, Value.int .u8 0, Value.int .u8 0, Value.int .u8 0, Value.int .u8 0, Value.int .u8 0, Value.int .u8 0, Value.int .u8 0, Value.int .u8 0, Value.int .u8 0, Value.int .u8 0, Value.int .u8 0, Value.int .u8 0, Value.int .u8 0, Value.int .u8 0, Value.int .u8 0, Value.int .u8 0, Value.int .u8 0, Value.int .u8 0, Value.int .u8 0, Value.int .u8 0, Value.int .u8 0, Value.int .u8 0, Value.int .u8 0, Value.int .u8 0] 47)).alloc (.cells #[Value.int .u8 0, Value.int .u8 0, Value.int .u8 0, Value.int .u8 0, Value.int .u8 0, Value.int .u8 0, Value.int .u8 0, Value.int .u8 0, Value.int .u8 0, Value.int .u8 0, Value.int .u8 0, Value.int .u8 0, Value.int .u8 0, Value.int .u8 0, Value.int .u8 0, Value.int .u8 0, Value.int .u8 0, Value.int .u8 0, Value.int .u8 0, Value.int .u8 0, Value.int .u8 0, Value.int .u8 0, Value.int .u8 0, Value.int .u8 0, Value.int .u8 0, Value.int .u8 0, Value.int .u8 0, Value.int .u8 0, Value.int .u8 0, Value.int .u8 0, Value.int .u8 0, Value.int .u8 0] 47) = W1 at *
  generalize W.heap.size = b0 at *
  have c4 := H1.out.mem.c.2.2.2.2
  have c2 := H1.out.mem.c.2.2.1
  go_wp2_with (first
    | (at_range; refine wpList_range_own _ rfl _ 52 rfl 47 64 keyed47 Try.underlying52 _ mb n _ rfl hown1 ?_; intro w0 hrg0 hg0 hs0)
    | go_in)
  go_frame
  have HA0 := Lib.hid (H1.out.kept hg0)
  have HQ0 : Hid (w0.heap[b0]? = some (.cells #[Value.int .u8 0, Value.int .u8 0, Value.int .u8 0, Value.int .u8 0, Value.int .u8 0, Value.int .u8 0, Value.int .u8 0, Value.int .u8 0, Value.int .u8 0, Value.int .u8 0, Value.int .u8 0, Value.int .u8 0, Value.int .u8 0, Value.int .u8 0, Value.int .u8 0, Value.int .u8 0, Value.int .u8 0, Value.int .u8 0, Value.int .u8 0, Value.int .u8 0, Value.int .u8 0, Value.int .u8 0, Value.int .u8 0, Value.int .u8 0, Value.int .u8 0, Value.int .u8 0, Value.int .u8 0, Value.int .u8 0, Value.int .u8 0, Value.int .u8 0, Value.int .u8 0, Value.int .u8 0] 47 (0, 0)) ∧ w0.heap[b0 + 1]? = some (.cells (fpL (List.replicate 32 0)).toArray 47 (0, 0))) := Lib.hid ⟨(hg0.block _ (by have := HSZ1.out; omega) (by simp)).trans HP0.out, (hg0.block _ HSZ1.out (by simp)).trans HP1.out⟩
  have HM0 : Hid (MetF E (Maps.has D) []) := Lib.hid (MetF.start (fun f hf => by rw [(HD.out f hf).2, HFM.out f hf]))
  have hrz : ∃ r, r = W1.heap.size := ⟨_, rfl⟩
  obtain ⟨r, hr⟩ := hrz
  rw [← hr] at hrg0 HSZ1 ⊢
  clear hg0 hs0 hown1 HP0 HP1 c4 c2 hr hsz
  go_loopw [4] (fun lv wr => ∃ (left : Lit → Bool) (cnt : Nat) (xs : List Fp) (o : Fp) (ls : Nat), lv = .int .u64 (ls : Nat) ∧ wr.ranges Try.prog 47 RV mb r n D left cnt ∧ At T W0 wr base xb mb ph mo pairs now n fm E ∧ wr.heap[b0 + 1]? = some (.cells (fpL o).toArray 47 (0, 0)) ∧ wr.heap[b0]? = some (.cells #[Value.int .u8 0, Value.int .u8 0, Value.int .u8 0, Value.int .u8 0, Value.int .u8 0, Value.int .u8 0, Value.int .u8 0, Value.int .u8 0, Value.int .u8 0, Value.int .u8 0, Value.int .u8 0, Value.int .u8 0, Value.int .u8 0, Value.int .u8 0, Value.int .u8 0, Value.int .u8 0, Value.int .u8 0, Value.int .u8 0, Value.int .u8 0, Value.int .u8 0, Value.int .u8 0, Value.int .u8 0, Value.int .u8 0, Value.int .u8 0, Value.int .u8 0, Value.int .u8 0, Value.int .u8 0, Value.int .u8 0, Value.int .u8 0, Value.int .u8 0, Value.int .u8 0, Value.int .u8 0] 47 (0, 0)) ∧ MetF E left xs ∧ OldI E now xs o ls ∧ IsFp o ∧ r < wr.heap.size)
    (fun _ wr => wr.rangeLeft mb r)
  case atStart => exact ⟨_, _, [], List.replicate 32 0, now + 1, rfl, hrg0, HA0.out, HQ0.out.2, HQ0.out.1, HM0.out, ⟨fun f hf => (by cases hf), .inl rfl⟩, zfp_is, hrg0.lt⟩
  case round =>
    obtain ⟨left, cnt, xs, o, ls, rfl, hrg, hat, hq1, hq0, hmet, hold, hof, hrl⟩ := hrel
    have HAT := Lib.hid hat
    have HQ := Lib.hid (And.intro hq0 hq1)
    have HMET := Lib.hid hmet
    have HOLD := Lib.hid hold
    have HOF := Lib.hid hof
    have HRL := Lib.hid hrl
    clear hat hq1 hq0 hmet hold hof hrl HA0 HQ0 HM0 hrg0
    go_wp2_with (first
      | (at_next; refine wpList_next_ranges _ rfl _ rfl 47 keyed47 RV (fun f : Fp => Value.agg (fpL f).toArray) (fun v : Value => v) (fun key kl hk => by obtain ⟨f, _, e, _⟩ := keyOf47_inv hk; exact ⟨f, e⟩) (fun v _ _ => ⟨v, rfl⟩) mb r n _ _ _ rfl hrg ?_ ?_)
      | go_in)
    · intro _ hl0
      obtain rfl := HFIN.out left xs o ls HMET.out HOLD.out hl0
      have HIE := Lib.hid (info29f HOF.out)
      have HI2 : Hid ((Try.prog.info? 47).map (·.size) = some (fpL e.h).toArray.size) := Lib.hid (by rw [List.size_toArray]; exact HIE.out)
      have HS2 : Hid ((#[Value.int .u8 0, Value.int .u8 0, Value.int .u8 0, Value.int .u8 0, Value.int .u8 0, Value.int .u8 0, Value.int .u8 0, Value.int .u8 0, Value.int .u8 0, Value.int .u8 0, Value.int .u8 0, Value.int .u8 0, Value.int .u8 0, Value.int .u8 0, Value.int .u8 0, Value.int .u8 0, Value.int .u8 0, Value.int .u8 0, Value.int .u8 0, Value.int .u8 0, Value.int .u8 0, Value.int .u8 0, Value.int .u8 0, Value.int .u8 0, Value.int .u8 0, Value.int .u8 0, Value.int .u8 0, Value.int .u8 0, Value.int .u8 0, Value.int .u8 0, Value.int .u8 0, Value.int .u8 0] : Array Value).size = (fpL e.h).toArray.size) := Lib.hid (by rw [show (fpL e.h).toArray.size = 32 by rw [List.size_toArray, fpL_length HOF.out]]; rfl)
      have HON : Hid ((fpL e.h).toArray.all (·.oneCell') = true) := Lib.hid (all_oneCell_toArray fpL_one)
      have HRB := Lib.hid (box_range HQ.out.2)
      clear hl0
      go_wp2_with (first
        | ((with_reducible refine wpList_load_mid (op := ⟨some 33, _, _, _, _, _⟩) rfl 47 (.tmp 3) rfl (b0 + 1) 0 ?_ (fpL e.h) _ HRB.out Try.underlying47 rfl HIE.out ?_); rfl)
        | ((with_reducible refine wpList_store_row (o := ⟨none, .store _ _ _, _, _, _, _⟩) rfl 47 (.tmp 2) (.tmp 33) rfl b0 (fpL e.h).toArray ?_ ?_ 47 _ HQ.out.1 HI2.out HS2.out HON.out ?_); rfl; rfl)
        | go_in)
      exact bodyPost_ret (results_cell_row rfl _ _ b0 47 (fpL e.h).toArray (0, 0) _ rfl (setRow_heap _ _ _ _ _ _ HQ.out.1) Try.underlying47 rfl HI2.out) rfl ⟨rfl, HAT.out.keptz (setRow_grown _ _ _) (fun b q => by injection q with q; subst q; exact ⟨HN1.out, fun hx => by have := hLT.out _ hx; omega⟩)⟩
    · intro f c kl yd yp w1 cnt1 hkey hlk hv hat hrg1 hlt hg1 hs1 hen
      obtain ⟨f', hf, e1, rfl⟩ := keyOf47_inv hkey
      obtain rfl : f = f' := fpL_inj (by simpa using e1)
      have hh := Maps.has_true_of_atKey hat
      rw [(HD.out f hf).2, HFM.out f hf] at hh
      obtain ⟨x, hx, rfl⟩ := fm_some hh
      have hxp := fm_mem HK.out hx
      have hcv : c = .pointer (some ⟨x.p, 0, none⟩) := by
        have h1 := hat (.held (.pointer none))
        rw [(HD.out x.h hf).1, HFM.out x.h hf, hxp] at h1
        simp only [RV, Option.some.injEq, Prod.mk.injEq] at hv
        rw [← hv.1] at h1
        injection h1 with h1
        exact h1.symm
      subst hcv
      have hux := u_mem HK.out hx
      have HMT := Lib.hid (HMET.out.step hf hlk hh)
      have HOS := Lib.hid (HOLD.out.step x.h)
      rw [hux] at HOS
      have HA1 := Lib.hid (HAT.out.keptz hg1 (fun b q => by injection q with q; subst q; exact ⟨by have := HN1.out; have := HSZ1.out; omega, fun hx => by have := hLT.out _ hx; have := HSZ1.out; omega⟩))
      have HLT := Lib.hid (And.intro hlt (And.intro hrg.left_eq trivial))
      have HQ1 : Hid (w1.heap[b0]? = some (.cells #[Value.int .u8 0, Value.int .u8 0, Value.int .u8 0, Value.int .u8 0, Value.int .u8 0, Value.int .u8 0, Value.int .u8 0, Value.int .u8 0, Value.int .u8 0, Value.int .u8 0, Value.int .u8 0, Value.int .u8 0, Value.int .u8 0, Value.int .u8 0, Value.int .u8 0, Value.int .u8 0, Value.int .u8 0, Value.int .u8 0, Value.int .u8 0, Value.int .u8 0, Value.int .u8 0, Value.int .u8 0, Value.int .u8 0, Value.int .u8 0, Value.int .u8 0, Value.int .u8 0, Value.int .u8 0, Value.int .u8 0, Value.int .u8 0, Value.int .u8 0, Value.int .u8 0, Value.int .u8 0] 47 (0, 0)) ∧ w1.heap[b0 + 1]? = some (.cells (fpL o).toArray 47 (0, 0))) := Lib.hid ⟨(hg1.block _ (by have := HSZ1.out; have := HRL.out; omega) (fun q => by injection q with q; have := HSZ1.out; omega)).trans HQ.out.1, (hg1.block _ (by have := HSZ1.out; have := HRL.out; omega) (fun q => by injection q with q; have := HSZ1.out; omega)).trans HQ.out.2⟩
      have HRL1 : Hid (r < w1.heap.size) := Lib.hid (by have := HRL.out; omega)
      have HIE := Lib.hid (info29f hf)
      have HI2 : Hid ((Try.prog.info? 47).map (·.size) = some (fpL x.h).toArray.size) := Lib.hid (by rw [List.size_toArray]; exact HIE.out)
      have HS2 : Hid ((#[Value.int .u8 0, Value.int .u8 0, Value.int .u8 0, Value.int .u8 0, Value.int .u8 0, Value.int .u8 0, Value.int .u8 0, Value.int .u8 0, Value.int .u8 0, Value.int .u8 0, Value.int .u8 0, Value.int .u8 0, Value.int .u8 0, Value.int .u8 0, Value.int .u8 0, Value.int .u8 0, Value.int .u8 0, Value.int .u8 0, Value.int .u8 0, Value.int .u8 0, Value.int .u8 0, Value.int .u8 0, Value.int .u8 0, Value.int .u8 0, Value.int .u8 0, Value.int .u8 0, Value.int .u8 0, Value.int .u8 0, Value.int .u8 0, Value.int .u8 0, Value.int .u8 0, Value.int .u8 0] : Array Value).size = (fpL x.h).toArray.size) := Lib.hid (by rw [show (fpL x.h).toArray.size = 32 by rw [List.size_toArray, fpL_length hf]]; rfl)
      have HS3 : Hid ((fpL o).toArray.size = (fpL x.h).toArray.size) := Lib.hid (by rw [List.size_toArray, List.size_toArray, fpL_length hf, fpL_length HOF.out])
      have HON : Hid ((fpL x.h).toArray.all (·.oneCell') = true) := Lib.hid (all_oneCell_toArray fpL_one)
      have HXF := Lib.hid hf
      have HX := Lib.hid hx
      have HR1 := Lib.hid hrg1
      clear hkey hlk hv hat hg1 hs1 hh hxp hux hf e1 hlt hx hrg1 hrg HMET HOLD HQ HAT HRL
      go_upto_region 6 with (first
        | ((with_reducible refine wpList_store_new (op := ⟨none, .store _ _ _, _, _, _, _⟩) rfl 47 (.tmp 5) (.tmp 20) rfl _ (fpL x.h).toArray ?_ ?_ HI2.out HS2.out HON.out ?_); rfl; rfl)
        | go_in)
      have HA2 := Lib.hid (HA1.out.alloc (.cells (fpL x.h).toArray 47))
      have HR2 := Lib.hid (HR1.out.alloc (.cells (fpL x.h).toArray 47))
      have HB5 := Lib.hid (box_range (heap_alloc_new w1 (.cells (fpL x.h).toArray 47)))
      have HQ2 : Hid ((w1.alloc (.cells (fpL x.h).toArray 47)).heap[b0]? = some (.cells #[Value.int .u8 0, Value.int .u8 0, Value.int .u8 0, Value.int .u8 0, Value.int .u8 0, Value.int .u8 0, Value.int .u8 0, Value.int .u8 0, Value.int .u8 0, Value.int .u8 0, Value.int .u8 0, Value.int .u8 0, Value.int .u8 0, Value.int .u8 0, Value.int .u8 0, Value.int .u8 0, Value.int .u8 0, Value.int .u8 0, Value.int .u8 0, Value.int .u8 0, Value.int .u8 0, Value.int .u8 0, Value.int .u8 0, Value.int .u8 0, Value.int .u8 0, Value.int .u8 0, Value.int .u8 0, Value.int .u8 0, Value.int .u8 0, Value.int .u8 0, Value.int .u8 0, Value.int .u8 0] 47 (0, 0)) ∧ (w1.alloc (.cells (fpL x.h).toArray 47)).heap[b0 + 1]? = some (.cells (fpL o).toArray 47 (0, 0))) := Lib.hid (by
        have hb : Below w1.heap.size w1 (w1.alloc (.cells (fpL x.h).toArray 47)) := (Below.refl _ _).alloc (Nat.le_refl _) _
        exact ⟨(hb.block _ (lt_of_block HQ1.out.1)).trans HQ1.out.1, (hb.block _ (lt_of_block HQ1.out.2)).trans HQ1.out.2⟩)
      have HNE : Hid (w1.heap.size ≠ b0 + 1) := Lib.hid (by have := HSZ1.out; have := HRL1.out; omega)
      have HRL2 : Hid (r < (w1.alloc (.cells (fpL x.h).toArray 47)).heap.size) := Lib.hid (by rw [World.size_alloc]; have := HRL1.out; omega)
      have cu := (HA2.out.mem.ens x HX.out).c.2
      clear hen HA1 HR1 HQ1 HRL1
      generalize w1.alloc (.cells (fpL x.h).toArray 47) = w2 at *
      generalize w1.heap.size = b5 at *
      by_cases hul : x.u < ls
      · have huli : (x.u : Int) < (ls : Int) := by omega
        rw [if_pos hul, if_pos hul] at HOS
        clear hul
        have HA3 := Lib.hid HA2.out.drew
        have HQ3 : Hid (w2.drew.heap[b0 + 1]? = some (.cells (fpL o).toArray 47 (0, 0))) := Lib.hid HQ2.out.2
        have HB3 : Hid (w2.drew.rangeAt b5 0 (fpL x.h)) := Lib.hid (fun j v hv => HB5.out j v hv)
        have HG4 := Lib.hid (setRow_grown w2.drew (b0 + 1) (fpL x.h).toArray)
        have HA4 := Lib.hid (HA3.out.keptz HG4.out (fun b q => by injection q with q; subst q; exact ⟨by have := HN1.out; omega, fun hx => by have := hLT.out _ hx; omega⟩))
        have HB4 : Hid ((w2.drew.setRow (b0 + 1) (fpL x.h).toArray).rangeAt b5 0 (fpL x.h)) := Lib.hid (fun j v hv => (cell_setRow_other _ _ _ ⟨b5, 0 + j, none⟩ HNE.out).trans (HB3.out j v hv))
        have HR4 : Hid ((w2.drew.setRow (b0 + 1) (fpL x.h).toArray).ranges Try.prog 47 RV mb r n D _ cnt1) := Lib.hid ((HR2.out.kept (row := none) (grown_of_below (below_drew (Below.refl _ _))) (by simp) (by simp)).kept HG4.out (fun q => by injection q with q; have := hLT.out mb (.inr (.inl rfl)); omega) (fun q => by injection q with q; have := HSZ1.out; omega))
        go_wp2_with (first | go_in)
        refine wp_region_held_drew (S := (fun W => W.rangeAt b5 0 (fpL x.h) ∧ W.cell? ⟨x.p, 1, none⟩ = some (.int .u64 (x.u : Nat)))) (by kernel_rfl) ?_ (fun hSx => ?_)
        · exact ⟨HB3.out, (HA3.out.mem.ens x HX.out).c.2⟩
        refine wpAnyH_take (i := 0) (oi := ⟨some 28, _, _, _, _, none⟩) (v := .agg (fpL x.h).toArray) rfl (by kernel_rfl) (by kernel_rfl) (by kernel_rfl) (fun _ _ _ h => h) (yieldsIf_load_mid (by kernel_rfl) 47 (.tmp 5) rfl (b5) (0) rfl (fpL x.h) _ (fun _ h => h.1) Try.underlying47 rfl HIE.out) hSx ?_
        try simp only [Act.put, List.setIfInBounds_toArray, List.set_cons_zero, List.set_cons_succ]
        refine wpAnyH_take (i := 1) (oi := ⟨some 29, _, _, _, _, none⟩) (v := ?_) rfl (by kernel_rfl) (by kernel_rfl) (by kernel_rfl) (fun _ _ _ h => h) (Or.inl ⟨by kernel_rfl, ?_⟩) hSx ?_
        rotate_left 1
        focus (intro wx hSw; obtain ⟨s0, s1⟩ := hSw; go_simp; first | done | with_reducible rfl)
        try simp only [Act.put, List.setIfInBounds_toArray, List.set_cons_zero, List.set_cons_succ]
        refine wpAnyH_take (i := 2) (oi := ⟨some 30, _, _, _, _, none⟩) (v := ?_) rfl (by kernel_rfl) (by kernel_rfl) (by kernel_rfl) (fun _ _ _ h => h) (Or.inl ⟨by kernel_rfl, ?_⟩) hSx ?_
        rotate_left 1
        focus (intro wx hSw; obtain ⟨s0, s1⟩ := hSw; go_simp; first | done | with_reducible rfl)
        try simp only [Act.put, List.setIfInBounds_toArray, List.set_cons_zero, List.set_cons_succ]
        refine wpAnyH_take (i := 3) (oi := ⟨some 31, _, _, _, _, none⟩) (v := ?_) rfl (by kernel_rfl) (by kernel_rfl) (by kernel_rfl) (fun _ _ _ h => h) (Or.inl ⟨by kernel_rfl, ?_⟩) hSx ?_
        rotate_left 1
        focus (intro wx hSw; obtain ⟨s0, s1⟩ := hSw; go_simp; first | done | with_reducible rfl)
        try simp only [Act.put, List.setIfInBounds_toArray, List.set_cons_zero, List.set_cons_succ]
        refine wpAnyH_take (i := 4) (oi := ⟨some 32, _, _, _, _, none⟩) (v := ?_) rfl (by kernel_rfl) (by kernel_rfl) (by kernel_rfl) (fun _ _ _ h => h) (Or.inl ⟨by kernel_rfl, ?_⟩) hSx ?_
        rotate_left 1
        focus (intro wx hSw; obtain ⟨s0, s1⟩ := hSw; go_simp; first | done | with_reducible rfl)
        try simp only [Act.put, List.setIfInBounds_toArray, List.set_cons_zero, List.set_cons_succ]
        refine wpAnyH_ready (rs := [5]) (by kernel_rfl) (by simp) ?_
        refine AllReadyH.cons (o := ⟨none, _, _, _, _, none⟩) rfl (fun KK hKK => ?_) AllReadyH.nil
        refine wp_store_row 47 (.tmp 3) (.tmp 28) rfl (b0 + 1) (fpL x.h).toArray rfl rfl 47 _ HQ3.out HI2.out HS3.out HON.out ?_
        refine hKK.out _ _ (⟨HB4.out, (HA4.out.mem.ens x HX.out).c.2⟩) (fun hSy => ?_)
        clear hKK hSx
        have hSx := hSy
        clear hSy KK
        try simp only [Act.put]
        refine wpAnyH_take (i := 6) (oi := ⟨some 4, _, _, _, _, none⟩) (v := ?_) rfl (by kernel_rfl) (by kernel_rfl) (by kernel_rfl) (fun _ _ _ h => h) (Or.inl ⟨by kernel_rfl, ?_⟩) hSx ?_
        rotate_left 1
        focus (intro wx hSw; obtain ⟨s0, s1⟩ := hSw; go_simp; first | done | with_reducible rfl)
        try simp only [Act.put, List.setIfInBounds_toArray, List.set_cons_zero, List.set_cons_succ]
        refine wpAnyH_done (by kernel_rfl) ?_ _
        go_wp2_with (first | go_in)
        go_roundw
        case rel => exact ⟨_, cnt1, xs ++ [x.h], x.h, x.u, rfl, HR4.out, HA4.out, setRow_heap _ _ _ _ _ _ HQ3.out, (setRow_other _ _ _ _ (by omega)).trans HQ2.out.1, HMT.out, HOS.out, HXF.out, by rw [setRow_size]; exact HRL2.out⟩
        case measure => rw [HR4.out.left_eq, HLT.out.2.1]; exact HLT.out.1
      · have huli : ¬ (x.u : Int) < (ls : Int) := by omega
        rw [if_neg hul, if_neg hul] at HOS
        clear hul
        go_wp2_with (first | go_in)
        go_roundw
        case rel => exact ⟨_, cnt1, xs ++ [x.h], o, ls, rfl, HR2.out, HA2.out, HQ2.out.2, HQ2.out.1, HMT.out, HOS.out, HOF.out, HRL2.out⟩
        case measure => rw [HR2.out.left_eq, HLT.out.2.1]; exact HLT.out.1
end Go.Proofs.Ytnpgfhoagpeelaa
