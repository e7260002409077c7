/- The walk over take. -/
import Derived.Test.YtnpgfhoagpeelaaB4
import Derived.Deep.RegionWith
namespace Go.Proofs.Ytnpgfhoagpeelaa
open Go.RowKit
open Go.Maps
section
variable {T : Nat → Prop} {W0 W W' : World} {base xb mb ph mo now n : Nat} {pairs : Int} {fm : Fp → Option Nat} {E : List En}
theorem At.del {f : Fp} (hf : IsFp f) (h : At T W0 W base xb mb ph mo pairs now n fm E) (ty : TypeId) : ∃ W', (Builtin.delete_ #[52, 47] ty #[.map (some mb), .agg (fpL f).toArray]).run Try.prog W = .ok (.tuple #[]) W' ∧ At T W0 W' base xb mb ph mo pairs now n (setFm fm f none) E := by
  obtain ⟨D, h1, h2, h3⟩ := h.mem.mp
  obtain ⟨W', hrun, ho, ht⟩ := h1.drop keyed47 Try.underlying52 (keyOf47 hf) ty
  exact ⟨W', hrun, h.remap ht.grown (mapF_del hf h2 h3 ho)⟩
theorem At.store {f : Fp} (hf : IsFp f) (h : At T W0 W base xb mb ph mo pairs now n fm E) (hn : n < 1000000000) (p : Nat) : ∃ W', (Instr.mapUpdate 52 (.map (some mb)) (.agg (fpL f).toArray) (.pointer (some ⟨p, 0, none⟩))).run Try.prog W = .ok () W' ∧ At T W0 W' base xb mb ph mo pairs now (n + 1) (setFm fm f (some p)) E := by
  obtain ⟨D, h1, h2, h3⟩ := h.mem.mp
  obtain ⟨W', hrun, ho, ht⟩ := h1.store keyed47 Try.underlying52 (by unfold maxLen; omega) (val := .pointer (some ⟨p, 0, none⟩)) (d := .held (ptrV (some p))) (ps := []) (keyOf47 hf) rfl
  exact ⟨W', hrun, h.remap ht.grown (mapF_put hf h2 h3 ho)⟩
theorem At.look {f : Fp} (hf : IsFp f) (h : At T W0 W base xb mb ph mo pairs now n fm E) (m : Nat) : (Instr.lookup 52 (.map (some mb)) (.agg (fpL f).toArray) false).run Try.prog (W.drewN m) = .ok (ptrV (fm f)) (W.drewN m) :=
  lookup_run hf (h.mem.mp.kept (row := none) (grown_of_below (below_drewN (Below.refl _ _) m)) (by simp))
theorem At.drewN (h : At T W0 W base xb mb ph mo pairs now n fm E) (m : Nat) : At T W0 (W.drewN m) base xb mb ph mo pairs now n fm E := h.below (below_drewN (Below.refl _ _) m)
theorem At.boxed (h : At T W0 W base xb mb ph mo pairs now n fm E) (o : Obj) : At (XB xb mb E) (W.alloc o) (W.alloc o) base xb mb ph mo pairs now n fm E := ⟨(h.alloc o).mem, fun _ hb => .inl hb, Tn.refl _ _⟩
theorem At.box_stays (h : At T W0 W base xb mb ph mo pairs now n fm E) (o : Obj) {b0 : Nat} (hb0 : b0 = W.heap.size) (ht : Tn (XB xb mb E) (W.alloc o) W') : W'.heap[b0]? = some o := by
  subst hb0
  rw [ht.block _ (by rw [World.size_alloc]; omega) (fun hx => by have := (h.mem.lt hx).1; omega)]
  exact heap_alloc_new _ _
theorem At.unbox {mb' ph' mo' now' n' : Nat} {pairs' : Int} {fm' : Fp → Option Nat} {E' : List En} (h : At T W0 W base xb mb ph mo pairs now n fm E) (o : Obj) (k : At (XB xb mb E) (W.alloc o) W' base xb mb' ph' mo' pairs' now' n' fm' E') : At T W0 W' base xb mb' ph' mo' pairs' now' n' fm' E' := by
  have h1 := h.alloc o
  refine ⟨k.mem, fun b hb => (k.inz b hb).elim (fun q => h.inz b q) (fun q => .inr (Nat.le_trans h1.tn.size q)), h1.tn.trans ⟨k.tn.os, k.tn.tape, k.tn.output, k.tn.size, fun b hb hn => k.tn.block b hb (fun q => hn (h.inz b q))⟩⟩
end
theorem box_range {W : World} {b0 : Nat} {f : Fp} (h : W.heap[b0]? = some (.cells (fpL f).toArray 47 (0, 0))) : W.rangeAt b0 0 (fpL f) := fun j v hv => by
  rw [Nat.zero_add, cell_of_row W b0 j _ 47 (0, 0) h]
  simpa using hv
set_option maxRecDepth 100000 in
set_option maxHeartbeats 4000000 in
theorem take33_none {T : Nat → Prop} {W0 W : World} {base xb mb ph mo now n : Nat} {pairs : Int} {fm : Fp → Option Nat} {E : List En} {f : Fp} {man : Id} (h : At T W0 W base xb mb ph mo pairs now n fm E) (hf : IsFp f) (hn : fm f = none) :
    Calls Try.prog 33 #[.pointer (some ⟨xb, 0, none⟩), .agg (fpL f).toArray, .int .u32 man] W fun r W' => r = .returned (.int .i64 0) ∧ At T W0 W' base xb mb ph mo pairs now n fm E := by
  obtain ⟨b0, hb0⟩ : ∃ b0, b0 = W.heap.size := ⟨_, rfl⟩
  have HT := Lib.hid (h.boxed (.cells (fpL f).toArray 47))
  have HBX : Hid (∀ W', Tn (XB xb mb E) (W.alloc (.cells (fpL f).toArray 47)) W' → W'.rangeAt b0 0 (fpL f)) := Lib.hid (fun W' ht => box_range (h.box_stays _ hb0 ht))
  have HUB : Hid (∀ W' n' now' pairs' fm' E', At (XB xb mb E) (W.alloc (.cells (fpL f).toArray 47)) W' base xb mb ph mo pairs' now' n' fm' E' → At T W0 W' base xb mb ph mo pairs' now' n' fm' E') := Lib.hid (fun _ _ _ _ _ _ k => h.unbox _ k)
  have HF := Lib.hid hf
  have HIX := Lib.hid (info29f hf)
  have c2 := HT.out.mem.c.2.2.1
  have HRF : Hid (∀ m, ((W.alloc (.cells (fpL f).toArray 47)).drewN m).rangeAt b0 0 (fpL f)) := Lib.hid (fun m => HBX.out _ (HT.out.drewN m).tn)
  have hlk : ∀ m, _ := fun m => HT.out.look hf m
  rw [hn] at hlk
  simp only [ptrV] at hlk
  clear h hf
  go_enter Try.func33, Try.ntmps33
  go_wp2_with fail
  rw [← hb0]
  clear hb0
  generalize W.alloc (.cells (fpL f).toArray 47) = W1 at *
  refine wp_region_quiet_lit (by kernel_rfl) (by kernel_rfl) ?_
  repeat (first
    | ((with_reducible refine wpQuiet_load_mid (op := ⟨some 13, _, _, _, _, _⟩) ?_ 47 (.tmp 4) rfl b0 (0) ?_ _ _ ?_ Try.underlying47 rfl HIX.out ?_); rfl; rfl; (rintro w2 ⟨q2, rfl⟩; exact HRF.out _); go_simp)
    | go_big_quiet_step (fail))
  refine wpQuiet_nil ?_
  intro nq
  go_wp2_with fail
  go_ret
  exact ⟨rfl, HUB.out _ _ _ _ _ _ (HT.out.drewN nq)⟩
theorem idx_spec (l : List Id) (x : Id) : (x ∉ l ∧ Lib.idxBy (fun x y => decide (x = y)) l x = -1) ∨ ∃ k, k < l.length ∧ Lib.idxBy (fun x y => decide (x = y)) l x = (k : Int) ∧ l[k]? = some x := by
  by_cases h : x ∈ l
  · right
    have key : ∀ l : List Id, x ∈ l → ∃ k, ∃ hk : k < l.length, l[k] = x ∧ ∀ j, (hj : j < k) → l[j]'(Nat.lt_trans hj hk) ≠ x := by
      intro l
      induction l with
      | nil => intro h; cases h
      | cons a r ih =>
        intro h
        by_cases e : a = x
        · exact ⟨0, by simp, e, fun j hj => absurd hj (Nat.not_lt_zero _)⟩
        · obtain ⟨k, hk, e1, e2⟩ := ih ((List.mem_cons.1 h).resolve_left (fun q => e q.symm))
          refine ⟨k + 1, by simpa using hk, by simpa using e1, fun j hj => ?_⟩
          match j, hj with
          | 0, _ => simpa using e
          | j + 1, hj => simpa using e2 j (by omega)
    obtain ⟨k, hk, e, hmin⟩ := key l h
    refine ⟨k, hk, ?_, by rw [List.getElem?_eq_getElem hk, e]⟩
    have := Lib.idxBy_hit (fun x y => decide (x = y)) l l.length k x hk (Nat.le_refl _) (by rw [getElem!_pos l k hk, e]; simp) (fun j hj => by
      rw [getElem!_pos l j (Nat.lt_trans hj hk)]
      exact decide_eq_false (fun q => hmin j hj q.symm))
    rwa [List.take_length] at this
  · left
    refine ⟨h, ?_⟩
    have := Lib.idxBy_miss (fun x y => decide (x = y)) l l.length x (fun j hj => by
      rw [getElem!_pos l j hj]
      exact decide_eq_false (fun q => h (by rw [q]; exact List.getElem_mem hj)))
    rwa [List.take_length] at this
theorem At.row_cell {T : Nat → Prop} {W0 W W1 : World} {base xb mb ph mo now n : Nat} {pairs : Int} {fm : Fp → Option Nat} {P S : List En} {e : En} (h : At T W0 W base xb mb ph mo pairs now n fm (P ++ e :: S)) (hg : W.grownBy W1 e.v.ownBlock) :
    W1.cell? ⟨e.p, 0, none⟩ = some e.v ∧ W1.frozen? ⟨e.p, 0, none⟩ = false := by
  have he := h.mem.ens e (mem_mid P S e)
  have hep : e.v.ownBlock ≠ some e.p := own_other he.own he.cells (fun cur => by intro q; injection q with _ q _; cases q)
  have hp1 : W1.heap[e.p]? = _ := (hg.block _ (lt_of_block he.cells) (fun q => hep q.symm)).trans he.cells
  exact ⟨cell_of_row W1 e.p 0 _ 67 (0, 0) hp1, frozen_of_row W1 e.p 0 _ 67 hp1⟩
theorem own_same (A : Option Addr) (m m' c : Nat) : (Value.slice A m c).ownBlock = (Value.slice A m' c).ownBlock := by cases A <;> rfl
set_option maxRecDepth 100000 in
set_option maxHeartbeats 4000000 in
theorem take33_miss {T : Nat → Prop} {W0 W : World} {base xb mb ph mo now n p c u : Nat} {pairs : Int} {fm : Fp → Option Nat} {P S : List En} {f : Fp} {A : Option Addr} {l : List Id} {man : Id} (h : At T W0 W base xb mb ph mo pairs now n fm (P ++ ⟨f, p, A, c, l, u⟩ :: S)) (hf : IsFp f) (hn : fm f = some p) (hll : l.length ≤ 1000000) (hidx : Lib.idxBy (fun x y => decide (x = y)) l man = -1) :
    Calls Try.prog 33 #[.pointer (some ⟨xb, 0, none⟩), .agg (fpL f).toArray, .int .u32 man] W fun r W' => r = .returned (.int .i64 0) ∧ At T W0 W' base xb mb ph mo pairs now n fm (P ++ ⟨f, p, A, c, l, u⟩ :: S) := by
  obtain ⟨b0, hb0⟩ : ∃ b0, b0 = W.heap.size := ⟨_, rfl⟩
  have HT := Lib.hid (h.boxed (.cells (fpL f).toArray 47))
  have HBX : Hid (∀ W', Tn (XB xb mb (P ++ ⟨f, p, A, c, l, u⟩ :: S)) (W.alloc (.cells (fpL f).toArray 47)) W' → W'.rangeAt b0 0 (fpL f)) := Lib.hid (fun W' ht => box_range (h.box_stays _ hb0 ht))
  have HUB : Hid (∀ W' n' now' pairs' fm' E', At (XB xb mb (P ++ ⟨f, p, A, c, l, u⟩ :: S)) (W.alloc (.cells (fpL f).toArray 47)) W' base xb mb ph mo pairs' now' n' fm' E' → At T W0 W' base xb mb ph mo pairs' now' n' fm' E') := Lib.hid (fun _ _ _ _ _ _ k => h.unbox _ k)
  have HF := Lib.hid hf
  have HIX := Lib.hid (info29f hf)
  have c2 := HT.out.mem.c.2.2.1
  have HRF : Hid (∀ m, ((W.alloc (.cells (fpL f).toArray 47)).drewN m).rangeAt b0 0 (fpL f)) := Lib.hid (fun m => HBX.out _ (HT.out.drewN m).tn)
  have hlk : ∀ m, _ := fun m => HT.out.look hf m
  rw [hn] at hlk
  simp only [ptrV] at hlk
  have hll2 := hll
  clear h hf
  go_enter Try.func33, Try.ntmps33
  go_wp2_with fail
  rw [← hb0]
  clear hb0
  generalize W.alloc (.cells (fpL f).toArray 47) = W1 at *
  refine wp_region_quiet_lit (by kernel_rfl) (by kernel_rfl) ?_
  repeat (first
    | ((with_reducible refine wpQuiet_load_mid (op := ⟨some 13, _, _, _, _, _⟩) ?_ 47 (.tmp 4) rfl b0 (0) ?_ _ _ ?_ Try.underlying47 rfl HIX.out ?_); rfl; rfl; (rintro w2 ⟨q2, rfl⟩; exact HRF.out _); go_simp)
    | go_big_quiet_step (fail))
  refine wpQuiet_nil ?_
  intro nq
  have H2 := Lib.hid (HT.out.drewN nq)
  generalize W1.drewN nq = W2 at *
  clear hlk c2
  have HEN := Lib.hid (H2.out.mem.ens _ (mem_mid P S _))
  have ce : W2.cell? ⟨p, 0, none⟩ = some (.slice A l.length c) := HEN.out.c.1
  have HC44 : Hid (Calls Try.prog 44 #[.slice A l.length c, .int .u32 man] W2 fun e w' => e = .returned (.int .i64 (Lib.idxBy (fun x y => decide (x = y)) l man)) ∧ w' = W2) := Lib.hid (index44 (row_own HEN.out.own) hll)
  rw [hidx] at HC44
  go_wp2_with fail
  refine Calls.mono HC44.out ?_
  rintro _ _ ⟨rfl, rfl⟩
  go_wp2_with fail
  go_ret
  exact ⟨rfl, HUB.out _ _ _ _ _ _ H2.out⟩
set_option maxRecDepth 100000 in
set_option maxHeartbeats 4000000 in
theorem take33_more {T : Nat → Prop} {W0 W : World} {base xb mb ph mo now n p c u k : Nat} {pairs : Int} {fm : Fp → Option Nat} {P S : List En} {f : Fp} {A : Option Addr} {l : List Id} {man : Id} {l' : List Id} (h : At T W0 W base xb mb ph mo pairs now n fm (P ++ ⟨f, p, A, c, l, u⟩ :: S)) (hf : IsFp f) (hn : fm f = some p) (hll : l.length ≤ 1000000) (hp1 : 1 ≤ pairs) (hp2 : pairs ≤ 1000000000) (hk : k < l.length) (hidx : Lib.idxBy (fun x y => decide (x = y)) l man = (k : Int)) (hl' : l.eraseIdx k = l') (hne : l' ≠ []) :
    Calls Try.prog 33 #[.pointer (some ⟨xb, 0, none⟩), .agg (fpL f).toArray, .int .u32 man] W fun r W' => r = .returned (.int .i64 1) ∧ At T W0 W' base xb mb ph mo (pairs - 1) now n fm (P ++ ⟨f, p, A, c, l', u⟩ :: S) := by
  obtain ⟨b0, hb0⟩ : ∃ b0, b0 = W.heap.size := ⟨_, rfl⟩
  have HT := Lib.hid (h.boxed (.cells (fpL f).toArray 47))
  have HBX : Hid (∀ W', Tn (XB xb mb (P ++ ⟨f, p, A, c, l, u⟩ :: S)) (W.alloc (.cells (fpL f).toArray 47)) W' → W'.rangeAt b0 0 (fpL f)) := Lib.hid (fun W' ht => box_range (h.box_stays _ hb0 ht))
  have HUB : Hid (∀ W' n' now' pairs' fm' E', At (XB xb mb (P ++ ⟨f, p, A, c, l, u⟩ :: S)) (W.alloc (.cells (fpL f).toArray 47)) W' base xb mb ph mo pairs' now' n' fm' E' → At T W0 W' base xb mb ph mo pairs' now' n' fm' E') := Lib.hid (fun _ _ _ _ _ _ k => h.unbox _ k)
  have HF := Lib.hid hf
  have HIX := Lib.hid (info29f hf)
  have c2 := HT.out.mem.c.2.2.1
  have HRF : Hid (∀ m, ((W.alloc (.cells (fpL f).toArray 47)).drewN m).rangeAt b0 0 (fpL f)) := Lib.hid (fun m => HBX.out _ (HT.out.drewN m).tn)
  have hlk : ∀ m, _ := fun m => HT.out.look hf m
  rw [hn] at hlk
  simp only [ptrV] at hlk
  have hll2 := hll
  clear h hf
  go_enter Try.func33, Try.ntmps33
  go_wp2_with fail
  rw [← hb0]
  clear hb0
  generalize W.alloc (.cells (fpL f).toArray 47) = W1 at *
  refine wp_region_quiet_lit (by kernel_rfl) (by kernel_rfl) ?_
  repeat (first
    | ((with_reducible refine wpQuiet_load_mid (op := ⟨some 13, _, _, _, _, _⟩) ?_ 47 (.tmp 4) rfl b0 (0) ?_ _ _ ?_ Try.underlying47 rfl HIX.out ?_); rfl; rfl; (rintro w2 ⟨q2, rfl⟩; exact HRF.out _); go_simp)
    | go_big_quiet_step (fail))
  refine wpQuiet_nil ?_
  intro nq
  have H2 := Lib.hid (HT.out.drewN nq)
  generalize W1.drewN nq = W2 at *
  clear hlk c2
  have HEN := Lib.hid (H2.out.mem.ens _ (mem_mid P S _))
  have ce : W2.cell? ⟨p, 0, none⟩ = some (.slice A l.length c) := HEN.out.c.1
  have HC44 : Hid (Calls Try.prog 44 #[.slice A l.length c, .int .u32 man] W2 fun e w' => e = .returned (.int .i64 (Lib.idxBy (fun x y => decide (x = y)) l man)) ∧ w' = W2) := Lib.hid (index44 (row_own HEN.out.own) hll)
  rw [hidx] at HC44
  go_wp2_with fail
  refine Calls.mono HC44.out ?_
  rintro _ _ ⟨rfl, rfl⟩
  have HK := Lib.hid hk
  have HL := Lib.hid hl'
  have HNE := Lib.hid hne
  clear hk hl' hne
  have hpw : IntKind.i64.wrap (pairs - 1) = pairs - 1 := IntWalk.i64_in _ (by omega)
  have hkw : IntKind.i64.wrap ((k : Int) + 1) = (k : Int) + 1 := IntWalk.i64_in _ (by have := HK.out; omega)
  have hk0 : ¬ (k : Int) < 0 := by omega
  clear hidx hll
  have hd := delete45 HEN.out.own HK.out
  rw [HL.out] at hd
  have HC45 := Lib.hid hd
  clear hd
  go_wp2_with fail
  refine Calls.mono HC45.out ?_
  rintro _ W3 ⟨rfl, hown, hg⟩
  have H4 := Lib.hid (H2.out.relist hg hown (fun b q => .inl (by rw [← q]; exact own_same _ _ _ _)))
  obtain ⟨cp, fp⟩ := H2.out.row_cell hg
  simp only [En.v] at cp fp H4
  clear hown hg ce
  go_upto_region 8 with fail
  generalize W3.setCell ⟨p, 0, none⟩ (.slice A l'.length c) = W4 at *
  clear cp fp
  have c3 := H4.out.mem.c.2.2.2.1
  have f3 := H4.out.mem.f 3
  have H5 := Lib.hid (H4.out.pairsSet (pairs - 1))
  go_upto_region 9 with fail
  generalize W4.setCell ⟨xb, 3, none⟩ (.int .i64 (pairs - 1)) = W5 at *
  clear c3 f3
  have ce : W5.cell? ⟨p, 0, none⟩ = some (.slice A l'.length c) := (H5.out.mem.ens _ (mem_mid P S _)).c.1
  have hl0 : ¬ ((l'.length : Int) = 0) := by have := List.length_pos_iff.2 HNE.out; omega
  go_wp2_with fail
  go_ret
  exact ⟨rfl, HUB.out _ _ _ _ _ _ H5.out⟩
set_option maxRecDepth 100000 in
set_option maxHeartbeats 4000000 in
theorem take33_last {T : Nat → Prop} {W0 W : World} {base xb mb ph mo now n p c u k : Nat} {pairs : Int} {fm : Fp → Option Nat} {P S : List En} {f : Fp} {A : Option Addr} {l : List Id} {man : Id} {l' : List Id} (h : At T W0 W base xb mb ph mo pairs now n fm (P ++ ⟨f, p, A, c, l, u⟩ :: S)) (hf : IsFp f) (hn : fm f = some p) (hll : l.length ≤ 1000000) (hp1 : 1 ≤ pairs) (hp2 : pairs ≤ 1000000000) (hk : k < l.length) (hidx : Lib.idxBy (fun x y => decide (x = y)) l man = (k : Int)) (hl' : l.eraseIdx k = l') (hne : l' = []) :
    Calls Try.prog 33 #[.pointer (some ⟨xb, 0, none⟩), .agg (fpL f).toArray, .int .u32 man] W fun r W' => r = .returned (.int .i64 1) ∧ At T W0 W' base xb mb ph mo (pairs - 1) now n (setFm fm f none) (P ++ S) := by
  obtain ⟨b0, hb0⟩ : ∃ b0, b0 = W.heap.size := ⟨_, rfl⟩
  have HT := Lib.hid (h.boxed (.cells (fpL f).toArray 47))
  have HBX : Hid (∀ W', Tn (XB xb mb (P ++ ⟨f, p, A, c, l, u⟩ :: S)) (W.alloc (.cells (fpL f).toArray 47)) W' → W'.rangeAt b0 0 (fpL f)) := Lib.hid (fun W' ht => box_range (h.box_stays _ hb0 ht))
  have HUB : Hid (∀ W' n' now' pairs' fm' E', At (XB xb mb (P ++ ⟨f, p, A, c, l, u⟩ :: S)) (W.alloc (.cells (fpL f).toArray 47)) W' base xb mb ph mo pairs' now' n' fm' E' → At T W0 W' base xb mb ph mo pairs' now' n' fm' E') := Lib.hid (fun _ _ _ _ _ _ k => h.unbox _ k)
  have HF := Lib.hid hf
  have HIX := Lib.hid (info29f hf)
  have c2 := HT.out.mem.c.2.2.1
  have HRF : Hid (∀ m, ((W.alloc (.cells (fpL f).toArray 47)).drewN m).rangeAt b0 0 (fpL f)) := Lib.hid (fun m => HBX.out _ (HT.out.drewN m).tn)
  have hlk : ∀ m, _ := fun m => HT.out.look hf m
  rw [hn] at hlk
  simp only [ptrV] at hlk
  have hll2 := hll
  clear h hf
  go_enter Try.func33, Try.ntmps33
  go_wp2_with fail
  rw [← hb0]
  clear hb0
  generalize W.alloc (.cells (fpL f).toArray 47) = W1 at *
  refine wp_region_quiet_lit (by kernel_rfl) (by kernel_rfl) ?_
  repeat (first
    | ((with_reducible refine wpQuiet_load_mid (op := ⟨some 13, _, _, _, _, _⟩) ?_ 47 (.tmp 4) rfl b0 (0) ?_ _ _ ?_ Try.underlying47 rfl HIX.out ?_); rfl; rfl; (rintro w2 ⟨q2, rfl⟩; exact HRF.out _); go_simp)
    | go_big_quiet_step (fail))
  refine wpQuiet_nil ?_
  intro nq
  have H2 := Lib.hid (HT.out.drewN nq)
  generalize W1.drewN nq = W2 at *
  clear hlk c2
  have HEN := Lib.hid (H2.out.mem.ens _ (mem_mid P S _))
  have ce : W2.cell? ⟨p, 0, none⟩ = some (.slice A l.length c) := HEN.out.c.1
  have HC44 : Hid (Calls Try.prog 44 #[.slice A l.length c, .int .u32 man] W2 fun e w' => e = .returned (.int .i64 (Lib.idxBy (fun x y => decide (x = y)) l man)) ∧ w' = W2) := Lib.hid (index44 (row_own HEN.out.own) hll)
  rw [hidx] at HC44
  go_wp2_with fail
  refine Calls.mono HC44.out ?_
  rintro _ _ ⟨rfl, rfl⟩
  have HK := Lib.hid hk
  have HL := Lib.hid hl'
  have HNE := Lib.hid hne
  clear hk hl' hne
  have hpw : IntKind.i64.wrap (pairs - 1) = pairs - 1 := IntWalk.i64_in _ (by omega)
  have hkw : IntKind.i64.wrap ((k : Int) + 1) = (k : Int) + 1 := IntWalk.i64_in _ (by have := HK.out; omega)
  have hk0 : ¬ (k : Int) < 0 := by omega
  clear hidx hll
  have hd := delete45 HEN.out.own HK.out
  rw [HL.out] at hd
  have HC45 := Lib.hid hd
  clear hd
  go_wp2_with fail
  refine Calls.mono HC45.out ?_
  rintro _ W3 ⟨rfl, hown, hg⟩
  have H4 := Lib.hid (H2.out.relist hg hown (fun b q => .inl (by rw [← q]; exact own_same _ _ _ _)))
  obtain ⟨cp, fp⟩ := H2.out.row_cell hg
  simp only [En.v] at cp fp H4
  clear hown hg ce
  go_upto_region 8 with fail
  generalize W3.setCell ⟨p, 0, none⟩ (.slice A l'.length c) = W4 at *
  clear cp fp
  have c3 := H4.out.mem.c.2.2.2.1
  have f3 := H4.out.mem.f 3
  have H5 := Lib.hid (H4.out.pairsSet (pairs - 1))
  go_upto_region 9 with fail
  generalize W4.setCell ⟨xb, 3, none⟩ (.int .i64 (pairs - 1)) = W5 at *
  clear c3 f3
  have ce : W5.cell? ⟨p, 0, none⟩ = some (.slice A l'.length c) := (H5.out.mem.ens _ (mem_mid P S _)).c.1
  have hl0 : (l'.length : Int) = 0 := by rw [HNE.out]; rfl
  obtain ⟨W6, hrun, h6⟩ := H5.out.drew.del HF.out 0
  have H6 := Lib.hid h6
  clear h6
  go_wp2_with fail
  refine wp_region_held_drew (S := (fun W => W.cell? ⟨xb, 2, none⟩ = some (.map (some mb)) ∧ W.rangeAt b0 0 (fpL f))) (by kernel_rfl) ?_ (fun hSx => ?_)
  · exact ⟨H5.out.drew.mem.c.2.2.1, HBX.out _ H5.out.drew.tn⟩
  refine wpAnyH_take (i := 0) (oi := ⟨some 49, _, _, _, _, none⟩) (v := ?_) rfl (by kernel_rfl) (by kernel_rfl) (by kernel_rfl) (fun _ _ _ h => h) (Or.inl ⟨by kernel_rfl, ?_⟩) hSx ?_
  rotate_left 1
  focus (intro wx hSw; obtain ⟨s0, s1⟩ := hSw; go_simp; first | done | with_reducible rfl)
  try simp only [Act.put, List.setIfInBounds_toArray, List.set_cons_zero, List.set_cons_succ]
  refine wpAnyH_take (i := 1) (oi := ⟨some 50, _, _, _, _, none⟩) (v := ?_) rfl (by kernel_rfl) (by kernel_rfl) (by kernel_rfl) (fun _ _ _ h => h) (Or.inl ⟨by kernel_rfl, ?_⟩) hSx ?_
  rotate_left 1
  focus (intro wx hSw; obtain ⟨s0, s1⟩ := hSw; go_simp; first | done | with_reducible rfl)
  try simp only [Act.put, List.setIfInBounds_toArray, List.set_cons_zero, List.set_cons_succ]
  refine wpAnyH_take (i := 2) (oi := ⟨some 51, _, _, _, _, none⟩) (v := ?_) rfl (by kernel_rfl) (by kernel_rfl) (by kernel_rfl) (fun _ _ _ h => h) (Or.inl ⟨by kernel_rfl, ?_⟩) hSx ?_
  rotate_left 1
  focus (intro wx hSw; obtain ⟨s0, s1⟩ := hSw; go_simp; first | done | with_reducible rfl)
  try simp only [Act.put, List.setIfInBounds_toArray, List.set_cons_zero, List.set_cons_succ]
  refine wpAnyH_take (i := 3) (oi := ⟨some 52, _, _, _, _, none⟩) (v := ?_) rfl (by kernel_rfl) (by kernel_rfl) (by kernel_rfl) (fun _ _ _ h => h) (Or.inl ⟨by kernel_rfl, ?_⟩) hSx ?_
  rotate_left 1
  focus (intro wx hSw; obtain ⟨s0, s1⟩ := hSw; go_simp; first | done | with_reducible rfl)
  try simp only [Act.put, List.setIfInBounds_toArray, List.set_cons_zero, List.set_cons_succ]
  refine wpAnyH_take (i := 4) (oi := ⟨some 53, _, _, _, _, none⟩) (v := .agg (fpL f).toArray) rfl (by kernel_rfl) (by kernel_rfl) (by kernel_rfl) (fun _ _ _ h => h) (yieldsIf_load_mid (by kernel_rfl) 47 (.tmp 4) rfl (b0) (0) rfl (fpL f) _ (fun _ h => h.2) Try.underlying47 rfl HIX.out) hSx ?_
  try simp only [Act.put, List.setIfInBounds_toArray, List.set_cons_zero, List.set_cons_succ]
  refine wpAnyH_ready (rs := [5]) (by kernel_rfl) (by simp) ?_
  refine AllReadyH.cons (o := ⟨none, _, _, _, _, none⟩) rfl (fun KK hKK => ?_) AllReadyH.nil
  go_simp
  
  refine hKK.out _ _ (⟨H6.out.mem.c.2.2.1, HBX.out _ H6.out.tn⟩) (fun hSy => ?_)
  clear hKK hSx
  have hSx := hSy
  clear hSy KK
  try simp only [Act.put, List.setIfInBounds_toArray, List.set_cons_zero, List.set_cons_succ]
  refine wpAnyH_done (by kernel_rfl) ?_ _
  go_wp2_with fail
  go_ret
  exact ⟨rfl, (HUB.out _ _ _ _ _ _ H6.out).sub (by simp)⟩
end Go.Proofs.Ytnpgfhoagpeelaa
