/- Index and reference side by side; first, May. -/
import Derived.Test.YtnpgfhoagpeelaaBQ
namespace Go.Proofs.Ytnpgfhoagpeelaa
open Go.RowKit
open Go.Maps
theorem Xs.own3 {T : Nat → Prop} {W0 W : World} {base xb ph mo N : Nat} {E : List En} (h : Xs T W0 W base xb ph mo N E) : ∃ TX : Nat → Prop, Xs TX W W base xb ph mo N E ∧ ∀ b, TX b → b < W.heap.size ∧ base ≤ b ∧ (T b ∨ W0.heap.size ≤ b) := by
  obtain ⟨mb, now, n, fm, h1, h2⟩ := h
  exact ⟨XB xb mb E, ⟨mb, now, n, fm, ⟨h1.mem, fun b hb => .inl hb, Tn.refl _ _⟩, h2⟩, fun b hb => ⟨(h1.mem.lt hb).1, (h1.mem.lt hb).2, h1.inz b hb⟩⟩
theorem Xs.grown_wb {T : Nat → Prop} {W W' : World} {base xb ph mo N wb : Nat} {E : List En} (h : Xs T W W base xb ph mo N E) (hg : W.grownBy W' (some wb)) (hT : ¬ T wb) (hwb : wb < W.heap.size) : Xs T W' W' base xb ph mo N E := by
  obtain ⟨mb, now, n, fm, h1, h2⟩ := h
  refine ⟨mb, now, n, fm, ⟨h1.mem.kept hg (fun b q hb => ?_), fun b hb => ?_, Tn.refl _ _⟩, h2⟩
  · injection q with q
    subst q
    rcases h1.inz _ hb with q | q
    · exact hT q
    · omega
  · rcases h1.inz b hb with q | q
    · exact .inl q
    · have := (h1.mem.lt hb).1
      omega
theorem range_tn {T : Nat → Prop} {W W' : World} {b o : Nat} {L : List Value} (h : W.rangeAt b o L) (ht : Tn T W W') (hb : b < W.heap.size) (hT : ¬ T b) : W'.rangeAt b o L := fun j v hv => by
  have h1 := h j v hv
  have h2 := ht.block b hb hT
  unfold World.cell? at *
  simp only at *
  rw [h2]
  exact h1
theorem xs_next {T : Nat → Prop} {W W' : World} {base xb wb ph mo ph' mo' c N : Nat} {A : Option Addr} {rs : List Rr} {E : List En} (hr : Ref T W wb ph mo A c rs) (hx : Xs T W W' base xb ph' mo' N E) : ∃ T2, Xs T2 W' W' base xb ph' mo' N E ∧ Ref T2 W' wb ph mo A c rs ∧ (∀ b, T2 b → base ≤ b) := by
  obtain ⟨T2, h2, h3⟩ := hx.own3
  have ht := hx.tn
  have hn : ∀ b, b < W.heap.size → ¬ T b → ¬ T2 b := fun b hb q q2 => by
    rcases (h3 b q2).2.2 with q3 | q3
    · exact q q3
    · omega
  refine ⟨T2, h2, ⟨(ht.block wb (lt_of_block hr.hd) hr.wbT).trans hr.hd, fun hl => ?_, fun r q => ⟨(hr.ok r q).fp, fun hl => ?_, (hr.ok r q).cap, (hr.ok r q).len⟩, hr.cap, hr.num, hn wb (lt_of_block hr.hd) hr.wbT, fun b q => (h3 b q).1⟩, fun b q => (h3 b q).2.1⟩
  · obtain ⟨b, o, e, q1, q2, q3⟩ := hr.rows hl
    exact ⟨b, o, e, Nat.lt_of_lt_of_le q1 ht.size, hn b q1 q2, range_tn q3 ht q1 q2⟩
  · obtain ⟨b, o, e, q1, q2, q3⟩ := (hr.ok r q).ids hl
    exact ⟨b, o, e, Nat.lt_of_lt_of_le q1 ht.size, hn b q1 q2, range_tn q3 ht q1 q2⟩
/-- the index and the reference, in what a law has made behind W0 -/
def Jt (W0 W : World) (xb wb ph mo N : Nat) (R : List Rw) : Prop := ∃ (T : Nat → Prop) (E : List En) (A : Option Addr) (c : Nat) (rs : List Rr), Xs T W W W0.heap.size xb ph mo N E ∧ Ref T W wb ph mo A c rs ∧ abE E = R ∧ abR rs = R ∧ (∀ b, T b → W0.heap.size ≤ b) ∧ W0.heap.size ≤ wb ∧ Below W0.heap.size W0 W
theorem below_tn {T : Nat → Prop} {W0 W W' : World} (hb : Below W0.heap.size W0 W) (ht : Tn T W W') (hT : ∀ b, T b → W0.heap.size ≤ b) : Below W0.heap.size W0 W' :=
  hb.trans (ht.below hT hb.size)
theorem below_wb {W0 W W' : World} {wb : Nat} (hb : Below W0.heap.size W0 W) (hg : W.grownBy W' (some wb)) (hw : W0.heap.size ≤ wb) : Below W0.heap.size W0 W' := hb.grown hg hb.size (fun j q => by injection q with q; omega)
def zfp : Fp := List.replicate 32 0
def headF (hs : List Fp) : Fp := hs.headD zfp
theorem headF_is {hs : List Fp} (h : AllFp hs) : IsFp (headF hs) := by
  cases hs with
  | nil => exact zfp_is
  | cons f hs => exact h f (List.mem_cons_self ..)
set_option maxRecDepth 100000 in
set_option maxHeartbeats 4000000 in
theorem first19 {W : World} {kind : Int} {man : Id} {A : Option Addr} {c : Nat} {hs : List Fp} (h : Fps W A hs) (ha : AllFp hs) :
    Calls Try.prog 19 #[.agg #[.int .i64 kind, .int .u32 man, .slice A hs.length c]] W fun r W' => r = .returned (.agg (fpL (headF hs)).toArray) ∧ Below W.heap.size W W' := by
  have hz : (#[Value.int .u8 0, Value.int .u8 0, Value.int .u8 0, Value.int .u8 0, Value.int .u8 0, Value.int .u8 0, Value.int .u8 0, Value.int .u8 0, Value.int .u8 0, Value.int .u8 0, Value.int .u8 0, Value.int .u8 0, Value.int .u8 0, Value.int .u8 0, Value.int .u8 0, Value.int .u8 0, Value.int .u8 0, Value.int .u8 0, Value.int .u8 0, Value.int .u8 0, Value.int .u8 0, Value.int .u8 0, Value.int .u8 0, Value.int .u8 0, Value.int .u8 0, Value.int .u8 0, Value.int .u8 0, Value.int .u8 0, Value.int .u8 0, Value.int .u8 0, Value.int .u8 0, Value.int .u8 0] : Array Value) = (fpL zfp).toArray := by rfl
  have HZ := Lib.hid hz
  have HZI : Hid ((Try.prog.info? 47).map (·.size) = some (#[Value.int .u8 0, Value.int .u8 0, Value.int .u8 0, Value.int .u8 0, Value.int .u8 0, Value.int .u8 0, Value.int .u8 0, Value.int .u8 0, Value.int .u8 0, Value.int .u8 0, Value.int .u8 0, Value.int .u8 0, Value.int .u8 0, Value.int .u8 0, Value.int .u8 0, Value.int .u8 0, Value.int .u8 0, Value.int .u8 0, Value.int .u8 0, Value.int .u8 0, Value.int .u8 0, Value.int .u8 0, Value.int .u8 0, Value.int .u8 0, Value.int .u8 0, Value.int .u8 0, Value.int .u8 0, Value.int .u8 0, Value.int .u8 0, Value.int .u8 0, Value.int .u8 0, Value.int .u8 0] : Array Value).size) := Lib.hid (info29.trans rfl)
  have HZO : Hid ((#[Value.int .u8 0, Value.int .u8 0, Value.int .u8 0, Value.int .u8 0, Value.int .u8 0, Value.int .u8 0, Value.int .u8 0, Value.int .u8 0, Value.int .u8 0, Value.int .u8 0, Value.int .u8 0, Value.int .u8 0, Value.int .u8 0, Value.int .u8 0, Value.int .u8 0, Value.int .u8 0, Value.int .u8 0, Value.int .u8 0, Value.int .u8 0, Value.int .u8 0, Value.int .u8 0, Value.int .u8 0, Value.int .u8 0, Value.int .u8 0, Value.int .u8 0, Value.int .u8 0, Value.int .u8 0, Value.int .u8 0, Value.int .u8 0, Value.int .u8 0, Value.int .u8 0, Value.int .u8 0] : Array Value).all (·.oneCell') = true) := Lib.hid (by rw [hz]; exact all_oneCell_toArray fpL_one)
  have HH := Lib.hid h
  have HA := Lib.hid ha
  clear h ha hz
  go_enter Try.func19, Try.ntmps19
  go_upto_region 1 with fail
  have HB0 : Hid (Below W.heap.size W ((W.alloc (.cells #[.int .i64 kind, .int .u32 man, .slice A hs.length c] 36)).alloc (.cells #[Value.int .u8 0, Value.int .u8 0, Value.int .u8 0, Value.int .u8 0, Value.int .u8 0, Value.int .u8 0, Value.int .u8 0, Value.int .u8 0, Value.int .u8 0, Value.int .u8 0, Value.int .u8 0, Value.int .u8 0, Value.int .u8 0, Value.int .u8 0, Value.int .u8 0, Value.int .u8 0, Value.int .u8 0, Value.int .u8 0, Value.int .u8 0, Value.int .u8 0, Value.int .u8 0, Value.int .u8 0, Value.int .u8 0, Value.int .u8 0, Value.int .u8 0, Value.int .u8 0, Value.int .u8 0, Value.int .u8 0, Value.int .u8 0, Value.int .u8 0, Value.int .u8 0, Value.int .u8 0] 47))) := Lib.hid (((Below.refl _ _).alloc (Nat.le_refl _) _).alloc (by rw [World.size_alloc]; omega) _)
  have HQ : Hid (((W.alloc (.cells #[.int .i64 kind, .int .u32 man, .slice A hs.length c] 36)).alloc (.cells #[Value.int .u8 0, Value.int .u8 0, Value.int .u8 0, Value.int .u8 0, Value.int .u8 0, Value.int .u8 0, Value.int .u8 0, Value.int .u8 0, Value.int .u8 0, Value.int .u8 0, Value.int .u8 0, Value.int .u8 0, Value.int .u8 0, Value.int .u8 0, Value.int .u8 0, Value.int .u8 0, Value.int .u8 0, Value.int .u8 0, Value.int .u8 0, Value.int .u8 0, Value.int .u8 0, Value.int .u8 0, Value.int .u8 0, Value.int .u8 0, Value.int .u8 0, Value.int .u8 0, Value.int .u8 0, Value.int .u8 0, Value.int .u8 0, Value.int .u8 0, Value.int .u8 0, Value.int .u8 0] 47)).heap[W.heap.size + 1]? = some (.cells #[Value.int .u8 0, Value.int .u8 0, Value.int .u8 0, Value.int .u8 0, Value.int .u8 0, Value.int .u8 0, Value.int .u8 0, Value.int .u8 0, Value.int .u8 0, Value.int .u8 0, Value.int .u8 0, Value.int .u8 0, Value.int .u8 0, Value.int .u8 0, Value.int .u8 0, Value.int .u8 0, Value.int .u8 0, Value.int .u8 0, Value.int .u8 0, Value.int .u8 0, Value.int .u8 0, Value.int .u8 0, Value.int .u8 0, Value.int .u8 0, Value.int .u8 0, Value.int .u8 0, Value.int .u8 0, Value.int .u8 0, Value.int .u8 0, Value.int .u8 0, Value.int .u8 0, Value.int .u8 0] 47 (0, 0))) := Lib.hid (by have := heap_alloc_new (W.alloc (.cells #[.int .i64 kind, .int .u32 man, .slice A hs.length c] 36)) (.cells #[Value.int .u8 0, Value.int .u8 0, Value.int .u8 0, Value.int .u8 0, Value.int .u8 0, Value.int .u8 0, Value.int .u8 0, Value.int .u8 0, Value.int .u8 0, Value.int .u8 0, Value.int .u8 0, Value.int .u8 0, Value.int .u8 0, Value.int .u8 0, Value.int .u8 0, Value.int .u8 0, Value.int .u8 0, Value.int .u8 0, Value.int .u8 0, Value.int .u8 0, Value.int .u8 0, Value.int .u8 0, Value.int .u8 0, Value.int .u8 0, Value.int .u8 0, Value.int .u8 0, Value.int .u8 0, Value.int .u8 0, Value.int .u8 0, Value.int .u8 0, Value.int .u8 0, Value.int .u8 0] 47); rwa [World.size_alloc] at this)
  have cz : ((W.alloc (.cells #[.int .i64 kind, .int .u32 man, .slice A hs.length c] 36)).alloc (.cells #[Value.int .u8 0, Value.int .u8 0, Value.int .u8 0, Value.int .u8 0, Value.int .u8 0, Value.int .u8 0, Value.int .u8 0, Value.int .u8 0, Value.int .u8 0, Value.int .u8 0, Value.int .u8 0, Value.int .u8 0, Value.int .u8 0, Value.int .u8 0, Value.int .u8 0, Value.int .u8 0, Value.int .u8 0, Value.int .u8 0, Value.int .u8 0, Value.int .u8 0, Value.int .u8 0, Value.int .u8 0, Value.int .u8 0, Value.int .u8 0, Value.int .u8 0, Value.int .u8 0, Value.int .u8 0, Value.int .u8 0, Value.int .u8 0, Value.int .u8 0, Value.int .u8 0, Value.int .u8 0] 47)).cell? ⟨W.heap.size, 2, none⟩ = some (.slice A hs.length c) := by
    refine (((Below.refl (W.alloc (.cells #[.int .i64 kind, .int .u32 man, .slice A hs.length c] 36)).heap.size (W.alloc (.cells #[.int .i64 kind, .int .u32 man, .slice A hs.length c] 36))).alloc (Nat.le_refl _) (.cells #[Value.int .u8 0, Value.int .u8 0, Value.int .u8 0, Value.int .u8 0, Value.int .u8 0, Value.int .u8 0, Value.int .u8 0, Value.int .u8 0, Value.int .u8 0, Value.int .u8 0, Value.int .u8 0, Value.int .u8 0, Value.int .u8 0, Value.int .u8 0, Value.int .u8 0, Value.int .u8 0, Value.int .u8 0, Value.int .u8 0, Value.int .u8 0, Value.int .u8 0, Value.int .u8 0, Value.int .u8 0, Value.int .u8 0, Value.int .u8 0, Value.int .u8 0, Value.int .u8 0, Value.int .u8 0, Value.int .u8 0, Value.int .u8 0, Value.int .u8 0, Value.int .u8 0, Value.int .u8 0] 47)).cell (p := ⟨W.heap.size, 2, none⟩) (by rw [World.size_alloc]; exact Nat.lt_succ_self _)).trans ?_
    exact cell_of_row _ W.heap.size 2 _ 36 (0, 0) (heap_alloc_new _ _)
  have HSZ : Hid (∃ b, b = W.heap.size) := Lib.hid ⟨_, rfl⟩
  generalize (W.alloc (.cells #[.int .i64 kind, .int .u32 man, .slice A hs.length c] 36)).alloc (.cells #[Value.int .u8 0, Value.int .u8 0, Value.int .u8 0, Value.int .u8 0, Value.int .u8 0, Value.int .u8 0, Value.int .u8 0, Value.int .u8 0, Value.int .u8 0, Value.int .u8 0, Value.int .u8 0, Value.int .u8 0, Value.int .u8 0, Value.int .u8 0, Value.int .u8 0, Value.int .u8 0, Value.int .u8 0, Value.int .u8 0, Value.int .u8 0, Value.int .u8 0, Value.int .u8 0, Value.int .u8 0, Value.int .u8 0, Value.int .u8 0, Value.int .u8 0, Value.int .u8 0, Value.int .u8 0, Value.int .u8 0, Value.int .u8 0, Value.int .u8 0, Value.int .u8 0, Value.int .u8 0] 47) = W1 at *
  obtain ⟨b0, hb0⟩ := HSZ.out
  have HW0 := Lib.hid hb0
  rw [← hb0] at HQ cz ⊢
  clear hb0 HSZ
  cases hs with
  | nil =>
    have hl0 : (([] : List Fp).length : Int) = 0 := rfl
    have HSR := Lib.hid (setRow_grown W1 (b0 + 1) #[Value.int .u8 0, Value.int .u8 0, Value.int .u8 0, Value.int .u8 0, Value.int .u8 0, Value.int .u8 0, Value.int .u8 0, Value.int .u8 0, Value.int .u8 0, Value.int .u8 0, Value.int .u8 0, Value.int .u8 0, Value.int .u8 0, Value.int .u8 0, Value.int .u8 0, Value.int .u8 0, Value.int .u8 0, Value.int .u8 0, Value.int .u8 0, Value.int .u8 0, Value.int .u8 0, Value.int .u8 0, Value.int .u8 0, Value.int .u8 0, Value.int .u8 0, Value.int .u8 0, Value.int .u8 0, Value.int .u8 0, Value.int .u8 0, Value.int .u8 0, Value.int .u8 0, Value.int .u8 0])
    go_wp2_with (first
      | ((with_reducible refine wpList_store_row (o := ⟨none, .store _ _ _, _, _, _, _⟩) rfl 47 (.tmp 2) (.tmp 7) rfl (b0 + 1) #[Value.int .u8 0, Value.int .u8 0, Value.int .u8 0, Value.int .u8 0, Value.int .u8 0, Value.int .u8 0, Value.int .u8 0, Value.int .u8 0, Value.int .u8 0, Value.int .u8 0, Value.int .u8 0, Value.int .u8 0, Value.int .u8 0, Value.int .u8 0, Value.int .u8 0, Value.int .u8 0, Value.int .u8 0, Value.int .u8 0, Value.int .u8 0, Value.int .u8 0, Value.int .u8 0, Value.int .u8 0, Value.int .u8 0, Value.int .u8 0, Value.int .u8 0, Value.int .u8 0, Value.int .u8 0, Value.int .u8 0, Value.int .u8 0, Value.int .u8 0, Value.int .u8 0, Value.int .u8 0] ?_ ?_ 47 _ HQ.out HZI.out rfl HZO.out ?_); rfl; rfl))
    exact bodyPost_ret (results_cell_row rfl _ _ (b0 + 1) 47 #[Value.int .u8 0, Value.int .u8 0, Value.int .u8 0, Value.int .u8 0, Value.int .u8 0, Value.int .u8 0, Value.int .u8 0, Value.int .u8 0, Value.int .u8 0, Value.int .u8 0, Value.int .u8 0, Value.int .u8 0, Value.int .u8 0, Value.int .u8 0, Value.int .u8 0, Value.int .u8 0, Value.int .u8 0, Value.int .u8 0, Value.int .u8 0, Value.int .u8 0, Value.int .u8 0, Value.int .u8 0, Value.int .u8 0, Value.int .u8 0, Value.int .u8 0, Value.int .u8 0, Value.int .u8 0, Value.int .u8 0, Value.int .u8 0, Value.int .u8 0, Value.int .u8 0, Value.int .u8 0] (0, 0) _ rfl (setRow_heap _ _ _ _ _ _ HQ.out) Try.underlying47 rfl HZI.out) rfl ⟨by rw [HZ.out]; rfl, HB0.out.grown HSR.out (HB0.out).size (fun j q => by injection q with q; have := HW0.out; omega)⟩
  | cons f hs =>
    have hl0 : ¬ (((f :: hs).length : Nat) : Int) = 0 := by simp only [List.length_cons]; omega
    have hl1 : (0 : Int) < (((f :: hs).length : Nat) : Int) := by simp only [List.length_cons]; omega
    have hl2 : ((((f :: hs).length : Nat) : Int) == 0) = false := by rw [beq_eq_false_iff_ne]; exact hl0
    have HF := Lib.hid (HA.out f (List.mem_cons_self ..))
    obtain ⟨sb, so, rfl, _, hr⟩ := Fps.get (HH.out.below HB0.out) HA.out (k := 0) (f := f) rfl
    have HRW : Hid (W1.rangeAt sb so (fpL f)) := Lib.hid (by simpa using hr)
    have HIX := Lib.hid (info29f HF.out)
    have HI2 : Hid ((Try.prog.info? 47).map (·.size) = some (fpL f).toArray.size) := Lib.hid (by rw [List.size_toArray]; exact HIX.out)
    have HS2 : Hid ((#[Value.int .u8 0, Value.int .u8 0, Value.int .u8 0, Value.int .u8 0, Value.int .u8 0, Value.int .u8 0, Value.int .u8 0, Value.int .u8 0, Value.int .u8 0, Value.int .u8 0, Value.int .u8 0, Value.int .u8 0, Value.int .u8 0, Value.int .u8 0, Value.int .u8 0, Value.int .u8 0, Value.int .u8 0, Value.int .u8 0, Value.int .u8 0, Value.int .u8 0, Value.int .u8 0, Value.int .u8 0, Value.int .u8 0, Value.int .u8 0, Value.int .u8 0, Value.int .u8 0, Value.int .u8 0, Value.int .u8 0, Value.int .u8 0, Value.int .u8 0, Value.int .u8 0, Value.int .u8 0] : Array Value).size = (fpL f).toArray.size) := Lib.hid (by rw [show (fpL f).toArray.size = 32 by rw [List.size_toArray, fpL_length HF.out]]; rfl)
    have HON : Hid ((fpL f).toArray.all (·.oneCell') = true) := Lib.hid (all_oneCell_toArray fpL_one)
    have HSR := Lib.hid (setRow_grown W1 (b0 + 1) (fpL f).toArray)
    clear hr
    generalize (f :: hs).length = n at *
    go_wp2_with (first
      | ((with_reducible refine wpList_load_mid (op := ⟨some 11, _, _, _, _, _⟩) rfl 47 (.tmp 10) rfl sb so ?_ (fpL f) _ HRW.out Try.underlying47 rfl HIX.out ?_); rfl)
      | ((with_reducible refine wpList_store_row (o := ⟨none, .store _ _ _, _, _, _, _⟩) rfl 47 (.tmp 2) (.tmp 11) rfl (b0 + 1) (fpL f).toArray ?_ ?_ 47 _ HQ.out HI2.out HS2.out HON.out ?_); rfl; rfl))
    exact bodyPost_ret (results_cell_row rfl _ _ (b0 + 1) 47 (fpL f).toArray (0, 0) _ rfl (setRow_heap _ _ _ _ _ _ HQ.out) Try.underlying47 rfl HI2.out) rfl ⟨rfl, HB0.out.grown HSR.out (HB0.out).size (fun j q => by injection q with q; have := HW0.out; omega)⟩
theorem may7 (W : World) (a b : Int) : Calls Try.prog 7 #[.int .i64 a, .int .i64 b] W fun r W' => r = .returned (.bool (decide (0 ≤ a ∧ a ≤ 64 ∧ 0 ≤ b ∧ b ≤ 65536))) ∧ W' = W := by
  by_cases h1 : 0 ≤ a
  · by_cases h2 : a ≤ 64
    · by_cases h3 : 0 ≤ b
      · by_cases h4 : b ≤ 65536
        · rw [show decide (0 ≤ a ∧ a ≤ 64 ∧ 0 ≤ b ∧ b ≤ 65536) = true from decide_eq_true ⟨h1, h2, h3, h4⟩]
          go_enter Try.func7, Try.ntmps7
          go_wp2_with fail
          go_ret
          exact ⟨rfl, rfl⟩
        · rw [show decide (0 ≤ a ∧ a ≤ 64 ∧ 0 ≤ b ∧ b ≤ 65536) = false from decide_eq_false (fun q => h4 q.2.2.2)]
          go_enter Try.func7, Try.ntmps7
          go_wp2_with fail
          go_ret
          exact ⟨rfl, rfl⟩
      · rw [show decide (0 ≤ a ∧ a ≤ 64 ∧ 0 ≤ b ∧ b ≤ 65536) = false from decide_eq_false (fun q => h3 q.2.2.1)]
        go_enter Try.func7, Try.ntmps7
        go_wp2_with fail
        go_ret
        exact ⟨rfl, rfl⟩
    · rw [show decide (0 ≤ a ∧ a ≤ 64 ∧ 0 ≤ b ∧ b ≤ 65536) = false from decide_eq_false (fun q => h2 q.2.1)]
      go_enter Try.func7, Try.ntmps7
      go_wp2_with fail
      go_ret
      exact ⟨rfl, rfl⟩
  · rw [show decide (0 ≤ a ∧ a ≤ 64 ∧ 0 ≤ b ∧ b ≤ 65536) = false from decide_eq_false (fun q => h1 q.1)]
    go_enter Try.func7, Try.ntmps7
    go_wp2_with fail
    go_ret
    exact ⟨rfl, rfl⟩
end Go.Proofs.Ytnpgfhoagpeelaa
