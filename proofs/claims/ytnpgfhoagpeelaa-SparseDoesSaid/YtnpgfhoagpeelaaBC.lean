/- The walks over Look, New. -/
import Derived.Test.YtnpgfhoagpeelaaBB
namespace Go.Proofs.Ytnpgfhoagpeelaa
open Go.RowKit
open Go.Maps
def lookA (R : List Rw) (f : Fp) : List Rw := if peekA R f = [] then R else restA R f ++ [(f, peekA R f)]
def LookPost (T : Nat → Prop) (W0 W : World) (base xb ph mo N : Nat) (E : List En) (f : Fp) (r : Ending) (W' : World) : Prop := ∃ B d E', r = .returned (.slice B (peekA (abE E) f).length d) ∧ OwnI W' W.heap.size (.slice B (peekA (abE E) f).length d) (peekA (abE E) f) ∧ Xs T W0 W' base xb ph mo (N + 1) E' ∧ abE E' = lookA (abE E) f
theorem look15_nil {f : Fp} (W : World) (hf : IsFp f) : Calls Try.prog 15 #[.pointer none, .agg (fpL f).toArray] W fun r W' => r = .returned (.slice none 0 0) ∧ Below W.heap.size W W' := by
  have HB : Hid (Below W.heap.size W (W.alloc (.cells (fpL f).toArray 47))) := Lib.hid ((Below.refl _ _).alloc (Nat.le_refl _) _)
  have HC := Lib.hid (peek14_nil (f := f) (W.alloc (.cells (fpL f).toArray 47)))
  have HRA := Lib.hid (box_range (heap_alloc_new W (.cells (fpL f).toArray 47)))
  have HIX := Lib.hid (info29f hf)
  clear hf
  go_enter Try.func15, Try.ntmps15
  go_wp2_with ((with_reducible refine wpList_load_mid (op := ⟨some 7, _, _, _, _, _⟩) rfl 47 (.tmp 3) rfl W.heap.size 0 ?_ (fpL f) _ HRA.out Try.underlying47 rfl HIX.out ?_); rfl)
  refine Calls.mono HC.out ?_
  rintro _ W2 ⟨rfl, hb⟩
  have HB2 := Lib.hid (HB.out.trans (hb.mono HB.out.size))
  clear hb
  go_wp2_with fail
  go_ret
  exact ⟨rfl, HB2.out⟩
set_option maxRecDepth 100000 in
set_option maxHeartbeats 4000000 in
theorem look15 {T : Nat → Prop} {W0 W : World} {base xb ph mo N : Nat} {E : List En} {f : Fp} (h : Xs T W0 W base xb ph mo N E) (hf : IsFp f) (hN : N < 10000000) :
    Calls Try.prog 15 #[.pointer (some ⟨xb, 0, none⟩), .agg (fpL f).toArray] W (LookPost T W0 W base xb ph mo N E f) := by
  have HB0 : Hid (Below W.heap.size W (W.alloc (.cells (fpL f).toArray 47))) := Lib.hid ((Below.refl _ _).alloc (Nat.le_refl _) _)
  have HC14 := Lib.hid (peek14 (h.below HB0.out) hf)
  obtain ⟨b0, hb0⟩ : ∃ b0, b0 = W.heap.size := ⟨_, rfl⟩
  have HR0 : Hid ((W.alloc (.cells (fpL f).toArray 47)).heap[b0]? = some (.cells (fpL f).toArray 47 (0, 0))) := Lib.hid (by rw [hb0]; exact heap_alloc_new _ _)
  have HRA := Lib.hid (box_range HR0.out)
  have HIX := Lib.hid (info29f hf)
  have HF := Lib.hid hf
  have HX := Lib.hid h
  have HSZ : Hid (W.heap.size ≤ (W.alloc (.cells (fpL f).toArray 47)).heap.size) := Lib.hid HB0.out.size
  clear h hf
  go_enter Try.func15, Try.ntmps15
  go_upto_region 1 with fail
  rw [← hb0]
  have HB00 : Hid (W.heap.size ≤ b0) := Lib.hid (by omega)
  clear hb0
  generalize hW1 : W.alloc (.cells (fpL f).toArray 47) = W1 at *
  clear hW1
  go_wp2_with ((with_reducible refine wpList_load_mid (op := ⟨some 7, _, _, _, _, _⟩) rfl 47 (.tmp 3) rfl b0 0 ?_ (fpL f) _ HRA.out Try.underlying47 rfl HIX.out ?_); rfl)
  refine Calls.mono HC14.out ?_
  rintro _ W2 ⟨B, d, rfl, ho, hb⟩
  have HO := Lib.hid ho
  have HB2 := Lib.hid (HB0.out.trans (hb.mono HB0.out.size))
  have HR2 : Hid (W2.heap[b0]? = some (.cells (fpL f).toArray 47 (0, 0))) := Lib.hid ((hb.block _ (lt_of_block HR0.out)).trans HR0.out)
  clear ho hb HC14 HB0 HR0 HRA
  by_cases hp : peekA (abE E) f = []
  · have HP := Lib.hid hp
    have HLA : Hid (lookA (abE E) f = abE E) := Lib.hid (if_pos hp)
    have hl0 : (((peekA (abE E) f).length : Nat) : Int) = 0 := by rw [hp]; rfl
    clear hp
    generalize hpl : peekA (abE E) f = pl at *
    have HPL := Lib.hid hpl
    clear hpl
    go_wp2_with fail
    go_ret
    refine ⟨B, d, E, ?_, ?_, (HX.out.below HB2.out).mono (by omega), HLA.out.symm⟩
    · rw [HPL.out]; rfl
    · rw [HPL.out]; exact own_mono HO.out HSZ.out
  · obtain ⟨P, e, S, hE, he⟩ : ∃ P e S, E = P ++ e :: S ∧ e.h = f := by
      rcases split_hook E f with hno | ⟨P, e, S, hE, he⟩
      · exact absurd (by rw [peek_ab, list_other hno]) hp
      · exact ⟨P, e, S, hE, he⟩
    subst hE
    subst he
    obtain ⟨mb, now, n, fm, h1, hfm, hok, hn1, hn2⟩ := HX.out
    have hpe : peekA (abE (P ++ e :: S)) e.h = e.l := by rw [peek_ab, list_mid hok.hk]
    have HLA : Hid (lookA (abE (P ++ e :: S)) e.h = abE (P ++ S ++ [⟨e.h, e.p, e.A, e.c, e.l, now + 1⟩])) := Lib.hid (by
      unfold lookA
      rw [if_neg hp, rest_ab, filter_mid hok.hk, hpe]
      unfold abE
      rw [List.map_append (l₁ := P ++ S)]
      rfl)
    have HFP : Hid (fm e.h = some e.p) := Lib.hid (by rw [hfm _ HF.out, fm_mem hok.hk (mem_mid P S e)])
    have HTJ := Lib.hid (h1.below HB2.out)
    have HT2 : Hid (At (XB xb mb (P ++ e :: S)) W2 W2 base xb mb ph mo (lnN (P ++ e :: S) : Nat) now n fm (P ++ e :: S)) := Lib.hid ⟨HTJ.out.mem, fun _ hb => .inl hb, Tn.refl _ _⟩
    have HXL : Hid (∀ b, XB xb mb (P ++ e :: S) b → b < W.heap.size) := Lib.hid (fun b hb => (h1.mem.lt hb).1)
    have HS : Hid (∀ Wz, Tn (XB xb mb (P ++ e :: S)) W2 Wz → (Instr.lookup 52 (.map (some mb)) (.agg (fpL e.h).toArray) false).run Try.prog Wz = .ok (.pointer (some ⟨e.p, 0, none⟩)) Wz → Wz.cell? ⟨xb, 2, none⟩ = some (.map (some mb)) → Wz.cell? ⟨xb, 2, none⟩ = some (.map (some mb)) ∧ Wz.rangeAt b0 0 (fpL e.h) ∧ (Instr.lookup 52 (.map (some mb)) (.agg (fpL e.h).toArray) false).run Try.prog Wz = .ok (.pointer (some ⟨e.p, 0, none⟩)) Wz) := Lib.hid (fun Wz ht q1 q2 =>
      ⟨q2, box_range ((ht.block b0 (lt_of_block HR2.out) (fun q => by have := HXL.out _ q; have := HB00.out; omega)).trans HR2.out), q1⟩)
    have HC32 := Lib.hid (use32 (P := P) (S := S) (e := e) HT2.out.drew (by have h5 : now ≤ N := hn1; omega))
    have HOK := Lib.hid hok
    have HFM := Lib.hid hfm
    have HN := Lib.hid (And.intro hn1 hn2)
    have hpl : 0 < e.l.length := List.length_pos_iff.2 (by rw [hpe] at hp; exact hp)
    have hpl2 : (0 : Int) < (e.l.length : Int) := by omega
    have HPE := Lib.hid hpe
    have HGE : Hid (∀ b, (Value.slice B e.l.length d).ownBlock = some b → ¬ XB xb mb (P ++ e :: S) b) := Lib.hid (fun b q hx => by
      have h3 := HXL.out b hx
      have h4 := (HO.out.lt b (by rw [hpe]; exact q)).1
      have := HSZ.out
      omega)
    have hob := HO.out
    rw [hpe] at hob
    have HOB := Lib.hid hob
    rw [hpe]
    clear h1 hfm hok hn1 hn2 hp hpe HO hob HXL hpl
    obtain ⟨f, p, A, c, l, u⟩ := e
    simp only at *
    go_wp2_with fail
    refine wp_region_held_drew (S := (fun W => W.cell? ⟨xb, 2, none⟩ = some (.map (some mb)) ∧ W.rangeAt b0 0 (fpL f) ∧ (Instr.lookup 52 (.map (some mb)) (.agg (fpL f).toArray) false).run Try.prog W = .ok (.pointer (some ⟨p, 0, none⟩)) W)) (by kernel_rfl) ?_ (fun hSx => ?_)
    · exact HS.out _ HT2.out.drew.tn (by have := lookup_run HF.out HT2.out.drew.mem.mp; rwa [HFP.out] at this) HT2.out.drew.mem.c.2.2.1
    refine wpAnyH_take (i := 0) (oi := ⟨some 12, _, _, _, _, none⟩) (v := ?_) rfl (by kernel_rfl) (by kernel_rfl) (by kernel_rfl) (fun _ _ _ h => h) (Or.inl ⟨by kernel_rfl, ?_⟩) hSx ?_
    rotate_left 1
    focus (intro wx hSw; obtain ⟨s0, s1, s2⟩ := hSw; go_simp; first | done | with_reducible rfl)
    try simp only [Act.put, List.setIfInBounds_toArray, List.set_cons_zero, List.set_cons_succ]
    refine wpAnyH_take (i := 1) (oi := ⟨some 13, _, _, _, _, none⟩) (v := ?_) rfl (by kernel_rfl) (by kernel_rfl) (by kernel_rfl) (fun _ _ _ h => h) (Or.inl ⟨by kernel_rfl, ?_⟩) hSx ?_
    rotate_left 1
    focus (intro wx hSw; obtain ⟨s0, s1, s2⟩ := hSw; go_simp; first | done | with_reducible rfl)
    try simp only [Act.put, List.setIfInBounds_toArray, List.set_cons_zero, List.set_cons_succ]
    refine wpAnyH_take (i := 2) (oi := ⟨some 14, _, _, _, _, none⟩) (v := ?_) rfl (by kernel_rfl) (by kernel_rfl) (by kernel_rfl) (fun _ _ _ h => h) (Or.inl ⟨by kernel_rfl, ?_⟩) hSx ?_
    rotate_left 1
    focus (intro wx hSw; obtain ⟨s0, s1, s2⟩ := hSw; go_simp; first | done | with_reducible rfl)
    try simp only [Act.put, List.setIfInBounds_toArray, List.set_cons_zero, List.set_cons_succ]
    refine wpAnyH_take (i := 3) (oi := ⟨some 15, _, _, _, _, none⟩) (v := ?_) rfl (by kernel_rfl) (by kernel_rfl) (by kernel_rfl) (fun _ _ _ h => h) (Or.inl ⟨by kernel_rfl, ?_⟩) hSx ?_
    rotate_left 1
    focus (intro wx hSw; obtain ⟨s0, s1, s2⟩ := hSw; go_simp; first | done | with_reducible rfl)
    try simp only [Act.put, List.setIfInBounds_toArray, List.set_cons_zero, List.set_cons_succ]
    refine wpAnyH_take (i := 4) (oi := ⟨some 16, _, _, _, _, none⟩) (v := ?_) rfl (by kernel_rfl) (by kernel_rfl) (by kernel_rfl) (fun _ _ _ h => h) (Or.inl ⟨by kernel_rfl, ?_⟩) hSx ?_
    rotate_left 1
    focus (intro wx hSw; obtain ⟨s0, s1, s2⟩ := hSw; go_simp; first | done | with_reducible rfl)
    try simp only [Act.put, List.setIfInBounds_toArray, List.set_cons_zero, List.set_cons_succ]
    refine wpAnyH_take (i := 5) (oi := ⟨some 17, _, _, _, _, none⟩) (v := .agg (fpL f).toArray) rfl (by kernel_rfl) (by kernel_rfl) (by kernel_rfl) (fun _ _ _ h => h) (yieldsIf_load_mid (by kernel_rfl) 47 (.tmp 3) rfl (b0) (0) rfl (fpL f) _ (fun _ h => h.2.1) Try.underlying47 rfl HIX.out) hSx ?_
    try simp only [Act.put, List.setIfInBounds_toArray, List.set_cons_zero, List.set_cons_succ]
    refine wpAnyH_take (i := 6) (oi := ⟨some 18, _, _, _, _, none⟩) (v := ?_) rfl (by kernel_rfl) (by kernel_rfl) (by kernel_rfl) (fun _ _ _ h => h) (Or.inl ⟨by kernel_rfl, ?_⟩) hSx ?_
    rotate_left 1
    focus (intro wx hSw; obtain ⟨s0, s1, s2⟩ := hSw; go_simp; first | done | with_reducible rfl)
    try simp only [Act.put, List.setIfInBounds_toArray, List.set_cons_zero, List.set_cons_succ]
    refine wpAnyH_ready (rs := [7]) (by kernel_rfl) (by simp) ?_
    refine AllReadyH.cons (o := ⟨some 19, _, _, _, _, none⟩) rfl (fun KK hKK => ?_) AllReadyH.nil
    go_simp
    with_reducible refine Calls.mono HC32.out ?_
    rintro e z1 ⟨rfl, hq⟩
    have HQ := Lib.hid hq
    clear hq
    refine hKK.out _ _ (HS.out _ HQ.out.tn (by have := lookup_run HF.out HQ.out.mem.mp; rwa [HFP.out] at this) HQ.out.mem.c.2.2.1) (fun hSy => ?_)
    clear hKK hSx
    have hSx := hSy
    clear hSy KK
    try simp only [Act.put, List.setIfInBounds_toArray, List.set_cons_zero, List.set_cons_succ]
    refine wpAnyH_done (by kernel_rfl) ?_ _
    go_wp2_with fail
    go_ret
    have hperm : (P ++ (⟨f, p, A, c, l, now + 1⟩ : En) :: S).Perm ((P ++ S) ++ [⟨f, p, A, c, l, now + 1⟩]) := by
      rw [List.append_assoc]
      exact List.Perm.append_left P (List.perm_append_singleton _ S).symm
    have hsub : (P ++ S).Sublist (P ++ (⟨f, p, A, c, l, u⟩ : En) :: S) := List.Sublist.append_left (List.sublist_cons_self _ _) P
    have hk1 : HkE (P ++ (⟨f, p, A, c, l, now + 1⟩ : En) :: S) := HOK.out.hk.mid rfl
    have hmem : ∀ x ∈ P ++ S ++ [(⟨f, p, A, c, l, now + 1⟩ : En)], ∃ y ∈ P ++ (⟨f, p, A, c, l, u⟩ : En) :: S, x.l = y.l := fun x hx => by
      rcases List.mem_append.1 hx with hx | hx
      · exact ⟨x, hsub.subset hx, rfl⟩
      · rw [List.mem_singleton] at hx
        subst hx
        exact ⟨⟨f, p, A, c, l, u⟩, by simp, rfl⟩
    have hln : lnN (P ++ (⟨f, p, A, c, l, u⟩ : En) :: S) = lnN (P ++ S ++ [(⟨f, p, A, c, l, now + 1⟩ : En)]) := by rw [← lnN_perm hperm, lnN_mid, lnN_mid]
    have h2 := (HTJ.out.rejoin HQ.out).perm hperm
    have h3 := own_tn HOB.out HQ.out.tn HGE.out
    have h4 := HN.out
    rw [hln] at h2
    refine ⟨B, d, P ++ S ++ [⟨f, p, A, c, l, now + 1⟩], by rw [HPE.out]; rfl, by rw [HPE.out]; exact own_mono h3 HSZ.out, ⟨mb, now + 1, n, fm, h2, fun g hg => ?_, ⟨hk1.perm hperm, fun x hx => ?_, ?_, fun x hx => ?_, fun x hx => ?_, ?_, HOK.out.phm, HOK.out.mom⟩, by omega, by omega⟩, HLA.out.symm⟩
    · rw [fm_perm hk1 hperm, HFM.out g hg]
      exact (fm_other (e := ⟨f, p, A, c, l, u⟩) (e' := ⟨f, p, A, c, l, now + 1⟩) rfl rfl HOK.out.hk g).symm
    · obtain ⟨y, hy, e⟩ := hmem x hx
      rw [e]; exact HOK.out.full y hy
    · refine List.pairwise_append.2 ⟨HOK.out.srt.sublist hsub, by simp, fun x hx y hy => ?_⟩
      rw [List.mem_singleton] at hy
      subst hy
      have := HOK.out.le x (hsub.subset hx)
      show x.u < now + 1
      omega
    · rcases List.mem_append.1 hx with hx | hx
      · have := HOK.out.le x (hsub.subset hx)
        omega
      · rw [List.mem_singleton] at hx
        subst hx
        exact Nat.le_refl _
    · obtain ⟨y, hy, e⟩ := hmem x hx
      rw [e]; exact HOK.out.len y hy
    · rw [← hln]; exact HOK.out.tot
def NoT : Nat → Prop := fun _ => False
set_option maxHeartbeats 1000000 in
theorem new6 (W : World) (ph mo : Nat) (h1 : ph ≤ 64) (h2 : mo ≤ 65536) :
    Calls Try.prog 6 #[.int .i64 (ph : Nat), .int .i64 (mo : Nat)] W fun r W' => ∃ xb, r = .returned (.tuple #[.pointer (some ⟨xb, 0, none⟩), .int .i64 0]) ∧ Xs NoT W W' W.heap.size xb ph mo 0 [] := by
  have hmm := @run_makeMap Try.prog
  have e1 : ¬ ((ph : Nat) : Int) < 0 := by omega
  have e2 : ¬ (64 : Int) < ((ph : Nat) : Int) := by omega
  have e3 : ¬ ((mo : Nat) : Int) < 0 := by omega
  have e4 : ¬ (65536 : Int) < ((mo : Nat) : Int) := by omega
  have HP := Lib.hid h1
  have HM := Lib.hid h2
  clear h1 h2
  go_enter Try.func6, Try.ntmps6
  go_wp2_with fail
  refine bodyPost_ret (results_tmp2 rfl _ _ _) rfl ?_
  have hb : Below W.heap.size W ((W.alloc (.map #[] 0)).alloc (.cells #[.int .i64 (ph : Nat), .int .i64 (mo : Nat), .map (some W.heap.size), .int .i64 0, .int .u64 0] 55)) := ((Below.refl _ _).alloc (Nat.le_refl _) _).alloc (by rw [World.size_alloc]; omega) _
  refine ⟨W.heap.size + 1, rfl, W.heap.size, 0, 0, fun _ => none, ⟨⟨?_, by omega, Nat.le_refl _, ?_, (fun e he => by cases he), List.Pairwise.nil⟩, fun b hb => .inr ?_, ⟨hb.os, hb.tape, hb.output, hb.size, fun b hb2 _ => hb.block b hb2⟩⟩, fun f _ => rfl, ⟨⟨List.nodup_nil, (fun e he => by cases he)⟩, fun e he => (by cases he), List.Pairwise.nil, fun e he => (by cases he), fun e he => (by cases he), Nat.zero_le _, HP.out, HM.out⟩, Nat.le_refl _, Nat.le_refl _⟩
  · have := heap_alloc_new (W.alloc (.map #[] 0)) (.cells #[.int .i64 (ph : Nat), .int .i64 (mo : Nat), .map (some W.heap.size), .int .i64 0, .int .u64 0] 55)
    rwa [World.size_alloc] at this
  · exact (MapF.made W).kept (World.grownBy_alloc _ _ none) (by simp)
  · rcases hb with rfl | rfl | ⟨e, he, _⟩
    · omega
    · exact Nat.le_refl _
    · cases he
theorem new6_bad (W : World) (a b : Int) (h : ¬ (0 ≤ a ∧ a ≤ 64 ∧ 0 ≤ b ∧ b ≤ 65536)) :
    Calls Try.prog 6 #[.int .i64 a, .int .i64 b] W fun r W' => r = .returned (.tuple #[.pointer none, .int .i64 1]) ∧ W' = W := by
  by_cases e1 : a < 0
  · go_enter Try.func6, Try.ntmps6
    go_wp2_with fail
    exact bodyPost_ret (results_tmp2 rfl _ _ _) rfl ⟨rfl, rfl⟩
  · by_cases e2 : 64 < a
    · go_enter Try.func6, Try.ntmps6
      go_wp2_with fail
      exact bodyPost_ret (results_tmp2 rfl _ _ _) rfl ⟨rfl, rfl⟩
    · by_cases e3 : b < 0
      · go_enter Try.func6, Try.ntmps6
        go_wp2_with fail
        exact bodyPost_ret (results_tmp2 rfl _ _ _) rfl ⟨rfl, rfl⟩
      · have e4 : 65536 < b := by omega
        go_enter Try.func6, Try.ntmps6
        go_wp2_with fail
        exact bodyPost_ret (results_tmp2 rfl _ _ _) rfl ⟨rfl, rfl⟩
end Go.Proofs.Ytnpgfhoagpeelaa
