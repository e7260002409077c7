/- The walk over evict. -/
import Derived.Test.YtnpgfhoagpeelaaB6
namespace Go.Proofs.Ytnpgfhoagpeelaa
open Go.RowKit
open Go.Maps
set_option maxRecDepth 100000 in
set_option maxHeartbeats 4000000 in
theorem evict43 {T : Nat → Prop} {W0 W : World} {base xb mb ph mo now n : Nat} {pairs : Int} {fm : Fp → Option Nat} {e : En} {S : List En} (h : At T W0 W base xb mb ph mo pairs now n fm (e :: S)) (hfm : ∀ f, IsFp f → fm f = fmE (e :: S) f) (hk : HkE (e :: S)) (hs : (e :: S).Pairwise (fun a b => a.u < b.u)) (hu : ∀ x ∈ e :: S, x.u ≤ now) (hn : now < 1000000000) (hp1 : (e.l.length : Int) ≤ pairs) (hp2 : pairs ≤ 1000000000) :
    Calls Try.prog 43 #[.pointer (some ⟨xb, 0, none⟩)] W fun r W' => r = .returned (.tuple #[]) ∧ At T W0 W' base xb mb ph mo (pairs - e.l.length) now n (setFm fm e.h none) S := by
  have HC := Lib.hid (oldest51 h hfm hk hs hu hn)
  have hef : IsFp e.h := hk.2 e (List.mem_cons_self ..)
  have HF := Lib.hid hef
  have HIX := Lib.hid (info29f hef)
  have HI2 : Hid ((Try.prog.info? 47).map (·.size) = some (fpL e.h).toArray.size) := Lib.hid (by rw [List.size_toArray]; exact HIX.out)
  have HS2 : Hid ((#[Value.int .u8 0, Value.int .u8 0, Value.int .u8 0, Value.int .u8 0, Value.int .u8 0, Value.int .u8 0, Value.int .u8 0, Value.int .u8 0, Value.int .u8 0, Value.int .u8 0, Value.int .u8 0, Value.int .u8 0, Value.int .u8 0, Value.int .u8 0, Value.int .u8 0, Value.int .u8 0, Value.int .u8 0, Value.int .u8 0, Value.int .u8 0, Value.int .u8 0, Value.int .u8 0, Value.int .u8 0, Value.int .u8 0, Value.int .u8 0, Value.int .u8 0, Value.int .u8 0, Value.int .u8 0, Value.int .u8 0, Value.int .u8 0, Value.int .u8 0, Value.int .u8 0, Value.int .u8 0] : Array Value).size = (fpL e.h).toArray.size) := Lib.hid (by rw [show (fpL e.h).toArray.size = 32 by rw [List.size_toArray, fpL_length hef]]; rfl)
  have HON : Hid ((fpL e.h).toArray.all (·.oneCell') = true) := Lib.hid (all_oneCell_toArray fpL_one)
  have HFP : Hid (fm e.h = some e.p) := Lib.hid (by rw [hfm e.h hef, fm_mem hk (List.mem_cons_self ..)])
  have hpw : IntKind.i64.wrap (pairs - (e.l.length : Int)) = pairs - (e.l.length : Int) := IntWalk.i64_in _ (by omega)
  clear h hfm hk hs hu hn hp1 hp2 hef
  obtain ⟨eh, p, A, c, l, u⟩ := e
  simp only at *
  go_enter Try.func43, Try.ntmps43
  go_wp2_with fail
  refine Calls.mono HC.out ?_
  rintro _ W1 ⟨rfl, h1⟩
  have HT := Lib.hid (h1.boxed (.cells (fpL eh).toArray 47))
  obtain ⟨b0, hb0⟩ : ∃ b0, b0 = W1.heap.size := ⟨_, rfl⟩
  have HBX : Hid (∀ W', Tn (XB xb mb (⟨eh, p, A, c, l, u⟩ :: S)) (W1.alloc (.cells (fpL eh).toArray 47)) W' → W'.rangeAt b0 0 (fpL eh)) := Lib.hid (fun W' ht => box_range (h1.box_stays _ hb0 ht))
  have HUB : Hid (∀ W' n' now' pairs' fm' E', At (XB xb mb (⟨eh, p, A, c, l, u⟩ :: S)) (W1.alloc (.cells (fpL eh).toArray 47)) W' base xb mb ph mo pairs' now' n' fm' E' → At T W0 W' base xb mb ph mo pairs' now' n' fm' E') := Lib.hid (fun _ _ _ _ _ _ k => h1.unbox _ k)
  clear h1 HC
  go_upto_region 1 with (first
    | ((with_reducible refine wpList_store_new (op := ⟨none, .store _ _ _, _, _, _, _⟩) rfl 47 (.tmp 2) (.tmp 4) rfl _ (fpL eh).toArray ?_ ?_ HI2.out HS2.out HON.out ?_); rfl; rfl)
    | go_in)
  rw [← hb0]
  clear hb0
  generalize W1.alloc (.cells (fpL eh).toArray 47) = W2 at *
  have H2 := Lib.hid HT.out.drew
  have HS1 : Hid (W2.drew.cell? ⟨xb, 2, none⟩ = some (.map (some mb)) ∧ W2.drew.rangeAt b0 0 (fpL eh) ∧ (Instr.lookup 52 (.map (some mb)) (.agg (fpL eh).toArray) false).run Try.prog W2.drew = .ok (.pointer (some ⟨p, 0, none⟩)) W2.drew ∧ W2.drew.cell? ⟨p, 0, none⟩ = some (.slice A l.length c)) :=
    Lib.hid ⟨H2.out.mem.c.2.2.1, HBX.out _ H2.out.tn, by have := lookup_run HF.out H2.out.mem.mp; rwa [HFP.out] at this, (H2.out.mem.ens _ (List.mem_cons_self ..)).c.1⟩
  have H3 := Lib.hid (H2.out.pairsSet (pairs - (l.length : Int)))
  have HS3 : Hid ((W2.drew.setCell ⟨xb, 3, none⟩ (.int .i64 (pairs - (l.length : Int)))).cell? ⟨xb, 2, none⟩ = some (.map (some mb)) ∧ (W2.drew.setCell ⟨xb, 3, none⟩ (.int .i64 (pairs - (l.length : Int)))).rangeAt b0 0 (fpL eh) ∧ (Instr.lookup 52 (.map (some mb)) (.agg (fpL eh).toArray) false).run Try.prog (W2.drew.setCell ⟨xb, 3, none⟩ (.int .i64 (pairs - (l.length : Int)))) = .ok (.pointer (some ⟨p, 0, none⟩)) (W2.drew.setCell ⟨xb, 3, none⟩ (.int .i64 (pairs - (l.length : Int)))) ∧ (W2.drew.setCell ⟨xb, 3, none⟩ (.int .i64 (pairs - (l.length : Int)))).cell? ⟨p, 0, none⟩ = some (.slice A l.length c)) :=
    Lib.hid ⟨H3.out.mem.c.2.2.1, HBX.out _ H3.out.tn, by have := lookup_run HF.out H3.out.mem.mp; rwa [HFP.out] at this, (H3.out.mem.ens _ (List.mem_cons_self ..)).c.1⟩
  have c3 : W2.cell? ⟨xb, 3, none⟩ = some (.int .i64 pairs) := H2.out.mem.c.2.2.2.1
  have f3 : W2.frozen? ⟨xb, 3, none⟩ = false := H2.out.mem.f 3
  refine wp_region_held_drew (S := (fun W => W.cell? ⟨xb, 2, none⟩ = some (.map (some mb)) ∧ W.rangeAt b0 0 (fpL eh) ∧ (Instr.lookup 52 (.map (some mb)) (.agg (fpL eh).toArray) false).run Try.prog W = .ok (.pointer (some ⟨p, 0, none⟩)) W ∧ W.cell? ⟨p, 0, none⟩ = some (.slice A l.length c))) (by kernel_rfl) ?_ (fun hSx => ?_)
  · exact HS1.out
  refine wpAnyH_take (i := 0) (oi := ⟨some 5, _, _, _, _, none⟩) (v := ?_) rfl (by kernel_rfl) (by kernel_rfl) (by kernel_rfl) (fun _ _ _ h => h) (Or.inl ⟨by kernel_rfl, ?_⟩) hSx ?_
  rotate_left 1
  focus (intro wx hSw; obtain ⟨s0, s1, s2, s3⟩ := hSw; go_simp; first | done | with_reducible rfl)
  try simp only [Act.put, List.setIfInBounds_toArray, List.set_cons_zero, List.set_cons_succ]
  refine wpAnyH_take (i := 1) (oi := ⟨some 6, _, _, _, _, none⟩) (v := ?_) rfl (by kernel_rfl) (by kernel_rfl) (by kernel_rfl) (fun _ _ _ h => h) (Or.inl ⟨by kernel_rfl, ?_⟩) hSx ?_
  rotate_left 1
  focus (intro wx hSw; obtain ⟨s0, s1, s2, s3⟩ := hSw; go_simp; first | done | with_reducible rfl)
  try simp only [Act.put, List.setIfInBounds_toArray, List.set_cons_zero, List.set_cons_succ]
  refine wpAnyH_take (i := 2) (oi := ⟨some 7, _, _, _, _, none⟩) (v := ?_) rfl (by kernel_rfl) (by kernel_rfl) (by kernel_rfl) (fun _ _ _ h => h) (Or.inl ⟨by kernel_rfl, ?_⟩) hSx ?_
  rotate_left 1
  focus (intro wx hSw; obtain ⟨s0, s1, s2, s3⟩ := hSw; go_simp; first | done | with_reducible rfl)
  try simp only [Act.put, List.setIfInBounds_toArray, List.set_cons_zero, List.set_cons_succ]
  refine wpAnyH_take (i := 4) (oi := ⟨some 9, _, _, _, _, none⟩) (v := ?_) rfl (by kernel_rfl) (by kernel_rfl) (by kernel_rfl) (fun _ _ _ h => h) (Or.inl ⟨by kernel_rfl, ?_⟩) hSx ?_
  rotate_left 1
  focus (intro wx hSw; obtain ⟨s0, s1, s2, s3⟩ := hSw; go_simp; first | done | with_reducible rfl)
  try simp only [Act.put, List.setIfInBounds_toArray, List.set_cons_zero, List.set_cons_succ]
  refine wpAnyH_take (i := 5) (oi := ⟨some 10, _, _, _, _, none⟩) (v := ?_) rfl (by kernel_rfl) (by kernel_rfl) (by kernel_rfl) (fun _ _ _ h => h) (Or.inl ⟨by kernel_rfl, ?_⟩) hSx ?_
  rotate_left 1
  focus (intro wx hSw; obtain ⟨s0, s1, s2, s3⟩ := hSw; go_simp; first | done | with_reducible rfl)
  try simp only [Act.put, List.setIfInBounds_toArray, List.set_cons_zero, List.set_cons_succ]
  refine wpAnyH_take (i := 6) (oi := ⟨some 11, _, _, _, _, none⟩) (v := ?_) rfl (by kernel_rfl) (by kernel_rfl) (by kernel_rfl) (fun _ _ _ h => h) (Or.inl ⟨by kernel_rfl, ?_⟩) hSx ?_
  rotate_left 1
  focus (intro wx hSw; obtain ⟨s0, s1, s2, s3⟩ := hSw; go_simp; first | done | with_reducible rfl)
  try simp only [Act.put, List.setIfInBounds_toArray, List.set_cons_zero, List.set_cons_succ]
  refine wpAnyH_take (i := 7) (oi := ⟨some 12, _, _, _, _, none⟩) (v := ?_) rfl (by kernel_rfl) (by kernel_rfl) (by kernel_rfl) (fun _ _ _ h => h) (Or.inl ⟨by kernel_rfl, ?_⟩) hSx ?_
  rotate_left 1
  focus (intro wx hSw; obtain ⟨s0, s1, s2, s3⟩ := hSw; go_simp; first | done | with_reducible rfl)
  try simp only [Act.put, List.setIfInBounds_toArray, List.set_cons_zero, List.set_cons_succ]
  refine wpAnyH_take (i := 8) (oi := ⟨some 13, _, _, _, _, none⟩) (v := .agg (fpL eh).toArray) rfl (by kernel_rfl) (by kernel_rfl) (by kernel_rfl) (fun _ _ _ h => h) (yieldsIf_load_mid (by kernel_rfl) 47 (.tmp 2) rfl (b0) (0) rfl (fpL eh) _ (fun _ h => h.2.1) Try.underlying47 rfl HIX.out) hSx ?_
  try simp only [Act.put, List.setIfInBounds_toArray, List.set_cons_zero, List.set_cons_succ]
  refine wpAnyH_take (i := 9) (oi := ⟨some 14, _, _, _, _, none⟩) (v := ?_) rfl (by kernel_rfl) (by kernel_rfl) (by kernel_rfl) (fun _ _ _ h => h) (Or.inl ⟨by kernel_rfl, ?_⟩) hSx ?_
  rotate_left 1
  focus (intro wx hSw; obtain ⟨s0, s1, s2, s3⟩ := hSw; go_simp; first | done | with_reducible rfl)
  try simp only [Act.put, List.setIfInBounds_toArray, List.set_cons_zero, List.set_cons_succ]
  refine wpAnyH_take (i := 10) (oi := ⟨some 15, _, _, _, _, none⟩) (v := ?_) rfl (by kernel_rfl) (by kernel_rfl) (by kernel_rfl) (fun _ _ _ h => h) (Or.inl ⟨by kernel_rfl, ?_⟩) hSx ?_
  rotate_left 1
  focus (intro wx hSw; obtain ⟨s0, s1, s2, s3⟩ := hSw; go_simp; first | done | with_reducible rfl)
  try simp only [Act.put, List.setIfInBounds_toArray, List.set_cons_zero, List.set_cons_succ]
  refine wpAnyH_take (i := 11) (oi := ⟨some 16, _, _, _, _, none⟩) (v := ?_) rfl (by kernel_rfl) (by kernel_rfl) (by kernel_rfl) (fun _ _ _ h => h) (Or.inl ⟨by kernel_rfl, ?_⟩) hSx ?_
  rotate_left 1
  focus (intro wx hSw; obtain ⟨s0, s1, s2, s3⟩ := hSw; go_simp; first | done | with_reducible rfl)
  try simp only [Act.put, List.setIfInBounds_toArray, List.set_cons_zero, List.set_cons_succ]
  refine wpAnyH_take (i := 12) (oi := ⟨some 17, _, _, _, _, none⟩) (v := ?_) rfl (by kernel_rfl) (by kernel_rfl) (by kernel_rfl) (fun _ _ _ h => h) (Or.inl ⟨by kernel_rfl, ?_⟩) hSx ?_
  rotate_left 1
  focus (intro wx hSw; obtain ⟨s0, s1, s2, s3⟩ := hSw; go_simp; first | done | with_reducible rfl)
  try simp only [Act.put, List.setIfInBounds_toArray, List.set_cons_zero, List.set_cons_succ]
  refine wpAnyH_take (i := 13) (oi := ⟨some 18, _, _, _, _, none⟩) (v := ?_) rfl (by kernel_rfl) (by kernel_rfl) (by kernel_rfl) (fun _ _ _ h => h) (Or.inl ⟨by kernel_rfl, ?_⟩) hSx ?_
  rotate_left 1
  focus (intro wx hSw; obtain ⟨s0, s1, s2, s3⟩ := hSw; go_simp; first | done | with_reducible rfl)
  try simp only [Act.put, List.setIfInBounds_toArray, List.set_cons_zero, List.set_cons_succ]
  refine wpAnyH_ready (rs := [3]) (by kernel_rfl) (by simp) ?_
  refine AllReadyH.cons (o := ⟨some 8, _, _, _, _, none⟩) rfl (fun KK hKK => ?_) AllReadyH.nil
  go_simp
  
  refine hKK.out _ _ (HS1.out) (fun hSy => ?_)
  clear hKK hSx
  have hSx := hSy
  clear hSy KK
  try simp only [Act.put, List.setIfInBounds_toArray, List.set_cons_zero, List.set_cons_succ]
  refine wpAnyH_take (i := 14) (oi := ⟨some 19, _, _, _, _, none⟩) (v := ?_) rfl (by kernel_rfl) (by kernel_rfl) (by kernel_rfl) (fun _ _ _ h => h) (Or.inl ⟨by kernel_rfl, ?_⟩) hSx ?_
  rotate_left 1
  focus (intro wx hSw; obtain ⟨s0, s1, s2, s3⟩ := hSw; go_simp; first | done | with_reducible rfl)
  try simp only [Act.put, List.setIfInBounds_toArray, List.set_cons_zero, List.set_cons_succ]
  refine wpAnyH_take (i := 15) (oi := ⟨some 20, _, _, _, _, none⟩) (v := ?_) rfl (by kernel_rfl) (by kernel_rfl) (by kernel_rfl) (fun _ _ _ h => h) (Or.inl ⟨by kernel_rfl, ?_⟩) hSx ?_
  rotate_left 1
  focus (intro wx hSw; obtain ⟨s0, s1, s2, s3⟩ := hSw; go_simp; first | done | with_reducible rfl)
  try simp only [Act.put, List.setIfInBounds_toArray, List.set_cons_zero, List.set_cons_succ]
  refine wpAnyH_take (i := 16) (oi := ⟨some 21, _, _, _, _, none⟩) (v := ?_) rfl (by kernel_rfl) (by kernel_rfl) (by kernel_rfl) (fun _ _ _ h => h) (Or.inl ⟨by kernel_rfl, ?_⟩) hSx ?_
  rotate_left 1
  focus (intro wx hSw; obtain ⟨s0, s1, s2, s3⟩ := hSw; go_simp; first | done | with_reducible rfl)
  try simp only [Act.put, List.setIfInBounds_toArray, List.set_cons_zero, List.set_cons_succ]
  refine wpAnyH_ready (rs := [17]) (by kernel_rfl) (by simp) ?_
  refine AllReadyH.cons (o := ⟨none, _, _, _, _, none⟩) rfl (fun KK hKK => ?_) AllReadyH.nil
  go_simp
  
  refine hKK.out _ _ (HS3.out) (fun hSy => ?_)
  clear hKK hSx
  have hSx := hSy
  clear hSy KK
  try simp only [Act.put, List.setIfInBounds_toArray, List.set_cons_zero, List.set_cons_succ]
  refine wpAnyH_done (by kernel_rfl) ?_ _
  go_wp2_with fail
  have H3b := Lib.hid ((HT.out.pairsSet (pairs - (l.length : Int))).drew)
  clear HS1 HS3 H2 HT c3 f3 H3
  have H3 := H3b
  clear H3b
  generalize (W2.setCell ⟨xb, 3, none⟩ (.int .i64 (pairs - (l.length : Int)))).drew = W3 at *
  obtain ⟨W4, hrun, h4⟩ := H3.out.drew.del HF.out 0
  have H4 := Lib.hid h4
  clear h4
  refine wp_region_held_drew (S := (fun W => W.cell? ⟨xb, 2, none⟩ = some (.map (some mb)) ∧ W.rangeAt b0 0 (fpL eh))) (by kernel_rfl) ?_ (fun hSx => ?_)
  · exact ⟨H3.out.drew.mem.c.2.2.1, HBX.out _ H3.out.drew.tn⟩
  refine wpAnyH_take (i := 0) (oi := ⟨some 22, _, _, _, _, none⟩) (v := ?_) rfl (by kernel_rfl) (by kernel_rfl) (by kernel_rfl) (fun _ _ _ h => h) (Or.inl ⟨by kernel_rfl, ?_⟩) hSx ?_
  rotate_left 1
  focus (intro wx hSw; obtain ⟨s0, s1⟩ := hSw; go_simp; first | done | with_reducible rfl)
  try simp only [Act.put, List.setIfInBounds_toArray, List.set_cons_zero, List.set_cons_succ]
  refine wpAnyH_take (i := 1) (oi := ⟨some 23, _, _, _, _, none⟩) (v := ?_) rfl (by kernel_rfl) (by kernel_rfl) (by kernel_rfl) (fun _ _ _ h => h) (Or.inl ⟨by kernel_rfl, ?_⟩) hSx ?_
  rotate_left 1
  focus (intro wx hSw; obtain ⟨s0, s1⟩ := hSw; go_simp; first | done | with_reducible rfl)
  try simp only [Act.put, List.setIfInBounds_toArray, List.set_cons_zero, List.set_cons_succ]
  refine wpAnyH_take (i := 2) (oi := ⟨some 24, _, _, _, _, none⟩) (v := ?_) rfl (by kernel_rfl) (by kernel_rfl) (by kernel_rfl) (fun _ _ _ h => h) (Or.inl ⟨by kernel_rfl, ?_⟩) hSx ?_
  rotate_left 1
  focus (intro wx hSw; obtain ⟨s0, s1⟩ := hSw; go_simp; first | done | with_reducible rfl)
  try simp only [Act.put, List.setIfInBounds_toArray, List.set_cons_zero, List.set_cons_succ]
  refine wpAnyH_take (i := 3) (oi := ⟨some 25, _, _, _, _, none⟩) (v := ?_) rfl (by kernel_rfl) (by kernel_rfl) (by kernel_rfl) (fun _ _ _ h => h) (Or.inl ⟨by kernel_rfl, ?_⟩) hSx ?_
  rotate_left 1
  focus (intro wx hSw; obtain ⟨s0, s1⟩ := hSw; go_simp; first | done | with_reducible rfl)
  try simp only [Act.put, List.setIfInBounds_toArray, List.set_cons_zero, List.set_cons_succ]
  refine wpAnyH_take (i := 4) (oi := ⟨some 26, _, _, _, _, none⟩) (v := .agg (fpL eh).toArray) rfl (by kernel_rfl) (by kernel_rfl) (by kernel_rfl) (fun _ _ _ h => h) (yieldsIf_load_mid (by kernel_rfl) 47 (.tmp 2) rfl (b0) (0) rfl (fpL eh) _ (fun _ h => h.2) Try.underlying47 rfl HIX.out) hSx ?_
  try simp only [Act.put, List.setIfInBounds_toArray, List.set_cons_zero, List.set_cons_succ]
  refine wpAnyH_ready (rs := [5]) (by kernel_rfl) (by simp) ?_
  refine AllReadyH.cons (o := ⟨none, _, _, _, _, none⟩) rfl (fun KK hKK => ?_) AllReadyH.nil
  go_simp
  
  refine hKK.out _ _ (⟨H4.out.mem.c.2.2.1, HBX.out _ H4.out.tn⟩) (fun hSy => ?_)
  clear hKK hSx
  have hSx := hSy
  clear hSy KK
  try simp only [Act.put, List.setIfInBounds_toArray, List.set_cons_zero, List.set_cons_succ]
  refine wpAnyH_done (by kernel_rfl) ?_ _
  go_wp2_with fail
  go_end0
  exact ⟨rfl, (HUB.out _ _ _ _ _ _ H4.out).sub (List.sublist_cons_self _ _)⟩
end Go.Proofs.Ytnpgfhoagpeelaa
