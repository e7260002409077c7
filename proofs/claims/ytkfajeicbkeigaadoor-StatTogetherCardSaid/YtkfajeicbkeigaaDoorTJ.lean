/- The walk over Saved. -/
import Derived.Test.YtkfajeicbkeigaaDoorTI
namespace Go.Proofs.YtkfajeicbkeigaaDoor
open Go.RowKit Go.Maps
theorem lenF_ext {Q R : List Pr} {p : Plc} (h : p ∈ plSet Q) : lenF (Q ++ R) p = lenF Q p := by
  induction R using snoc_ind with
  | h0 => rw [List.append_nil]
  | h1 R x ih =>
    rw [← List.append_assoc]
    by_cases hx : x.2.1 ∈ plSet (Q ++ R)
    · rw [lenF_old hx, ih]
    · rw [lenF_new hx, ih, if_neg]
      rintro rfl
      exact hx (plSet_mem.2 (by obtain ⟨y, hy, e⟩ := plSet_mem.1 h; exact ⟨y, List.mem_append.2 (.inl hy), e⟩))
def plSum (L : List Ck) : Int := (L.map (·.2)).sum
theorem plSum_le (P : List Pr) (hp : ∀ x ∈ P, 0 ≤ lenF P x.2.1) : plSum (pl P) ≤ lsum P P := by
  have key : ∀ Q R, Q ++ R = P → plSum (pl Q) ≤ lsum P Q := by
    intro Q
    induction Q using snoc_ind with
    | h0 => intro R _; simp [plSum, pl, lsum]
    | h1 Q x ih =>
      intro R e
      have h1 := ih ([x] ++ R) (by rw [← List.append_assoc]; exact e)
      have hx : x ∈ P := by rw [← e]; simp
      have h2 := hp x hx
      rw [lsum_snoc]
      by_cases hm : x.2.1 ∈ plSet Q
      · rw [pl_old hm]; omega
      · rw [pl_new hm]
        have h3 : lenF P x.2.1 = x.2.2 := by
          rw [← e, lenF_ext (plSet_mem.2 ⟨x, by simp, rfl⟩), lenF_new hm, if_pos rfl]
        unfold plSum at *
        rw [List.map_append, List.sum_append]
        simp
        omega
  exact key P [] (List.append_nil P)
theorem sumT_all (L : List Ck) : sumT L (fun _ => true) L.length = plSum L := by
  unfold sumT plSum
  rw [List.take_length]
  simp
theorem whole_long (us : List Us) (hok : AllOk us) : 0 ≤ totF us (fun _ => true) ∧ totF us (fun _ => true) ≤ longF us := by
  rcases chk_two (cnt us) with hc | hc
  · rw [totF_yes hc, longF_yes hc, sumT_all]
    have hp := pl_ok hc (fun u hu => hok u (cnt_sub u hu))
    refine ⟨?_, plSum_le _ (fun x hx => ?_)⟩
    · rw [← sumT_all]
      exact (sumT_span (fun c hc => (hp c hc).2) _ (Nat.le_refl _)).1
    · obtain ⟨q, hq, _, e⟩ := len_mem hx
      rw [e]
      have := hp q hq
      omega
  · rw [totF_no hc, longF_no hc]
    omega
theorem long_span (us : List Us) (hl : Lim us) (hok : AllOk us) : longF us ≤ 1000000 := by
  rcases chk_two (cnt us) with hc | hc
  · rw [longF_yes hc]
    have hp := pl_ok hc (fun u hu => hok u (cnt_sub u hu))
    have h1 := (lsum_span (P := prs (cnt us)) (Q := prs (cnt us)) (fun x hx => by
      obtain ⟨q, hq, _, e⟩ := len_mem hx
      rw [e]
      exact (hp q hq).2)).2
    have h2 := numC_le (us := cnt us) (fun u hu => (hl.cnt.2 u hu).1)
    have h3 := hl.cnt.1
    rw [prs_len] at h1
    omega
  · rw [longF_no hc]; omega
/-- what is saved -/
def savN (us : List Us) : Nat × Nat := if longF us = 0 then (0, 1) else
  let a := (longF us - totF us fun _ => true).toNat
  let b := (longF us).toNat
  (a / Nat.gcd a b, b / Nat.gcd a b)
theorem ofV_nat {a b : Int} (ha : 0 ≤ a) (hb : 1 ≤ b) : ofV a b = .tuple #[.agg (shA ((a.toNat / Nat.gcd a.toNat b.toNat : Nat) : Int) ((b.toNat / Nat.gcd a.toNat b.toNat : Nat) : Int)), .int .i64 0] := if_pos ⟨ha, hb⟩
set_option maxRecDepth 100000 in
set_option maxHeartbeats 4000000 in
theorem saved26 {A : Option Addr} {c : Nat} {us : List Us} {w : World} (h : Uss w A us) (hl : Lim us) (hok : AllOk us) :
    Calls Tryd.prog 26 #[.slice A us.length c] w fun e w' => e = .returned (.agg (shA ((savN us).1 : Nat) ((savN us).2 : Nat))) ∧ Below w.heap.size w w' := by
  have HC1 : Hid (∀ W, Below w.heap.size w W → Calls Tryd.prog 21 #[.slice A us.length c] W fun e w' => e = .returned (.int .i64 (longF us)) ∧ Below W.heap.size W w') := Lib.hid (fun W hb => long21 (h.below hb) hl hok)
  have HC2 : Hid (∀ W, Below w.heap.size w W → Calls Tryd.prog 22 #[.slice A us.length c] W fun e w' => e = .returned (.int .i64 (totF us fun _ => true)) ∧ Below W.heap.size W w') := Lib.hid (fun W hb => whole22 (h.below hb) hl hok)
  have h1 := whole_long us hok
  have h2 := long_span us hl hok
  have HSV : Hid (savN us = if longF us = 0 then (0, 1) else ((longF us - totF us fun _ => true).toNat / Nat.gcd (longF us - totF us fun _ => true).toNat (longF us).toNat, (longF us).toNat / Nat.gcd (longF us - totF us fun _ => true).toNat (longF us).toNat)) := Lib.hid rfl
  have HB0 : Hid (Below w.heap.size w (w.alloc (.cells (shA 0 0) 23))) := Lib.hid ((Below.refl _ _).alloc (Nat.le_refl _) _)
  have HI : Hid (∀ x y, (Tryd.prog.info? 23).map (·.size) = some (shA x y).size) := Lib.hid (fun _ _ => info23)
  have HG0 : Hid (∀ W, Below (w.heap.size + 1) (w.alloc (.cells (shA 0 0) 23)) W → W.heap[w.heap.size]? = some (.cells (shA 0 0) 23 (0, 0))) := Lib.hid (fun W hb => (hb.block _ (Nat.lt_succ_self _)).trans (heap_alloc_new w _))
  have HCF : Hid (∀ W o, Below (w.heap.size + 1) (w.alloc (.cells (shA 0 0) 23)) W → w.heap.size + 1 ≤ W.heap.size → ((W.alloc o).cell? ⟨w.heap.size, 0, none⟩ = some (.int .i64 0) ∧ (W.alloc o).cell? ⟨w.heap.size, 1, none⟩ = some (.int .i64 0)) ∧ (W.alloc o).frozen? ⟨w.heap.size, 0, none⟩ = false ∧ (W.alloc o).frozen? ⟨w.heap.size, 1, none⟩ = false) := Lib.hid (fun W o hb hs => by
    have hh := HG0.out (W.alloc o) (hb.alloc hs o)
    exact ⟨⟨cell_of_row _ _ 0 _ 23 _ hh, cell_of_row _ _ 1 _ 23 _ hh⟩, frozen_of_row _ _ 0 _ 23 hh, frozen_of_row _ _ 1 _ 23 hh⟩)
  have HCG : Hid (∀ W, Below (w.heap.size + 1) (w.alloc (.cells (shA 0 0) 23)) W → (W.cell? ⟨w.heap.size, 0, none⟩ = some (.int .i64 0) ∧ W.cell? ⟨w.heap.size, 1, none⟩ = some (.int .i64 0)) ∧ W.frozen? ⟨w.heap.size, 0, none⟩ = false ∧ W.frozen? ⟨w.heap.size, 1, none⟩ = false) := Lib.hid (fun W hb => by
    have hh := HG0.out W hb
    exact ⟨⟨cell_of_row _ _ 0 _ 23 _ hh, cell_of_row _ _ 1 _ 23 _ hh⟩, frozen_of_row _ _ 0 _ 23 hh, frozen_of_row _ _ 1 _ 23 hh⟩)
  generalize longF us = LG at *
  generalize (totF us fun _ => true) = WH at *
  generalize savN us = sv at *
  clear h hl hok
  by_cases hz : LG = 0
  · subst hz
    obtain rfl : sv = (0, 1) := by rw [HSV.out]; rfl
    have HG1 := HG0.out
    unfold shA at *
    go_enter Tryd.func26, Tryd.ntmps26
    go_wp2_with fail
    refine Calls.mono (HC1.out _ HB0.out) ?_
    rintro e w1 ⟨rfl, hb1⟩
    have HB1 : Hid (Below (w.heap.size + 1) (w.alloc (.cells #[.int .i64 0, .int .i64 0] 23)) w1) := Lib.hid (hb1.mono (by simp))
    have HBW1 : Hid (Below w.heap.size w w1) := Lib.hid (HB0.out.trans (HB1.out.mono (Nat.le_succ _)))
    obtain ⟨⟨k0, k1⟩, k2, k3⟩ := HCG.out w1 HB1.out
    have HH1 := Lib.hid (HG1 w1 HB1.out)
    clear hb1 HG1
    go_wp2_with fail
    have hh2 := Go.heap_setCell_same _ _ 0 _ _ (Value.int .i64 0) HH1.out
    have hh3 := Go.heap_setCell_same _ _ 1 _ _ (Value.int .i64 1) hh2
    exact bodyPost_ret (results_cell_row rfl _ _ w.heap.size 23 #[.int .i64 0, .int .i64 1] (0, 0) _ rfl hh3 Tryd.underlying23 rfl (HI.out 0 1)) rfl ⟨rfl, (HBW1.out.setCell (Nat.le_refl _) _).setCell (Nat.le_refl _) _⟩
  · have hz2 : ¬ LG = 0 := hz
    have hsv : sv = ((LG - WH).toNat / Nat.gcd (LG - WH).toNat LG.toNat, LG.toNat / Nat.gcd (LG - WH).toNat LG.toNat) := by rw [HSV.out, if_neg hz]
    have HOF : Hid (∀ W, Calls Tryd.prog 8 #[.int .i64 (LG - WH), .int .i64 LG] W fun e w' => e = .returned (.tuple #[.agg (shA (sv.1 : Nat) (sv.2 : Nat)), .int .i64 0]) ∧ Below W.heap.size W w') := Lib.hid (fun W => by
      have := of8 (LG - WH) LG (by omega) (by omega) W
      rw [ofV_nat (by omega) (by omega)] at this
      rw [hsv]
      exact this)
    clear hsv HSV
    generalize ((sv.1 : Nat) : Int) = x at *
    generalize ((sv.2 : Nat) : Int) = y at *
    have hzb : (LG == 0) = false := by simpa using hz
    have HG1 := HG0.out
    unfold shA at *
    go_enter Tryd.func26, Tryd.ntmps26
    go_wp2_with fail
    refine Calls.mono (HC1.out _ HB0.out) ?_
    rintro e w1 ⟨rfl, hb1⟩
    have HB1 : Hid (Below (w.heap.size + 1) (w.alloc (.cells #[.int .i64 0, .int .i64 0] 23)) w1) := Lib.hid (hb1.mono (by simp))
    have HBW1 : Hid (Below w.heap.size w w1) := Lib.hid (HB0.out.trans (HB1.out.mono (Nat.le_succ _)))
    clear hb1
    go_wp2_with fail
    refine Calls.mono (HC2.out _ HBW1.out) ?_
    rintro e w2 ⟨rfl, hb2⟩
    have HB2 : Hid (Below (w.heap.size + 1) (w.alloc (.cells #[.int .i64 0, .int .i64 0] 23)) w2) := Lib.hid (HB1.out.trans (hb2.mono (by have := HB1.out.size; simp at this; omega)))
    clear hb2
    go_wp2_with fail
    refine Calls.mono (HOF.out _) ?_
    rintro e w3 ⟨rfl, hb3⟩
    have HB3 : Hid (Below (w.heap.size + 1) (w.alloc (.cells #[.int .i64 0, .int .i64 0] 23)) w3) := Lib.hid (HB2.out.trans (hb3.mono (by have := HB2.out.size; simp at this; omega)))
    clear hb3
    have hs3 : w.heap.size + 1 ≤ w3.heap.size := by have := HB3.out.size; simpa using this
    obtain ⟨⟨k0, k1⟩, k2, k3⟩ := HCF.out w3 (.cells #[.int .i64 x, .int .i64 y] 23) HB3.out hs3
    have HH3 := Lib.hid (HG1 (w3.alloc (.cells #[.int .i64 x, .int .i64 y] 23)) (HB3.out.alloc hs3 _))
    have HBW3 : Hid (Below w.heap.size w (w3.alloc (.cells #[.int .i64 x, .int .i64 y] 23))) := Lib.hid ((HB0.out.trans (HB3.out.mono (Nat.le_succ _))).alloc (by omega) _)
    have hne : ¬ w3.heap.size = w.heap.size := by omega
    clear HG1
    go_wp2_with fail
    have hh2 := Go.heap_setCell_same _ _ 0 _ _ (Value.int .i64 x) HH3.out
    have hh3 := Go.heap_setCell_same _ _ 1 _ _ (Value.int .i64 y) hh2
    exact bodyPost_ret (results_cell_row rfl _ _ w.heap.size 23 #[.int .i64 x, .int .i64 y] (0, 0) _ rfl hh3 Tryd.underlying23 rfl (HI.out x y)) rfl ⟨rfl, (HBW3.out.setCell (Nat.le_refl _) _).setCell (Nat.le_refl _) _⟩
end Go.Proofs.YtkfajeicbkeigaaDoor
