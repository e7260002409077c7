/- The walk over the reference's commit. -/
import Derived.Test.YtadagidjppgbkaaR7
namespace Go.Proofs.Ytadagidjppgbkaa
open Go.RowKit Go.Maps Go.Sort
theorem below_drewN {B : Nat} {a w : World} (h : Below B a w) (n : Nat) : Below B a (w.drewN n) := ⟨h.os, h.tape, h.output, h.size, h.block⟩
theorem made49 (w : World) : (w.alloc (.cells #[] 49)).ownsRow w.heap.size 49 2 (.slice (some ⟨w.heap.size, 0, none⟩) 0 0) 0 [] := World.ownsRow_made w #[] 0 (Nat.le_refl _) (by simp [maxLen]) (by simp)
def RowPost (g b : Nat) (r : Rm) (w : World) (e : Ending) (w' : World) : Prop :=
  ∃ A c, e = .returned (.agg (rmA A c r)) ∧ Nms w' g b A r.L.length r.L ∧ r.L.length ≤ c ∧ (A = none → c = 0) ∧ c ≤ 9223372036854775807 ∧ (∀ a, A = some a → w.heap.size ≤ a.block) ∧ Below w.heap.size w w'
set_option maxRecDepth 100000 in
set_option maxHeartbeats 2000000 in
theorem refCommit {w : World} {g b : Nat} {A : Option Addr} {c : Nat} (r : Rm) (hL : Nms w g b A r.L.length r.L) (hn : r.L.length ≤ 1000000) (hnc : r.L.length ≤ c) (hA : A = none → c = 0) (hcc : c ≤ 9223372036854775807)
    (hg : g < w.heap.size) (hb : b < w.heap.size) (h1 : r.nm.size ≤ maxLen) (h2 : r.by_.size ≤ maxLen) :
    Calls Try.prog 28 #[.agg (rmA A c r)] w (RowPost g b ⟨insN r.L r.nm r.by_, false, ByteArray.empty, ByteArray.empty⟩ w) := by
  obtain ⟨i0, hi, hz0, hz1, hz2⟩ := info_parts info49
  have I0 := Lib.hid hi
  have Z0 := Lib.hid hz0
  have S0 := Lib.hid hz1
  have Y0 := Lib.hid hz2
  have HL := Lib.hid hL
  clear hL hi hz0 hz1 hz2
  obtain ⟨L, op, rn, rb⟩ := r
  simp only [rmA] at *
  generalize hN : L.length = N at *
  have HN := Lib.hid hN
  have HA := Lib.hid hA
  have HGB := Lib.hid (And.intro (And.intro hg hb) (And.intro h1 h2))
  clear hN hA hg hb h1 h2
  go_enter Try.func28, Try.ntmps28
  go_wp2
  go_loopg [3] N (fun gk i wr => ∃ k : Nat, k ≤ N ∧ gk = N - k ∧ i = .int .i64 k ∧ (∀ x ∈ L.take k, lessN rn x = true) ∧ Below (w.heap.size + 2) ((w.alloc (.cells #[.slice A N c, .bool op, .string rn, .string rb] 27)).alloc (.cells #[.slice none 0 0, .bool false, .string ByteArray.empty, .string ByteArray.empty] 27)) wr)
  case atStart => exact ⟨0, Nat.zero_le _, rfl, rfl, fun x hx => by simp at hx, Below.refl _ _⟩
  case round =>
    obtain ⟨k, hk, hgk, rfl, hless, hbw⟩ := hrel
    have HK := Lib.hid hgk
    have HLS := Lib.hid hless
    clear hgk hless
    have hc0 : wr.cell? ⟨w.heap.size, 0, none⟩ = some (.slice A N c) := by
      rw [hbw.cell (p := ⟨w.heap.size, 0, none⟩) (by show w.heap.size < _; omega), World.cell?_alloc_lt _ _ _ (by simp), World.cell?_alloc_new]
      rfl
    have hc2 : wr.cell? ⟨w.heap.size, 2, none⟩ = some (.string rn) := by
      rw [hbw.cell (p := ⟨w.heap.size, 2, none⟩) (by show w.heap.size < _; omega), World.cell?_alloc_lt _ _ _ (by simp), World.cell?_alloc_new]
      rfl
    have hc3 : wr.cell? ⟨w.heap.size, 3, none⟩ = some (.string rb) := by
      rw [hbw.cell (p := ⟨w.heap.size, 3, none⟩) (by show w.heap.size < _; omega), World.cell?_alloc_lt _ _ _ (by simp), World.cell?_alloc_new]
      rfl
    have hb0 : Below w.heap.size w wr := (((Below.refl _ _).alloc (Nat.le_refl _) _).alloc (by simp) _).trans (hbw.mono (by omega))
    have HB0 := Lib.hid hb0
    have HBW := Lib.hid hbw
    by_cases hgo : ∃ x, L[k]? = some x ∧ lessN rn x = true
    · obtain ⟨x, hx, hlx⟩ := hgo
      have hlt : k < N := by rw [← HN.out]; exact (List.getElem?_eq_some_iff.1 hx).1
      obtain ⟨rr, o, rfl, hrl, _, _, hc⟩ := HL.out.2.2 (by omega)
      have hc1 : wr.cell? ⟨rr, o + k * 2, none⟩ = some (.string x.1) := (hb0.cell (p := ⟨rr, o + k * 2, none⟩) hrl).trans (hc k x hx).1
      have HLX : Hid (∀ y ∈ L.take (k + 1), lessN rn y = true) := by
        intro y hy
        rw [List.take_add_one, hx] at hy
        simp only [Option.toList_some, List.mem_append, List.mem_singleton] at hy
        rcases hy with hy | rfl
        · exact HLS.out y hy
        · exact hlx
      have t2 : Op.bytesLess x.1.toList rn.toList = true := hlx
      clear hc hx hlx hbw hb0
      have t1 : decide ((k : Int) < (N : Int)) = true := by simp; omega
      go_wp2
      go_quiet (fail)
      go_wp2
      go_roundg (N - (k + 1))
      case measure => rw [HK.out]; omega
      case rel => exact ⟨k + 1, by omega, rfl, by go_num, HLX.out, ⟨HBW.out.os, HBW.out.tape, HBW.out.output, HBW.out.size, HBW.out.block⟩⟩
    · have hins : insN L rn rb = L.take k ++ [(rn, rb)] ++ L.drop k := ins_at HLS.out (fun x hx => by
        cases hq : lessN rn x with
        | false => rfl
        | true => exact absurd ⟨x, hx, hq⟩ hgo)
      have HINS := Lib.hid hins
      have hex : k = N ∨ (k < N ∧ ∃ rr o x, A = some ⟨rr, o, none⟩ ∧ wr.cell? ⟨rr, o + k * 2, none⟩ = some (.string x) ∧ Op.bytesLess x.toList rn.toList = false) := by
        by_cases hlt : k < N
        · obtain ⟨x, hx⟩ : ∃ x, L[k]? = some x := ⟨L[k]'(by rw [HN.out]; exact hlt), by simp⟩
          obtain ⟨rr, o, e, hrl, _, _, hc⟩ := HL.out.2.2 (by omega)
          refine .inr ⟨hlt, rr, o, x.1, e, (hb0.cell (p := ⟨rr, o + k * 2, none⟩) hrl).trans (hc k x hx).1, ?_⟩
          cases hq : Op.bytesLess x.1.toList rn.toList with
          | false => rfl
          | true => exact absurd ⟨x, hx, hq⟩ hgo
        · exact .inl (by omega)
      have hsz : w.heap.size < wr.heap.size := by have := hbw.size; simp at this; omega
      have hd0 : ∀ (q : Nat) (o : Obj), ((wr.drewN q).alloc o).cell? ⟨w.heap.size, 0, none⟩ = some (.slice A N c) := fun q o => by
        rw [World.cell?_alloc_lt _ _ _ (by exact hsz)]; exact hc0
      have HNWS : Hid (∀ W, Below w.heap.size w W → ∀ ad, A = some ad → ∀ j u, (rowsL (L.take k))[j]? = some u → W.cell? (ad.add j) = some u) := by
        intro W hb ad had j u hu
        subst had
        have hj := (List.getElem?_eq_some_iff.1 hu).1
        rw [rowsL_length, List.length_take] at hj
        have hN0 := HN.out
        obtain ⟨rr, o, e, _⟩ := HL.out.2.2 (by omega)
        injection e with e
        subst e
        have := (HL.out.below hb).cells 0 k j u
        rw [List.drop_zero] at this
        simpa using this hu
      have HRL : Hid ((rowsL (L.take k)).length = k * 2) := by
        show _ = _
        rw [rowsL_length, List.length_take, HN.out]; omega
      have HA0 : Hid (A = none → k = 0 ∧ c = 0) := fun e => by have := HA.out e; omega
      have HM49 := Lib.hid (made49 (wr.drewN 0))
      have HLEN : Hid ((insN L rn rb).length = N + 1) := by
        show _ = _
        have hN0 := HN.out
        rw [hins]; simp; omega
      have HROW : Hid (∀ (v : Value) (w' : World), w'.ownsRow wr.heap.size 49 2 v (N + 1) (rowsL (L.take k) ++ [.string rn, .string rb] ++ rowsL (L.drop k)) → w'.ownsRow wr.heap.size 49 2 v (N + 1) (rowsL (insN L rn rb))) := by
        intro v w' h
        rw [hins, rowsL_append, rowsL_append]
        exact h
      have HSZ : Hid (∀ x ∈ insN L rn rb, x.1.size ≤ maxLen ∧ x.2.size ≤ maxLen) := by
        intro x hx
        rw [hins] at hx
        simp only [List.mem_append, List.mem_singleton] at hx
        rcases hx with (hx | rfl) | hx
        · exact HL.out.2.1 x (List.mem_of_mem_take hx)
        · exact HGB.out.2
        · exact HL.out.2.1 x (List.mem_of_mem_drop hx)
      have HBOX : Hid (wr.heap[w.heap.size + 1]? = some (.cells zeroRm 27)) := by
        show _ = _
        rw [hbw.block (w.heap.size + 1) (by omega), ← World.size_alloc w (.cells #[.slice A N c, .bool op, .string rn, .string rb] 27)]
        exact heap_alloc_new _ _
      have hwsz : w.heap.size + 2 ≤ wr.heap.size := by have := hbw.size; simpa using this
      clear hgo hins hbw hb0
      rcases hex with rfl | ⟨hlt, rr, o, x, rfl, hc1, t2⟩
      · go_wp2
        go_quiet (fail)
        have HM := Lib.hid (made49 (wr.drewN nq))
        go_wp2_with (first
          | (at_builtin; refine wpList_append_own_any rfl (.tmp 23) (.tmp 27) _ rfl wr.heap.size 49 i0 _ 2 32 Try.underlying25 I0.out Z0.out S0.out Y0.out rfl (by decide) _ 0 [] rfl HM.out _ k c (rowsL (L.take k)) rfl HRL.out HA0.out ?news1 (rowsL_one _) ?h63 ?hby ?hbase ?_))
        case news1 => exact HNWS.out _ ((below_drewN HB0.out nq).alloc (Nat.le_of_lt hsz) _)
        case h63 => simp only [maxLen]; omega
        case hby => omega
        case hbase => simp
        intro v3 w3 hown3 hg3 hnil3
        have hb3 : Below wr.heap.size wr w3 := ((below_drewN (Below.refl _ wr) nq).alloc (Nat.le_refl _) (.cells #[] 49)).grown hg3 (by simp) (fun q hq => by injection hq with hq; subst hq; exact Nat.le_refl _)
        have HB3 := Lib.hid hb3
        have HO3 := Lib.hid hown3
        have e0 : ∀ (o : Obj), (w3.alloc o).cell? ⟨w.heap.size, 0, none⟩ = some (.slice A k c) := fun o => by
          rw [World.cell?_alloc_lt _ _ _ (by have := hb3.size; show w.heap.size < _; omega), hb3.cell (p := ⟨w.heap.size, 0, none⟩) hsz]; exact hc0
        have e2 : w3.cell? ⟨w.heap.size, 2, none⟩ = some (.string rn) := (hb3.cell (p := ⟨w.heap.size, 2, none⟩) hsz).trans hc2
        have e3 : w3.cell? ⟨w.heap.size, 3, none⟩ = some (.string rb) := (hb3.cell (p := ⟨w.heap.size, 3, none⟩) hsz).trans hc3
        have h3sz : wr.heap.size ≤ w3.heap.size := hb3.size
        clear hown3 hg3 hnil3 hb3
        go_wp2_with (first
          | (at_builtin; refine wpList_append_own _ rfl (.tmp 29) (.tmp 35) _ rfl wr.heap.size 49 i0 _ 2 32 Try.underlying25 I0.out Z0.out S0.out Y0.out rfl (by decide) _ k _ rfl (HO3.out.alloc _) _ 1 1 [.string rn, .string rb] rfl rfl ?news2 (by simp [Value.oneCell']) ?h632 ?hby2 ?hbase2 ?_))
        case news2 =>
          intro j u hu
          rw [Addr.add_mid, Nat.zero_add, World.cell?_alloc_new]
          simpa using hu
        case h632 => simp only [maxLen]; omega
        case hby2 => omega
        case hbase2 => simp; omega
        intro v4 w4 hown4 hg4 hnil4
        have hb4 : Below wr.heap.size wr w4 := (HB3.out.alloc h3sz _).grown hg4 (by simp; omega) (fun q hq => (HO3.out.lt q hq).1)
        have HB4 := Lib.hid hb4
        have HO4 := Lib.hid hown4
        have k0 : w4.cell? ⟨w.heap.size, 0, none⟩ = some (.slice A k c) := (hb4.cell (p := ⟨w.heap.size, 0, none⟩) hsz).trans hc0
        have HNIL4 := Lib.hid hnil4
        clear hown4 hg4 hnil4 hb4 e2 e3
        have hs : (A = none ∧ k = 0 ∧ c = 0) ∨ (∃ ad, A = some ad ∧ c = k) ∨ (∃ ad, A = some ad ∧ ¬ c = k) := by
          cases A with
          | none => exact .inl ⟨rfl, (HA0.out rfl).1, (HA0.out rfl).2⟩
          | some ad =>
            by_cases hck : c = k
            · exact .inr (.inl ⟨ad, rfl, hck⟩)
            · exact .inr (.inr ⟨ad, rfl, hck⟩)
        rcases hs with ⟨rfl, rfl, rfl⟩ | ⟨ad, rfl, rfl⟩ | ⟨ad, rfl, hck⟩
        all_goals
          go_wp2_with (first
            | (at_builtin; refine wpList_append_own_any rfl (.tmp 37) (.tmp 41) _ rfl wr.heap.size 49 i0 _ 2 32 Try.underlying25 I0.out Z0.out S0.out Y0.out rfl (by decide) _ _ _ rfl HO4.out _ 0 _ [] rfl rfl (fun e => by first | exact ⟨rfl, rfl⟩ | cases e) (fun _ _ j u hu => by simp at hu) (fun u hu => by simp at hu) (by simp only [maxLen]; omega) (by omega) (by have := HB4.out.size; omega) ?_))
        all_goals
          intro v5 w5 hown5 hg5 hnil5
          have hb5 : Below wr.heap.size wr w5 := HB4.out.grown hg5 HB4.out.size (fun q hq => (HO4.out.lt q hq).1)
          have hne5 : v5 ≠ .slice none 0 0 := fun e => HNIL4.out (hnil5.1 e)
          have hrow5 := HROW.out v5 w5 (by
            rw [List.drop_eq_nil_of_le (by rw [HN.out]; exact Nat.le_refl _)]
            simpa [rowsL] using hown5)
          obtain ⟨r5, c5, hv5, hn5, hc5, hbr5, hN5⟩ := Nms.of_row (g := g) (b := b) hrow5 HLEN.out HSZ.out (by have := HGB.out.1.1; omega) (by have := HGB.out.1.2; omega) hne5
          have HEND := Lib.hid (commit_end (v5 := v5) hwsz HB0.out hb5 HBOX.out hbr5 hN5)
          subst hv5
          obtain ⟨_, q1, q2, q3, q4, q5⟩ := commit_box hwsz hb5 HBOX.out
          clear hown5 hg5 hnil5 hb5 hne5 hrow5 hN5
          have HC5 : Hid ((insN L rn rb).length ≤ c5) := by
            show (insN L rn rb).length ≤ c5
            rw [HLEN.out]; exact hn5
          go_wp2
          refine bodyPost_ret (results_cell_row rfl _ _ (w.heap.size + 1) 27 _ (0, 0) _ rfl HEND.out.1 Try.underlying27 rfl info27) rfl ⟨some ⟨r5, 0, none⟩, c5, ?_, ?_, ?_, (fun e => (by cases e)), (by unfold maxLen at hc5; omega), (fun a ha => by injection ha with ha; rw [← ha]; show w.heap.size ≤ r5; omega), HEND.out.2.2⟩
          · simp only [rmA, HLEN.out]
          · show Nms _ _ _ _ (insN L rn rb).length _
            rw [HLEN.out]; exact HEND.out.2.1
          · exact HC5.out
      · have t1 : decide ((k : Int) < (N : Int)) = true := by simp; omega
        have hck : ¬ c = k := by omega
        go_wp2
        go_quiet (fail)
        have HM := Lib.hid (made49 (wr.drewN nq))
        go_wp2_with (first
          | (at_builtin; refine wpList_append_own_any rfl (.tmp 23) (.tmp 27) _ rfl wr.heap.size 49 i0 _ 2 32 Try.underlying25 I0.out Z0.out S0.out Y0.out rfl (by decide) _ 0 [] rfl HM.out _ k c (rowsL (L.take k)) rfl HRL.out HA0.out ?news1b (rowsL_one _) ?h63b ?hbyb ?hbaseb ?_))
        case news1b => exact HNWS.out _ ((below_drewN HB0.out nq).alloc (Nat.le_of_lt hsz) _)
        case h63b => simp only [maxLen]; omega
        case hbyb => omega
        case hbaseb => simp
        intro v3 w3 hown3 hg3 hnil3
        have hb3 : Below wr.heap.size wr w3 := ((below_drewN (Below.refl _ wr) nq).alloc (Nat.le_refl _) (.cells #[] 49)).grown hg3 (by simp) (fun q hq => by injection hq with hq; subst hq; exact Nat.le_refl _)
        have HB3 := Lib.hid hb3
        have HO3 := Lib.hid hown3
        have e0 : ∀ (oo : Obj), (w3.alloc oo).cell? ⟨w.heap.size, 0, none⟩ = some (.slice (some ⟨rr, o, none⟩) N c) := fun oo => by
          rw [World.cell?_alloc_lt _ _ _ (by have := hb3.size; show w.heap.size < _; omega), hb3.cell (p := ⟨w.heap.size, 0, none⟩) hsz]; exact hc0
        have e2 : w3.cell? ⟨w.heap.size, 2, none⟩ = some (.string rn) := (hb3.cell (p := ⟨w.heap.size, 2, none⟩) hsz).trans hc2
        have e3 : w3.cell? ⟨w.heap.size, 3, none⟩ = some (.string rb) := (hb3.cell (p := ⟨w.heap.size, 3, none⟩) hsz).trans hc3
        have h3sz : wr.heap.size ≤ w3.heap.size := hb3.size
        clear hown3 hg3 hnil3 hb3
        go_wp2_with (first
          | (at_builtin; refine wpList_append_own _ rfl (.tmp 29) (.tmp 35) _ rfl wr.heap.size 49 i0 _ 2 32 Try.underlying25 I0.out Z0.out S0.out Y0.out rfl (by decide) _ k _ rfl (HO3.out.alloc _) _ 1 1 [.string rn, .string rb] rfl rfl ?news2b (by simp [Value.oneCell']) ?h632b ?hby2b ?hbase2b ?_))
        case news2b =>
          intro j u hu
          rw [Addr.add_mid, Nat.zero_add, World.cell?_alloc_new]
          simpa using hu
        case h632b => simp only [maxLen]; omega
        case hby2b => omega
        case hbase2b => simp; omega
        intro v4 w4 hown4 hg4 hnil4
        have hb4 : Below wr.heap.size wr w4 := (HB3.out.alloc h3sz _).grown hg4 (by simp; omega) (fun q hq => (HO3.out.lt q hq).1)
        have HB4 := Lib.hid hb4
        have HO4 := Lib.hid hown4
        have k0 : w4.cell? ⟨w.heap.size, 0, none⟩ = some (.slice (some ⟨rr, o, none⟩) N c) := (hb4.cell (p := ⟨w.heap.size, 0, none⟩) hsz).trans hc0
        have HNIL4 := Lib.hid hnil4
        clear hown4 hg4 hnil4 hb4 e2 e3
        have HN3 : Hid (∀ j u, (rowsL (L.drop k))[j]? = some u → w4.cell? ((⟨rr, o + k * 2, none⟩ : Addr).add j) = some u) := by
          intro j u hu
          have := (HL.out.below (HB0.out.trans (HB4.out.mono (Nat.le_of_lt hsz)))).cells k (N - k) j u
          rw [List.take_of_length_le (by rw [List.length_drop, HN.out]; exact Nat.le_refl _)] at this
          exact this hu
        have HRL3 : Hid ((rowsL (L.drop k)).length = (N - k) * 2) := by
          show _ = _
          rw [rowsL_length, List.length_drop, HN.out]
        go_wp2_with (first
            | (at_builtin; refine wpList_append_own _ rfl (.tmp 37) (.tmp 41) _ rfl wr.heap.size 49 i0 _ 2 32 Try.underlying25 I0.out Z0.out S0.out Y0.out rfl (by decide) _ _ _ rfl HO4.out _ (N - k) _ (rowsL (L.drop k)) rfl HRL3.out HN3.out (rowsL_one _) (by simp only [maxLen]; omega) (by omega) (by have := HB4.out.size; omega) ?_))
        rw [show k + 1 + (N - k) = N + 1 by omega]
        all_goals
          intro v5 w5 hown5 hg5 hnil5
          have hb5 : Below wr.heap.size wr w5 := HB4.out.grown hg5 HB4.out.size (fun q hq => (HO4.out.lt q hq).1)
          have hne5 : v5 ≠ .slice none 0 0 := fun e => HNIL4.out (hnil5.1 e).1
          have hrow5 := HROW.out v5 w5 (by
            simpa using hown5)
          obtain ⟨r5, c5, hv5, hn5, hc5, hbr5, hN5⟩ := Nms.of_row (g := g) (b := b) hrow5 HLEN.out HSZ.out (by have := HGB.out.1.1; omega) (by have := HGB.out.1.2; omega) hne5
          have HEND := Lib.hid (commit_end (v5 := v5) hwsz HB0.out hb5 HBOX.out hbr5 hN5)
          subst hv5
          obtain ⟨_, q1, q2, q3, q4, q5⟩ := commit_box hwsz hb5 HBOX.out
          clear hown5 hg5 hnil5 hb5 hne5 hrow5 hN5
          have HC5 : Hid ((insN L rn rb).length ≤ c5) := by
            show (insN L rn rb).length ≤ c5
            rw [HLEN.out]; exact hn5
          go_wp2
          refine bodyPost_ret (results_cell_row rfl _ _ (w.heap.size + 1) 27 _ (0, 0) _ rfl HEND.out.1 Try.underlying27 rfl info27) rfl ⟨some ⟨r5, 0, none⟩, c5, ?_, ?_, ?_, (fun e => (by cases e)), (by unfold maxLen at hc5; omega), (fun a ha => by injection ha with ha; rw [← ha]; show w.heap.size ≤ r5; omega), HEND.out.2.2⟩
          · simp only [rmA, HLEN.out]
          · show Nms _ _ _ _ (insN L rn rb).length _
            rw [HLEN.out]; exact HEND.out.2.1
          · exact HC5.out
end Go.Proofs.Ytadagidjppgbkaa
