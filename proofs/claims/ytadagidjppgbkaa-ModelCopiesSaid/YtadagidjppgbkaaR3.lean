/- The walks over the reference's Names, over Same of names, and over Alike at replies that are alike. -/
import Derived.Test.YtadagidjppgbkaaR2
namespace Go.Proofs.Ytadagidjppgbkaa
open Go.RowKit Go.Maps Go.Sort
def namesL (L : List Named) : List (List UInt8) := L.map fun x => x.1.data.toList
theorem enc_data (s : ByteArray) : encStr s.data.toList = .string s := by simp [encStr]
def RNamesPost (L : List Named) (w : World) (e : Ending) (w' : World) : Prop := ∃ v, e = .returned v ∧ w'.ownsRow w.heap.size 9 1 v L.length ((namesL L).map encStr) ∧ Below w.heap.size w w'
set_option maxRecDepth 100000 in
set_option maxHeartbeats 1000000 in
theorem refNames {w : World} {g b : Nat} {A : Option Addr} {c : Nat} (r : Rm) (hL : Nms w g b A r.L.length r.L) (hn : r.L.length ≤ 1000000) :
    Calls Try.prog 29 #[.agg (rmA A c r)] w (RNamesPost r.L w) := by
  obtain ⟨i0, hi, hz0, hz1, hz2⟩ := info_parts info9
  have I0 := Lib.hid hi
  have Z0 := Lib.hid hz0
  have S0 := Lib.hid hz1
  have Y0 := Lib.hid hz2
  have HL := Lib.hid hL
  clear hL hi hz0 hz1 hz2
  obtain ⟨L, op, rn, rb⟩ := r
  simp only [rmA] at *
  generalize hN : L.length = N at *
  have HN := Lib.hid hN
  clear hN
  go_enter Try.func29, Try.ntmps29
  go_wp2
  go_loopg [3, 4] N (fun gk v i wr => ∃ k : Nat, k ≤ N ∧ gk = N - k ∧ i = .int .i64 k ∧ wr.ownsRow (w.heap.size + 1) 9 1 v k ((namesL (L.take k)).map encStr) ∧ Below (w.heap.size + 1) (w.alloc (.cells #[.slice A N c, .bool op, .string rn, .string rb] 27)) wr)
  case atStart => exact ⟨0, Nat.zero_le _, rfl, rfl, World.ownsRow_nil _ _ _ _, Below.refl _ _⟩
  case round =>
    obtain ⟨k, hk, hgk, rfl, hown, hbw⟩ := hrel
    have HK := Lib.hid hgk
    have HOWN := Lib.hid hown
    clear hgk hown
    have hc0 : wr.cell? ⟨w.heap.size, 0, none⟩ = some (.slice A N c) := by
      rw [hbw.cell (p := ⟨w.heap.size, 0, none⟩) (Nat.lt_succ_self _), World.cell?_alloc_new]
      rfl
    have hb0 : Below w.heap.size w wr := ((Below.refl _ _).alloc (Nat.le_refl _) _).trans (hbw.mono (by omega))
    have HB0 := Lib.hid hb0
    by_cases hlt : k < N
    · obtain ⟨x, hx⟩ : ∃ x, L[k]? = some x := ⟨L[k]'(by rw [HN.out]; exact hlt), by simp⟩
      obtain ⟨rr, o, rfl, hrl, _, _, hc⟩ := HL.out.2.2 (by omega)
      have hc1 : wr.cell? ⟨rr, o + k * 2, none⟩ = some (.string x.1) := (hb0.cell (p := ⟨rr, o + k * 2, none⟩) hrl).trans (hc k x hx).1
      have HX := Lib.hid hx
      clear hc hx hb0
      go_wp2_with (first
        | (at_builtin; refine wpList_append_own _ rfl (.tmp 12) (.tmp 19) _ rfl (w.heap.size + 1) 9 i0 (.string ⟨#[]⟩) 1 16 Try.underlying37 I0.out Z0.out S0.out Y0.out rfl (by decide) _ k _ rfl (HOWN.out.alloc _) _ 1 1 [.string x.1] rfl rfl (cell_one_new _ _ _) (by simp [Value.oneCell']) (by unfold maxLen; omega) (by omega) ?hbase ?_))
      case hbase => have := hbw.size; simp at this ⊢; omega
      intro v3 w3 hown3 hg3 hnil3
      clear hnil3
      have HB3 : Hid (Below (w.heap.size + 1) (w.alloc (.cells #[.slice (some ⟨rr, o, none⟩) N c, .bool op, .string rn, .string rb] 27)) w3) := (hbw.alloc (by have := hbw.size; simpa using this) _).grown hg3 (by have := hbw.size; simp at this ⊢; omega) (fun q hq => (HOWN.out.lt q hq).1)
      have HO3 : Hid (w3.ownsRow (w.heap.size + 1) 9 1 v3 (k + 1) ((namesL (L.take (k + 1))).map encStr)) := by
        have : (namesL (L.take (k + 1))).map encStr = (namesL (L.take k)).map encStr ++ [.string x.1] := by
          rw [List.take_add_one, HX.out]
          simp [namesL, encStr]
        show World.ownsRow _ _ _ _ _ _ _
        rw [this]; exact hown3
      clear hown3 hg3
      go_wp2
      go_roundg (N - (k + 1))
      case measure => rw [HK.out]; omega
      case rel => exact ⟨k + 1, by omega, rfl, by go_num, HO3.out, HB3.out⟩
    · obtain rfl : k = N := by omega
      go_wp2
      go_ret
      have h1 := HOWN.out
      rw [List.take_of_length_le (by rw [HN.out]; exact Nat.le_refl _)] at h1
      refine ⟨_, rfl, ?_, HB0.out⟩
      show World.ownsRow _ _ _ _ _ L.length _
      rw [HN.out]
      rcases h1.2 with h2 | ⟨g', cap, cur, hv, hb, hr⟩
      · exact ⟨h1.1, .inl h2⟩
      · exact ⟨h1.1, .inr ⟨g', cap, cur, hv, by omega, hr⟩⟩
set_option maxHeartbeats 1000000 in
theorem same30 {w : World} {base1 base2 n : Nat} {v1 v2 : Value} {ks : List (List UInt8)} (h1 : w.ownsRow base1 9 1 v1 n (ks.map encStr)) (h2 : w.ownsRow base2 9 1 v2 n (ks.map encStr)) (hn : n ≤ 1000000) :
    Calls Try.prog 30 #[v1, v2] w fun e w' => e = .returned (.bool true) ∧ Below w.heap.size w w' := by
  have hl : ks.length = n := by have := h1.1; simpa using this
  have H1 := Lib.hid h1
  have H2 := Lib.hid h2
  have HLN := Lib.hid hl
  obtain ⟨A1, c1, rfl⟩ := own_slice h1
  obtain ⟨A2, c2, rfl⟩ := own_slice h2
  clear h1 h2 hl
  have hnn : (((n : Nat) : Int) != (n : Int)) = false := by simp
  go_enter Try.func30, Try.ntmps30
  go_wp2
  go_loopg [5] n (fun gk i wr => ∃ k : Nat, k ≤ n ∧ gk = n - k ∧ i = .int .i64 k ∧ Below w.heap.size w wr)
  case atStart => exact ⟨0, Nat.zero_le _, rfl, rfl, Below.refl _ _⟩
  case round =>
    obtain ⟨k, hk, hgk, rfl, hbw⟩ := hrel
    have HK := Lib.hid hgk
    have HBW := Lib.hid hbw
    clear hgk
    by_cases hlt : k < n
    · obtain ⟨b1, c1', hv1, hc1⟩ := own_str H1.out (by omega)
      obtain ⟨b2, c2', hv2, hc2⟩ := own_str H2.out (by omega)
      injection hv1 with e1 e1b e1c
      injection hv2 with e2 e2b e2c
      subst e1
      subst e2
      clear e1b e1c e2b e2c
      have hsl : (strs ks).length = n := by simp [strs, HLN.out]
      have d1 := hc1 k (by omega)
      have d2 := hc2 k (by omega)
      rw [Nat.zero_add] at d1 d2
      have q1 := (hbw.cell (p := ⟨b1, k, none⟩) (World.block_lt_of_cell? _ _ d1)).trans d1
      have q2 := (hbw.cell (p := ⟨b2, k, none⟩) (World.block_lt_of_cell? _ _ d2)).trans d2
      generalize (strs ks).getD k ByteArray.empty = S at *
      clear hc1 hc2 d1 d2 hsl hbw
      have hk0 : (0 : Int) ≤ (k : Int) := by omega
      have hk1 : (k : Int) < (n : Int) := by omega
      go_wp2
      go_quiet (fail)
      go_wp2
      go_roundg (n - (k + 1))
      case measure => rw [HK.out]; omega
      case rel => exact ⟨k + 1, by omega, rfl, by go_num, ⟨HBW.out.os, HBW.out.tape, HBW.out.output, HBW.out.size, HBW.out.block⟩⟩
    · go_wp2
      go_ret
      exact ⟨rfl, hbw⟩
end Go.Proofs.Ytadagidjppgbkaa
