/- The walk over the law's own same. -/
import Derived.Test.YtadagidjppgbkaaP2
namespace Go.Proofs.Ytadagidjppgbkaa
open Go.RowKit Go.Maps Go.Sort
set_option maxHeartbeats 1000000 in
theorem stream_any {g b : Nat} {s : Md} {w : World} (h : MdAt g b s w) (hsh : s.op = false → s.nm = ByteArray.empty ∧ s.by_ = ByteArray.empty) : Calls Try.prog 19 #[.pointer (some ⟨g, 0, none⟩)] w fun e w' => e = .returned (.tuple #[.string s.nm, .string s.by_, .bool s.op]) ∧ Below w.heap.size w w' := by
  cases hop : s.op
  · rw [(hsh hop).1, (hsh hop).2]
    have HM := Lib.hid (made_at h)
    have c1 := h.c1
    rw [hop] at c1
    clear h hop hsh
    go_enter Try.func19, Try.ntmps19
    go_wp2_with (first
      | (go_at_call 26; refine HM.out.mono ?_; rintro e w1 ⟨rfl, rfl⟩))
    go_ret3
    exact ⟨rfl, Below.refl _ _⟩
  · exact stream_at h hop
set_option maxRecDepth 100000 in
set_option maxHeartbeats 2000000 in
theorem same15 {g b g' b' : Nat} {s : Md} {w : World} {r : Rm} {A : Option Addr} {c : Nat} (h : MdAt g b s w) (hs : Sim s r) (hL : Nms w g' b' A r.L.length r.L) :
    Calls Try.prog 15 #[.pointer (some ⟨g, 0, none⟩), .agg (rmA A c r)] w fun e w' => e = .returned (.bool true) ∧ Below w.heap.size w w' := by
  have hn : r.L.length ≤ 1000000 := by have := hs.len; omega
  have hSt : Hid (∀ W, Below w.heap.size w W → Calls Try.prog 19 #[.pointer (some ⟨g, 0, none⟩)] W fun e w' => e = .returned (.tuple #[.string r.nm, .string r.by_, .bool r.op]) ∧ Below W.heap.size W w') := fun W hb => by
    rw [← hs.nm, ← hs.by_, ← hs.op]
    exact stream_any (h.below hb) (by rw [hs.op, hs.nm, hs.by_]; exact hs.shut)
  have hN1 : Hid (∀ W, Below w.heap.size w W → Calls Try.prog 20 #[.pointer (some ⟨g, 0, none⟩)] W fun e w' => ∃ A1 c1, e = .returned (.slice A1 r.L.length c1) ∧ w'.ownsRow W.heap.size 9 1 (.slice A1 r.L.length c1) r.L.length ((namesL r.L).map encStr) ∧ Below W.heap.size W w') := fun W hb =>
    (names_at (h.below hb) (by rw [h.size_eq hs.look hs.srt]; exact hn)).mono fun e w' ⟨v, he, ho, hb2⟩ => by
      rw [h.keys_eq hs.look hs.srt, show (namesL r.L).length = r.L.length by simp [namesL]] at ho
      obtain ⟨A1, c1, rfl⟩ := own_slice ho
      exact ⟨A1, c1, he, ho, hb2⟩
  have hN2 : Hid (∀ W, Below w.heap.size w W → Calls Try.prog 29 #[.agg (rmA A c r)] W fun e w' => ∃ A1 c1, e = .returned (.slice A1 r.L.length c1) ∧ w'.ownsRow W.heap.size 9 1 (.slice A1 r.L.length c1) r.L.length ((namesL r.L).map encStr) ∧ Below W.heap.size W w') := fun W hb =>
    (refNames (c := c) r (hL.below hb) hn).mono fun e w' ⟨v, he, ho, hb2⟩ => by
      obtain ⟨A1, c1, rfl⟩ := own_slice ho
      exact ⟨A1, c1, he, ho, hb2⟩
  have hBy : Hid (∀ (W : World) (k : Nat) (x : Named), Below w.heap.size w W → r.L[k]? = some x → Calls Try.prog 16 #[.pointer (some ⟨g, 0, none⟩), .string x.1] W fun e w' => e = .returned (.tuple #[.string x.2, .bool true]) ∧ W = w') := fun W k x hb hx => by
    have hl := lookL_of_get hs.srt hx
    have := bytes_at (h.below hb) x.1 (hL.2.1 x (List.mem_of_getElem? hx)).1
    rw [(hs.look x.1).1, (hs.look x.1).2 _ hl, hl] at this
    exact this
  have HL := Lib.hid hL
  clear h hs hL
  obtain ⟨L, rop, rn, rb⟩ := r
  simp only [rmA] at *
  generalize hN : L.length = N at *
  have HN := Lib.hid hN
  clear hN
  have HB0 : Hid (Below w.heap.size w (w.alloc (.cells #[.slice A N c, .bool rop, .string rn, .string rb] 27))) := (Below.refl _ _).alloc (Nat.le_refl _) _
  have hcl : Hid (∀ W, Below (w.heap.size + 1) (w.alloc (.cells #[.slice A N c, .bool rop, .string rn, .string rb] 27)) W → W.cell? ⟨w.heap.size, 0, none⟩ = some (.slice A N c) ∧ W.cell? ⟨w.heap.size, 1, none⟩ = some (.bool rop) ∧ W.cell? ⟨w.heap.size, 2, none⟩ = some (.string rn) ∧ W.cell? ⟨w.heap.size, 3, none⟩ = some (.string rb) ∧ Below w.heap.size w W) := fun W hb => by
    have hh := (hb.block w.heap.size (Nat.lt_succ_self _)).trans (heap_alloc_new w _)
    exact ⟨cell_of_row W _ 0 _ 27 (0, 0) hh, cell_of_row W _ 1 _ 27 (0, 0) hh, cell_of_row W _ 2 _ 27 (0, 0) hh, cell_of_row W _ 3 _ 27 (0, 0) hh, HB0.out.trans (hb.mono (Nat.le_succ _))⟩
  go_enter Try.func15, Try.ntmps15
  go_wp2_with fail
  refine Calls.mono (hSt.out _ ?hbA1) ?_
  case hbA1 => exact HB0.out
  rintro e w1 ⟨rfl, hb1⟩
  have HB1 : Hid (Below (w.heap.size + 1) (w.alloc (.cells #[.slice A N c, .bool rop, .string rn, .string rb] 27)) w1) := by
    show Below _ _ _
    simpa using hb1
  clear hb1
  obtain ⟨c0, c1, c2, c3, hq1⟩ := hcl.out _ HB1.out
  have HQ1 := Lib.hid hq1
  clear hq1
  go_wp2_with fail
  go_region_held3 (fun w' => w'.cell? ⟨w.heap.size, 0, none⟩ = some (.slice A N c) ∧ w'.cell? ⟨w.heap.size, 1, none⟩ = some (.bool rop) ∧ w'.cell? ⟨w.heap.size, 2, none⟩ = some (.string rn) ∧ w'.cell? ⟨w.heap.size, 3, none⟩ = some (.string rb))
    (first | (refine ⟨?_, ?_, ?_, ?_⟩ <;> with_reducible assumption) | go_keep)
    (first
      | (go_at_call 20; refine Calls.mono (hN1.out _ (below_drew HQ1.out)) ?_; rintro e w2 ⟨A2, cc2, rfl, hr2, hb2⟩; have HB2 : Hid (Below (w.heap.size + 1) (w.alloc (.cells #[.slice A N c, .bool rop, .string rn, .string rb] 27)) w2) := (below_drew HB1.out).trans (hb2.mono (by have := HB1.out.size; simpa using this)); have HR2 := Lib.hid hr2; clear hr2 hb2; obtain ⟨c0, c1, c2, c3, hq2⟩ := hcl.out _ HB2.out; have HQ2 := Lib.hid hq2; clear hq2)
      | (go_at_call 29; refine Calls.mono (hN2.out _ HQ2.out) ?_; rintro e w3 ⟨A3, cc3, rfl, hr3, hb3⟩; have HB3 : Hid (Below (w.heap.size + 1) (w.alloc (.cells #[.slice A N c, .bool rop, .string rn, .string rb] 27)) w3) := HB2.out.trans (hb3.mono (by have := HB2.out.size; simpa using this)); have hE := same30 (row_below HR2.out hb3) hr3 hn; have HE := Lib.hid hE; clear hr3 hb3 hE; obtain ⟨c0, c1, c2, c3, hq3⟩ := hcl.out _ HB3.out)
      | (go_at_call 30; refine Calls.mono HE.out ?_; rintro e w4 ⟨rfl, hb4⟩; have HB4 : Hid (Below (w.heap.size + 1) (w.alloc (.cells #[.slice A N c, .bool rop, .string rn, .string rb] 27)) w4) := HB3.out.trans (hb4.mono (by have := HB3.out.size; simpa using this)); clear hb4; obtain ⟨c0, c1, c2, c3, hq4⟩ := hcl.out _ HB4.out))
  have HC := Lib.hid HB4.out
  go_wp2_with fail
  go_loopg [4, 8, 9, 10] N (fun gk _ i _ _ wr => ∃ k : Nat, k ≤ N ∧ gk = N - k ∧ i = .int .i64 k ∧ Below (w.heap.size + 1) (w.alloc (.cells #[.slice A N c, .bool rop, .string rn, .string rb] 27)) wr)
  case atStart => exact ⟨0, Nat.zero_le _, rfl, rfl, HB4.out⟩
  case round =>
    clear c0 c1 c2 c3 hq4
    obtain ⟨k, hk, hgk, rfl, hbr⟩ := hrel
    have HK := Lib.hid hgk
    have HBR := Lib.hid hbr
    obtain ⟨c0, c1, c2, c3, hqr⟩ := hcl.out _ hbr
    have HQR := Lib.hid hqr
    clear hgk hbr hqr c1 c2 c3
    by_cases hlt : k < N
    · obtain ⟨x, hx⟩ : ∃ x, L[k]? = some x := ⟨L[k]'(by rw [HN.out]; exact hlt), by simp⟩
      obtain ⟨rr, o, rfl, hrl, _, _, hc⟩ := (HL.out.below HQR.out).2.2 (by omega)
      obtain ⟨hc1, hc2⟩ := hc k x hx
      have HBY := Lib.hid (hBy.out wr k x HQR.out hx)
      clear hx hc
      go_wp2_with fail
      refine Calls.mono HBY.out ?_
      rintro e w5 ⟨rfl, rfl⟩
      go_wp2_with fail
      go_roundg (N - (k + 1))
      case measure => rw [HK.out]; omega
      case rel => exact ⟨k + 1, by omega, rfl, by go_num, HBR.out⟩
    · go_wp2
      go_ret
      exact ⟨rfl, HQR.out⟩
end Go.Proofs.Ytadagidjppgbkaa
