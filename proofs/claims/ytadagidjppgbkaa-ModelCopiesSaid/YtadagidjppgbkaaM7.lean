/- The walk over Same at two models that hold the same. -/
import Derived.Test.YtadagidjppgbkaaM6
namespace Go.Proofs.Ytadagidjppgbkaa
open Go.RowKit Go.Maps Go.Sort
def strs (ks : List (List UInt8)) : List ByteArray := ks.map fun l => ⟨l.toArray⟩
theorem own_str {w : World} {base n : Nat} {v : Value} {ks : List (List UInt8)} (h : w.ownsRow base 9 1 v n (ks.map encStr)) (hn : 0 < n) :
    ∃ b c, v = .slice (some ⟨b, 0, none⟩) n c ∧ ∀ j, j < (strs ks).length → w.cell? ⟨b, 0 + j, none⟩ = some (.string ((strs ks).getD j ByteArray.empty)) := by
  rcases h.2 with ⟨_, h0⟩ | ⟨g, cap, cur, rfl, _⟩
  · omega
  · refine ⟨g, cap, rfl, fun j hj => ?_⟩
    have hj2 : j < ks.length := by simpa [strs] using hj
    have := h.cells (g := g) rfl j (encStr ks[j]) (by simp [hj2])
    rw [Addr.add_mid] at this
    rw [this]
    simp [strs, hj2, encStr]
theorem equal37 {w : World} {base1 base2 n : Nat} {v1 v2 : Value} {ks : List (List UInt8)} (h1 : w.ownsRow base1 9 1 v1 n (ks.map encStr)) (h2 : w.ownsRow base2 9 1 v2 n (ks.map encStr)) (hn : n ≤ 1000000) :
    Calls Try.prog 37 #[v1, v2] w fun e w' => e = .returned (.bool true) ∧ Below w.heap.size w w' := by
  have hl : ks.length = n := by have := h1.1; simpa using this
  by_cases h0 : n = 0
  · subst h0
    have e1 : ∃ A c, v1 = .slice A 0 c := by
      rcases h1.2 with ⟨hv, _⟩ | ⟨g, cap, cur, hv, _⟩
      · exact ⟨_, _, hv⟩
      · exact ⟨_, _, hv⟩
    have e2 : ∃ A c, v2 = .slice A 0 c := by
      rcases h2.2 with ⟨hv, _⟩ | ⟨g, cap, cur, hv, _⟩
      · exact ⟨_, _, hv⟩
      · exact ⟨_, _, hv⟩
    obtain ⟨A1, c1, rfl⟩ := e1
    obtain ⟨A2, c2, rfl⟩ := e2
    refine (Try.slices_Equal_string_empty A1 A2 c1 0 c2 w (by omega)).mono ?_
    rintro e w' ⟨rfl, rfl⟩
    exact ⟨by simp, Below.refl _ _⟩
  · obtain ⟨b1, c1, rfl, hc1⟩ := own_str h1 (by omega)
    obtain ⟨b2, c2, rfl, hc2⟩ := own_str h2 (by omega)
    have hsl : (strs ks).length = n := by simp [strs, hl]
    refine (Try.slices_Equal_string b1 0 n c1 b2 0 n c2 (strs ks) (strs ks) w (by omega) (by omega) (by omega) (by omega) hc1 hc2).mono ?_
    rintro e w' ⟨rfl, q, rfl⟩
    exact ⟨by simp, ⟨rfl, rfl, rfl, Nat.le_refl _, fun _ _ => rfl⟩⟩
theorem keys_le {g b : Nat} {s : Md} {w : World} (h : MdAt g b s w) : ∀ x ∈ keysOf s.D, x.length ≤ maxLen := by
  intro x hx
  unfold keysOf at hx
  rw [List.mem_mergeSort] at hx
  exact strKeys_le h.2 Try.underlying9 x hx
theorem own_slice {w : World} {base n : Nat} {v : Value} {xs : List Value} (h : w.ownsRow base 9 1 v n xs) : ∃ A c, v = .slice A n c := by
  rcases h.2 with ⟨hv, h0⟩ | ⟨g, cap, cur, hv, _⟩
  · subst h0; exact ⟨_, _, hv⟩
  · exact ⟨_, _, hv⟩
set_option maxHeartbeats 1000000 in
theorem same_at {g1 b1 g2 b2 : Nat} {s1 s2 : Md} {w : World} (h1 : MdAt g1 b1 s1 w) (h2 : MdAt g2 b2 s2 w) (hD : s1.D = s2.D) (hmax : Maps.size s1.D ≤ 1000000) :
    Calls Try.prog 24 #[.pointer (some ⟨g1, 0, none⟩), .pointer (some ⟨g2, 0, none⟩)] w fun e w' => e = .returned (.bool true) ∧ Below w.heap.size w w' := by
  have hkl := keysOf_length h1.2
  have hv : ∀ nm, valOf s1 nm = valOf s2 nm := fun nm => by unfold valOf; rw [hD]
  have hkle := keys_le h1
  have hN1 : Hid (∀ W, Below w.heap.size w W → Calls Try.prog 20 #[.pointer (some ⟨g1, 0, none⟩)] W fun e w' => ∃ A c, e = .returned (.slice A (keysOf s1.D).length c) ∧ w'.ownsRow W.heap.size 9 1 (.slice A (keysOf s1.D).length c) (keysOf s1.D).length ((keysOf s1.D).map encStr) ∧ Below W.heap.size W w') := fun W hb => (names_at (h1.below hb) hmax).mono fun e w' ⟨v, he, ho, hb2⟩ => by
    obtain ⟨A, c, rfl⟩ := own_slice ho
    exact ⟨A, c, he, ho, hb2⟩
  have hN2 : Hid (∀ W, Below w.heap.size w W → Calls Try.prog 20 #[.pointer (some ⟨g2, 0, none⟩)] W fun e w' => ∃ A c, e = .returned (.slice A (keysOf s1.D).length c) ∧ w'.ownsRow W.heap.size 9 1 (.slice A (keysOf s1.D).length c) (keysOf s1.D).length ((keysOf s1.D).map encStr) ∧ Below W.heap.size W w') := fun W hb => (names_at (h2.below hb) (by rw [← hD]; exact hmax)).mono fun e w' ⟨v, he, ho, hb2⟩ => by
    rw [← hD] at ho
    obtain ⟨A, c, rfl⟩ := own_slice ho
    exact ⟨A, c, he, ho, hb2⟩
  have hcl : Hid (∀ W, Below w.heap.size w W → W.cell? ⟨w.heap.size, 0, none⟩ = some (.pointer (some ⟨g1, 0, none⟩)) → W.cell? ⟨w.heap.size + 1, 0, none⟩ = some (.pointer (some ⟨g2, 0, none⟩)) → ∀ k ∈ keysOf s1.D, Calls Try.prog 39 #[encStr k, .pointer (some ⟨w.heap.size, 0, none⟩), .pointer (some ⟨w.heap.size + 1, 0, none⟩)] W fun e w' => e = .returned (.bool false) ∧ W = w') := fun W hb e1 e2 k hk =>
    clos39 (h1.below hb) (h2.below hb) e1 e2 ⟨k.toArray⟩ (by simpa [ByteArray.size] using hkle k hk) (hv _)
  generalize keysOf s1.D = ks at *
  have hkn : ks.length ≤ 1000000 := by omega
  clear hkl hv hkle h1 h2 hD hmax
  have hb0 : Below w.heap.size w ((w.alloc (.cells #[.pointer (some ⟨g1, 0, none⟩)] 23)).alloc (.cells #[.pointer (some ⟨g2, 0, none⟩)] 23)) := ((Below.refl _ _).alloc (Nat.le_refl _) _).alloc (by simp) _
  have HB0 := Lib.hid hb0
  have hcb : Hid (∀ W, Below (w.heap.size + 1 + 1) ((w.alloc (.cells #[.pointer (some ⟨g1, 0, none⟩)] 23)).alloc (.cells #[.pointer (some ⟨g2, 0, none⟩)] 23)) W → W.cell? ⟨w.heap.size, 0, none⟩ = some (.pointer (some ⟨g1, 0, none⟩)) ∧ W.cell? ⟨w.heap.size + 1, 0, none⟩ = some (.pointer (some ⟨g2, 0, none⟩)) ∧ Below w.heap.size w W) := by
    intro W hb
    refine ⟨?_, ?_, HB0.out.trans (hb.mono (by omega))⟩
    · rw [hb.cell (p := ⟨w.heap.size, 0, none⟩) (by show w.heap.size < _; omega), World.cell?_alloc_lt _ _ _ (by simp), World.cell?_alloc_new]
      rfl
    · rw [hb.cell (p := ⟨w.heap.size + 1, 0, none⟩) (by show w.heap.size + 1 < _; omega)]
      have := World.cell?_alloc_new (w.alloc (.cells #[.pointer (some ⟨g1, 0, none⟩)] 23)) #[.pointer (some ⟨g2, 0, none⟩)] 23 0
      rw [World.size_alloc] at this
      rw [this]
      rfl
  clear hb0
  go_enter Try.func24, Try.ntmps24
  go_wp2_with fail
  refine (hN1.out _ HB0.out).mono ?_
  rintro e w1 ⟨A1, c1, rfl, ho1, hb1⟩
  have hb1' : Below (w.heap.size + 1 + 1) ((w.alloc (.cells #[.pointer (some ⟨g1, 0, none⟩)] 23)).alloc (.cells #[.pointer (some ⟨g2, 0, none⟩)] 23)) w1 := by simpa using hb1
  obtain ⟨q1, q2, q3⟩ := hcb.out w1 hb1'
  go_wp2_with fail
  refine (hN2.out _ q3).mono ?_
  rintro e w2 ⟨A2, c2, rfl, ho2, hb2⟩
  have hs1 := hb1'.size
  simp at hs1
  have hb2' := hb1'.trans (hb2.mono (by omega))
  have ho12 := ho1.kept (row := none) ⟨hb2.os, hb2.tape, hb2.output, hb2.size, fun k hk _ => hb2.block k hk⟩ (by cases A1 <;> simp [Value.ownBlock])
  have hE := Lib.hid (equal37 ho12 ho2 hkn)
  have HO := Lib.hid ho12
  clear q1 q2 q3 ho1 ho2 ho12
  go_wp2_with fail
  refine hE.out.mono ?_
  rintro e w3 ⟨rfl, hb3⟩
  have hb3' := hb2'.trans (hb3.mono (by have := hb2.size; omega))
  obtain ⟨q1, q2, q3⟩ := hcb.out w3 hb3'
  have ho3 := HO.out.kept (row := none) ⟨hb3.os, hb3.tape, hb3.output, hb3.size, fun k hk _ => hb3.block k hk⟩ (by cases A1 <;> simp [Value.ownBlock])
  have hC := Lib.hid (contains38 ho3 (hcl.out w3 q3 q1 q2) hkn)
  have HQ := Lib.hid q3
  clear q1 q2 q3 ho3
  go_wp2_with fail
  refine hC.out.mono ?_
  rintro e w4 ⟨rfl, rfl⟩
  go_wp2
  go_ret
  exact ⟨rfl, HQ.out⟩
end Go.Proofs.Ytadagidjppgbkaa
