/- The walks over Bytes, Stream, and Same at two models that hold the same. -/
import Derived.Test.YtadagidjppgbkaaM5
namespace Go.Proofs.Ytadagidjppgbkaa
open Go.RowKit Go.Maps Go.Sort
set_option maxHeartbeats 1000000 in
theorem bytes_at {g b : Nat} {s : Md} {w : World} (h : MdAt g b s w) (nm : ByteArray) (hnm : nm.size ≤ maxLen) : Calls Try.prog 16 #[.pointer (some ⟨g, 0, none⟩), .string nm] w fun e w' => e = .returned (.tuple #[.string (valOf s nm), .bool (has s nm)]) ∧ w = w' := by
  have HM := Lib.hid (made_at h)
  have c0 := h.c0
  have hl := look_at h nm hnm
  clear h hnm
  generalize valOf s nm = V at *
  generalize has s nm = B at *
  go_enter Try.func16, Try.ntmps16
  go_wp2_with (first
    | (go_at_call 26; refine HM.out.mono ?_; rintro e w1 ⟨rfl, rfl⟩))
  go_ret2
  exact ⟨rfl, rfl⟩
set_option maxHeartbeats 1000000 in
theorem stream_at {g b : Nat} {s : Md} {w : World} (h : MdAt g b s w) (hop : s.op = true) : Calls Try.prog 19 #[.pointer (some ⟨g, 0, none⟩)] w fun e w' => e = .returned (.tuple #[.string s.nm, .string s.by_, .bool true]) ∧ Below w.heap.size w w' := by
  have HM := Lib.hid (made_at h)
  have c1 := h.c1
  have c2 := h.c2
  have c3 := h.c3
  rw [hop] at c1
  clear h hop
  go_enter Try.func19, Try.ntmps19
  go_wp2_with (first
    | (go_at_call 26; refine HM.out.mono ?_; rintro e w1 ⟨rfl, rfl⟩))
  go_quiet (fail)
  go_wp2
  go_ret3
  exact ⟨rfl, ⟨rfl, rfl, rfl, Nat.le_refl _, fun _ _ => rfl⟩⟩
set_option maxHeartbeats 1000000 in
theorem clos39 {g1 b1 g2 b2 p1 p2 : Nat} {s1 s2 : Md} {w : World} (h1 : MdAt g1 b1 s1 w) (h2 : MdAt g2 b2 s2 w) (c1 : w.cell? ⟨p1, 0, none⟩ = some (.pointer (some ⟨g1, 0, none⟩))) (c2 : w.cell? ⟨p2, 0, none⟩ = some (.pointer (some ⟨g2, 0, none⟩)))
    (nm : ByteArray) (hnm : nm.size ≤ maxLen) (hv : valOf s1 nm = valOf s2 nm) : Calls Try.prog 39 #[.string nm, .pointer (some ⟨p1, 0, none⟩), .pointer (some ⟨p2, 0, none⟩)] w fun e w' => e = .returned (.bool false) ∧ w = w' := by
  have HB : Hid (∀ g, g = g1 ∨ g = g2 → ∃ B, Calls Try.prog 16 #[.pointer (some ⟨g, 0, none⟩), .string nm] w fun e w' => e = .returned (.tuple #[.string (valOf s2 nm), .bool B]) ∧ w = w') := by
    rintro g (rfl | rfl)
    · exact ⟨_, by rw [← hv]; exact bytes_at h1 nm hnm⟩
    · exact ⟨_, bytes_at h2 nm hnm⟩
  obtain ⟨Ba, ha⟩ := HB.out g1 (.inl rfl)
  obtain ⟨Bb, hb⟩ := HB.out g2 (.inr rfl)
  have HA := Lib.hid ha
  have HBB := Lib.hid hb
  clear hv h1 h2 HB ha hb
  generalize valOf s2 nm = V at *
  go_enter Try.func39, Try.ntmps39
  go_wp2_with fail
  refine HA.out.mono ?_
  rintro e w1 ⟨rfl, rfl⟩
  go_wp2_with fail
  refine HBB.out.mono ?_
  rintro e w1 ⟨rfl, rfl⟩
  go_wp2
  go_ret
  exact ⟨rfl, rfl⟩
set_option maxHeartbeats 1000000 in
theorem index43 {base : Nat} {A : Option Addr} {n c p1 p2 : Nat} {ks : List (List UInt8)} {w : World} (hrow : w.ownsRow base 9 1 (.slice A n c) n (ks.map encStr))
    (hcl : ∀ k ∈ ks, Calls Try.prog 39 #[encStr k, .pointer (some ⟨p1, 0, none⟩), .pointer (some ⟨p2, 0, none⟩)] w fun e w' => e = .returned (.bool false) ∧ w = w') (hn : n ≤ 1000000) :
    Calls Try.prog 43 #[.slice A n c, .func (.func 39) #[] #[.pointer (some ⟨p1, 0, none⟩), .pointer (some ⟨p2, 0, none⟩)]] w fun e w' => e = .returned (.int .i64 (-1)) ∧ w = w' := by
  have HR := Lib.hid hrow
  have HC := Lib.hid hcl
  have hkl : ks.length = n := by have := hrow.1; simpa using this
  have HKL := Lib.hid hkl
  clear hrow hcl hkl
  go_enter Try.func43, Try.ntmps43
  go_wp2
  go_loopg [5, 8] n (fun gk _ i wr => ∃ k : Nat, k ≤ n ∧ gk = n - k ∧ i = .int .i64 k ∧ w = wr)
  case atStart => exact ⟨0, Nat.zero_le _, rfl, rfl, rfl⟩
  case round =>
    obtain ⟨k, hk, hgk, rfl, rfl⟩ := hrel
    have HK := Lib.hid hgk
    clear hgk
    by_cases hlt : k < n
    · obtain ⟨x, hx⟩ : ∃ x, ks[k]? = some x := ⟨ks[k]'(by rw [HKL.out]; exact hlt), by simp⟩
      have HX := Lib.hid (HC.out x (List.mem_of_getElem? hx))
      have hA : ∃ b, A = some ⟨b, 0, none⟩ ∧ w.cell? ⟨b, k, none⟩ = some (encStr x) := by
        rcases HR.out.2 with ⟨hv, h0⟩ | ⟨g, cap, cur, hv, _⟩
        · omega
        · injection hv with e1 _ _
          subst e1
          refine ⟨g, rfl, ?_⟩
          have := HR.out.cells (g := g) rfl k (encStr x) (by simp [hx])
          rw [Addr.add_mid, Nat.zero_add] at this
          exact this
      obtain ⟨b, rfl, hc⟩ := hA
      clear hx
      go_wp2_with (first
        | (go_at_call 39; refine HX.out.mono ?_; rintro e w1 ⟨rfl, rfl⟩))
      go_roundg (n - (k + 1))
      case measure => rw [HK.out]; omega
      case rel => exact ⟨k + 1, by omega, rfl, by go_num, rfl⟩
    · go_wp2
      go_ret
      exact ⟨rfl, rfl⟩
theorem contains38 {base : Nat} {A : Option Addr} {n c p1 p2 : Nat} {ks : List (List UInt8)} {w : World} (hrow : w.ownsRow base 9 1 (.slice A n c) n (ks.map encStr))
    (hcl : ∀ k ∈ ks, Calls Try.prog 39 #[encStr k, .pointer (some ⟨p1, 0, none⟩), .pointer (some ⟨p2, 0, none⟩)] w fun e w' => e = .returned (.bool false) ∧ w = w') (hn : n ≤ 1000000) :
    Calls Try.prog 38 #[.slice A n c, .func (.func 39) #[] #[.pointer (some ⟨p1, 0, none⟩), .pointer (some ⟨p2, 0, none⟩)]] w fun e w' => e = .returned (.bool false) ∧ w = w' := by
  have HI := Lib.hid (index43 hrow hcl hn)
  clear hrow hcl hn
  go_enter Try.func38, Try.ntmps38
  go_wp2_with (first
    | (go_at_call 43; refine HI.out.mono ?_; rintro e w1 ⟨rfl, rfl⟩))
  go_ret
  exact ⟨rfl, rfl⟩
end Go.Proofs.Ytadagidjppgbkaa
