/- The walk over the reference's Bytes. -/
import Derived.Test.YtgdljjoaiogpfaaR6
import Derived.Test.YtgdljjoaiogpfaaC12
namespace Go.Proofs.Ytgdljjoaiogpfaa
open Go.RowKit Go.Maps
def bytesOf (h : Hd) : List Plc → Int
  | [] => 0
  | p :: r => lenAt h p.2.toNat + bytesOf h r
theorem bytesOf_append (h : Hd) (k : List Plc) : ∀ l, bytesOf h (l ++ k) = bytesOf h l + bytesOf h k
  | [] => by simp [bytesOf]
  | p :: r => by simp [bytesOf, bytesOf_append h k r]; omega
theorem bytesOf_part (named : List Plc) (h : Hd) (live : Bool) : ∀ m, bytesOf h (partTo named h live m) = bytesTo named h live m
  | 0 => rfl
  | m + 1 => by
    simp only [partTo, bytesTo, bytesOf_append, bytesOf_part named h live m]
    split <;> simp [bytesOf]
theorem part_ix (named : List Plc) (h : Hd) (live : Bool) : ∀ m, ∀ p ∈ partTo named h live m, 0 ≤ p.2 ∧ p.2 < (m : Int)
  | 0 => by simp [partTo]
  | m + 1 => by
    intro p hp
    simp only [partTo, List.mem_append] at hp
    rcases hp with hp | hp
    · have := part_ix named h live m p hp
      push_cast; omega
    · split at hp
      · simp at hp; subst hp; push_cast; simp; omega
      · simp at hp
theorem bytesOf_le {h : Hd} (ho : ∀ s ∈ h.sl, SOk s) : ∀ l : List Plc, 0 ≤ bytesOf h l ∧ bytesOf h l ≤ 4096 * l.length
  | [] => by simp [bytesOf]
  | p :: r => by
    have ih := bytesOf_le ho r
    have hl : 0 ≤ lenAt h p.2.toNat ∧ lenAt h p.2.toNat ≤ 4096 := by
      unfold lenAt
      cases hx : h.sl[p.2.toNat]? with
      | none => simp
      | some s =>
        have := ho s (List.mem_of_getElem? hx)
        unfold SOk at this
        simp
        omega
    simp only [bytesOf, List.length_cons]
    push_cast
    omega
set_option maxRecDepth 100000 in
set_option maxHeartbeats 2000000 in
theorem bytes32 {w : World} {h : Hd} (hS : Slts w h.A h.n h.sl) (ho : ∀ s ∈ h.sl, SOk s) {A : Option Addr} {n c : Nat} {l : List Plc} (hP : Pls w A n l) (hn : n ≤ 1000) (hix : ∀ p ∈ l, 0 ≤ p.2 ∧ p.2 < (h.n : Int)) :
    Calls Try.prog 32 #[.agg #[.int .u32 h.id, .slice h.A h.n h.c], .slice A n c] w fun e w' => e = .returned (.int .i64 (bytesOf h l)) ∧ Below w.heap.size w w' := by
  have HS := Lib.hid hS
  have HO := Lib.hid ho
  have HP := Lib.hid hP
  have HIX := Lib.hid hix
  have HLE : Hid (∀ q : List Plc, 0 ≤ bytesOf h q ∧ bytesOf h q ≤ 4096 * q.length) := Lib.hid (bytesOf_le ho)
  have HAP : Hid (∀ q p, bytesOf h (q ++ [p]) = bytesOf h q + lenAt h p.2.toNat) := Lib.hid (fun q p => by rw [bytesOf_append]; simp [bytesOf])
  clear hS ho hP hix
  have hb := heap_alloc_new w (.cells #[.int .u32 h.id, .slice h.A h.n h.c] 45)
  have HBX := Lib.hid hb
  clear hb
  go_enter Try.func32, Try.ntmps32
  go_wp2_with fail
  go_loopg [5, 6] n (fun gk s i wr => ∃ k : Nat, k ≤ n ∧ gk = n - k ∧ i = .int .i64 k ∧ s = .int .i64 (bytesOf h (l.take k)) ∧ Below (w.heap.size + 1) (w.alloc (.cells #[.int .u32 h.id, .slice h.A h.n h.c] 45)) wr)
  case atStart => exact ⟨0, Nat.zero_le _, rfl, rfl, rfl, Below.refl _ _⟩
  case round =>
    obtain ⟨k, hk, hgk, rfl, rfl, hb⟩ := hrel
    have HK := Lib.hid hgk
    have HB := Lib.hid hb
    have hbx := (hb.block w.heap.size (Nat.lt_succ_self _)).trans HBX.out
    have d0 := cell_of_row wr w.heap.size 0 _ 45 (0, 0) hbx
    have d1 := cell_of_row wr w.heap.size 1 _ 45 (0, 0) hbx
    have HBW : Hid (Below w.heap.size w wr) := Lib.hid (((Below.refl _ w).alloc (Nat.le_refl _) _).trans (hb.mono (Nat.le_succ _)))
    have hle := HLE.out (l.take k)
    have hlk : (l.take k).length ≤ k := by simp; omega
    obtain ⟨S, hS⟩ : ∃ S, bytesOf h (l.take k) = S := ⟨_, rfl⟩
    rw [hS] at hle
    have HSS := Lib.hid hS
    rw [hS]
    obtain ⟨hle1, hle2⟩ := hle
    clear hgk hb hbx hS
    by_cases hlt : k < n
    · obtain ⟨p, hp⟩ : ∃ p, l[k]? = some p := ⟨l[k]'(by rw [HP.out.len]; exact hlt), by simp⟩
      obtain ⟨b, o, rfl, c1, c2⟩ := (HP.out.below HBW.out).get hp
      have hpx := HIX.out p (List.mem_of_getElem? hp)
      obtain ⟨q, hq⟩ : ∃ q : Nat, p.2 = (q : Int) := ⟨p.2.toNat, by omega⟩
      have hqn : q < h.n := by omega
      obtain ⟨s, hs⟩ : ∃ s, h.sl[q]? = some s := ⟨h.sl[q]'(by rw [HS.out.len]; exact hqn), by simp⟩
      obtain ⟨b2, o2, hA2, f1, f2⟩ := (Slts.below HS.out HBW.out).get hs
      have hso := HO.out s (List.mem_of_getElem? hs)
      obtain ⟨hso1, hso2⟩ : 1 ≤ s.1 ∧ s.1 ≤ 4096 := hso
      have HNX : Hid (bytesOf h (l.take (k + 1)) = S + s.1) := Lib.hid (by
        rw [List.take_add_one, hp]
        simp only [Option.toList_some]
        rw [HAP.out, HSS.out, hq]
        simp [lenAt, hs])
      have hk0 : (0 : Int) ≤ (k : Int) := by omega
      have hk1 : (k : Int) < (n : Int) := by omega
      have hq0 : (0 : Int) ≤ (q : Int) := by omega
      have hq1 : (q : Int) < (h.n : Int) := by omega
      rw [hq] at c2
      rw [hA2] at d1
      clear hp hpx hs hq hA2
      go_wp2
      go_quiet (fail)
      go_wp2
      go_roundg (n - (k + 1))
      case measure => rw [HK.out]; omega
      case rel => exact ⟨k + 1, by omega, rfl, by go_num, by rw [HNX.out], below_drewN HB.out _⟩
    · have HT : Hid (bytesOf h l = S) := Lib.hid (by have := HSS.out; rwa [List.take_of_length_le (by rw [HP.out.len]; omega)] at this)
      go_wp2
      go_ret
      exact ⟨by rw [HT.out]; rfl, HBW.out⟩
end Go.Proofs.Ytgdljjoaiogpfaa
