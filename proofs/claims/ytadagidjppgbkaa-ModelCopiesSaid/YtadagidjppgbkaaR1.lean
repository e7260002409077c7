/- The reference's model: words for memory, and the walks over At, begin, Crash. -/
import Derived.Test.YtadagidjppgbkaaM8
namespace Go.Proofs.Ytadagidjppgbkaa
open Go.RowKit Go.Maps Go.Sort
abbrev Named := ByteArray × ByteArray
/-- the slice value reads as names with their bytes; its cells lie in a block that is neither g nor b -/
def Nms (w : World) (g b : Nat) (A : Option Addr) (n : Nat) (L : List Named) : Prop :=
  L.length = n ∧ (∀ x ∈ L, x.1.size ≤ maxLen ∧ x.2.size ≤ maxLen) ∧ (0 < n → ∃ r o, A = some ⟨r, o, none⟩ ∧ r < w.heap.size ∧ r ≠ g ∧ r ≠ b ∧ ∀ (i : Nat) (x : Named), L[i]? = some x → w.cell? ⟨r, o + i * 2, none⟩ = some (.string x.1) ∧ w.cell? ⟨r, o + i * 2 + 1, none⟩ = some (.string x.2))
theorem Nms.turn {w w' : World} {g b : Nat} {A : Option Addr} {n : Nat} {L : List Named} (h : Nms w g b A n L) (ht : Turn g b w w') : Nms w' g b A n L :=
  ⟨h.1, h.2.1, fun hn => by
    obtain ⟨r, o, e, hl, h1, h2, hc⟩ := h.2.2 hn
    have hb := ht.block r hl h1 h2
    exact ⟨r, o, e, Nat.lt_of_lt_of_le hl ht.size, h1, h2, fun i x hi => ⟨(World.cell?_of_block (a := ⟨r, o + i * 2, none⟩) hb).trans (hc i x hi).1, (World.cell?_of_block (a := ⟨r, o + i * 2 + 1, none⟩) hb).trans (hc i x hi).2⟩⟩⟩
theorem Nms.below {w w' : World} {g b : Nat} {A : Option Addr} {n : Nat} {L : List Named} (h : Nms w g b A n L) (hb : Below w.heap.size w w') : Nms w' g b A n L := h.turn (Turn.of_below hb)
/-- the reference's model -/
structure Rm where
  L : List Named
  op : Bool
  nm : ByteArray
  by_ : ByteArray
def rmA (A : Option Addr) (c : Nat) (r : Rm) : Array Value := #[.slice A r.L.length c, .bool r.op, .string r.nm, .string r.by_]
/-- where a name stands -/
def atN : List Named → ByteArray → Nat → Int
  | [], _, _ => -1
  | x :: l, nm, k => if x.1 = nm then (k : Int) else atN l nm (k + 1)
theorem atN_drop {L : List Named} {nm : ByteArray} {k : Nat} {x : Named} (h : L[k]? = some x) : atN (L.drop k) nm k = if x.1 = nm then (k : Int) else atN (L.drop (k + 1)) nm (k + 1) := by
  have hk := (List.getElem?_eq_some_iff.1 h).1
  have hx := (List.getElem?_eq_some_iff.1 h).2
  rw [List.drop_eq_getElem_cons hk, hx]
  rfl
theorem ne_list {a b : ByteArray} (h : a ≠ b) : (a.toList == b.toList) = false := by
  rw [ByteArray.toList_eq, ByteArray.toList_eq]
  simp only [beq_eq_false_iff_ne, ne_eq]
  exact fun e => h (Go.WideShapes.bytes_inj e)
set_option maxRecDepth 100000 in
set_option maxHeartbeats 1000000 in
theorem refAt {w : World} {g b : Nat} {A : Option Addr} {c : Nat} (r : Rm) (hL : Nms w g b A r.L.length r.L) (hn : r.L.length ≤ 1000000) (nm : ByteArray) :
    Calls Try.prog 17 #[.agg (rmA A c r), .string nm] w fun e w' => e = .returned (.int .i64 (atN r.L nm 0)) ∧ w' = w.alloc (.cells (rmA A c r) 27) := by
  have HL := Lib.hid hL
  clear hL
  obtain ⟨L, op, rn, rb⟩ := r
  simp only [rmA] at *
  generalize hN : L.length = N at *
  have HN := Lib.hid hN
  clear hN
  go_enter Try.func17, Try.ntmps17
  go_wp2
  go_loopg [5] N (fun gk i wr => ∃ k : Nat, k ≤ N ∧ gk = N - k ∧ i = .int .i64 k ∧ wr = w.alloc (.cells #[.slice A N c, .bool op, .string rn, .string rb] 27) ∧ atN L nm 0 = atN (L.drop k) nm k)
  case atStart => exact ⟨0, Nat.zero_le _, rfl, rfl, rfl, rfl⟩
  case round =>
    obtain ⟨k, hk, hgk, rfl, rfl, hat⟩ := hrel
    have HK := Lib.hid hgk
    have HAT := Lib.hid hat
    clear hgk hat
    by_cases hlt : k < N
    · obtain ⟨x, hx⟩ : ∃ x, L[k]? = some x := ⟨L[k]'(by rw [HN.out]; exact hlt), by simp⟩
      obtain ⟨rr, o, rfl, hrl, _, _, hc⟩ := HL.out.2.2 (by omega)
      have hc1 : (w.alloc (.cells #[.slice (some ⟨rr, o, none⟩) N c, .bool op, .string rn, .string rb] 27)).cell? ⟨rr, o + k * 2, none⟩ = some (.string x.1) := by
        rw [World.cell?_alloc_lt _ _ _ hrl]; exact (hc k x hx).1
      have hd := atN_drop (nm := nm) hx
      rw [← HAT.out] at hd
      have HD := Lib.hid hd
      clear hc hx hd
      by_cases he : x.1 = nm
      · have hd2 := HD.out
        rw [if_pos he] at hd2
        subst he
        have HD2 := Lib.hid hd2
        clear hd2
        go_wp2
        go_ret
        exact ⟨by rw [HD2.out]; rfl, rfl⟩
      · have hd2 := HD.out
        rw [if_neg he] at hd2
        have HD2 := Lib.hid hd2
        have hb := ne_list he
        clear hd2 he
        go_wp2
        go_roundg (N - (k + 1))
        case measure => rw [HK.out]; omega
        case rel => exact ⟨k + 1, by omega, rfl, by go_num, rfl, HD2.out⟩
    · obtain rfl : k = N := by omega
      have hd := HAT.out
      rw [List.drop_eq_nil_of_le (by rw [HN.out]; exact Nat.le_refl _)] at hd
      have HD := Lib.hid hd
      clear hd
      go_wp2
      go_ret
      exact ⟨by rw [HD.out]; rfl, rfl⟩
end Go.Proofs.Ytadagidjppgbkaa
