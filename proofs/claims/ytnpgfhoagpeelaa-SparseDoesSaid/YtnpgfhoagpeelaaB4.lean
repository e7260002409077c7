/- The walks over use, take. -/
import Derived.Test.YtnpgfhoagpeelaaB3
namespace Go.Proofs.Ytnpgfhoagpeelaa
open Go.RowKit
open Go.Maps
theorem Mem.ne_px {W : World} {base xb mb ph mo now n : Nat} {pairs : Int} {fm : Fp → Option Nat} {E : List En} (h : Mem W base xb mb ph mo pairs now n fm E) {e : En} (he : e ∈ E) : e.p ≠ xb := fun q => by
  have h1 := (h.ens e he).cells
  rw [q, h.hd] at h1
  injection h1 with h1
  injection h1 with _ h1 _
  cases h1
theorem u64_in {n : Nat} (h : n < 1000000000) : IntKind.u64.wrap ((n : Int) + 1) = ((n + 1 : Nat) : Int) := by rw [IntKind.wrap_u64]; omega
theorem mem_mid {α : Type} (P S : List α) (e : α) : e ∈ P ++ e :: S := by simp
set_option maxRecDepth 100000 in
set_option maxHeartbeats 2000000 in
theorem use32 {T : Nat → Prop} {W0 W : World} {base xb mb ph mo now n : Nat} {pairs : Int} {fm : Fp → Option Nat} {P S : List En} {e : En} (h : At T W0 W base xb mb ph mo pairs now n fm (P ++ e :: S)) (hn : now < 1000000000) :
    Calls Try.prog 32 #[.pointer (some ⟨xb, 0, none⟩), .pointer (some ⟨e.p, 0, none⟩)] W fun r W' => r = .returned (.tuple #[]) ∧ At T W0 W' base xb mb ph mo pairs (now + 1) n fm (P ++ ⟨e.h, e.p, e.A, e.c, e.l, now + 1⟩ :: S) := by
  have hU := u64_in hn
  have H1 := Lib.hid (h.nowSet (now + 1))
  have H2 := Lib.hid (H1.out.usedSet (now + 1))
  have c4 := h.mem.c.2.2.2.2
  have f4 := h.mem.f 4
  have c1 := (H1.out.mem.ens e (mem_mid P S e)).c.2
  have f1 := (H1.out.mem.ens e (mem_mid P S e)).f 1
  have c5 := H1.out.mem.c.2.2.2.2
  clear h hn H1
  generalize hm : now + 1 = m at *
  clear hm
  obtain ⟨eh, p, A, c, l, u⟩ := e
  simp only at *
  go_enter Try.func32, Try.ntmps32
  go_wp2_with fail
  go_end0
  exact ⟨rfl, H2.out⟩
end Go.Proofs.Ytnpgfhoagpeelaa
