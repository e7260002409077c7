/- Clones; the program's set of fingerprints. -/
import Derived.Test.YtnpgfhoagpeelaaA9
namespace Go.Proofs.Ytnpgfhoagpeelaa
open Go.RowKit
open Go.Sort Go.Lib
/-- an address as slices have them -/
def AOk (A : Option Addr) (n : Nat) : Prop := (A = none ∧ n = 0) ∨ ∃ b o, A = some ⟨b, o, none⟩
theorem aok_own {w : World} {base e size n : Nat} {A : Option Addr} {c : Nat} {xs : List Value} (h : w.ownsRow base e size (.slice A n c) n xs) : AOk A n := by
  rcases h.2 with ⟨h2, hn⟩ | ⟨g, cap, cur, h2, _⟩
  · injection h2 with h2 _ _
    exact .inl ⟨h2, hn⟩
  · injection h2 with h2 _ _
    exact .inr ⟨g, 0, h2⟩
theorem clone57_nil (n c : Nat) (w : World) : Calls Try.prog 38 #[.slice none n c] w fun e w' => e = .returned (.slice none 0 0) ∧ w' = w := AnyE.slices_Clone_nil Try.cloneFp n c w
set_option maxRecDepth 100000 in
theorem clone57 {w : World} {b o c : Nat} {s : List Fp} (h : Fps w (some ⟨b, o, none⟩) s) (ha : AllFp s) (hn : s.length ≤ 1000000) :
    Calls Try.prog 38 #[.slice (some ⟨b, o, none⟩) s.length c] w fun e w' => ∃ g cap, e = .returned (.slice (some ⟨g, 0, none⟩) s.length cap) ∧ OwnF w' w.heap.size g cap s ∧ Below w.heap.size w w' := by
  obtain ⟨i0, hi0, hz0, hz1, hz2⟩ := info_parts info29'
  have hc : ∀ j v, (fsL s)[j]? = some v → w.cell? ⟨b, o + j, none⟩ = some v := fun j v hj => by
    obtain ⟨b', o', e, _, hc⟩ := h (fun e => by rw [e] at hj; cases hj)
    injection e with e
    injection e with e1 e2
    subst e1 e2
    exact hc j v hj
  have h1 : ∀ u ∈ fsL s, u.oneCell' = true := fun v hv => by
    obtain ⟨f, hf, hv⟩ := List.mem_flatMap.1 hv
    exact fpL_one v hv
  have q := AnyE.slices_Clone Try.cloneFp i0 _ 32 32 hi0 hz0 hz1 hz2 (by simp [Value.cells]) (by decide) (fun w => Try.sizeOf47 w) b o s.length c (fsL s) w (fsL_len ha) (by unfold maxLen; omega) (by omega) hc h1
  refine q.mono ?_
  rintro e w' ⟨v, rfl, h1, h2, h3⟩
  obtain ⟨g, cap, rfl, _⟩ := own_some h1 h2
  exact ⟨g, cap, rfl, ⟨h1, ha⟩, h3⟩
theorem below_grown {w w1 w2 : World} {g : Nat} (h : Below w.heap.size w w1) (hg : w1.grownBy w2 (some g)) (hb : w.heap.size ≤ g) : Below w.heap.size w w2 :=
  h.grown hg h.size (fun k e => by injection e with e; omega)
theorem own_ge {w : World} {base g cap : Nat} {s : List Fp} (h : OwnF w base g cap s) : base ≤ g := (own_block h.1).1
theorem compact61_none (c : Nat) (w : World) : Calls Try.prog 41 #[.slice none 0 c] w fun e w' => e = .returned (.slice none 0 c) ∧ w' = w := by
  go_enter Try.func41, Try.ntmps41
  go_wp2_with fail
  go_ret
  exact ⟨rfl, rfl⟩
set_option maxHeartbeats 1000000 in
theorem set47 {w : World} {A : Option Addr} {c : Nat} {s : List Fp} (h : Fps w A s) (ha : AllFp s) (hn : s.length ≤ 1000000) (hA : AOk A s.length) :
    Calls Try.prog 27 #[.slice A s.length c] w fun e w' => ∃ B d, e = .returned (.slice B (setF s).length d) ∧ w'.ownsRow w.heap.size 47 32 (.slice B (setF s).length d) (setF s).length (fsL (setF s)) ∧ Below w.heap.size w w' := by
  rcases hA with ⟨rfl, h0⟩ | ⟨b, o, rfl⟩
  · obtain rfl := List.length_eq_zero_iff.1 h0
    have HC := Lib.hid (clone57_nil 0 c w)
    have HS := Lib.hid (fun W => sort58_none none 0 W)
    have HP := Lib.hid (fun W => compact61_none 0 W)
    clear h ha h0 hn
    go_enter Try.func27, Try.ntmps27
    go_wp2_with fail
    refine Calls.mono HC.out ?_
    rintro e w1 ⟨rfl, rfl⟩
    go_wp2_with fail
    refine Calls.mono (HS.out _) ?_
    rintro e w1 ⟨rfl, rfl⟩
    go_wp2_with fail
    refine Calls.mono (HP.out _) ?_
    rintro e w1 ⟨rfl, rfl⟩
    go_wp2_with fail
    go_ret
    exact ⟨none, 0, rfl, World.ownsRow_nil _ _ _ _, Below.refl _ _⟩
  · have HC := Lib.hid (clone57 (c := c) h ha hn)
    have HN := Lib.hid hn
    clear h ha
    go_enter Try.func27, Try.ntmps27
    go_wp2_with fail
    refine Calls.mono HC.out ?_
    rintro e w1 ⟨g, cap, rfl, ho1, hb1⟩
    have HO1 := Lib.hid ho1
    have HB1 := Lib.hid hb1
    clear ho1 hb1
    go_wp2_with fail
    refine Calls.mono (sort58 HO1.out (by have := HN.out; omega)) ?_
    rintro e w2 ⟨rfl, s', hl, hm, hs, ho2, hg2⟩
    have HO2 := Lib.hid ho2
    have HG2 := Lib.hid hg2
    have HL := Lib.hid hl
    have HE : Hid (compactUpTo s'.toArray s'.length = setF s) := Lib.hid (compact_set hm hs)
    clear hl hm hs ho2 hg2
    go_wp2_with fail
    rw [← HL.out]
    refine Calls.mono (compact61 HO2.out (by rw [HL.out]; exact HN.out)) ?_
    rw [HE.out]
    rintro e w3 ⟨rfl, ho3, hg3⟩
    have HO3 := Lib.hid ho3
    have HG3 := Lib.hid hg3
    clear ho3 hg3
    go_wp2_with fail
    go_ret
    exact ⟨some ⟨g, 0, none⟩, cap, rfl, HO3.out.1, below_grown HB1.out (HG2.out.trans HG3.out) (own_ge HO1.out)⟩
end Go.Proofs.Ytnpgfhoagpeelaa
