/- hook.Set of an empty slice, wherever it points. -/
import Derived.Test.YtnpgfhoagpeelaaAB
namespace Go.Proofs.Ytnpgfhoagpeelaa
open Go.RowKit
open Go.Sort Go.Lib
def AOz (A : Option Addr) (n : Nat) : Prop := AOk A n ∨ (n = 0 ∧ ∃ a, A = some a)
set_option maxRecDepth 100000 in
theorem clone38z {w : World} {a : Addr} {c : Nat} :
    Calls Try.prog 38 #[.slice (some a) 0 c] w fun e w' => ∃ g cap, e = .returned (.slice (some ⟨g, 0, none⟩) 0 cap) ∧ OwnF w' w.heap.size g cap [] ∧ Below w.heap.size w w' := by
  obtain ⟨i0, hi, hz0, hz1, hz2⟩ := info_parts info29'
  have I0 := Lib.hid hi
  have Z0 := Lib.hid hz0
  have S0 := Lib.hid hz1
  have Y0 := Lib.hid hz2
  have HEO : Hid ((w.alloc (.cells #[] 47)).ownsRow w.heap.size 47 32 (.slice (some ⟨w.heap.size, 0, none⟩) 0 0) 0 []) := Lib.hid (empty_own w 47 32)
  have HBA : Hid (Below w.heap.size w (w.alloc (.cells #[] 47))) := Lib.hid ((Below.refl _ _).alloc (Nat.le_refl _) _)
  clear hi hz0 hz1 hz2
  obtain ⟨ab, ao, asp⟩ := a
  have qe : ∀ (w : World) (a : Option Addr) (n c n' c' : Nat), (binOp .eql 34 (.slice a n c) (.slice none n' c')).run Try.prog w = .ok (.bool a.isNone) w := fun w a n c n' c' => Lib.run_eql_slice_nil w _ _ a n c n' c' Try.underlying34
  go_enter Try.func38, Try.ntmps38
  go_wp2_with ((at_builtin; refine wpList_append_own _ rfl (.tmp 5) (.tmp 6) _ rfl w.heap.size 47 i0 _ 32 32 Try.underlying34 I0.out Z0.out S0.out Y0.out (by simp [Value.cells]) (by decide) _ 0 [] rfl HEO.out ⟨ab, ao, asp⟩ 0 c [] rfl rfl (fun j u hj => by cases hj) (fun u hu => by cases hu) (by unfold maxLen; omega) (by omega) HBA.out.size ?_))
  intro v1 w1 hown1 hg1 hne
  obtain ⟨g, cap, rfl, _⟩ := own_some hown1 hne
  have HO := Lib.hid hown1
  have HB : Hid (Below w.heap.size w w1) := Lib.hid (HBA.out.grown hg1 HBA.out.size (fun j e => by simp [Value.ownBlock] at e; omega))
  clear hown1 hg1 hne
  go_wp2_with fail
  go_ret
  exact ⟨g, cap, rfl, ⟨HO.out, fun f hf => by cases hf⟩, HB.out⟩
theorem set27z {w : World} {A : Option Addr} {c : Nat} {s : List Fp} (h : Fps w A s) (ha : AllFp s) (hn : s.length ≤ 1000000) (hA : AOz A s.length) :
    Calls Try.prog 27 #[.slice A s.length c] w fun e w' => ∃ B d, e = .returned (.slice B (setF s).length d) ∧ w'.ownsRow w.heap.size 47 32 (.slice B (setF s).length d) (setF s).length (fsL (setF s)) ∧ Below w.heap.size w w' := by
  rcases hA with hA | ⟨h0, a, rfl⟩
  · exact set47 h ha hn hA
  · obtain rfl := List.length_eq_zero_iff.1 h0
    have HC := Lib.hid (clone38z (w := w) (a := a) (c := c))
    clear h ha h0 hn
    go_enter Try.func27, Try.ntmps27
    go_wp2_with fail
    refine Calls.mono HC.out ?_
    rintro e w1 ⟨g, cap, rfl, ho1, hb1⟩
    have HO1 := Lib.hid ho1
    have HB1 := Lib.hid hb1
    clear ho1 hb1
    go_wp2_with fail
    have HC58 := sort58 (s := []) HO1.out (by show 0 < 4611686018427387904; omega)
    refine Calls.mono HC58 ?_
    clear HC58
    rintro e w2 ⟨rfl, s', hl, hm, hs, ho2, hg2⟩
    have HO2 := Lib.hid ho2
    have HG2 := Lib.hid hg2
    have HL := Lib.hid hl
    have HE : Hid (compactUpTo s'.toArray s'.length = setF []) := Lib.hid (compact_set hm hs)
    clear hl hm hs ho2 hg2
    go_wp2_with fail
    have hl0 : s'.length = 0 := HL.out
    have HC61 := compact61 HO2.out (by rw [hl0]; omega)
    rw [HE.out, hl0] at HC61
    refine Calls.mono HC61 ?_
    rintro e w3 ⟨rfl, ho3, hg3⟩
    have HO3 := Lib.hid ho3
    have HG3 := Lib.hid hg3
    clear ho3 hg3 HC61
    go_wp2_with fail
    go_ret
    exact ⟨some ⟨g, 0, none⟩, cap, rfl, HO3.out.1, below_grown HB1.out (HG2.out.trans HG3.out) (own_ge HO1.out)⟩
end Go.Proofs.Ytnpgfhoagpeelaa
