/- The walk over awake. -/
import Derived.Test.YtijdkgklajdbnaaAW
namespace Go.Proofs.Ytijdkgklajdbnaa
open Go.RowKit
theorem row_new (W : World) (xs : List Value) (t : TypeId) (g : Nat) (hg : g = W.heap.size) : Row (W.alloc (.cells xs.toArray t)) (some ⟨g, 0, none⟩) xs := fun _ => by
  subst hg
  refine ⟨_, 0, rfl, by rw [World.size_alloc]; omega, fun j v hj => ?_⟩
  rw [Nat.zero_add, cell_of_row _ _ j _ t (0, 0) (heap_alloc_new _ _)]
  simpa using hj
theorem awake_rank {R : List Id} (h : RankIs (rankF [[1, 2], [2], [3]]) R) : R = [2, 3, 1] := by
  refine h.unique ⟨fun x => ?_, ?_⟩
  · rw [rankF_pos]
    simp only [List.mem_cons, List.not_mem_nil, or_false]
    constructor
    · rintro (rfl | rfl | rfl)
      · exact ⟨[1, 2], .inl rfl, by simp⟩
      · exact ⟨[3], .inr (.inr rfl), by simp⟩
      · exact ⟨[1, 2], .inl rfl, by simp⟩
    · rintro ⟨l, rfl | rfl | rfl, hx⟩
      · simp only [List.mem_cons, List.not_mem_nil, or_false] at hx
        exact hx.elim (fun e => .inr (.inr e)) (fun e => .inl e)
      · simp only [List.mem_cons, List.not_mem_nil, or_false] at hx
        exact .inl hx
      · simp only [List.mem_cons, List.not_mem_nil, or_false] at hx
        exact .inr (.inl hx)
  · rw [rank_all]
    simp only [List.pairwise_cons, List.mem_cons, List.not_mem_nil, or_false, List.Pairwise.nil, and_true, false_implies, implies_true]
    refine ⟨?_, ?_⟩
    · rintro x (rfl | rfl)
      · exact .inl (by decide)
      · exact .inl (by decide)
    · rintro x rfl
      exact .inr ⟨by decide, by decide⟩
set_option maxRecDepth 100000 in
set_option maxHeartbeats 2000000 in
theorem awake14 (w : World) : Calls Try.prog 14 #[] w fun e w' => e = .returned (.bool true) ∧ Below w.heap.size w w' := by
  have hb1 : ∀ W o, Below W.heap.size W (W.alloc o) := fun W o => (Below.refl _ _).alloc (Nat.le_refl _) _
  have HC : Hid (∀ W : World, W = (((w.alloc (.cells #[.int .u32 1, .int .u32 2] 24)).alloc (.cells #[.int .u32 2] 24)).alloc (.cells #[.int .u32 3] 24)).alloc (.cells #[.slice (some ⟨w.heap.size, 0, none⟩) 2 2, .slice (some ⟨w.heap.size + 1, 0, none⟩) 1 1, .slice (some ⟨w.heap.size + 2, 0, none⟩) 1 1] 30) →
      Below w.heap.size w W ∧ Calls Try.prog 26 #[.slice (some ⟨w.heap.size + 3, 0, none⟩) 3 3] W fun e w' => ∃ B d, e = .returned (.slice B 3 d) ∧ Ids w' B [2, 3, 1] ∧ Below W.heap.size W w') := Lib.hid (by
    rintro W rfl
    have s1 := hb1 w (.cells #[.int .u32 1, .int .u32 2] 24)
    have s2 := hb1 (w.alloc (.cells #[.int .u32 1, .int .u32 2] 24)) (.cells #[.int .u32 2] 24)
    have s3 := hb1 ((w.alloc (.cells #[.int .u32 1, .int .u32 2] 24)).alloc (.cells #[.int .u32 2] 24)) (.cells #[.int .u32 3] 24)
    have s4 := hb1 (((w.alloc (.cells #[.int .u32 1, .int .u32 2] 24)).alloc (.cells #[.int .u32 2] 24)).alloc (.cells #[.int .u32 3] 24)) (.cells #[.slice (some ⟨w.heap.size, 0, none⟩) 2 2, .slice (some ⟨w.heap.size + 1, 0, none⟩) 1 1, .slice (some ⟨w.heap.size + 2, 0, none⟩) 1 1] 30)
    have i1 : Ids (w.alloc (.cells #[.int .u32 1, .int .u32 2] 24)) (some ⟨w.heap.size, 0, none⟩) [1, 2] := row_new w _ 24 _ rfl
    have i2 : Ids ((w.alloc (.cells #[.int .u32 1, .int .u32 2] 24)).alloc (.cells #[.int .u32 2] 24)) (some ⟨w.heap.size + 1, 0, none⟩) [2] := row_new _ _ 24 _ (by rw [World.size_alloc])
    have i3 : Ids (((w.alloc (.cells #[.int .u32 1, .int .u32 2] 24)).alloc (.cells #[.int .u32 2] 24)).alloc (.cells #[.int .u32 3] 24)) (some ⟨w.heap.size + 2, 0, none⟩) [3] := row_new _ _ 24 _ (by rw [World.size_alloc, World.size_alloc])
    have hr := row_new (((w.alloc (.cells #[.int .u32 1, .int .u32 2] 24)).alloc (.cells #[.int .u32 2] 24)).alloc (.cells #[.int .u32 3] 24)) [.slice (some ⟨w.heap.size, 0, none⟩) 2 2, .slice (some ⟨w.heap.size + 1, 0, none⟩) 1 1, .slice (some ⟨w.heap.size + 2, 0, none⟩) 1 1] 30 (w.heap.size + 3) (by simp only [World.size_alloc])
    have j1 := ((i1.below s2).below s3).below s4
    have j2 := (i2.below s3).below s4
    have j3 := i3.below s4
    have hbw := s1.trans ((s2.trans ((s3.trans (s4.mono s3.size)).mono s2.size)).mono s1.size)
    refine ⟨hbw, ?_⟩
    generalize (((w.alloc (.cells #[.int .u32 1, .int .u32 2] 24)).alloc (.cells #[.int .u32 2] 24)).alloc (.cells #[.int .u32 3] 24)).alloc (.cells #[.slice (some ⟨w.heap.size, 0, none⟩) 2 2, .slice (some ⟨w.heap.size + 1, 0, none⟩) 1 1, .slice (some ⟨w.heap.size + 2, 0, none⟩) 1 1] 30) = W at *
    have hls : Ls W (some ⟨w.heap.size + 3, 0, none⟩) [⟨some ⟨w.heap.size, 0, none⟩, 2, [1, 2]⟩, ⟨some ⟨w.heap.size + 1, 0, none⟩, 1, [2]⟩, ⟨some ⟨w.heap.size + 2, 0, none⟩, 1, [3]⟩] := by
      refine ⟨hr, ?_⟩
      intro x hx
      simp only [List.mem_cons, List.not_mem_nil, or_false] at hx
      rcases hx with rfl | rfl | rfl
      · exact ⟨j1, Nat.le_refl _⟩
      · exact ⟨j2, Nat.le_refl _⟩
      · exact ⟨j3, Nat.le_refl _⟩
    have hall : ∀ x ∈ [(⟨some ⟨w.heap.size, 0, none⟩, 2, [1, 2]⟩ : Lst), ⟨some ⟨w.heap.size + 1, 0, none⟩, 1, [2]⟩, ⟨some ⟨w.heap.size + 2, 0, none⟩, 1, [3]⟩], AOk x.A x.l.length ∧ x.l.length ≤ 12 ∧ ∀ y ∈ x.l, IdOk y := by
      intro x hx
      simp only [List.mem_cons, List.not_mem_nil, or_false] at hx
      rcases hx with rfl | rfl | rfl
      · refine ⟨.inr ⟨_, _, rfl⟩, by simp, ?_⟩
        intro y hy
        simp only [List.mem_cons, List.not_mem_nil, or_false] at hy
        rcases hy with rfl | rfl <;> exact ⟨by decide, by decide⟩
      · refine ⟨.inr ⟨_, _, rfl⟩, by simp, ?_⟩
        intro y hy
        simp only [List.mem_cons, List.not_mem_nil, or_false] at hy
        subst hy
        exact ⟨by decide, by decide⟩
      · refine ⟨.inr ⟨_, _, rfl⟩, by simp, ?_⟩
        intro y hy
        simp only [List.mem_cons, List.not_mem_nil, or_false] at hy
        subst hy
        exact ⟨by decide, by decide⟩
    refine (ranks26 (c := 3) hls (by simp) (fun x hx => (hall x hx).2.1) (fun x hx => (hall x hx).2.2)).mono ?_
    rintro e w' ⟨B, d, R, rfl, hrk, hri, _, hb⟩
    obtain rfl := awake_rank hrk
    exact ⟨B, d, rfl, hri, hb⟩)
  clear hb1
  go_enter Try.func14, Try.ntmps14
  go_wp2_with (first
    | (go_at_call 26; refine Calls.mono (HC.out _ rfl).2 ?_; rintro e w1 ⟨B, d, rfl, hri, hb⟩; have HRI := Lib.hid hri; have HB := Lib.hid ((HC.out _ rfl).1.trans (hb.mono (HC.out _ rfl).1.size)); clear hri hb)
    | (go_at_call 20; refine Calls.mono (same20 (l := [2, 3, 1]) (m := [2, 3, 1]) (HRI.out.below ((Below.refl _ _).alloc (Nat.le_refl _) _)) (row_new w1 _ 24 _ rfl) (by decide)) ?_; rintro e w3 ⟨rfl, q, rfl⟩))
  go_ret
  exact ⟨rfl, below_drewN (HB.out.alloc HB.out.size _) q⟩
end Go.Proofs.Ytijdkgklajdbnaa
