/- A list of numbers, cloned, sorted, each once. -/
import Derived.Test.YtijdkgklajdbnaaAM
namespace Go.Proofs.Ytijdkgklajdbnaa
open Go.RowKit
open Go.Sort Go.Lib
theorem sort64_none (c : Nat) (w : World) : Calls Try.prog 64 #[.slice none 0 c, .int .i64 0, .int .i64 0] w fun e w' => e = .returned (.tuple #[]) ∧ w' = w := by
  go_enter Try.func64, Try.ntmps64
  go_wp2_with fail
  refine wp_loop_rounds 1 ?_
  rw [rounds_succ]
  go_wp2_with fail
  exact bodyPost_end (results_none rfl _ _ _) rfl ⟨rfl, rfl⟩
theorem sort64_empty (A : Option Addr) (c : Nat) (w : World) : Calls Try.prog 64 #[.slice A 0 c, .int .i64 0, .int .i64 0] w fun e w' => e = .returned (.tuple #[]) ∧ w' = w := by
  go_enter Try.func64, Try.ntmps64
  go_wp2_with fail
  refine wp_loop_rounds 1 ?_
  rw [rounds_succ]
  go_wp2_with fail
  exact bodyPost_end (results_none rfl _ _ _) rfl ⟨rfl, rfl⟩
/-- a row of numbers of the call's own -/
def OwnI (w : World) (base : Nat) (v : Value) (l : List Id) : Prop := w.ownsRow base 24 1 v l.length (idL l)
theorem grown_none {w w' : World} {row : Option Nat} (h : w' = w) : w.grownBy w' row := by subst h; exact ⟨rfl, rfl, rfl, Nat.le_refl _, fun _ _ _ => rfl⟩
theorem isort64 {w : World} {base : Nat} {A : Option Addr} {c : Nat} {l : List Id} (h : OwnI w base (.slice A l.length c) l) (hn : l.length ≤ 12) :
    Calls Try.prog 64 #[.slice A l.length c, .int .i64 0, .int .i64 l.length] w fun e w' => e = .returned (.tuple #[]) ∧ OwnI w' base (.slice A l.length c) (ord key l) ∧ w.grownBy w' (Value.slice A l.length c).ownBlock := by
  by_cases h0 : l.length = 0
  · obtain rfl := List.length_eq_zero_iff.1 h0
    refine (sort64_empty A c w).mono ?_
    rintro e w' ⟨he, rfl⟩
    exact ⟨he, h, grown_none rfl⟩
  · obtain ⟨g, cap, e, _⟩ := own_some h (fun e => by
      injection e with _ e _
      exact h0 e)
    injection e with e1 _ e3
    subst e1 e3
    have q := sort64 (W := w) (base := base) (g := g) (cap := c) (names := l) h hn (by omega)
    refine q.mono ?_
    rintro e w' ⟨he, h2, h3⟩
    refine ⟨he, ?_, h3⟩
    unfold OwnI
    rw [ord_len]
    exact h2
set_option maxRecDepth 100000 in
set_option maxHeartbeats 1000000 in
theorem pdq52 {w : World} {base : Nat} {A : Option Addr} {c : Nat} {l : List Id} {lim : Int} (h : OwnI w base (.slice A l.length c) l) (hn : l.length ≤ 12) :
    Calls Try.prog 52 #[.slice A l.length c, .int .i64 0, .int .i64 l.length, .int .i64 lim] w fun e w' => e = .returned (.tuple #[]) ∧ OwnI w' base (.slice A l.length c) (ord key l) ∧ w.grownBy w' (Value.slice A l.length c).ownBlock := by
  have HC := Lib.hid (isort64 h hn)
  have h12 : (l.length : Int) ≤ 12 := by omega
  clear h
  go_enter Try.func52, Try.ntmps52
  go_wp2_with fail
  refine wp_loop_rounds 1 ?_
  rw [rounds_succ]
  go_wp2_with fail
  refine Calls.mono HC.out ?_
  rintro e w1 ⟨rfl, h1, h2⟩
  have H1 := Lib.hid h1
  have H2 := Lib.hid h2
  clear h1 h2
  go_wp2_with fail
  (try simp only [Exit.inBlock, Exit.then]); refine bodyPost_ret (results_none rfl _ _ _) rfl ?_
  exact ⟨rfl, H1.out, H2.out⟩
set_option maxRecDepth 100000 in
set_option maxHeartbeats 1000000 in
theorem sort40 {w : World} {base : Nat} {A : Option Addr} {c : Nat} {l : List Id} (h : OwnI w base (.slice A l.length c) l) (hn : l.length ≤ 12) :
    Calls Try.prog 40 #[.slice A l.length c] w fun e w' => e = .returned (.tuple #[]) ∧ OwnI w' base (.slice A l.length c) (ord key l) ∧ w.grownBy w' (Value.slice A l.length c).ownBlock := by
  have HC := Lib.hid (fun lim => pdq52 (lim := lim) h hn)
  have HL := Lib.hid (Try.bits_Len (l.length : Int) w (by omega) (by omega))
  have hcv : IntKind.u64.wrap (l.length : Int) = (l.length : Int) := by
    have := IntWalk.u64_in (l.length : Int)
    exact this (by omega)
  clear h
  go_enter Try.func40, Try.ntmps40
  go_wp2_with fail
  refine Calls.mono HL.out ?_
  rintro e w1 ⟨rfl, rfl⟩
  go_wp2_with fail
  refine Calls.mono (HC.out _) ?_
  rintro e w2 ⟨rfl, h1, h2⟩
  have H1 := Lib.hid h1
  have H2 := Lib.hid h2
  clear h1 h2
  go_wp2_with fail
  exact bodyPost_end (results_none rfl _ _ _) rfl ⟨rfl, H1.out, H2.out⟩
set_option maxRecDepth 100000 in
theorem clone39 {A : Option Addr} {c : Nat} {l : List Id} {w : World} (h : Ids w A l) (hA : AOk A l.length) (hn : l.length ≤ 1000000) :
    Calls Try.prog 39 #[.slice A l.length c] w fun e w' => ∃ B d, e = .returned (.slice B l.length d) ∧ OwnI w' w.heap.size (.slice B l.length d) l ∧ Below w.heap.size w w' := by
  rcases hA with ⟨rfl, h0⟩ | ⟨b, o, rfl⟩
  · obtain rfl := List.length_eq_zero_iff.1 h0
    exact (Try.slices_Clone_nil_f39 0 c w).mono (fun e w' h => ⟨none, 0, h.1, World.ownsRow_nil _ _ _ _, by rw [h.2]; exact Below.refl _ _⟩)
  · obtain ⟨i0, hi0, hz0, hz1, hz2⟩ := info_parts info24
    have q := Try.slices_Clone_f39 i0 _ 1 4 hi0 hz0 hz1 hz2 (by rfl) (by decide) (fun w => Try.sizeOf24 w) b o l.length c (idL l) w (by rw [idL_len]; omega) (by unfold maxLen; omega) (by omega) (fun j v hj => by
      obtain ⟨b', o', e, _, hc⟩ := h (fun e => by rw [e] at hj; cases hj)
      injection e with e
      injection e with e1 e2
      subst e1 e2
      exact hc j v hj) (idL_one l)
    refine q.mono ?_
    rintro e w' ⟨v, rfl, h1, h2, h3⟩
    obtain ⟨g, cap, rfl, _⟩ := own_some h1 h2
    exact ⟨some ⟨g, 0, none⟩, cap, rfl, h1, h3⟩
def dsL (l : List Id) : List Id := compactUpTo (ord key l).toArray (ord key l).length
theorem ord_sort (l : List Id) : (ord key l).Pairwise (· ≤ ·) := by
  induction l using snoc_ind with
  | h0 => exact List.Pairwise.nil
  | h1 l x ih =>
    rw [ord_snoc]
    unfold ins
    generalize ord key l = O at *
    have e := List.takeWhile_append_dropWhile (p := fun y => decide (key y < key x)) (l := O.reverse)
    have h1 : ∀ y ∈ O.reverse.takeWhile (fun y => decide (key y < key x)), x < y := fun y hy => by
      have := List.all_eq_true.1 (List.all_takeWhile (p := fun y => decide (key y < key x)) (l := O.reverse)) y hy
      exact key_lt.1 (by simpa using this)
    have hr : O.reverse.Pairwise (fun a b => b ≤ a) := List.pairwise_reverse.2 ih
    rw [← e] at hr
    have hp := List.pairwise_append.1 hr
    have h2 : ∀ y ∈ O.reverse.dropWhile (fun y => decide (key y < key x)), y ≤ x := fun y hy => by
      cases hd : O.reverse.dropWhile (fun y => decide (key y < key x)) with
      | nil => rw [hd] at hy; cases hy
      | cons z r =>
        have hz : ¬ (decide (key z < key x) = true) := by
          have := List.head?_dropWhile_not (p := fun y => decide (key y < key x)) (l := O.reverse)
          rw [hd] at this
          simpa using this
        have hzx : z ≤ x := Int.not_lt.1 (fun h => hz (by simpa using key_lt.2 h))
        rw [hd] at hy hp
        rcases List.mem_cons.1 hy with rfl | hy
        · exact hzx
        · exact Int.le_trans ((List.pairwise_cons.1 hp.2.1).1 y hy) hzx
    refine List.pairwise_append.2 ⟨List.pairwise_reverse.2 hp.2.1, List.pairwise_cons.2 ⟨fun y hy => ?_, List.pairwise_reverse.2 hp.1⟩, fun a ha b hb => ?_⟩
    · exact Int.le_of_lt (h1 y (List.mem_reverse.1 hy))
    · rcases List.mem_cons.1 hb with rfl | hb
      · exact h2 a (List.mem_reverse.1 ha)
      · exact hp.2.2 b (List.mem_reverse.1 hb) a (List.mem_reverse.1 ha)
theorem getI {s : List Id} {k : Nat} {f : Id} (h : s[k]? = some f) : s.toArray[k]! = f := by
  obtain ⟨h1, h2⟩ := List.getElem?_eq_some_iff.1 h
  rw [getElem!_pos s.toArray k (by simpa using h1)]
  simpa using h2
theorem dsL_mem {l : List Id} {x : Id} : x ∈ dsL l ↔ x ∈ l := by
  rw [← ord_mem (key := key) (l := l)]
  unfold dsL
  generalize ord key l = s
  unfold compactUpTo
  rw [List.mem_map]
  refine ⟨fun ⟨j, hj, e⟩ => ?_, fun hx => ?_⟩
  · have hjl := List.mem_range.1 (List.mem_filter.1 hj).1
    rw [← e, getI (List.getElem?_eq_getElem hjl)]
    exact List.getElem_mem hjl
  · obtain ⟨j, hj⟩ := List.getElem?_of_mem hx
    have hjl := (List.getElem?_eq_some_iff.1 hj).1
    have k2 : ∀ n j, j ≤ n → j < s.length → s.toArray[j]! = x → ∃ i, i ∈ (List.range s.length).filter (keeps s.toArray) ∧ s.toArray[i]! = x := fun n => by
      induction n with
      | zero => exact fun j h1 h2 h3 => ⟨j, List.mem_filter.2 ⟨List.mem_range.2 h2, keeps_lt_one _ j (by omega)⟩, h3⟩
      | succ n ih =>
        intro j h1 h2 h3
        by_cases hk : keeps s.toArray j = true
        · exact ⟨j, List.mem_filter.2 ⟨List.mem_range.2 h2, hk⟩, h3⟩
        · have hj0 : j ≠ 0 := fun e => hk (keeps_lt_one _ j (by omega))
          have he : s.toArray[j]! = s.toArray[j - 1]! := by
            refine Classical.byContradiction fun hn => hk (keeps_pos hn)
          exact ih (j - 1) (by omega) (by omega) (by rw [← he]; exact h3)
    exact k2 j j (Nat.le_refl _) hjl (getI hj)
theorem dsL_nodup (l : List Id) : (dsL l).Nodup := by
  have hs := ord_sort l
  unfold dsL
  generalize ord key l = s at *
  unfold compactUpTo List.Nodup
  rw [List.pairwise_map]
  refine List.Pairwise.imp_of_mem (R := fun i j => i < j) ?_ (List.Pairwise.filter _ List.pairwise_lt_range)
  intro i j hi hj hlt
  obtain ⟨hjr, hjk⟩ := List.mem_filter.1 hj
  have hjl := List.mem_range.1 hjr
  have hmon : ∀ i j, i ≤ j → j < s.length → s.toArray[i]! ≤ s.toArray[j]! := fun i j hij hj => by
    rcases Nat.lt_or_ge i j with hlt | hge
    · rw [getI (List.getElem?_eq_getElem hj), getI (List.getElem?_eq_getElem (show i < s.length by omega))]
      exact List.pairwise_iff_getElem.1 hs i j (by omega) hj hlt
    · rw [show i = j by omega]; exact Int.le_refl _
  have h1 := hmon i (j - 1) (by omega) (by omega)
  have h2 := hmon (j - 1) j (by omega) hjl
  have hne : s.toArray[j]! ≠ s.toArray[j - 1]! := by
    unfold keeps at hjk
    intro e
    rw [e] at hjk
    simp at hjk
    omega
  intro e
  rw [e] at h1
  exact hne (Int.le_antisymm h1 h2)
theorem dsL_len (l : List Id) : (dsL l).length ≤ l.length := by
  unfold dsL
  rw [← ord_len key l]
  generalize ord key l = s
  unfold compactUpTo
  rw [List.length_map]
  exact Nat.le_trans (List.length_filter_le ..) (by rw [List.length_range]; exact Nat.le_refl _)
theorem compact41_few {A : Option Addr} {n c : Nat} {w : World} (h : n < 2) : Calls Try.prog 41 #[.slice A n c] w fun e w' => e = .returned (.slice A n c) ∧ w' = w := by
  have hi : (n : Int) < 2 := by omega
  go_enter Try.func41, Try.ntmps41
  go_wp2_with fail
  go_ret
  exact ⟨rfl, rfl⟩
theorem compact_few {s : List Id} (h : s.length < 2) : compactUpTo s.toArray s.length = s := compact_all s (fun j hj => keeps_lt_one _ j (by omega))
set_option maxRecDepth 100000 in
theorem compact41 {w : World} {base : Nat} {A : Option Addr} {c : Nat} {s : List Id} (h : OwnI w base (.slice A s.length c) s) (hn : s.length ≤ 1000000) :
    Calls Try.prog 41 #[.slice A s.length c] w fun e w' => ∃ c', e = .returned (.slice A (compactUpTo s.toArray s.length).length c') ∧ OwnI w' base (.slice A (compactUpTo s.toArray s.length).length c') (compactUpTo s.toArray s.length) ∧ w.grownBy w' (Value.slice A s.length c).ownBlock := by
  by_cases h2 : s.length < 2
  · rw [compact_few h2]
    exact (compact41_few h2).mono (fun e w' q => ⟨c, q.1, by rw [q.2]; exact h, grown_none q.2⟩)
  · have hcap := own_cap h
    obtain ⟨g, cap, e1, _, _, _, _, _, hH⟩ := Lib.holds_of_ownsRow (enc := Value.int .u32) (zs := s) h (fun e => by
      injection e with _ e _
      omega)
    injection e1 with e1 _ e3
    subst e1
    subst e3
    have q := AnyE.slices_Compact Try.compactU (Value.int .u32) (fun _ => rfl) (EqlAt.intD _ _ _) (NeqAt.intD _ _ _) 0 (fun w => Try.zeroValue24 w) g 0 c s.toArray w hH (by rw [List.size_toArray]; omega) (by rw [List.size_toArray]; exact hcap)
    change Calls Try.prog 41 _ _ _ at q
    rw [List.size_toArray] at q
    refine q.mono ?_
    rintro e w' ⟨he, qn, rfl⟩
    have hle : (compactUpTo s.toArray s.length).length ≤ s.length := by
      unfold compactUpTo
      rw [List.length_map]
      exact Nat.le_trans (List.length_filter_le ..) (by rw [List.length_range]; exact Nat.le_refl _)
    refine ⟨c, he, ?_, ?_⟩
    · have h3 := Lib.ownsRow_putRow (enc := Value.int .u32) (q := qn) (k := (compactUpTo s.toArray s.length).length) (zs := s) h (ys := compactUpTo s.toArray s.length ++ List.replicate (s.length - (compactUpTo s.toArray s.length).length) 0) (by rw [List.length_append, List.length_replicate]; omega) hle
      rw [List.take_append_of_le_length (Nat.le_refl _), List.take_length] at h3
      exact h3
    · refine ⟨rfl, rfl, rfl, by simp [putRow, mapBlock, Sort.ahead], fun k hk hne => ?_⟩
      have : g ≠ k := fun e => hne (by rw [← e]; rfl)
      simp [putRow, mapBlock, Sort.ahead, Array.getElem?_modify, this]
end Go.Proofs.Ytijdkgklajdbnaa
