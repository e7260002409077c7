/- The walk over ChampRanks. -/
import Derived.Test.YtijdkgklajdbnaaBC
import Derived.Test.YtijdkgklajdbnaaBO
namespace Go.Proofs.Ytijdkgklajdbnaa
open Go.RowKit
set_option maxRecDepth 100000 in
set_option maxHeartbeats 2000000 in
theorem ask29_nil (w : World) : Asked none 0 0 .nilFunc w [] (fun W => Below w.heap.size w W) := by
  have HC := Lib.hid (set47 (w := w) (A := none) (c := 0) (s := []) (Row.nil w none) (fun x hx => nomatch hx) (by decide) (.inl ⟨rfl, rfl⟩))
  unfold Asked
  go_enter Try.func29, Try.ntmps29
  go_wp2_with fail
  refine Calls.mono HC.out ?_
  rintro e w1 ⟨B, d, rfl, ho, hb⟩
  have HB := Lib.hid hb
  clear ho hb
  go_wp2_with fail
  refine wp_loop_rounds 1 ?_
  rw [rounds_succ]
  have hs0 : (setF ([] : List Fp)).length = 0 := rfl
  rw [hs0]
  go_wp2_with fail
  go_ret
  exact ⟨none, 0, [], rfl, rfl, World.ownsRow_nil _ _ _ _, (fun x hx => nomatch hx), (fun x hx => nomatch hx), HB.out⟩
theorem choose_nil (W : World) : Calls Try.prog 18 #[.slice none 0 0, .nilFunc, .int .i64 5] W fun e w' => ∃ C q, e = .returned (.slice C 0 q) ∧ Below W.heap.size W w' := by
  have := choose18 (most := 5) (of := []) (ask29_nil W) (fun X Y h hb => h.trans (hb.mono h.size)) (fun l hl => nomatch hl) (by decide) (fun x hx => by obtain ⟨l, hl, _⟩ := hx; cases hl)
  refine this.mono ?_
  rintro e w' ⟨C, q, he, _, _, hb⟩
  exact ⟨C, q, he, hb⟩
theorem nodup_len : ∀ {R L : List Id}, R.Nodup → (∀ x ∈ R, x ∈ L) → R.length ≤ L.length
  | [], _, _, _ => Nat.zero_le _
  | x :: R, L, hn, hs => by
    have hx := hs x (List.mem_cons_self ..)
    rw [List.nodup_cons] at hn
    have h1 := nodup_len (R := R) (L := L.erase x) hn.2 (fun y hy => (List.mem_erase_of_ne (fun e => hn.1 (by rw [← e]; exact hy))).2 (hs y (List.mem_cons_of_mem _ hy)))
    rw [List.length_erase_of_mem hx] at h1
    have h2 : 0 < L.length := List.length_pos_of_mem hx
    rw [List.length_cons]
    omega
theorem rank_len {L : List (List Id)} {R : List Id} (h : RankIs (fun x => scoreN L x []) R) (hl : L.length ≤ 20) (hm : ∀ l ∈ L, l.length ≤ 1000) : R.length ≤ 1000000 := by
  have h1 : R.Nodup := h.2.imp (fun {a b} q e => by subst e; exact Before.irrefl q)
  have h2 := nodup_len (L := L.flatten) h1 (fun x hx => by
    obtain ⟨l, q1, q2⟩ := scoreN_pos.1 ((h.1 x).1 hx)
    exact List.mem_flatten.2 ⟨l, q1, q2⟩)
  have h3 := flat_len2 L hm
  omega
def cut12 (x : Lst) : Lst := ⟨x.A, x.c, x.l.take 12⟩
theorem cut12_ids {w : World} {x : Lst} (h : Ids w x.A x.l) : Ids w (cut12 x).A (cut12 x).l := h.take 12
set_option maxRecDepth 100000 in
set_option maxHeartbeats 4000000 in
theorem ranks8 {A : Option Addr} {c : Nat} {ls : List Lst} {w : World} (h : Ls w A ls) (hlo : ∀ x ∈ ls, AOkc x) (hid : ∀ x ∈ ls, ∀ y ∈ x.l, IdOk y) :
    Calls Try.prog 8 #[.slice A ls.length c] w fun e w' => e = .returned (.bool true) ∧ Below w.heap.size w w' := by
  have HG : Hid (∀ W, Below w.heap.size w W → ∀ k x, ls[k]? = some x → ∃ b o, A = some ⟨b, o, none⟩ ∧ b < W.heap.size ∧ W.cell? ⟨b, o + k, none⟩ = some (.slice x.A x.l.length x.c) ∧ Ids W x.A x.l ∧ x.l.length ≤ x.c) := Lib.hid (fun W hW k x hk => (h.below hW).get hk)
  have HLO := Lib.hid hlo
  have HID := Lib.hid hid
  have HIN := Lib.hid h.2
  have HTS : Hid (∀ k x, ls[k]? = some x → (ls.take (k + 1)).map cut12 = (ls.take k).map cut12 ++ [cut12 x]) := Lib.hid (fun k x h => by
    rw [List.take_add_one, h]
    simp)
  have HTL : Hid (∀ k, k ≤ ls.length → ((ls.take k).map cut12).length = k) := Lib.hid (fun k hk => by rw [List.length_map, List.length_take]; omega)
  obtain ⟨i30, hi, hz0, hz1, hz2⟩ := info_parts info30
  have I30 := Lib.hid hi
  have Z30 := Lib.hid hz0
  have S30 := Lib.hid hz1
  have Y30 := Lib.hid hz2
  clear h hlo hid hi hz0 hz1 hz2
  go_enter Try.func8, Try.ntmps8
  go_wp2_with fail
  go_loopg [3, 4] 20 (fun gk v i wr => ∃ k : Nat, k ≤ ls.length ∧ k ≤ 20 ∧ gk = 20 - k ∧ i = .int .i64 k ∧ wr.ownsRow w.heap.size 30 1 v k (lsL ((ls.take k).map cut12)) ∧ Below w.heap.size w wr)
  case atStart => exact ⟨0, Nat.zero_le _, Nat.zero_le _, rfl, rfl, World.ownsRow_nil _ _ _ _, Below.refl _ _⟩
  case round =>
    obtain ⟨k, hk1, hk3, hgk, rfl, hro, hb⟩ := hrel
    obtain ⟨XA, XC, rfl⟩ := own_slice hro
    have HK := Lib.hid hgk
    have HRO := Lib.hid hro
    have HB := Lib.hid hb
    clear hgk hro hb
    have hk0 : (0 : Int) ≤ (k : Int) := by omega
    by_cases hlt : k < ls.length ∧ k < 20
    · obtain ⟨hl2, hl3⟩ := hlt
      obtain ⟨y, hy⟩ : ∃ y, ls[k]? = some y := ⟨_, List.getElem?_eq_getElem hl2⟩
      have HGY : Hid (∀ W, Below w.heap.size w W → ∃ b o, A = some ⟨b, o, none⟩ ∧ b < W.heap.size ∧ W.cell? ⟨b, o + k, none⟩ = some (.slice y.A y.l.length y.c) ∧ Ids W y.A y.l ∧ y.l.length ≤ y.c) := Lib.hid (fun W hW => HG.out W hW k y hy)
      have HYO := Lib.hid (HLO.out y (List.mem_of_getElem? hy))
      have HSN := Lib.hid (HTS.out k y hy)
      have hl2i : (k : Int) < (ls.length : Int) := by omega
      have hl3i : (k : Int) < 20 := by omega
      obtain ⟨b2, o2, rfl, _, c2, hyi, hyc⟩ := HGY.out wr HB.out
      clear hy hyi
      obtain ⟨yA, yc, yl⟩ := y
      simp only at *
      obtain ⟨m, hmm⟩ : ∃ m, min yl.length 12 = m := ⟨_, rfl⟩
      have hmi : min (yl.length : Int) 12 = (m : Int) := by omega
      have hm0 : (0 : Int) ≤ (m : Int) := by omega
      have hm1 : m ≤ yl.length := by omega
      have hmc : m ≤ yc := by omega
      have HLV : Hid (lsV (cut12 ⟨yA, yc, yl⟩) = .slice yA m yc) := Lib.hid (by unfold lsV cut12; simp only [List.length_take]; congr 1; omega)
      have HCS : Hid (∀ W, Below w.heap.size w W → W.cell? ⟨b2, o2 + k, none⟩ = some (.slice yA yl.length yc) ∧ True) := Lib.hid (fun W hW => by
        obtain ⟨b', o', e', _, c', _⟩ := HGY.out W hW
        simp only [Option.some.injEq, Addr.mk.injEq] at e'
        obtain ⟨q1, q2, _⟩ := e'
        rw [q1, q2]
        exact ⟨c', trivial⟩)
      have HR0 : Hid (Below w.heap.size w wr.drew) := Lib.hid (below_drew HB.out)
      have HRO0 := Lib.hid (own_below HRO.out (below_drew (Below.refl _ _)))
      clear c2 hyc
      rcases HYO.out with ⟨e1, e2, e3⟩ | ⟨a3, e1⟩
      · simp only at e1 e2 e3
        subst e1; subst e2; subst e3
        obtain rfl : m = 0 := by simpa using hmm.symm
        have hm00 : min (0 : Int) 12 = 0 := by decide
        go_wp2_with fail
        refine wp_region_held_drew (S := (fun W => W.cell? ⟨b2, o2 + k, none⟩ = some (.slice none 0 0) ∧ True)) (by kernel_rfl) ?_ (fun hSx => ?_)
        · exact HCS.out _ HR0.out
        refine wpAnyH_take (i := 0) (oi := ⟨some 15, _, _, _, _, none⟩) (v := ?_) rfl (by kernel_rfl) (by kernel_rfl) (by kernel_rfl) (fun _ _ _ h => h) (Or.inl ⟨by kernel_rfl, ?_⟩) hSx ?_
        rotate_left 1
        focus (intro wx hSw; obtain ⟨s0, s1⟩ := hSw; go_simp; first | done | with_reducible rfl)
        try simp only [Act.put, List.setIfInBounds_toArray, List.set_cons_zero, List.set_cons_succ]
        refine wpAnyH_take (i := 1) (oi := ⟨some 16, _, _, _, _, none⟩) (v := ?_) rfl (by kernel_rfl) (by kernel_rfl) (by kernel_rfl) (fun _ _ _ h => h) (Or.inl ⟨by kernel_rfl, ?_⟩) hSx ?_
        rotate_left 1
        focus (intro wx hSw; obtain ⟨s0, s1⟩ := hSw; go_simp; first | done | with_reducible rfl)
        try simp only [Act.put, List.setIfInBounds_toArray, List.set_cons_zero, List.set_cons_succ]
        refine wpAnyH_take (i := 2) (oi := ⟨some 17, _, _, _, _, none⟩) (v := ?_) rfl (by kernel_rfl) (by kernel_rfl) (by kernel_rfl) (fun _ _ _ h => h) (Or.inl ⟨by kernel_rfl, ?_⟩) hSx ?_
        rotate_left 1
        focus (intro wx hSw; obtain ⟨s0, s1⟩ := hSw; go_simp; first | done | with_reducible rfl)
        try simp only [Act.put, List.setIfInBounds_toArray, List.set_cons_zero, List.set_cons_succ]
        refine wpAnyH_take (i := 3) (oi := ⟨some 18, _, _, _, _, none⟩) (v := ?_) rfl (by kernel_rfl) (by kernel_rfl) (by kernel_rfl) (fun _ _ _ h => h) (Or.inl ⟨by kernel_rfl, ?_⟩) hSx ?_
        rotate_left 1
        focus (intro wx hSw; obtain ⟨s0, s1⟩ := hSw; go_simp; first | done | with_reducible rfl)
        try simp only [Act.put, List.setIfInBounds_toArray, List.set_cons_zero, List.set_cons_succ]
        refine wpAnyH_take (i := 4) (oi := ⟨some 19, _, _, _, _, none⟩) (v := ?_) rfl (by kernel_rfl) (by kernel_rfl) (by kernel_rfl) (fun _ _ _ h => h) (Or.inl ⟨by kernel_rfl, ?_⟩) hSx ?_
        rotate_left 1
        focus (intro wx hSw; obtain ⟨s0, s1⟩ := hSw; go_simp; first | done | with_reducible rfl)
        try simp only [Act.put, List.setIfInBounds_toArray, List.set_cons_zero, List.set_cons_succ]
        refine wpAnyH_take (i := 5) (oi := ⟨some 20, _, _, _, _, none⟩) (v := ?_) rfl (by kernel_rfl) (by kernel_rfl) (by kernel_rfl) (fun _ _ _ h => h) (Or.inl ⟨by kernel_rfl, ?_⟩) hSx ?_
        rotate_left 1
        focus (intro wx hSw; obtain ⟨s0, s1⟩ := hSw; go_simp; first | done | with_reducible rfl)
        try simp only [Act.put, List.setIfInBounds_toArray, List.set_cons_zero, List.set_cons_succ]
        refine wpAnyH_take (i := 6) (oi := ⟨some 21, _, _, _, _, none⟩) (v := ?_) rfl (by kernel_rfl) (by kernel_rfl) (by kernel_rfl) (fun _ _ _ h => h) (Or.inl ⟨by kernel_rfl, ?_⟩) hSx ?_
        rotate_left 1
        focus (intro wx hSw; obtain ⟨s0, s1⟩ := hSw; go_simp; first | done | with_reducible rfl)
        try simp only [Act.put, List.setIfInBounds_toArray, List.set_cons_zero, List.set_cons_succ]
        refine wpAnyH_take (i := 7) (oi := ⟨some 22, _, _, _, _, none⟩) (v := ?_) rfl (by kernel_rfl) (by kernel_rfl) (by kernel_rfl) (fun _ _ _ h => h) (Or.inl ⟨by kernel_rfl, ?_⟩) hSx ?_
        rotate_left 1
        focus (intro wx hSw; obtain ⟨s0, s1⟩ := hSw; go_simp; first | done | with_reducible rfl)
        try simp only [Act.put, List.setIfInBounds_toArray, List.set_cons_zero, List.set_cons_succ]
        refine wpAnyH_take (i := 8) (oi := ⟨some 23, _, _, _, _, none⟩) (v := ?_) rfl (by kernel_rfl) (by kernel_rfl) (by kernel_rfl) (fun _ _ _ h => h) (Or.inl ⟨by kernel_rfl, ?_⟩) hSx ?_
        rotate_left 1
        focus (intro wx hSw; obtain ⟨s0, s1⟩ := hSw; go_simp; first | done | with_reducible rfl)
        try simp only [Act.put, List.setIfInBounds_toArray, List.set_cons_zero, List.set_cons_succ]
        refine wpAnyH_take (i := 9) (oi := ⟨some 24, _, _, _, _, none⟩) (v := ?_) rfl (by kernel_rfl) (by kernel_rfl) (by kernel_rfl) (fun _ _ _ h => h) (Or.inl ⟨by kernel_rfl, ?_⟩) hSx ?_
        rotate_left 1
        focus (intro wx hSw; obtain ⟨s0, s1⟩ := hSw; go_simp; first | done | with_reducible rfl)
        try simp only [Act.put, List.setIfInBounds_toArray, List.set_cons_zero, List.set_cons_succ]
        refine wpAnyH_take (i := 10) (oi := ⟨some 25, _, _, _, _, none⟩) (v := ?_) rfl (by kernel_rfl) (by kernel_rfl) (by kernel_rfl) (fun _ _ _ h => h) (Or.inl ⟨by kernel_rfl, ?_⟩) hSx ?_
        rotate_left 1
        focus (intro wx hSw; obtain ⟨s0, s1⟩ := hSw; go_simp; first | done | with_reducible rfl)
        try simp only [Act.put, List.setIfInBounds_toArray, List.set_cons_zero, List.set_cons_succ]
        refine wpAnyH_take (i := 11) (oi := ⟨some 26, _, _, _, _, none⟩) (v := ?_) rfl (by kernel_rfl) (by kernel_rfl) (by kernel_rfl) (fun _ _ _ h => h) (Or.inl ⟨by kernel_rfl, ?_⟩) hSx ?_
        rotate_left 1
        focus (intro wx hSw; obtain ⟨s0, s1⟩ := hSw; go_simp; first | done | with_reducible rfl)
        try simp only [Act.put, List.setIfInBounds_toArray, List.set_cons_zero, List.set_cons_succ]
        refine wpAnyH_ready (rs := [12]) (by kernel_rfl) (by simp) ?_
        refine AllReadyH.cons (o := ⟨some 27, _, _, _, _, none⟩) rfl (fun KK hKK => ?_) AllReadyH.nil
        go_simp
        have HR3 : Hid (Below w.heap.size w (wr.drew.alloc (.cells #[.slice none 0 0] 30))) := Lib.hid (HR0.out.alloc HR0.out.size _)
        refine hKK.out _ _ (HCS.out _ HR3.out) (fun hSy => ?_)
        clear hKK hSx
        have hSx := hSy
        clear hSy KK
        try simp only [Act.put, List.setIfInBounds_toArray, List.set_cons_zero, List.set_cons_succ]
        refine wpAnyH_ready (rs := [13]) (by kernel_rfl) (by simp) ?_
        refine AllReadyH.cons (o := ⟨some 28, _, _, _, _, none⟩) rfl (fun KK hKK => ?_) AllReadyH.nil
        refine if_wanted rfl ?_
        refine oper_append_at (.tmp 15) (.tmp 27) _ rfl w.heap.size 30 i30 _ 1 24 Try.underlying23 I30.out Z30.out S30.out Y30.out rfl (by decide) _ k (lsL ((ls.take k).map cut12)) rfl (HRO0.out.alloc (.cells #[.slice none 0 0] 30)) ⟨wr.heap.size, 0, none⟩ 1 1 [lsV (cut12 ⟨none, 0, []⟩)] rfl rfl (by rw [HLV.out]; exact new1 wr.drew _ _ _ rfl) (by rw [HLV.out]; simp [Value.oneCell']) (by simp only [maxLen]; omega) (by omega) HR3.out.size ?_
        intro v4 w4 ho4 hg4
        obtain ⟨DA, Dc, rfl⟩ := own_slice ho4
        have HR4 : Hid (Below w.heap.size w w4) := Lib.hid (HR3.out.grown hg4 HR3.out.size (fun j e => (HRO0.out.lt j e).1))
        have HO4 : Hid (w4.ownsRow w.heap.size 30 1 (.slice DA (k + 1) Dc) (k + 1) (lsL ((ls.take k).map cut12 ++ [cut12 ⟨none, 0, []⟩]))) := Lib.hid (by rw [show lsL ((ls.take k).map cut12 ++ [cut12 ⟨none, 0, []⟩]) = lsL ((ls.take k).map cut12) ++ [lsV (cut12 ⟨none, 0, []⟩)] by simp [lsL]]; exact ho4)
        clear ho4 hg4
        refine hKK.out _ _ (HCS.out _ HR4.out) (fun hSy => ?_)
        clear hKK hSx
        have hSx := hSy
        clear hSy KK
        try simp only [Act.put, List.setIfInBounds_toArray, List.set_cons_zero, List.set_cons_succ]
        refine wpAnyH_take (i := 14) (oi := ⟨some 3, _, _, _, _, none⟩) (v := ?_) rfl (by kernel_rfl) (by kernel_rfl) (by kernel_rfl) (fun _ _ _ h => h) (Or.inl ⟨by kernel_rfl, ?_⟩) hSx ?_
        rotate_left 1
        focus (intro wx hSw; obtain ⟨s0, s1⟩ := hSw; go_simp; first | done | with_reducible rfl)
        try simp only [Act.put, List.setIfInBounds_toArray, List.set_cons_zero, List.set_cons_succ]
        refine wpAnyH_done (by kernel_rfl) ?_ _
        go_wp2_with fail
        go_roundg (20 - (k + 1))
        case measure => rw [HK.out]; omega
        case rel => exact ⟨k + 1, by omega, by omega, rfl, by go_num, by rw [HSN.out]; exact HO4.out, HR4.out⟩
      · simp only at e1
        subst e1
        go_wp2_with fail
        refine wp_region_held_drew (S := (fun W => W.cell? ⟨b2, o2 + k, none⟩ = some (.slice (some a3) yl.length yc) ∧ True)) (by kernel_rfl) ?_ (fun hSx => ?_)
        · exact HCS.out _ HR0.out
        refine wpAnyH_take (i := 0) (oi := ⟨some 15, _, _, _, _, none⟩) (v := ?_) rfl (by kernel_rfl) (by kernel_rfl) (by kernel_rfl) (fun _ _ _ h => h) (Or.inl ⟨by kernel_rfl, ?_⟩) hSx ?_
        rotate_left 1
        focus (intro wx hSw; obtain ⟨s0, s1⟩ := hSw; go_simp; first | done | with_reducible rfl)
        try simp only [Act.put, List.setIfInBounds_toArray, List.set_cons_zero, List.set_cons_succ]
        refine wpAnyH_take (i := 1) (oi := ⟨some 16, _, _, _, _, none⟩) (v := ?_) rfl (by kernel_rfl) (by kernel_rfl) (by kernel_rfl) (fun _ _ _ h => h) (Or.inl ⟨by kernel_rfl, ?_⟩) hSx ?_
        rotate_left 1
        focus (intro wx hSw; obtain ⟨s0, s1⟩ := hSw; go_simp; first | done | with_reducible rfl)
        try simp only [Act.put, List.setIfInBounds_toArray, List.set_cons_zero, List.set_cons_succ]
        refine wpAnyH_take (i := 2) (oi := ⟨some 17, _, _, _, _, none⟩) (v := ?_) rfl (by kernel_rfl) (by kernel_rfl) (by kernel_rfl) (fun _ _ _ h => h) (Or.inl ⟨by kernel_rfl, ?_⟩) hSx ?_
        rotate_left 1
        focus (intro wx hSw; obtain ⟨s0, s1⟩ := hSw; go_simp; first | done | with_reducible rfl)
        try simp only [Act.put, List.setIfInBounds_toArray, List.set_cons_zero, List.set_cons_succ]
        refine wpAnyH_take (i := 3) (oi := ⟨some 18, _, _, _, _, none⟩) (v := ?_) rfl (by kernel_rfl) (by kernel_rfl) (by kernel_rfl) (fun _ _ _ h => h) (Or.inl ⟨by kernel_rfl, ?_⟩) hSx ?_
        rotate_left 1
        focus (intro wx hSw; obtain ⟨s0, s1⟩ := hSw; go_simp; first | done | with_reducible rfl)
        try simp only [Act.put, List.setIfInBounds_toArray, List.set_cons_zero, List.set_cons_succ]
        refine wpAnyH_take (i := 4) (oi := ⟨some 19, _, _, _, _, none⟩) (v := ?_) rfl (by kernel_rfl) (by kernel_rfl) (by kernel_rfl) (fun _ _ _ h => h) (Or.inl ⟨by kernel_rfl, ?_⟩) hSx ?_
        rotate_left 1
        focus (intro wx hSw; obtain ⟨s0, s1⟩ := hSw; go_simp; first | done | with_reducible rfl)
        try simp only [Act.put, List.setIfInBounds_toArray, List.set_cons_zero, List.set_cons_succ]
        refine wpAnyH_take (i := 5) (oi := ⟨some 20, _, _, _, _, none⟩) (v := ?_) rfl (by kernel_rfl) (by kernel_rfl) (by kernel_rfl) (fun _ _ _ h => h) (Or.inl ⟨by kernel_rfl, ?_⟩) hSx ?_
        rotate_left 1
        focus (intro wx hSw; obtain ⟨s0, s1⟩ := hSw; go_simp; first | done | with_reducible rfl)
        try simp only [Act.put, List.setIfInBounds_toArray, List.set_cons_zero, List.set_cons_succ]
        refine wpAnyH_take (i := 6) (oi := ⟨some 21, _, _, _, _, none⟩) (v := ?_) rfl (by kernel_rfl) (by kernel_rfl) (by kernel_rfl) (fun _ _ _ h => h) (Or.inl ⟨by kernel_rfl, ?_⟩) hSx ?_
        rotate_left 1
        focus (intro wx hSw; obtain ⟨s0, s1⟩ := hSw; go_simp; first | done | with_reducible rfl)
        try simp only [Act.put, List.setIfInBounds_toArray, List.set_cons_zero, List.set_cons_succ]
        refine wpAnyH_take (i := 7) (oi := ⟨some 22, _, _, _, _, none⟩) (v := ?_) rfl (by kernel_rfl) (by kernel_rfl) (by kernel_rfl) (fun _ _ _ h => h) (Or.inl ⟨by kernel_rfl, ?_⟩) hSx ?_
        rotate_left 1
        focus (intro wx hSw; obtain ⟨s0, s1⟩ := hSw; go_simp; first | done | with_reducible rfl)
        try simp only [Act.put, List.setIfInBounds_toArray, List.set_cons_zero, List.set_cons_succ]
        refine wpAnyH_take (i := 8) (oi := ⟨some 23, _, _, _, _, none⟩) (v := ?_) rfl (by kernel_rfl) (by kernel_rfl) (by kernel_rfl) (fun _ _ _ h => h) (Or.inl ⟨by kernel_rfl, ?_⟩) hSx ?_
        rotate_left 1
        focus (intro wx hSw; obtain ⟨s0, s1⟩ := hSw; go_simp; first | done | with_reducible rfl)
        try simp only [Act.put, List.setIfInBounds_toArray, List.set_cons_zero, List.set_cons_succ]
        refine wpAnyH_take (i := 9) (oi := ⟨some 24, _, _, _, _, none⟩) (v := ?_) rfl (by kernel_rfl) (by kernel_rfl) (by kernel_rfl) (fun _ _ _ h => h) (Or.inl ⟨by kernel_rfl, ?_⟩) hSx ?_
        rotate_left 1
        focus (intro wx hSw; obtain ⟨s0, s1⟩ := hSw; go_simp; first | done | with_reducible rfl)
        try simp only [Act.put, List.setIfInBounds_toArray, List.set_cons_zero, List.set_cons_succ]
        refine wpAnyH_take (i := 10) (oi := ⟨some 25, _, _, _, _, none⟩) (v := ?_) rfl (by kernel_rfl) (by kernel_rfl) (by kernel_rfl) (fun _ _ _ h => h) (Or.inl ⟨by kernel_rfl, ?_⟩) hSx ?_
        rotate_left 1
        focus (intro wx hSw; obtain ⟨s0, s1⟩ := hSw; go_simp; first | done | with_reducible rfl)
        try simp only [Act.put, List.setIfInBounds_toArray, List.set_cons_zero, List.set_cons_succ]
        refine wpAnyH_take (i := 11) (oi := ⟨some 26, _, _, _, _, none⟩) (v := ?_) rfl (by kernel_rfl) (by kernel_rfl) (by kernel_rfl) (fun _ _ _ h => h) (Or.inl ⟨by kernel_rfl, ?_⟩) hSx ?_
        rotate_left 1
        focus (intro wx hSw; obtain ⟨s0, s1⟩ := hSw; go_simp; first | done | with_reducible rfl)
        try simp only [Act.put, List.setIfInBounds_toArray, List.set_cons_zero, List.set_cons_succ]
        refine wpAnyH_ready (rs := [12]) (by kernel_rfl) (by simp) ?_
        refine AllReadyH.cons (o := ⟨some 27, _, _, _, _, none⟩) rfl (fun KK hKK => ?_) AllReadyH.nil
        go_simp
        have HR3 : Hid (Below w.heap.size w (wr.drew.alloc (.cells #[.slice (some a3) m yc] 30))) := Lib.hid (HR0.out.alloc HR0.out.size _)
        refine hKK.out _ _ (HCS.out _ HR3.out) (fun hSy => ?_)
        clear hKK hSx
        have hSx := hSy
        clear hSy KK
        try simp only [Act.put, List.setIfInBounds_toArray, List.set_cons_zero, List.set_cons_succ]
        refine wpAnyH_ready (rs := [13]) (by kernel_rfl) (by simp) ?_
        refine AllReadyH.cons (o := ⟨some 28, _, _, _, _, none⟩) rfl (fun KK hKK => ?_) AllReadyH.nil
        refine if_wanted rfl ?_
        refine oper_append_at (.tmp 15) (.tmp 27) _ rfl w.heap.size 30 i30 _ 1 24 Try.underlying23 I30.out Z30.out S30.out Y30.out rfl (by decide) _ k (lsL ((ls.take k).map cut12)) rfl (HRO0.out.alloc (.cells #[.slice (some a3) m yc] 30)) ⟨wr.heap.size, 0, none⟩ 1 1 [lsV (cut12 ⟨some a3, yc, yl⟩)] rfl rfl (by rw [HLV.out]; exact new1 wr.drew _ _ _ rfl) (by rw [HLV.out]; simp [Value.oneCell']) (by simp only [maxLen]; omega) (by omega) HR3.out.size ?_
        intro v4 w4 ho4 hg4
        obtain ⟨DA, Dc, rfl⟩ := own_slice ho4
        have HR4 : Hid (Below w.heap.size w w4) := Lib.hid (HR3.out.grown hg4 HR3.out.size (fun j e => (HRO0.out.lt j e).1))
        have HO4 : Hid (w4.ownsRow w.heap.size 30 1 (.slice DA (k + 1) Dc) (k + 1) (lsL ((ls.take k).map cut12 ++ [cut12 ⟨some a3, yc, yl⟩]))) := Lib.hid (by rw [show lsL ((ls.take k).map cut12 ++ [cut12 ⟨some a3, yc, yl⟩]) = lsL ((ls.take k).map cut12) ++ [lsV (cut12 ⟨some a3, yc, yl⟩)] by simp [lsL]]; exact ho4)
        clear ho4 hg4
        refine hKK.out _ _ (HCS.out _ HR4.out) (fun hSy => ?_)
        clear hKK hSx
        have hSx := hSy
        clear hSy KK
        try simp only [Act.put, List.setIfInBounds_toArray, List.set_cons_zero, List.set_cons_succ]
        refine wpAnyH_take (i := 14) (oi := ⟨some 3, _, _, _, _, none⟩) (v := ?_) rfl (by kernel_rfl) (by kernel_rfl) (by kernel_rfl) (fun _ _ _ h => h) (Or.inl ⟨by kernel_rfl, ?_⟩) hSx ?_
        rotate_left 1
        focus (intro wx hSw; obtain ⟨s0, s1⟩ := hSw; go_simp; first | done | with_reducible rfl)
        try simp only [Act.put, List.setIfInBounds_toArray, List.set_cons_zero, List.set_cons_succ]
        refine wpAnyH_done (by kernel_rfl) ?_ _
        go_wp2_with fail
        go_roundg (20 - (k + 1))
        case measure => rw [HK.out]; omega
        case rel => exact ⟨k + 1, by omega, by omega, rfl, by go_num, by rw [HSN.out]; exact HO4.out, HR4.out⟩
    · have HLK := Lib.hid (HTL.out k hk1)
      have HLS : Hid (Ls wr XA ((ls.take k).map cut12)) := Lib.hid ⟨row_own HRO.out, fun x hx => by
        obtain ⟨z, hz, rfl⟩ := List.mem_map.1 hx
        have hq := (HIN.out.below HB.out) z (List.mem_of_mem_take hz)
        exact ⟨cut12_ids hq.1, by show (z.l.take 12).length ≤ z.c; rw [List.length_take]; omega⟩⟩
      have HL12 : Hid (∀ x ∈ (ls.take k).map cut12, x.l.length ≤ 12) := Lib.hid (fun x hx => by
        obtain ⟨z, hz, rfl⟩ := List.mem_map.1 hx
        show (z.l.take 12).length ≤ 12
        rw [List.length_take]
        omega)
      have HLI : Hid (∀ x ∈ (ls.take k).map cut12, ∀ y ∈ x.l, IdOk y) := Lib.hid (fun x hx y hy => by
        obtain ⟨z, hz, rfl⟩ := List.mem_map.1 hx
        exact HID.out z (List.mem_of_mem_take hz) y (List.mem_of_mem_take hy))
      have HC26 := Lib.hid (ranks26 (c := XC) HLS.out (by rw [HLK.out]; omega) HL12.out HLI.out)
      have HC27 := Lib.hid (fun (W : World) (hW : Below wr.heap.size wr W) => ranks27 (c := XC) (HLS.out.below hW) (by rw [HLK.out]; omega) HL12.out)
      have HRL : Hid (∀ R, RankIs (fun x => scoreN (ids ((ls.take k).map cut12)) x []) R → R.length ≤ 1000000) := Lib.hid (fun R hR => rank_len hR (by rw [ids_len, HLK.out]; exact hk3) (fun l hl => by
        obtain ⟨x, hx, rfl⟩ := List.mem_map.1 hl
        have := HL12.out x hx
        omega))
      rw [rank_all] at HC26
      rw [HLK.out] at HC26 HC27
      generalize (fun x => scoreN (ids ((ls.take k).map cut12)) x []) = f at *
      by_cases h2 : k < ls.length
      · have h2i : (k : Int) < (ls.length : Int) := by omega
        have h3i : ¬ (k : Int) < 20 := by omega
        clear hlt
        go_wp2_with (first
          | (go_at_call 26; refine Calls.mono HC26.out ?_; rintro e w2 ⟨RB, rd, R, rfl, hrk, hri, _, hb2⟩; have HRK := Lib.hid hrk; have HRI := Lib.hid hri; have HB2 := Lib.hid hb2; have hrl := HRL.out R hrk; clear hrk hri hb2)
          | (go_at_call 27; refine Calls.mono (HC27.out w2 HB2.out) ?_; rintro e w3 ⟨SB, sd, R', rfl, hrk', hri', _, hb3⟩; obtain rfl := RankIs.unique hrk' HRK.out; have HRI2 := Lib.hid (HRI.out.below hb3); have HRI3 := Lib.hid hri'; have HB3 : Hid (Below w.heap.size w w3) := Lib.hid (HB.out.trans ((HB2.out.trans (hb3.mono HB2.out.size)).mono HB.out.size)); clear hrk' hri' hb3)
          | (go_at_call 20; have hsm := same20 (c := rd) (d := sd) HRI2.out HRI3.out hrl; rw [decide_eq_true rfl] at hsm; refine Calls.mono hsm ?_; rintro e w4 ⟨rfl, nq, hw4⟩; have HB4 : Hid (Below w.heap.size w w4) := Lib.hid (by rw [hw4]; exact below_drewN HB3.out nq); clear hsm hw4)
          | (go_at_call 18; refine Calls.mono (choose_nil _) ?_; rintro e w5 ⟨C5, q5, rfl, hb5⟩; have HB5 : Hid (Below w.heap.size w w5) := Lib.hid (HB4.out.trans (hb5.mono HB4.out.size)); clear hb5)
          | (go_at_call 14; refine Calls.mono (awakeW HB5.out) ?_; rintro e w6 ⟨rfl, hb6⟩; have HB6 := Lib.hid hb6; clear hb6))
        go_ret
        exact ⟨rfl, HB6.out⟩
      · have h2i : ¬ (k : Int) < (ls.length : Int) := by omega
        clear hlt
        go_wp2_with (first
          | (go_at_call 26; refine Calls.mono HC26.out ?_; rintro e w2 ⟨RB, rd, R, rfl, hrk, hri, _, hb2⟩; have HRK := Lib.hid hrk; have HRI := Lib.hid hri; have HB2 := Lib.hid hb2; have hrl := HRL.out R hrk; clear hrk hri hb2)
          | (go_at_call 27; refine Calls.mono (HC27.out w2 HB2.out) ?_; rintro e w3 ⟨SB, sd, R', rfl, hrk', hri', _, hb3⟩; obtain rfl := RankIs.unique hrk' HRK.out; have HRI2 := Lib.hid (HRI.out.below hb3); have HRI3 := Lib.hid hri'; have HB3 : Hid (Below w.heap.size w w3) := Lib.hid (HB.out.trans ((HB2.out.trans (hb3.mono HB2.out.size)).mono HB.out.size)); clear hrk' hri' hb3)
          | (go_at_call 20; have hsm := same20 (c := rd) (d := sd) HRI2.out HRI3.out hrl; rw [decide_eq_true rfl] at hsm; refine Calls.mono hsm ?_; rintro e w4 ⟨rfl, nq, hw4⟩; have HB4 : Hid (Below w.heap.size w w4) := Lib.hid (by rw [hw4]; exact below_drewN HB3.out nq); clear hsm hw4)
          | (go_at_call 18; refine Calls.mono (choose_nil _) ?_; rintro e w5 ⟨C5, q5, rfl, hb5⟩; have HB5 : Hid (Below w.heap.size w w5) := Lib.hid (HB4.out.trans (hb5.mono HB4.out.size)); clear hb5)
          | (go_at_call 14; refine Calls.mono (awakeW HB5.out) ?_; rintro e w6 ⟨rfl, hb6⟩; have HB6 := Lib.hid hb6; clear hb6))
        go_ret
        exact ⟨rfl, HB6.out⟩
end Go.Proofs.Ytijdkgklajdbnaa
