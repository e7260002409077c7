/- The walk over the reference's Ranks. -/
import Derived.Test.YtijdkgklajdbnaaAS
namespace Go.Proofs.Ytijdkgklajdbnaa
open Go.RowKit
open Go.Sort Go.Lib
theorem allS_mem {a : List Id} {x y : Id} : y ∈ allS a x ↔ y ∈ a ∨ y = x := by
  unfold allS
  split
  · next h => exact ⟨.inl, fun h2 => h2.elim id (fun e => by rw [e]; exact h)⟩
  · rw [List.mem_append, List.mem_singleton]
theorem allL_mem : ∀ {l a : List Id} {y : Id}, y ∈ allL a l ↔ y ∈ a ∨ y ∈ l
  | [], a, y => by simp [allL]
  | x :: l, a, y => by
    show y ∈ allL (allS a x) l ↔ _
    rw [allL_mem, allS_mem, List.mem_cons, or_assoc]
theorem allF_mem : ∀ {L : List (List Id)} {a : List Id} {y : Id}, y ∈ L.foldl allL a ↔ y ∈ a ∨ ∃ l ∈ L, y ∈ l
  | [], a, y => by simp
  | l :: L, a, y => by
    rw [List.foldl_cons, allF_mem, allL_mem, or_assoc]
    simp
theorem allN_mem {L : List (List Id)} {y : Id} : y ∈ allN L ↔ ∃ l ∈ L, y ∈ l := by
  unfold allN
  rw [allF_mem]
  simp
theorem scoreN_pos {L : List (List Id)} {x : Id} : 0 < scoreN L x [] ↔ ∃ l ∈ L, x ∈ l := by
  unfold scoreN
  rw [List.countP_pos_iff]
  simp [scoreB, covB]
structure RankSt (f : Id → Nat) (O S : List Id) : Prop where
  all : ∀ x, 0 < f x ↔ (x ∈ O ∨ x ∈ S)
  srt : O.Pairwise (Before f)
  bef : ∀ o ∈ O, ∀ s ∈ S, Before f o s
theorem RankSt.step {f : Id → Nat} {O S : List Id} (h : RankSt f O S) (hn : 0 < S.length) : RankSt f (O ++ [(bestN f S).1]) (S.filter fun x => decide (x ≠ (bestN f S).1)) ∧ (S.filter fun x => decide (x ≠ (bestN f S).1)).length < S.length := by
  obtain ⟨s, hs⟩ : ∃ s, s ∈ S := ⟨_, List.getElem_mem hn⟩
  have hsp : 0 < f s := (h.all s).2 (.inr hs)
  have hb := best_is f S
  generalize bestN f S = a at *
  rcases hb with ⟨_, h0⟩ | ⟨m1, e1, p1, l1⟩
  · have := h0 s hs; omega
  · have hbf : ∀ x ∈ S, x ≠ a.1 → Before f a.1 x := fun x hx hne => by
      rcases l1 x hx with q | ⟨q1, q2⟩
      · exact .inl (by omega)
      · exact .inr ⟨by omega, Classical.byContradiction (fun q => hne (Int.le_antisymm q2 (Int.not_lt.1 q)))⟩
    refine ⟨⟨fun x => ?_, ?_, fun o ho s hs => ?_⟩, ?_⟩
    · rw [h.all x, List.mem_append, List.mem_singleton, List.mem_filter, decide_eq_true_eq]
      constructor
      · rintro (q | q)
        · exact .inl (.inl q)
        · by_cases e : x = a.1
          · exact .inl (.inr e)
          · exact .inr ⟨q, e⟩
      · rintro ((q | q) | q)
        · exact .inl q
        · exact .inr (by rw [q]; exact m1)
        · exact .inr q.1
    · rw [List.pairwise_append]
      refine ⟨h.srt, List.pairwise_singleton _ _, fun o ho s hs => ?_⟩
      rw [List.mem_singleton] at hs
      subst hs
      exact h.bef o ho _ m1
    · rw [List.mem_filter, decide_eq_true_eq] at hs
      rcases List.mem_append.1 ho with ho | ho
      · exact h.bef o ho s hs.1
      · rw [List.mem_singleton] at ho
        subst ho
        exact hbf s hs.1 hs.2
    · refine Nat.lt_of_le_of_ne (List.length_filter_le ..) (fun e => ?_)
      have := (List.length_filter_eq_length_iff.1 e) a.1 m1
      simp at this
theorem Ids.kept {w w' : World} {A : Option Addr} {l : List Id} {row : Option Nat} (h : Ids w A l) (hg : w.grownBy w' row) (hne : ∀ b o, A = some ⟨b, o, none⟩ → row ≠ some b) : Ids w' A l := fun hx => by
  obtain ⟨b, o, e, hb, hc⟩ := h hx
  exact ⟨b, o, e, Nat.lt_of_lt_of_le hb hg.size, fun j v hj => (hg.cell_far ⟨b, o + j, none⟩ hb (fun q => hne b o e q.symm)).trans (hc j v hj)⟩
set_option maxRecDepth 100000 in
set_option maxHeartbeats 4000000 in
theorem ranks27 {A : Option Addr} {c : Nat} {ls : List Lst} {w : World} (h : Ls w A ls) (hn : ls.length ≤ 1000) (h12 : ∀ x ∈ ls, x.l.length ≤ 12) :
    Calls Try.prog 27 #[.slice A ls.length c] w fun e w' => ∃ B d R, e = .returned (.slice B R.length d) ∧ RankIs (fun x => scoreN (ids ls) x []) R ∧ Ids w' B R ∧ AOk B R.length ∧ Below w.heap.size w w' := by
  have HC35 := Lib.hid (all35 (c := c) h hn (fun x hx => by have := h12 x hx; omega))
  have HC36 : Hid (∀ (W : World) (B : Option Addr) (d : Nat) (S : List Id), Below w.heap.size w W → Ids W B S → S.length ≤ 1000000 → Calls Try.prog 36 #[.slice A ls.length c, .slice B S.length d, .slice none 0 0] W fun e w' => e = .returned (.tuple #[.int .u32 (bestN (fun x => scoreN (ids ls) x []) S).1, .bool (decide (0 < (bestN (fun x => scoreN (ids ls) x []) S).2))]) ∧ ∃ n, w' = W.drewN n) :=
    Lib.hid (fun W B d S hW hS hl => best36 (ch := []) (h.below hW) hS (Ids.nil _ _) hn (fun x hx => by have := h12 x hx; omega) (by simp) hl)
  have HST0 : Hid (RankSt (fun x => scoreN (ids ls) x []) [] (allN (ids ls))) := Lib.hid ⟨fun x => by simp only [scoreN_pos, allN_mem, List.not_mem_nil, false_or], List.Pairwise.nil, fun o ho => nomatch ho⟩
  generalize (fun x => scoreN (ids ls) x []) = f at *
  generalize allN (ids ls) = S0 at *
  obtain ⟨j0, hi, hz0, hz1, hz2⟩ := info_parts info24
  have J0 := Lib.hid hi
  have ZJ0 := Lib.hid hz0
  have SJ0 := Lib.hid hz1
  have YJ0 := Lib.hid hz2
  clear h h12 hi hz0 hz1 hz2 hn
  go_enter Try.func27, Try.ntmps27
  go_wp2_with fail
  refine Calls.mono HC35.out ?_
  rintro e w1 ⟨SA, sd, rfl, hsi, _, hsl, hb1⟩
  have HSI := Lib.hid hsi
  have HB1 := Lib.hid hb1
  have HSL := Lib.hid hsl
  clear hsi hsl hb1
  go_wp2_with fail
  go_loopg [3, 4] S0.length (fun gk vs vo wr => ∃ (O S : List Id) (OA SA : Option Addr) (Oc Sc : Nat), vs = .slice SA S.length Sc ∧ vo = .slice OA O.length Oc ∧ gk = S.length ∧ RankSt f O S ∧ wr.ownsRow w.heap.size 24 1 (.slice OA O.length Oc) O.length (idL O) ∧ Ids wr SA S ∧ (∀ b o, SA = some ⟨b, o, none⟩ → (Value.slice OA O.length Oc).ownBlock ≠ some b) ∧ O.length + S.length ≤ 1000000 ∧ Below w.heap.size w wr)
  case atStart => exact ⟨[], S0, none, SA, 0, sd, rfl, rfl, rfl, HST0.out, World.ownsRow_nil _ _ _ _, HSI.out, (fun b o _ e => by cases e), by have := HSL.out; simpa using this, HB1.out⟩
  case round =>
    obtain ⟨O, S, OA, SA, Oc, Sc, rfl, rfl, hgk, hst, hor, hsi, hap, hlen, hb⟩ := hrel
    have HST := Lib.hid hst
    have HOR := Lib.hid hor
    have HSI2 := Lib.hid hsi
    have HAP := Lib.hid hap
    have HLEN := Lib.hid hlen
    have HB := Lib.hid hb
    have HGK := Lib.hid hgk
    clear hst hor hsi hap hlen hb hgk
    by_cases hlt : 0 < S.length
    · have HNX := Lib.hid (HST.out.step hlt)
      have HC := Lib.hid (HC36.out wr SA Sc S HB.out HSI2.out (by have := HLEN.out; omega))
      generalize bestN f S = bb at *
      have hlti : (0 : Int) < (S.length : Int) := by omega
      have hlen := HLEN.out
      have hw0 := HB.out.size
      have HFT : Hid (∀ (k : Nat) (x : Id), S[k]? = some x → (S.take (k + 1)).filter (fun x => decide (x ≠ bb.1)) = (S.take k).filter (fun x => decide (x ≠ bb.1)) ++ if x ≠ bb.1 then [x] else []) := Lib.hid (fun k x h => by
        rw [List.take_add_one, h, List.filter_append]
        by_cases e : x = bb.1 <;> simp [e])
      have HFE : Hid ((S.take S.length).filter (fun x => decide (x ≠ bb.1)) = S.filter (fun x => decide (x ≠ bb.1))) := Lib.hid (by rw [List.take_length])
      have HFL : Hid (∀ k, ((S.take k).filter (fun x => decide (x ≠ bb.1))).length ≤ S.length) := Lib.hid (fun k => Nat.le_trans (List.length_filter_le ..) (by rw [List.length_take]; exact Nat.min_le_right _ _))
      have HF0 : Hid ((S.take 0).filter (fun x => decide (x ≠ bb.1)) = []) := Lib.hid rfl
      obtain ⟨b1, b2⟩ := bb
      generalize decide (0 < b2) = bd at *
      go_wp2_with (first
        | (go_at_call 36; refine Calls.mono HC.out ?_; rintro e w2 ⟨rfl, n, hw2⟩; have hb2 : Below wr.heap.size wr w2 := (by rw [hw2]; exact below_drewN (Below.refl _ _) n); have HOR2 := Lib.hid (own_below HOR.out hb2); have HSI3 := Lib.hid (HSI2.out.below hb2); have HB2 := Lib.hid (HB.out.trans (hb2.mono hw0)); clear hw2 hb2)
        | (at_builtin; refine wpList_append_own_at _ rfl (.tmp 20) (.tmp 22) _ rfl w.heap.size 24 j0 _ 1 4 Try.underlying30 J0.out ZJ0.out SJ0.out YJ0.out rfl (by decide) _ O.length (idL O) rfl (HOR2.out.alloc _) _ 1 1 [.int .u32 b1] rfl rfl (cell_one_new _ _ _) (by simp [Value.oneCell']) (by simp only [maxLen]; omega) (by omega) (by have := HB2.out.size; simp at this ⊢; omega) ?_; intro v' w6 ho6 hg6 _ hat6; have HO6 := Lib.hid ho6; have HG6 : Hid ((w2.alloc (.cells #[.int .u32 b1] 24)).grownBy w6 (Value.slice OA O.length Oc).ownBlock) := Lib.hid hg6; clear ho6 hg6 hat6)
        | fail)
      obtain ⟨OB, Od, rfl⟩ := own_slice HO6.out
      have HA2 : Hid (Below w2.heap.size w2 (w2.alloc (.cells #[.int .u32 b1] 24))) := Lib.hid ((Below.refl _ _).alloc (Nat.le_refl _) _)
      have HSI6 : Hid (Ids w6 SA S) := Lib.hid ((HSI3.out.below HA2.out).kept HG6.out HAP.out)
      have HB6 : Hid (Below w.heap.size w w6) := Lib.hid ((HB2.out.alloc HB2.out.size _).grown HG6.out (HB2.out.alloc HB2.out.size _).size (fun j hj => (HOR2.out.lt j hj).1))
      have HO7 : Hid (w6.ownsRow w.heap.size 24 1 (.slice OB (O ++ [b1]).length Od) (O ++ [b1]).length (idL (O ++ [b1]))) := Lib.hid (by
        rw [idL_snoc, List.length_append]
        exact HO6.out)
      have hw6 := HB6.out.size
      clear HOR2 HSI3 HB2 HA2 HG6 HO6 HC
      go_loopg [7, 8] S.length (fun gj v j wq => ∃ (k : Nat) (KA : Option Addr) (Kc : Nat), k ≤ S.length ∧ gj = S.length - k ∧ j = .int .i64 k ∧ v = .slice KA ((S.take k).filter fun x => decide (x ≠ b1)).length Kc ∧ wq.ownsRow w6.heap.size 24 1 v ((S.take k).filter fun x => decide (x ≠ b1)).length (idL ((S.take k).filter fun x => decide (x ≠ b1))) ∧ Below w6.heap.size w6 wq)
      case atStart => exact ⟨0, none, 0, Nat.zero_le _, rfl, rfl, by rw [HF0.out]; rfl, by rw [HF0.out]; exact World.ownsRow_nil _ _ _ _, Below.refl _ _⟩
      case round =>
        obtain ⟨k, KA, Kc, hk, hgj, rfl, rfl, hrw, hbq⟩ := hrel
        have HGJ := Lib.hid hgj
        have HRW := Lib.hid hrw
        have HBQ := Lib.hid hbq
        have hfl := HFL.out k
        have hk0 : (0 : Int) ≤ (k : Int) := by omega
        clear hgj hrw hbq
        by_cases hlt2 : k < S.length
        · obtain ⟨x, hx⟩ : ∃ x, S[k]? = some x := ⟨_, List.getElem?_eq_getElem hlt2⟩
          obtain ⟨sb, so, rfl, _, hcc⟩ := (HSI6.out.below HBQ.out).get hx
          have HFS := Lib.hid (HFT.out k x hx)
          have hk1 : (k : Int) < (S.length : Int) := by omega
          generalize (S.take k).filter (fun x => decide (x ≠ b1)) = F at *
          clear hx
          by_cases e : x = b1
          · have he : (x != b1) = false := by simp [e]
            have HFS2 : Hid ((S.take (k + 1)).filter (fun x => decide (x ≠ b1)) = F) := Lib.hid (by rw [HFS.out, if_neg (fun h => h e), List.append_nil])
            clear e
            go_wp2_with fail
            go_roundg (S.length - (k + 1))
            case measure => rw [HGJ.out]; omega
            case rel => exact ⟨k + 1, KA, Kc, by omega, rfl, by go_num, by rw [HFS2.out], by rw [HFS2.out]; exact HRW.out, HBQ.out⟩
          · have he : (x != b1) = true := by simpa using e
            have HFS2 : Hid ((S.take (k + 1)).filter (fun x => decide (x ≠ b1)) = F ++ [x]) := Lib.hid (by rw [HFS.out, if_pos e])
            go_wp2_with (first
              | (at_builtin; refine wpList_append_own_at _ rfl (.tmp 36) (.tmp 41) _ rfl w6.heap.size 24 j0 _ 1 4 Try.underlying30 J0.out ZJ0.out SJ0.out YJ0.out rfl (by decide) _ F.length (idL F) rfl (HRW.out.alloc _) _ 1 1 [.int .u32 x] rfl rfl (cell_one_new _ _ _) (by simp [Value.oneCell']) (by simp only [maxLen]; omega) (by omega) (by have := HBQ.out.size; simp at this ⊢; omega) ?_))
            intro v8 w8 ho8 hg8 _ _
            have HO8 := Lib.hid ho8
            have HG8 : Hid ((wr.alloc (.cells #[.int .u32 x] 24)).grownBy w8 (Value.slice KA F.length Kc).ownBlock) := Lib.hid hg8
            obtain ⟨KB, Kd, rfl⟩ := own_slice ho8
            clear ho8 hg8
            go_wp2_with fail
            have HB8 : Hid (Below w6.heap.size w6 w8) := Lib.hid ((HBQ.out.alloc HBQ.out.size _).grown HG8.out (HBQ.out.alloc HBQ.out.size _).size (fun j hj => (HRW.out.lt j hj).1))
            go_roundg (S.length - (k + 1))
            case measure => rw [HGJ.out]; omega
            case rel =>
              refine ⟨k + 1, KB, Kd, by omega, rfl, by go_num, ?_, ?_, HB8.out⟩
              · rw [HFS2.out, List.length_append]; rfl
              · rw [HFS2.out, idL_snoc, List.length_append]; exact HO8.out
        · obtain rfl : k = S.length := by omega
          rw [HFE.out] at HRW ⊢
          go_wp2_with fail
          go_roundg (S.filter fun x => decide (x ≠ b1)).length
          case measure => rw [HGK.out]; exact HNX.out.2
          case rel =>
            refine ⟨O ++ [b1], S.filter fun x => decide (x ≠ b1), OB, KA, Od, Kc, rfl, by rw [List.length_append]; rfl, rfl, HNX.out.1, own_below HO7.out HBQ.out, row_own HRW.out, ?_, ?_, HB6.out.trans (HBQ.out.mono hw6)⟩
            · intro b o e1 e2
              have q1 := (HO7.out.lt b e2).2
              have q2 := (HRW.out.lt b (by rw [e1]; rfl)).1
              omega
            · have := HNX.out.2
              rw [List.length_append]
              show O.length + 1 + _ ≤ _
              omega
    · have hl0 : S.length = 0 := by omega
      obtain rfl := List.length_eq_zero_iff.1 hl0
      have HR : Hid (RankIs f O) := Lib.hid ⟨fun x => by rw [HST.out.all x]; simp, HST.out.srt⟩
      clear hlt hl0
      go_wp2_with fail
      go_ret
      exact ⟨OA, Oc, O, rfl, HR.out, row_own HOR.out, aok_own HOR.out, HB.out⟩
end Go.Proofs.Ytijdkgklajdbnaa
