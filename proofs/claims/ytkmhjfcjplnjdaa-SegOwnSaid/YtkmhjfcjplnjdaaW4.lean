/- The walks over few, the two All functions, same, Same. -/
import Derived.Test.YtkmhjfcjplnjdaaW3
namespace Go.Proofs.Ytkmhjfcjplnjdaa
open Go.RowKit
theorem ownsRow_slice {W : World} {base : Nat} {e : TypeId} {size : Nat} {v : Value} {k : Nat} {xs : List Value} (h : W.ownsRow base e size v k xs) : ∃ A c, v = .slice A k c ∧ (A = none → k = 0) ∧ ∀ a, A = some a → ∃ g, a = ⟨g, 0, none⟩ ∧ base ≤ g ∧ g < W.heap.size := by
  rcases h.2 with ⟨hv, h0⟩ | ⟨g, cap, cur, hv, hb, hh, _⟩
  · exact ⟨none, 0, by rw [hv, h0], fun _ => h0, fun a ha => by cases ha⟩
  · exact ⟨some ⟨g, 0, none⟩, cap, hv, fun ha => (by cases ha), fun a ha => ⟨g, by injection ha with ha; exact ha.symm, hb, (Array.getElem?_eq_some_iff.1 hh).1⟩⟩
/-- numbers -/
def intsL (ns : List Nat) : List Value := ns.map fun (n : Nat) => Value.int .i64 (n : Int)
set_option maxHeartbeats 400000 in
theorem few8 (A : Option Addr) (n c : Nat) (hnc : n ≤ c) (hc : c ≤ 9223372036854775807) (w : World) :
    Calls Try.prog 8 #[.slice A n c] w fun e w' => e = .returned (.slice A (min n 600) c) ∧ w = w' := by
  by_cases h : 600 < n
  · rw [show min n 600 = 600 by omega]
    go_enter Try.func8, Try.ntmps8
    have h1 : (600 : Int) ≤ (c : Int) := by omega
    have h2 : ¬ c = 0 := by omega
    go_wp2
    go_ret
    exact ⟨rfl, rfl⟩
  · rw [show min n 600 = n by omega]
    go_enter Try.func8, Try.ntmps8
    go_wp2
    go_ret
    exact ⟨rfl, rfl⟩
/-- the slice value reads as numbers, and is of the call's own -/
def IntsAt (w : World) (base : Nat) (v : Value) (ns : List Nat) : Prop := w.ownsRow base 3 1 v ns.length (intsL ns)
def AllPost (ns : List Nat) (w : World) (e : Ending) (w' : World) : Prop := ∃ v, e = .returned v ∧ IntsAt w' w.heap.size v ns ∧ Below w.heap.size w w'
def lens (ss : List (List Fp)) : List Nat := ss.map List.length
set_option maxRecDepth 100000 in
set_option maxHeartbeats 1000000 in
theorem segAll (x : CfX) (A : Option Addr) (n c : Nat) (fs : List Fp) (w : World) (hl : Fps w w.heap.size A n fs) (hn : n ≤ 1000000) (hnc : n ≤ c) :
    Calls Try.prog 14 #[.slice A n c, .agg x.A] w (AllPost (lens (split x.c fs)) w) := by
  obtain ⟨i3, hi3, hz3, hs3, hy3⟩ := info_parts info3
  have I3 := Lib.hid hi3
  have Z3 := Lib.hid hz3
  have S3 := Lib.hid hs3
  have Y3 := Lib.hid hy3
  clear hi3 hz3 hs3 hy3
  have HL := Lib.hid hl
  clear hl
  go_enter Try.func14, Try.ntmps14
  go_wp2_with (first
    | (go_at_call 15; refine (segSplit x A n c fs _ (HL.out.alloc (Nat.le_refl _) _ |>.more (by simp)) hn hnc).mono ?_; rintro e w1 ⟨v, gs, rfl, hss, hb1⟩; obtain ⟨A1, c1, rfl, hA0, hA1⟩ := ownsRow_slice hss.2.2.1))
  have hlen := split_len x.c fs
  have hfl := HL.out.1
  have HSS := Lib.hid hss
  have hb0 : Below w.heap.size w w1 := ((Below.refl _ _).alloc (Nat.le_refl _) _).trans (hb1.mono (by simp))
  clear hss hb1
  generalize split x.c fs = ss at *
  have hlen2 : ss.length ≤ n := by omega
  clear hfl hlen
  go_loopw [5, 7, 12] (fun v _ i wr => ∃ k : Nat, k ≤ ss.length ∧ i = .int .i64 k ∧ wr.ownsRow w1.heap.size 3 1 v k (intsL (lens (ss.take k))) ∧ Below w1.heap.size w1 wr) (fun _ _ i _ => ss.length - (intOf i).toNat)
  case atStart => exact ⟨0, Nat.zero_le _, rfl, World.ownsRow_nil _ _ _ _, Below.refl _ _⟩
  case round =>
    obtain ⟨k, hk, rfl, hown, hbw⟩ := hrel
    have HOWN := Lib.hid hown
    clear hown
    by_cases hlt : k < ss.length
    · obtain ⟨g, cap, s, gv, cv, hs, hg, hO, hv, hgv, hgl, hcell⟩ := HSS.out.get hlt
      injection hv with e1 e2 e3
      subst e1
      clear e2 e3
      have hc1 : wr.cell? ⟨gv, k, none⟩ = some (.slice (some ⟨g, 0, none⟩) s.length cap) := (hbw.cell (p := ⟨gv, k, none⟩) hgl).trans hcell
      have HCC := Lib.hid (And.intro hs hcell)
      clear hs hg hO hcell
      go_wp2_with (first
        | (at_builtin; refine wpList_append_own _ rfl (.tmp 16) (.tmp 19) _ rfl w1.heap.size 3 i3 _ 1 8 Try.underlying30 I3.out Z3.out S3.out Y3.out rfl (by decide) _ k (intsL (lens (ss.take k))) rfl ?own2 _ 1 1 [.int .i64 s.length] rfl rfl ?hnews2 ?one2 ?h632 ?hby2 ?hbase2 ?_))
      case own2 => exact HOWN.out.alloc _
      case hnews2 =>
        intro j u hu
        match j, hu with
        | 0, hu => simp at hu; subst hu; simp [Addr.add]
      case one2 => intro u hu; simp at hu; subst hu; rfl
      case h632 => simp only [maxLen]; omega
      case hby2 => omega
      case hbase2 => have := hbw.size; simp; omega
      intro v3 w3 hown3 hg3 hnil3
      clear hnil3
      have hb3 : Below w1.heap.size w1 w3 := (hbw.alloc hbw.size _).grown hg3 (by have := hbw.size; simp; omega) (fun q hq => (HOWN.out.lt q hq).1)
      have HO3 : Hid (w3.ownsRow w1.heap.size 3 1 v3 (k + 1) (intsL (lens (ss.take (k + 1))))) := by
        have : intsL (lens (ss.take (k + 1))) = intsL (lens (ss.take k)) ++ [.int .i64 s.length] := by
          rw [List.take_add_one, HCC.out.1]
          simp [intsL, lens]
        show World.ownsRow _ _ _ _ _ _ _
        rw [this]; exact hown3
      clear hown3 hg3
      go_wp2
      go_roundw
      case rel => exact ⟨k + 1, by omega, by go_num, HO3.out, hb3⟩
      case measure => simp [intOf]; omega
    · obtain rfl : k = ss.length := by omega
      go_wp2
      go_ret
      refine ⟨_, rfl, ?_, hb0.trans (hbw.mono hb0.size)⟩
      have := HOWN.out
      rw [List.take_length] at this
      simpa [IntsAt, lens, intsL] using ownsRow_base this hb0.size

theorem slice_eq {A : Option Addr} {a a' b b' : Nat} (h1 : a = a') (h2 : b = b') : Value.slice A a b = Value.slice A a' b' := by rw [h1, h2]
theorem info24c : (Try.prog.info? 24).map (·.size) = some 13 := by kernel_rfl
theorem info24 (x : CfX) : (Try.prog.info? 24).map (·.size) = some x.A.size := info24c
theorem cutN_may {c : Cf} (h : may c = true) (l : List Fp) : cutN c l = cutF c 0 l := by rw [cutN, if_pos h]
set_option maxRecDepth 100000 in
set_option maxHeartbeats 1000000 in
theorem refAll (x : CfX) (A : Option Addr) (n c : Nat) (fs : List Fp) (w : World) (hl : Fps w w.heap.size A n fs) (hn : n ≤ 1000000) (hnc : n ≤ c) :
    Calls Try.prog 17 #[.slice A n c, .agg x.A] w (AllPost (lens (split x.c fs)) w) := by
  obtain ⟨i3, hi3, hz3, hs3, hy3⟩ := info_parts info3
  have I3 := Lib.hid hi3
  have Z3 := Lib.hid hz3
  have S3 := Lib.hid hs3
  have Y3 := Lib.hid hy3
  clear hi3 hz3 hs3 hy3
  have hM := refMay x
  by_cases hc : may x.c = true
  · rw [hc] at hM
    have HM := Lib.hid hM
    clear hM
    have HL := Lib.hid hl
    clear hl
    have Hc := Lib.hid hc
    clear hc
    go_enter Try.func17, Try.ntmps17
    go_wp2_with (first
      | (go_at_call 10; refine (HM.out _).mono ?_; rintro e w1 ⟨rfl, rfl⟩))
    go_loopg [0, 5, 6] n (fun gk l v _ wr => ∃ (q c' : Nat) (ns : List Nat) (A' : Option Addr), q ≤ n ∧ n - q ≤ c' ∧ gk = n - q ∧ l = .slice A' (n - q) c' ∧ Fps w w.heap.size A' (n - q) (fs.drop q) ∧ wr.ownsRow (w.heap.size + 1 + 1) 3 1 v ns.length (intsL ns) ∧ Below (w.heap.size + 1 + 1) ((w.alloc (.cells x.A 24)).alloc (.cells x.A 24)) wr ∧
      lens (segs x.c n fs) = ns ++ lens (segs x.c (n - q) (fs.drop q)) ∧ ns.length ≤ q)
    case atStart => exact ⟨0, c, [], A, Nat.zero_le _, by omega, rfl, rfl, HL.out, World.ownsRow_nil _ _ _ _, Below.refl _ _, rfl, Nat.zero_le _⟩
    case round =>
      obtain ⟨q, c', ns, A', hq, hqc, hgk, rfl, hl', hown, hbw, hsg, hsl⟩ := hrel
      have HL' := Lib.hid hl'
      have HOWN := Lib.hid hown
      have HG := Lib.hid hsg
      have HK := Lib.hid hgk
      clear hl' hown hsg hgk
      have hb0 : Below w.heap.size w wr := (((Below.refl _ _).alloc (Nat.le_refl _) _).alloc (by simp) _).trans (hbw.mono (by omega))
      by_cases hlt : q < n
      · have hpos : 0 < n - q := by omega
        obtain ⟨b, o, rfl, hbb, hr⟩ := HL'.out.2.2 hpos
        clear hr
        have HBK : Hid (wr.heap[w.heap.size]? = some (.cells x.A 24)) := (hbw.block _ (by omega)).trans ((Below.heap_alloc _ _ _ (by simp)).trans (heap_alloc_new _ _))
        have hne : fs.drop q ≠ [] := by
          intro e
          have := HL'.out.1
          rw [e] at this
          simp at this
          omega
        have hcut : cutN x.c (fs.drop q) = cutF x.c 0 (fs.drop q) := cutN_may Hc.out _
        have hC := refCut x (some ⟨b, o, none⟩) (n - q) c' (fs.drop q) wr ((HL'.out.below hb0).more hb0.size) (by omega)
        rw [hcut] at hC
        have hfN := firstN_pos x.c (fs.drop q) hne
        rw [HL'.out.1] at hfN
        have hsF := segs_firstN x.c (fs.drop q) (n - q) hne (by rw [HL'.out.1]; exact Nat.le_refl _)
        clear hcut hne
        obtain ⟨m, hm⟩ : ∃ m, m = firstN x.c (fs.drop q) := ⟨_, rfl⟩
        rw [← hm] at hfN hsF
        have HSF := Lib.hid hsF
        clear hsF
        have hfin : ∀ (v3 : Value) (w1 w3 : World), Below wr.heap.size wr w1 → w3.ownsRow (w.heap.size + 1 + 1) 3 1 v3 (ns.length + 1) (intsL ns ++ [.int .i64 (m : Int)]) → (w1.alloc (.cells #[.int .i64 (m : Int)] 3)).grownBy w3 u5.ownBlock →
            ∀ (A2 : Option Addr), Fps w w.heap.size A2 (n - (q + m)) (fs.drop (q + m)) →
            Fps w w.heap.size A2 (n - (q + m)) (fs.drop (q + m)) ∧ w3.ownsRow (w.heap.size + 1 + 1) 3 1 v3 (ns ++ [m]).length (intsL (ns ++ [m])) ∧ Below (w.heap.size + 1 + 1) ((w.alloc (.cells x.A 24)).alloc (.cells x.A 24)) w3 ∧
      lens (segs x.c n fs) = (ns ++ [m]) ++ lens (segs x.c (n - (q + m)) (fs.drop (q + m))) ∧ (ns ++ [m]).length ≤ q + m := by
          intro v3 w1 w3 hb1 ho hg A2 hF
          refine ⟨hF, ?_, ?_, ?_, ?_⟩
          · rw [List.length_append, List.length_singleton]; simpa [intsL] using ho
          · have h1 : Below (w.heap.size + 1 + 1) ((w.alloc (.cells x.A 24)).alloc (.cells x.A 24)) w1 := hbw.trans (hb1.mono (by have := hbw.size; simpa using this))
            exact (h1.alloc (by have := h1.size; simpa using this) _).grown hg (by have := h1.size; simp at this ⊢; omega) (fun k hk => (HOWN.out.lt k hk).1)
          · rw [HG.out]
            have := HSF.out
            unfold lens at this ⊢
            rw [this, List.drop_drop, List.length_drop, HL.out.1]
            simp
          · rw [List.length_append, List.length_singleton]; omega
        have HFIN := Lib.hid hfin
        clear hfin
        have hFps : Fps w w.heap.size (if c' = m then some ⟨b, o, none⟩ else some ⟨b, o + m * 32, none⟩) (n - (q + m)) (fs.drop (q + m)) := by
          have h1 := HL'.out.drop m hfN.2
          rw [List.drop_drop, show n - q - m = n - (q + m) by omega] at h1
          split
          · refine ⟨h1.1, h1.2.1, fun h0 => ?_⟩
            omega
          · exact h1
        have HFPS := Lib.hid hFps
        clear hFps
        by_cases hz : cutF x.c 0 (fs.drop q) = 0
        · have hm2 : m = n - q := by rw [hm, firstN, if_pos hz, HL'.out.1]
          rw [hz] at hC
          have HC := Lib.hid hC
          clear hC hz hm
          subst hm2
          go_wp2_with (first
            | ((with_reducible refine wpList_load_row (o := ⟨some 15, _, _, _, _, _⟩) rfl 24 (.tmp 3) rfl w.heap.size ?_ 24 x.A (0, 0) _ HBK.out Try.underlying24 rfl (info24 x) ?_); rfl)
            | (go_at_call 12; refine HC.out.mono ?_; rintro e w1 ⟨rfl, hb1⟩)
            | (at_builtin; refine wpList_append_own _ rfl (.tmp 21) (.tmp 23) _ rfl (w.heap.size + 1 + 1) 3 i3 _ 1 8 Try.underlying30 I3.out Z3.out S3.out Y3.out rfl (by decide) _ ns.length (intsL ns) rfl ?own2 _ 1 1 [.int .i64 ((n - q : Nat) : Int)] rfl rfl ?hnews2 ?one2 ?h632 ?hby2 ?hbase2 ?_))
          case own2 => exact (HOWN.out.kept ⟨hb1.os, hb1.tape, hb1.output, hb1.size, fun k hk _ => hb1.block k hk⟩ (row := none) (by cases u5.ownBlock <;> simp)).alloc _
          case hnews2 =>
            intro j u hu
            match j, hu with
            | 0, hu => simp at hu; subst hu; simp [Addr.add]
          case one2 => intro u hu; simp at hu; subst hu; rfl
          case h632 => simp only [maxLen]; omega
          case hby2 => omega
          case hbase2 => have h1 := hbw.size; have h2 := hb1.size; simp at h1 ⊢; omega
          intro v3 w3 hown3 hg3 hnil3
          clear hnil3
          obtain ⟨f1, f2, f3, f4, f5⟩ := HFIN.out v3 w1 w3 hb1 hown3 hg3 _ HFPS.out
          have F := Lib.hid (And.intro f1 (And.intro f2 f4))
          clear f1 f2 f4 hown3 hg3
          by_cases hcm : c' = (n - q)
          · have hF1 := F.out.1
            rw [if_pos hcm] at hF1
            have F1 := Lib.hid hF1
            have HCM := Lib.hid hcm
            clear hF1
            go_wp2
            go_roundg (n - (q + (n - q)))
            case measure => rw [HK.out]; omega
            case rel => exact ⟨q + (n - q), 0, _, _, by omega, by omega, rfl, slice_eq (by omega) (by omega), F1.out, F.out.2.1, f3, F.out.2.2, f5⟩
          · have hF1 := F.out.1
            rw [if_neg hcm] at hF1
            have F1 := Lib.hid hF1
            clear hF1
            go_wp2
            go_roundg (n - (q + (n - q)))
            case measure => rw [HK.out]; omega
            case rel => exact ⟨q + (n - q), c' - (n - q), _, _, by omega, by omega, rfl, slice_eq (by omega) (by omega), F1.out, F.out.2.1, f3, F.out.2.2, f5⟩
        · have hm2 : cutF x.c 0 (fs.drop q) = m := by rw [hm, firstN, if_neg hz]
          rw [hm2] at hC hz
          have hz2 : ((m : Int) == 0) = false := by simpa using hz
          have HC := Lib.hid hC
          clear hC hz hm hm2
          go_wp2_with (first
            | ((with_reducible refine wpList_load_row (o := ⟨some 15, _, _, _, _, _⟩) rfl 24 (.tmp 3) rfl w.heap.size ?_ 24 x.A (0, 0) _ HBK.out Try.underlying24 rfl (info24 x) ?_); rfl)
            | (go_at_call 12; refine HC.out.mono ?_; rintro e w1 ⟨rfl, hb1⟩)
            | (at_builtin; refine wpList_append_own _ rfl (.tmp 21) (.tmp 23) _ rfl (w.heap.size + 1 + 1) 3 i3 _ 1 8 Try.underlying30 I3.out Z3.out S3.out Y3.out rfl (by decide) _ ns.length (intsL ns) rfl ?own2 _ 1 1 [.int .i64 (m : Int)] rfl rfl ?hnews2 ?one2 ?h632 ?hby2 ?hbase2 ?_))
          case own2 => exact (HOWN.out.kept ⟨hb1.os, hb1.tape, hb1.output, hb1.size, fun k hk _ => hb1.block k hk⟩ (row := none) (by cases u5.ownBlock <;> simp)).alloc _
          case hnews2 =>
            intro j u hu
            match j, hu with
            | 0, hu => simp at hu; subst hu; simp [Addr.add]
          case one2 => intro u hu; simp at hu; subst hu; rfl
          case h632 => simp only [maxLen]; omega
          case hby2 => omega
          case hbase2 => have h1 := hbw.size; have h2 := hb1.size; simp at h1 ⊢; omega
          intro v3 w3 hown3 hg3 hnil3
          clear hnil3
          obtain ⟨f1, f2, f3, f4, f5⟩ := HFIN.out v3 w1 w3 hb1 hown3 hg3 _ HFPS.out
          have F := Lib.hid (And.intro f1 (And.intro f2 f4))
          clear f1 f2 f4 hown3 hg3
          by_cases hcm : c' = m
          · have hF1 := F.out.1
            rw [if_pos hcm] at hF1
            have F1 := Lib.hid hF1
            have HCM := Lib.hid hcm
            clear hF1
            go_wp2
            go_roundg (n - (q + m))
            case measure => rw [HK.out]; omega
            case rel => exact ⟨q + m, 0, _, _, by omega, by omega, rfl, slice_eq (by omega) (by omega), F1.out, F.out.2.1, f3, F.out.2.2, f5⟩
          · have hF1 := F.out.1
            rw [if_neg hcm] at hF1
            have F1 := Lib.hid hF1
            clear hF1
            go_wp2
            go_roundg (n - (q + m))
            case measure => rw [HK.out]; omega
            case rel => exact ⟨q + m, c' - m, _, _, by omega, by omega, rfl, slice_eq (by omega) (by omega), F1.out, F.out.2.1, f3, F.out.2.2, f5⟩
      · obtain rfl : q = n := by omega
        have hz0 : ¬ 0 < q - q := by omega
        go_wp2
        go_ret
        refine ⟨_, rfl, ?_, hb0⟩
        have h1 := HG.out
        rw [show q - q = 0 by omega] at h1
        have h2 : lens (split x.c fs) = ns := by
          rw [split, if_pos Hc.out, HL.out.1, h1]; simp [segs, lens]
        rw [h2]
        exact ownsRow_base HOWN.out (by omega)
  · have hc' : may x.c = false := by simpa using hc
    rw [hc'] at hM
    have HM := Lib.hid hM
    have hsp : split x.c fs = [] := by rw [split, if_neg hc]
    have HSP := Lib.hid hsp
    clear hM hc hc' hl hsp
    go_enter Try.func17, Try.ntmps17
    go_wp2_with (first
      | (go_at_call 10; refine (HM.out _).mono ?_; rintro e w1 ⟨rfl, rfl⟩))
    go_ret
    exact ⟨_, rfl, by rw [HSP.out]; exact World.ownsRow_nil _ _ _ _, ((Below.refl _ _).alloc (Nat.le_refl _) _).alloc (by simp) _⟩
end Go.Proofs.Ytkmhjfcjplnjdaa
