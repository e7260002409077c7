/- The walk over SegAll. -/
import Derived.Test.YtkmhjfcjplnjdaaW9
namespace Go.Proofs.Ytkmhjfcjplnjdaa
open Go.RowKit
/-- what SegAll has at its loop -/
structure AllAt (x : CfX) (w : World) (A1 : Option Addr) (v : Value) (ss : List (List Fp)) (gs : List (Nat × Nat)) (wr : World) : Prop where
  ints : Ints wr wr.heap.size A1 ss.length (lens ss)
  segs : SegsAt wr w.heap.size v ss gs
  box : Boxed x w wr
theorem Ints.more {w : World} {B B' n : Nat} {A : Option Addr} {ns : List Nat} (h : Ints w B A n ns) (hB : B ≤ B') : Ints w B' A n ns :=
  ⟨h.1, fun hn => by
    obtain ⟨b, o, e, hl, hc⟩ := h.2 hn
    exact ⟨b, o, e, by omega, hc⟩⟩
theorem AllAt.below {x : CfX} {w : World} {A1 : Option Addr} {v : Value} {ss : List (List Fp)} {gs : List (Nat × Nat)} {w1 w2 : World} (h : AllAt x w A1 v ss gs w1) (hb : Below w1.heap.size w1 w2) : AllAt x w A1 v ss gs w2 :=
  ⟨(h.ints.below hb).more hb.size, h.segs.keep hb, h.box.below hb⟩
theorem SegsAt.base {w : World} {base base' : Nat} {v : Value} {ss : List (List Fp)} {gs : List (Nat × Nat)} (h : SegsAt w base v ss gs) (hb : base' ≤ base) : SegsAt w base' v ss gs :=
  ⟨h.1, h.2.1, ownsRow_base h.2.2.1 hb, fun i g s h1 h2 => (h.2.2.2 i g s h1 h2).base hb⟩
theorem hookSame_ne (A1 A2 : Option Addr) (n1 n2 c1 c2 : Nat) (w : World) (h : ((n1 : Int) != (n2 : Int)) = true) : Calls Try.prog 18 #[.slice A1 n1 c1, .slice A2 n2 c2] w fun e w' => e = .returned (.bool false) ∧ w = w' := by
  go_enter Try.func18, Try.ntmps18
  go_wp2
  go_ret
  exact ⟨rfl, rfl⟩
theorem take_flat {ss : List (List Fp)} {k : Nat} {s : List Fp} (h : ss[k]? = some s) : (ss.take (k + 1)).flatten = (ss.take k).flatten ++ s := by
  rw [List.take_add_one, h]
  simp
theorem fpsL_append (a b : List Fp) : fpsL (a ++ b) = fpsL a ++ fpsL b := by simp [fpsL]
theorem ownsRow_fps {w : World} {base n : Nat} {v : Value} {fs : List Fp} (h : w.ownsRow base 37 32 v n (fpsL fs)) (hn : fs.length = n) (hf : ∀ f ∈ fs, IsFp f) : ∃ A c, v = .slice A n c ∧ Fps w w.heap.size A n fs := by
  obtain ⟨A, c, hv, h0, h1⟩ := ownsRow_slice h
  refine ⟨A, c, hv, hn, hf, fun hp => ?_⟩
  cases A with
  | none => have := h0 rfl; omega
  | some a =>
    obtain ⟨g, rfl, _, hl⟩ := h1 a rfl
    subst hv
    exact ((OwnFps.fps (w := w) (base := base) (g := g) (cap := c) (s := fs) ⟨by rw [hn]; exact h, hf⟩ hl).2.2) (by omega)
set_option maxRecDepth 100000 in
set_option maxHeartbeats 4000000 in
theorem segAllLaw (x : CfX) (A : Option Addr) (n c : Nat) (fs : List Fp) (w : World) (hl : Fps w w.heap.size A n fs) (hnc : n ≤ c) (hcc : c ≤ 9223372036854775807) :
    Calls Try.prog 4 #[.slice A n c, .agg x.A] w (LawPost w) := by
  have HL := Lib.hid (hl.take (k := min n 600) (by omega))
  have hm6 : min n 600 ≤ 600 := by omega
  have hmc : min n 600 ≤ c := by omega
  clear hl
  have c8 := few8 A n c hnc hcc
  have C8 := Lib.hid c8
  clear c8
  generalize min n 600 = m at *
  generalize fs.take m = ts at *
  have HB0 : Hid (Boxed x w (w.alloc (.cells x.A 24))) := Boxed.new x w
  obtain ⟨i37, hi37a, hz37, hs37, hy37⟩ := info_parts info37'
  have I37 := Lib.hid hi37a
  have Z37 := Lib.hid hz37
  have S37 := Lib.hid hs37
  have Y37 := Lib.hid hy37
  clear hi37a hz37 hs37 hy37
  obtain ⟨ss, hss⟩ : ∃ ss, split x.c ts = ss := ⟨_, rfl⟩
  have hsl := split_len x.c ts
  rw [HL.out.1, hss] at hsl
  have c14 : Hid (∀ W, Boxed x w W → Calls Try.prog 14 #[.slice A m c, .agg x.A] W fun e W' => ∃ A1 c1, e = .returned (.slice A1 ss.length c1) ∧ Ints W' W'.heap.size A1 ss.length (lens ss) ∧ Boxed x w W') := fun W hB => (segAll x A m c ts W (hB.fps HL.out) (by omega) hmc).mono fun e W' ⟨v, he, hi, hb⟩ => by
    rw [hss] at hi
    obtain ⟨A1, c1, hv, hi2⟩ := hi.ints
    have : (lens ss).length = ss.length := by simp [lens]
    rw [this] at hv hi2
    exact ⟨A1, c1, by rw [he, hv], hi2, hB.below hb⟩
  have c15 : Hid (∀ W A1, Boxed x w W → Ints W W.heap.size A1 ss.length (lens ss) → Calls Try.prog 15 #[.slice A m c, .agg x.A] W fun e W' => ∃ A2 c2 gs, e = .returned (.slice A2 ss.length c2) ∧ AllAt x w A1 (.slice A2 ss.length c2) ss gs W') := fun W A1 hB hI => (segSplit x A m c ts W (hB.fps HL.out) (by omega) hmc).mono fun e W' ⟨v, gs, he, hs, hb⟩ => by
    rw [hss] at hs
    obtain ⟨A2, c2, hv, _⟩ := ownsRow_slice hs.2.2.1
    subst hv
    exact ⟨A2, c2, gs, he, (hI.below hb).more hb.size, hs.base hB.2.size, hB.below hb⟩
  have c17 : Hid (∀ W A1 v gs, AllAt x w A1 v ss gs W → Calls Try.prog 17 #[.slice A m c, .agg x.A] W fun e W' => ∃ A3 c3, e = .returned (.slice A3 ss.length c3) ∧ Ints W' W'.heap.size A3 ss.length (lens ss) ∧ AllAt x w A1 v ss gs W') := fun W A1 v gs hA => (refAll x A m c ts W (hA.box.fps HL.out) (by omega) hmc).mono fun e W' ⟨v, he, hi, hb⟩ => by
    rw [hss] at hi
    obtain ⟨A3, c3, hv, hi2⟩ := hi.ints
    have : (lens ss).length = ss.length := by simp [lens]
    rw [this] at hv hi2
    exact ⟨A3, c3, by rw [he, hv], hi2, hA.below hb⟩
  have c16 : Hid (∀ W A1 A3 c1 c3 v gs, AllAt x w A1 v ss gs W → Ints W W.heap.size A3 ss.length (lens ss) → Calls Try.prog 16 #[.slice A1 ss.length c1, .slice A3 ss.length c3] W fun e W' => e = .returned (.bool true) ∧ AllAt x w A1 v ss gs W') := fun W A1 A3 c1 c3 v gs hA hI => (same16 A1 A3 ss.length c1 c3 (lens ss) W hA.ints hI (by omega)).mono fun e W' ⟨he, hb⟩ => ⟨he, hA.below hb⟩
  have c13 : Hid (∀ W A1 v gs, AllAt x w A1 v ss gs W → Calls Try.prog 13 #[] W fun e W' => e = .returned (.bool true) ∧ AllAt x w A1 v ss gs W') := fun W A1 v gs hA => (awake13 W).mono fun e W' ⟨he, hb⟩ => ⟨he, hA.below hb⟩
  have HSS := Lib.hid hss
  clear hss
  go_enter Try.func4, Try.ntmps4
  go_wp2_with (first
    | (go_at_call 8; refine (C8.out _).mono ?_; rintro e w0 ⟨rfl, rfl⟩)
    | (go_at_call 14; refine (c14.out _ HB0.out).mono ?_; rintro e w1 ⟨A1, c1, rfl, hi1, hb1⟩; have HI1 := Lib.hid hi1; have HB1 := Lib.hid hb1; have q1 := cells13 hb1.1; clear hi1 hb1)
    | (go_at_call 15; refine (c15.out _ _ HB1.out HI1.out).mono ?_; rintro e w2 ⟨A2, c2, gs, rfl, ha2⟩; have HA2 := Lib.hid ha2; clear q1; have q2 := cells13 ha2.box.1; clear ha2)
    | (go_at_call 17; refine (c17.out _ _ _ _ HA2.out).mono ?_; rintro e w3 ⟨A3, c3, rfl, hi3, ha3⟩; have HI3 := Lib.hid hi3; have HA3 := Lib.hid ha3; clear hi3 ha3 q2)
    | (go_at_call 16; refine (c16.out _ _ _ _ _ _ _ HA3.out HI3.out).mono ?_; rintro e w4 ⟨rfl, ha4⟩; have HA4 := Lib.hid ha4; clear ha4)
    | (go_at_call 13; refine (c13.out _ _ _ _ HA4.out).mono ?_; rintro e w5 ⟨rfl, ha5⟩; have HA5 := Lib.hid ha5; clear ha5))
  have hfl : ss.flatten.length ≤ m := by
    rw [← HSS.out, split]
    split
    · rw [segs_flatten x.c _ _ (Nat.le_refl _), HL.out.1]; exact Nat.le_refl _
    · simp
  go_loopg [7, 8] ss.length (fun gk v i wr => ∃ k : Nat, k ≤ ss.length ∧ gk = ss.length - k ∧ i = .int .i64 k ∧ Below w5.heap.size w5 wr ∧ ∃ N : Nat, N ≤ 600 ∧ (ss.take k).flatten.length = N ∧ wr.ownsRow w5.heap.size 37 32 v N (fpsL (ss.take k).flatten))
  case atStart => exact ⟨0, Nat.zero_le _, rfl, rfl, Below.refl _ _, 0, by omega, rfl, World.ownsRow_nil _ _ _ _⟩
  case round =>
    obtain ⟨k, hk, hgk, rfl, hbw, N, hN, hNe, hown⟩ := hrel
    have HNE := Lib.hid hNe
    clear hNe
    have HK := Lib.hid hgk
    have HOWN := Lib.hid hown
    clear hgk hown
    have HA := Lib.hid (HA5.out.below (w2 := wr) hbw)
    by_cases hlt : k < ss.length
    · obtain ⟨gq, cap, s, gv, cv, hs, hg, hO, hv, hgv, hgl, hcell⟩ := HA5.out.segs.get hlt
      injection hv with e1 e2 e3
      have E1 := Lib.hid e1
      clear e1 e2 e3
      obtain ⟨b1, o1, E2, hl1, hc1⟩ := HA5.out.ints.2 (by omega)
      have hcm : may x.c = true := by
        cases hm : may x.c with
        | true => rfl
        | false =>
          have := HSS.out
          rw [split, if_neg (by rw [hm]; simp)] at this
          rw [← this] at hlt
          simp at hlt
      have hbd := segs_bd x.c hcm ts.length ts k s (Nat.le_refl _) (by rw [← hs, ← HSS.out, split, if_pos hcm])
      have hssl : (segs x.c ts.length ts).length = ss.length := by rw [← HSS.out, split, if_pos hcm]
      rw [hssl] at hbd
      have hns : (lens ss)[k]? = some s.length := by simp [lens, hs]
      have hn1 := hc1 k s.length hns
      have hq := cells13 HA5.out.box.1
      have q4 : wr.cell? ⟨w.heap.size, 4, none⟩ = some (.int .i64 x.c.mn) := (hbw.cell (p := ⟨w.heap.size, 4, none⟩) (Array.getElem?_eq_some_iff.1 HA5.out.box.1).1).trans hq.2.2.2.2.1
      have q5 : wr.cell? ⟨w.heap.size, 5, none⟩ = some (.int .i64 x.c.mx) := (hbw.cell (p := ⟨w.heap.size, 5, none⟩) (Array.getElem?_eq_some_iff.1 HA5.out.box.1).1).trans hq.2.2.2.2.2.1
      clear hq
      have d1 : wr.cell? ⟨b1, o1 + k, none⟩ = some (.int .i64 (s.length : Int)) := (hbw.cell (p := ⟨b1, o1 + k, none⟩) hl1).trans hn1
      have d2 : wr.cell? ⟨gv, k, none⟩ = some (.slice (some ⟨gq, 0, none⟩) s.length cap) := (hbw.cell (p := ⟨gv, k, none⟩) hgl).trans hcell
      have HO := Lib.hid (hO.kept (hbw.block _ hO.lt))
      have HTF := Lib.hid (take_flat hs)
      have hle2 : N + s.length ≤ 600 := by
        have h1 : (ss.take (k + 1)).flatten.length ≤ ss.flatten.length := by
          have h2 : ss.flatten = (ss.take (k + 1)).flatten ++ (ss.drop (k + 1)).flatten := by rw [← List.flatten_append, List.take_append_drop]
          rw [h2, List.length_append]; omega
        rw [HTF.out, List.length_append, HNE.out] at h1
        omega
      clear hcell hn1 hc1 hns hssl hs hg hO hcm
      have E1' : A2 = some ⟨gv, 0, none⟩ := E1.out
      subst E1'
      subst E2
      generalize hL : s.length = L at *
      have HLL := Lib.hid hL
      clear hL
      obtain ⟨hb1, hb2, hb3⟩ := hbd
      have hk0 : (0 : Int) ≤ (k : Int) := by omega
      have hk1 : (k : Int) < (ss.length : Int) := by omega
      have t1 : ((L : Int) != (L : Int)) = false := by simp
      have t2 : decide ((L : Int) < 1) = false := by simp; omega
      have t3 : decide (x.c.mx < (L : Int)) = false := by simp; omega
      have hwk : IntKind.i64.wrap ((k : Int) + 1) = (k : Int) + 1 := IntWalk.i64_in _ (by omega)
      have HOC : Hid (∀ j u, (fpsL s)[j]? = some u → wr.cell? ((⟨gq, 0, none⟩ : Addr).add j) = some u) := by
        have := HO.out.1.cells (g := gq) rfl
        exact this
      have HFL : Hid ((fpsL s).length = L * 32) := by
        show _ = _
        rw [fpsL_length HO.out.2, HLL.out]
      by_cases hlast : k + 1 < ss.length
      · have hb4 := hb3 hlast
        have t4 : decide ((k : Int) + 1 < (ss.length : Int)) = true := by simp; omega
        have t5 : decide ((L : Int) < x.c.mn) = false := by simp; omega
        clear hb3
        go_wp2_with (first
          | (at_builtin; refine wpList_append_own _ rfl (.tmp 40) (.tmp 44) _ rfl w5.heap.size 37 i37 _ 32 32 Try.underlying22 I37.out Z37.out S37.out Y37.out rfl (by decide) _ _ _ rfl HOWN.out _ _ _ (fpsL s) rfl HFL.out HOC.out (fpsL_one _) ?h63 ?hby ?hbase ?_))
        case h63 => simp only [maxLen]; omega
        case hby => omega
        case hbase => exact hbw.size
        intro v3 w3 hown3 hg3 hnil3
        clear hnil3
        have HB3 : Hid (Below w5.heap.size w5 w3) := hbw.grown hg3 hbw.size (fun q hq => (HOWN.out.lt q hq).1)
        obtain ⟨g3, c3', rfl, hbg3, hlg3⟩ := ownsRow_succ hown3 (by omega)
        have HO3 := Lib.hid hown3
        have e1 : w3.cell? ⟨b1, o1 + k, none⟩ = some (.int .i64 (L : Int)) := (HB3.out.cell (p := ⟨b1, o1 + k, none⟩) hl1).trans ((hbw.cell (p := ⟨b1, o1 + k, none⟩) hl1).symm.trans d1)
        have e2 : w3.cell? ⟨gv, k, none⟩ = some (.slice (some ⟨gq, 0, none⟩) L cap) := (HB3.out.cell (p := ⟨gv, k, none⟩) hgl).trans ((hbw.cell (p := ⟨gv, k, none⟩) hgl).symm.trans d2)
        have hbx := (Array.getElem?_eq_some_iff.1 HA5.out.box.1).1
        have e4 : w3.cell? ⟨w.heap.size, 4, none⟩ = some (.int .i64 x.c.mn) := (HB3.out.cell (p := ⟨w.heap.size, 4, none⟩) hbx).trans ((hbw.cell (p := ⟨w.heap.size, 4, none⟩) hbx).symm.trans q4)
        have e5 : w3.cell? ⟨w.heap.size, 5, none⟩ = some (.int .i64 x.c.mx) := (HB3.out.cell (p := ⟨w.heap.size, 5, none⟩) hbx).trans ((hbw.cell (p := ⟨w.heap.size, 5, none⟩) hbx).symm.trans q5)
        clear hown3 hg3 d1 d2 q4 q5
        go_wp2
        go_quiet (fail)
        go_wp2
        go_roundg (ss.length - (k + 1))
        case measure => rw [HK.out]; omega
        case rel => exact ⟨k + 1, by omega, rfl, by go_num, HB3.out.drewN _, N + L, hle2, by rw [HTF.out, List.length_append, HNE.out, HLL.out], by rw [HTF.out, fpsL_append]; exact HO3.out⟩
      · have t4 : decide ((k : Int) + 1 < (ss.length : Int)) = false := by simp; omega
        clear hb3
        go_wp2_with (first
          | (at_builtin; refine wpList_append_own _ rfl (.tmp 40) (.tmp 44) _ rfl w5.heap.size 37 i37 _ 32 32 Try.underlying22 I37.out Z37.out S37.out Y37.out rfl (by decide) _ _ _ rfl HOWN.out _ _ _ (fpsL s) rfl HFL.out HOC.out (fpsL_one _) ?h632 ?hby2 ?hbase2 ?_))
        case h632 => simp only [maxLen]; omega
        case hby2 => omega
        case hbase2 => exact hbw.size
        intro v3 w3 hown3 hg3 hnil3
        clear hnil3
        have HB3 : Hid (Below w5.heap.size w5 w3) := hbw.grown hg3 hbw.size (fun q hq => (HOWN.out.lt q hq).1)
        obtain ⟨g3, c3', rfl, hbg3, hlg3⟩ := ownsRow_succ hown3 (by omega)
        have HO3 := Lib.hid hown3
        have e1 : w3.cell? ⟨b1, o1 + k, none⟩ = some (.int .i64 (L : Int)) := (HB3.out.cell (p := ⟨b1, o1 + k, none⟩) hl1).trans ((hbw.cell (p := ⟨b1, o1 + k, none⟩) hl1).symm.trans d1)
        have e2 : w3.cell? ⟨gv, k, none⟩ = some (.slice (some ⟨gq, 0, none⟩) L cap) := (HB3.out.cell (p := ⟨gv, k, none⟩) hgl).trans ((hbw.cell (p := ⟨gv, k, none⟩) hgl).symm.trans d2)
        have hbx := (Array.getElem?_eq_some_iff.1 HA5.out.box.1).1
        have e4 : w3.cell? ⟨w.heap.size, 4, none⟩ = some (.int .i64 x.c.mn) := (HB3.out.cell (p := ⟨w.heap.size, 4, none⟩) hbx).trans ((hbw.cell (p := ⟨w.heap.size, 4, none⟩) hbx).symm.trans q4)
        have e5 : w3.cell? ⟨w.heap.size, 5, none⟩ = some (.int .i64 x.c.mx) := (HB3.out.cell (p := ⟨w.heap.size, 5, none⟩) hbx).trans ((hbw.cell (p := ⟨w.heap.size, 5, none⟩) hbx).symm.trans q5)
        clear hown3 hg3 d1 d2 q4 q5
        go_wp2
        go_quiet (fail)
        go_wp2
        go_roundg (ss.length - (k + 1))
        case measure => rw [HK.out]; omega
        case rel => exact ⟨k + 1, by omega, rfl, by go_num, HB3.out.drewN _, N + L, hle2, by rw [HTF.out, List.length_append, HNE.out, HLL.out], by rw [HTF.out, fpsL_append]; exact HO3.out⟩
    · obtain rfl : k = ss.length := by omega
      cases hm : may x.c with
      | true =>
        have hflat : ss.flatten = ts := by
          rw [← HSS.out, split, if_pos hm, segs_flatten x.c _ _ (Nat.le_refl _)]
        have hNm : m = N := by
          have := HNE.out
          rw [List.take_length, hflat, HL.out.1] at this
          exact this
        have hfp : ∀ f ∈ ts, IsFp f := HL.out.2.1
        obtain ⟨A7, c7, hv7, hF7⟩ := ownsRow_fps (fs := ts) (by have := HOWN.out; rwa [List.take_length, hflat] at this) (HL.out.1.trans hNm) hfp
        subst hNm
        have HF7 := Lib.hid hF7
        have hSm := hookSame A7 A m c7 c ts wr hF7 (HA.out.box.fps HL.out) (by omega)
        have HSm := Lib.hid hSm
        clear hSm hF7 hflat hm hfp
        rw [hv7]
        go_wp2_with (first
          | (go_at_call 18; refine HSm.out.mono ?_; rintro e w6 ⟨rfl, hb6⟩; have HB6 := Lib.hid (HA.out.box.below hb6); clear hb6))
        go_ret
        exact ⟨rfl, HB6.out.2⟩
      | false =>
        have hss0 : ss = [] := by
          rw [← HSS.out, split, if_neg (by rw [hm]; simp)]
        have hN0 : N = 0 := by
          have := HNE.out
          rw [hss0] at this
          simpa using this.symm
        subst hN0
        obtain ⟨A7, c7, hv7, _⟩ := ownsRow_slice HOWN.out
        have hmay := refMay x
        rw [hm] at hmay
        have HMY := Lib.hid hmay
        have hl0 : ss.length = 0 := by rw [hss0]; rfl
        have HL0 := Lib.hid hl0
        clear hmay hm hl0 hss0
        rw [hv7]
        by_cases hm0 : m = 0
        · subst hm0
          have ht0 : ts = [] := List.eq_nil_of_length_eq_zero HL.out.1
          have hSm := hookSame A7 A 0 c7 c [] wr ⟨rfl, fun f hf => by simp at hf, fun h => by omega⟩ ⟨rfl, fun f hf => by simp at hf, fun h => by omega⟩ (by omega)
          have HSm := Lib.hid hSm
          clear hSm ht0
          go_wp2_with (first
            | (go_at_call 18; refine HSm.out.mono ?_; rintro e w6 ⟨rfl, hb6⟩; have HB6 := Lib.hid (HA.out.box.below hb6); clear hb6))
          go_ret
          exact ⟨rfl, HB6.out.2⟩
        · have hne : (((0 : Nat) : Int) != (m : Int)) = true := by simp; omega
          have hSm := hookSame_ne A7 A 0 m c7 c wr hne
          have HSm := Lib.hid hSm
          have q := cells13 HA.out.box.1
          have hl1 : (ss.length : Int) = 0 := by have := HL0.out; omega
          clear hSm hne hm0
          go_wp2_with (first
            | (go_at_call 18; refine HSm.out.mono ?_; rintro e w6 ⟨rfl, rfl⟩)
            | (go_at_call 10; refine (HMY.out _).mono ?_; rintro e w7 ⟨rfl, hb7⟩; have HB7 := Lib.hid (HA.out.box.below (w2 := w7) (by rw [hb7]; exact (Below.refl _ _).alloc (Nat.le_refl _) _)); clear hb7))
          go_ret
          exact ⟨rfl, HB7.out.2⟩
end Go.Proofs.Ytkmhjfcjplnjdaa
