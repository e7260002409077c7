/- The walk over Split. -/
import Derived.Test.YtkmhjfcjplnjdaaSg
import Derived.Deep.LoopGhost
namespace Go.Proofs.Ytkmhjfcjplnjdaa
open Go.RowKit
theorem segs_hit {c : Cf} {n q k : Nat} {fs : List Fp} {ss : List (List Fp)} (hl : fs.length = n) (hq : k < n - q) (h : segs c n fs = ss ++ segs c (n - q) (fs.drop q)) (hcut : cutF c 0 (fs.drop q) = k + 1) :
    segs c n fs = (ss ++ [List.take (k + 1) (List.drop q fs)]) ++ segs c (n - (q + k + 1)) (fs.drop (q + k + 1)) := by
  have hd : (fs.drop q).length = n - q := by rw [List.length_drop, hl]
  have hne : fs.drop q ≠ [] := by intro e; rw [e] at hd; simp at hd; omega
  rw [h, segs_cut c (fs.drop q) (n - q) hne (by omega) (by omega), hcut, List.length_drop, hd, List.drop_drop]
  rw [show n - q - (k + 1) = n - (q + k + 1) by omega, show q + (k + 1) = q + k + 1 by omega]
  simp
theorem segs_end {c : Cf} {n q : Nat} {fs : List Fp} {ss : List (List Fp)} (hl : fs.length = n) (hq : q < n) (h : segs c n fs = ss ++ segs c (n - q) (fs.drop q)) (hcut : cutF c 0 (fs.drop q) = 0) :
    segs c n fs = ss ++ [List.drop q fs] := by
  have hd : (fs.drop q).length = n - q := by rw [List.length_drop, hl]
  have hne : fs.drop q ≠ [] := by intro e; rw [e] at hd; simp at hd; omega
  rw [h, segs_last c (fs.drop q) (n - q) hne (by omega) hcut]
/-- the worlds of one append of a segment: the row of segments is still there -/
theorem segs_step {w wo w1 w2 : World} {v : Value} {ss : List (List Fp)} {gs : List (Nat × Nat)} (hS : SegsAt wo w.heap.size v ss gs) (hbw : Below w.heap.size w wo) (h1 : Below wo.heap.size wo w1)
    (hg2 : (w1.alloc (.cells #[] 37)).grownBy w2 (some w1.heap.size)) (o : Obj) :
    Below wo.heap.size wo (w2.alloc o) ∧ SegsAt (w2.alloc o) w.heap.size v ss gs ∧ Below w.heap.size w (w2.alloc o) ∧ wo.heap.size ≤ w1.heap.size := by
  have a1 : Below wo.heap.size wo w2 := (h1.alloc h1.size _).grown hg2 (by have := h1.size; simp; omega) (fun k hk => by injection hk with hk; subst hk; exact h1.size)
  have a2 : Below wo.heap.size wo (w2.alloc o) := a1.alloc a1.size o
  exact ⟨a2, hS.keep a2, hbw.trans (a2.mono hbw.size), h1.size⟩
theorem segs_push {w wo w1 w2 w3 : World} {v v3 : Value} {ss : List (List Fp)} {gs : List (Nat × Nat)} {s : List Fp} {m g cap : Nat} (hS : SegsAt wo w.heap.size v ss gs) (hbw : Below w.heap.size w wo) (h1 : Below wo.heap.size wo w1)
    (hg2 : (w1.alloc (.cells #[] 37)).grownBy w2 (some w1.heap.size)) (o : Obj) (hm : s.length = m) (hs : ∀ f ∈ s, IsFp f) (hown2 : w2.ownsRow w1.heap.size 37 32 (.slice (some ⟨g, 0, none⟩) m cap) m (fpsL s))
    (hown3 : w3.ownsRow w.heap.size 22 1 v3 (ss.length + 1) (List.zipWith segV gs ss ++ [.slice (some ⟨g, 0, none⟩) m cap])) (hg3 : (w2.alloc o).grownBy w3 v.ownBlock) :
    SegsAt w3 w.heap.size v3 (ss ++ [s]) (gs ++ [(g, cap)]) ∧ Below w.heap.size w w3 ∧ (∀ k obj, wo.heap[k]? = some obj → some k ≠ v.ownBlock → w3.heap[k]? = some obj) := by
  obtain ⟨a2, a3, a4, a5⟩ := segs_step hS hbw h1 hg2 o
  subst hm
  have hO : OwnFps w2 w1.heap.size g cap s := ⟨hown2, hs⟩
  have hO2 : OwnFps (w2.alloc o) w.heap.size g cap s := (hO.kept (Below.heap_alloc _ _ _ hO.lt)).base (Nat.le_trans hbw.size a5)
  have hnew : ∀ p ∈ gs, p.1 ≠ g := by
    intro p hp e
    obtain ⟨i, hi, rfl⟩ := List.getElem_of_mem hp
    have hx := hS.2.2.2 i gs[i] (ss[i]'(by rw [← hS.1]; exact hi)) (List.getElem?_eq_getElem hi) (List.getElem?_eq_getElem (by rw [← hS.1]; exact hi))
    have h2 := hx.lt
    have h3 := hO.block.1
    omega
  refine ⟨a3.push hO2 hnew hown3 hg3, ?_, ?_⟩
  · refine a4.grown hg3 a4.size (fun k hk => (hS.2.2.1.lt k hk).1)
  · intro k obj hk hne
    have hlt := (Array.getElem?_eq_some_iff.1 hk).1
    exact (hg3.block k (Nat.lt_of_lt_of_le hlt a2.size) hne).trans ((a2.block k hlt).trans hk)
/-- what Split hands back -/
def SplitPost (x : CfX) (fs : List Fp) (w : World) (e : Ending) (w' : World) : Prop :=
  ∃ v gs, e = .returned v ∧ SegsAt w' w.heap.size v (split x.c fs) gs ∧ Below w.heap.size w w'
set_option maxRecDepth 100000 in
set_option maxHeartbeats 1000000 in
theorem segSplit (x : CfX) (A : Option Addr) (n c : Nat) (fs : List Fp) (w : World) (hl : Fps w w.heap.size A n fs) (hn : n ≤ 1000000) (hnc : n ≤ c) :
    Calls Try.prog 15 #[.slice A n c, .agg x.A] w (SplitPost x fs w) := by
  obtain ⟨i37, hi37a, hz37, hs37, hy37⟩ := info_parts info37'
  obtain ⟨i22, hi22a, hz22, hs22, hy22⟩ := info_parts info22
  have I37 := Lib.hid hi37a
  have I22 := Lib.hid hi22a
  have Z37 := Lib.hid hz37
  have Z22 := Lib.hid hz22
  have S37 := Lib.hid hs37
  have S22 := Lib.hid hs22
  have Y37 := Lib.hid hy37
  have Y22 := Lib.hid hy22
  clear hi37a hz37 hs37 hy37 hi22a hz22 hs22 hy22
  have hM := segMay x
  by_cases hc : may x.c = true
  · rw [hc] at hM
    have HM := Lib.hid hM
    clear hM
    have HL := Lib.hid hl
    clear hl
    have Hc := Lib.hid hc
    clear hc
    go_enter Try.func15, Try.ntmps15
    go_wp2
    go_step3
    go_wp2_with (first
      | (go_at_call 9; refine (HM.out _).mono ?_; rintro e w1 ⟨rfl, rfl⟩)
      | (go_at_call 23; refine (ender x _).mono ?_; rintro e w2 ⟨rfl, rfl⟩))
    go_step3
    go_wp2_with fail
    go_loopg [6, 7, 8, 9, 21, 22, 23] n (fun gk v p _ _ _ _ _ wr => ∃ (q : Nat) (ss : List (List Fp)) (gs : List (Nat × Nat)), q ≤ n ∧ gk = n - q ∧ p = .int .i64 q ∧ SegsAt wr w.heap.size v ss gs ∧ Below w.heap.size w wr ∧ wr.heap[w.heap.size + 1 + 1]? = some (.cells x.A 24) ∧
      segs x.c n fs = ss ++ segs x.c (n - q) (fs.drop q) ∧ ss.length ≤ q)
    case atStart => exact ⟨0, [], [], Nat.zero_le _, rfl, rfl, SegsAt.nil _ _, (((Below.refl _ _).alloc (Nat.le_refl _) _).alloc (by simp) _).alloc (by simp; omega) _, by rw [← World.size_alloc w (.cells x.A 24), ← World.size_alloc (w.alloc (.cells x.A 24)) (.cells x.A 24)]; exact heap_alloc_new _ _, rfl, Nat.zero_le _⟩
    case round =>
      obtain ⟨q, ss, gs, hq, hgk, rfl, hss, hbw, hcf, hsg, hsl⟩ := hrel
      have HF := Lib.hid hcf
      have HNE : Hid (∀ {cur : Array Value}, wr.heap[w.heap.size + 1 + 1]? = some (.cells cur 24) → some (w.heap.size + 1 + 1) ≠ u6.ownBlock) := by
        intro cur hk e
        rcases hss.2.2.1.2 with ⟨hv, _⟩ | ⟨g', cap', cur', hv, _, hh, _⟩
        · rw [hv] at e; cases e
        · rw [hv] at e
          injection e with e
          subst e
          rw [hk] at hh
          injection hh with hh
          injection hh with _ h2
          cases h2
      have HS := Lib.hid hss
      have HG := Lib.hid hsg
      have HK := Lib.hid hgk
      clear hcf hss hsg hgk
      by_cases hlt : q < n
      · obtain ⟨b, o, rfl, hbb, hr⟩ := HL.out.2.2 (by omega)
        clear hr
        have hqc : ¬ c = q := by omega
        obtain ⟨wo, rfl⟩ : ∃ wo : World, wo = wr := ⟨_, rfl⟩
        have HD : Hid (Fps wo w.heap.size (some ⟨b, o + q * 32, none⟩) (n - q) (fs.drop q)) := (HL.out.below hbw).drop q hq
        go_wp2_with fail
        go_loopg [6, 7, 8, 9, 23] (n - q) (fun gk v p _ _ i wr => ∃ k : Nat, k ≤ n - q ∧ gk = n - q - k ∧ i = .int .i64 k ∧ v = u6 ∧ p = .int .i64 q ∧ Below wo.heap.size wo wr ∧ cutF x.c 0 (fs.drop q) = cutF x.c k ((fs.drop q).drop k))
        case atStart => exact ⟨0, Nat.zero_le _, rfl, rfl, rfl, rfl, Below.refl _ _, rfl⟩
        case round =>
          obtain ⟨k, hk, hgk, rfl, rfl, rfl, hbo, hcut⟩ := hrel
          have HC := Lib.hid hcut
          have HK2 := Lib.hid hgk
          clear hcut hgk
          have hkn : (q : Int) + k + 1 ≤ 1000001 := by omega
          by_cases hlt2 : k < n - q
          · obtain ⟨f, hf⟩ : ∃ f, (fs.drop q)[k]? = some f := ⟨(fs.drop q)[k]'(by rw [HD.out.1]; exact hlt2), by simp⟩
            have hfp := HD.out.2.1 f (List.mem_of_getElem? hf)
            have HR : Hid (wr.rangeAt b (o + q * 32 + k * 32) (fpL f)) := by
              obtain ⟨b', o', e, _, hc⟩ := HD.out.2.2 (by omega)
              injection e with e
              injection e with e1 e2
              subst e1
              subst e2
              exact fun j v hv => (hbo.cell (p := ⟨b, o + q * 32 + k * 32 + j, none⟩) (Nat.lt_of_lt_of_le hbb hbw.size)).trans (hc k f hf j v hv)
            have HFF := Lib.hid hf
            have hi37 : (Try.prog.info? 37).map (·.size) = some (fpL f).length := by rw [info37, fpL_length hfp]
            have HI := Lib.hid hi37
            clear hf hi37
            have HI2 : Hid ((Try.prog.info? 37).map (·.size) = some (fpA f).size) := by rw [fpA_size hfp]; exact info37
            have HO : Hid ((fpA f).all (·.oneCell') = true) := all_oneCell_toArray fpL_one
            have HF2 : Hid ((wr.alloc (.cells (fpA f) 37)).heap[w.heap.size + 1 + 1]? = some (.cells x.A 24)) := by
              have hlt' := (Array.getElem?_eq_some_iff.1 HF.out).1
              have h1 := (hbo.block _ hlt').trans HF.out
              exact (Below.heap_alloc _ _ _ (Array.getElem?_eq_some_iff.1 h1).1).trans h1
            have hE := enderB x Hc.out k (by omega) f hfp
            have hq1 : (q : Int) + k + 1 ≤ c := by omega
            have HSEGl : Hid ((fpsL (List.take (k + 1) (List.drop q fs))).length = (q + k + 1 - q) * 32) := by
              have h1 := HD.out.1
              show _ = _
              rw [fpsL_length (fun f hf => HD.out.2.1 f (List.mem_of_mem_take hf)), List.length_take, h1]
              omega
            have HCELLS : Hid (∀ w1 : World, Below (wr.alloc (.cells (fpA f) 37)).heap.size (wr.alloc (.cells (fpA f) 37)) w1 → ∀ (j : Nat) (u : Value), (fpsL (List.take (k + 1) (List.drop q fs)))[j]? = some u → (w1.alloc (.cells #[] 37)).cell? ((⟨b, o + q * 32, none⟩ : Addr).add j) = some u) := by
              intro w1 hb1 j u hu
              have h0 := HL.out.below hbw
              have h1 := h0.below (hbo.mono hbw.size)
              have h2 := (h1.alloc (Nat.le_trans hbw.size hbo.size) (.cells (fpA f) 37)).below (hb1.mono (by have := hbw.size; have := hbo.size; simp; omega))
              have h3 := h2.alloc (by have := hbw.size; have := hbo.size; have := hb1.size; simp at this; omega) (.cells #[] 37)
              exact h3.cells q (k + 1) j u hu
            by_cases he : endB x.c k f = true
            · rw [he] at hE
              have HE := Lib.hid hE
              have He := Lib.hid he
              clear hE he
              go_wp2_with (first
              | ((with_reducible refine wpList_load_mid (op := ⟨some 27, _, _, _, _, _⟩) rfl 37 (.tmp 26) rfl b (o + q * 32 + k * 32) ?_ (fpL f) _ HR.out Try.underlying37 rfl HI.out ?_); rfl)
              | ((with_reducible refine wpList_store_new (op := ⟨none, _, _, _, _, _⟩) rfl 37 (.tmp 9) (.tmp 27) rfl _ (fpA f) ?_ ?_ HI2.out ?_ HO.out ?_); rfl; rfl; (rw [fpA_size hfp]; rfl))
              | ((with_reducible refine wpList_load_new (op := ⟨some 30, _, _, _, _, _⟩) rfl 37 (.tmp 9) rfl (fpA f) 32 5 ?_ Try.underlying37 HI2.out ?_); rfl)
              | (go_at_call 25; refine (HE.out _ _ HF2.out).mono ?_; rintro e w1 ⟨rfl, hb1⟩)
              | (at_builtin; refine wpList_append_own _ rfl (.tmp 33) (.tmp 40) _ rfl w1.heap.size 37 i37 _ 32 32 Try.underlying22 I37.out Z37.out S37.out Y37.out rfl (by decide) _ 0 [] rfl ?own _ _ _ (fpsL ((fs.drop q).take (k + 1))) rfl ?hl ?hnews (fpsL_one _) ?h63 ?hby ?hbase ?_))
              case own => exact World.ownsRow_made _ #[] 0 (Nat.le_refl _) (by simp [maxLen]) (by simp)
              case hl => exact HSEGl.out
              case hnews => exact HCELLS.out _ hb1
              case h63 => simp only [maxLen]; omega
              case hby => omega
              case hbase => simp
              rw [show q + k + 1 - q = k + 1 from by omega]
              intro v2 w2 hown2 hg2 hnil2
              clear hnil2
              obtain ⟨g2, cap2, rfl, hb2, hlt3⟩ := ownsRow_succ hown2 (by omega)
              have HOWN2 := Lib.hid hown2
              have HG2 := Lib.hid hg2
              clear hown2 hg2
              have HB1 : Hid (Below wo.heap.size wo w1) := (hbo.alloc hbo.size _).trans (hb1.mono (by have := hbo.size; simp; omega))
              go_wp2_with (first
                | (at_builtin; refine wpList_append_own _ rfl (.tmp 32) (.tmp 42) _ rfl w.heap.size 22 i22 _ 1 24 Try.underlying32 I22.out Z22.out S22.out Y22.out rfl (by decide) _ ss.length (List.zipWith segV gs ss) rfl ?own2 _ 1 1 [.slice (some ⟨g2, 0, none⟩) (k + 1) cap2] rfl rfl ?hnews2 ?one2 ?h632 ?hby2 ?hbase2 ?_))
              case own2 => exact (segs_step HS.out hbw HB1.out HG2.out _).2.1.2.2.1
              case hnews2 =>
                intro j u hu
                match j, hu with
                | 0, hu => simp at hu; subst hu; simp [Addr.add]
              case one2 => intro u hu; simp at hu; subst hu; rfl
              case h632 => simp only [maxLen]; omega
              case hby2 => omega
              case hbase2 => exact (segs_step HS.out hbw HB1.out HG2.out _).2.2.1.size
              intro v3 w3 hown3 hg3 hnil3
              clear hnil3
              have hcut : cutF x.c 0 (fs.drop q) = k + 1 := by rw [HC.out, cutF_hit x.c (fs.drop q) k f HFF.out He.out]
              obtain ⟨p1, p2, p3⟩ := segs_push (s := List.take (k + 1) (List.drop q fs)) HS.out hbw HB1.out HG2.out _ (by rw [List.length_take, HD.out.1]; omega) (fun f hf => HD.out.2.1 f (List.mem_of_mem_take hf)) HOWN2.out hown3 hg3
              have P1 := Lib.hid p1
              have P3 := Lib.hid (p3 _ _ HF.out (HNE.out HF.out))
              have P4 := Lib.hid (segs_hit HL.out.1 hlt2 HG.out hcut)
              clear p1 p3 hown3 hg3 hcut
              go_wp2
              go_roundg (n - (q + k + 1))
              case measure => rw [HK.out]; omega
              case rel => exact ⟨q + k + 1, _, _, by omega, rfl, by go_num, P1.out, p2, P3.out, P4.out, by rw [List.length_append, List.length_singleton]; omega⟩
            · have he' : endB x.c k f = false := by simpa using he
              rw [he'] at hE
              have HE := Lib.hid hE
              have He := Lib.hid he'
              clear hE he he'
              go_wp2_with (first
              | ((with_reducible refine wpList_load_mid (op := ⟨some 27, _, _, _, _, _⟩) rfl 37 (.tmp 26) rfl b (o + q * 32 + k * 32) ?_ (fpL f) _ HR.out Try.underlying37 rfl HI.out ?_); rfl)
              | ((with_reducible refine wpList_store_new (op := ⟨none, _, _, _, _, _⟩) rfl 37 (.tmp 9) (.tmp 27) rfl _ (fpA f) ?_ ?_ HI2.out ?_ HO.out ?_); rfl; rfl; (rw [fpA_size hfp]; rfl))
              | ((with_reducible refine wpList_load_new (op := ⟨some 30, _, _, _, _, _⟩) rfl 37 (.tmp 9) rfl (fpA f) 32 5 ?_ Try.underlying37 HI2.out ?_); rfl)
              | (go_at_call 25; refine (HE.out _ _ HF2.out).mono ?_; rintro e w1 ⟨rfl, hb1⟩))
              have HB1 : Hid (Below wo.heap.size wo w1) := (hbo.alloc hbo.size _).trans (hb1.mono (by have := hbo.size; simp; omega))
              have hv : cutF x.c 0 (fs.drop q) = cutF x.c (k + 1) ((fs.drop q).drop (k + 1)) := by rw [HC.out, cutF_miss x.c (fs.drop q) k f HFF.out He.out]
              go_roundg (n - q - (k + 1))
              case measure => rw [HK2.out]; omega
              case rel => exact ⟨k + 1, by omega, rfl, by go_num, rfl, rfl, HB1.out, hv⟩
          · obtain rfl : k = n - q := by omega
            have hcut : cutF x.c 0 (fs.drop q) = 0 := by rw [HC.out, cutF_end x.c (fs.drop q) (n - q) (by rw [HD.out.1]; exact Nat.le_refl _)]
            have HSEGl : Hid ((fpsL (List.drop q fs)).length = (n - q) * 32) := by
              show _ = _
              rw [fpsL_length HD.out.2.1, HD.out.1]
            have HCELLS : Hid (∀ (j : Nat) (u : Value), (fpsL (List.drop q fs))[j]? = some u → (wr.alloc (.cells #[] 37)).cell? ((⟨b, o + q * 32, none⟩ : Addr).add j) = some u) := by
              intro j u hu
              have h0 := HL.out.below hbw
              have h1 := h0.below (hbo.mono hbw.size)
              have h3 := h1.alloc (Nat.le_trans hbw.size hbo.size) (.cells #[] 37)
              have h4 := h3.cells q (n - q) j u
              rw [List.take_of_length_le (by rw [HD.out.1]; exact Nat.le_refl _)] at h4
              exact h4 hu
            have HCUT := Lib.hid hcut
            clear hcut
            go_wp2_with (first
              | (at_builtin; refine wpList_append_own _ rfl (.tmp 50) (.tmp 53) _ rfl wr.heap.size 37 i37 _ 32 32 Try.underlying22 I37.out Z37.out S37.out Y37.out rfl (by decide) _ 0 [] rfl ?own _ _ _ (fpsL (List.drop q fs)) rfl ?hl ?hnews (fpsL_one _) ?h63 ?hby ?hbase ?_))
            case own => exact World.ownsRow_made _ #[] 0 (Nat.le_refl _) (by simp [maxLen]) (by simp)
            case hl => exact HSEGl.out
            case hnews => exact HCELLS.out
            case h63 => simp only [maxLen]; omega
            case hby => omega
            case hbase => simp
            intro v2 w2 hown2 hg2 hnil2
            clear hnil2
            obtain ⟨g2, cap2, rfl, hb2, hlt3⟩ := ownsRow_succ hown2 (by omega)
            have HOWN2 := Lib.hid hown2
            have HG2 := Lib.hid hg2
            clear hown2 hg2
            go_wp2_with (first
              | (at_builtin; refine wpList_append_own _ rfl (.tmp 49) (.tmp 55) _ rfl w.heap.size 22 i22 _ 1 24 Try.underlying32 I22.out Z22.out S22.out Y22.out rfl (by decide) _ ss.length (List.zipWith segV gs ss) rfl ?own2 _ 1 1 [.slice (some ⟨g2, 0, none⟩) (n - q) cap2] rfl rfl ?hnews2 ?one2 ?h632 ?hby2 ?hbase2 ?_))
            case own2 => exact (segs_step HS.out hbw hbo HG2.out _).2.1.2.2.1
            case hnews2 =>
              intro j u hu
              match j, hu with
              | 0, hu => simp at hu; subst hu; simp [Addr.add]
            case one2 => intro u hu; simp at hu; subst hu; rfl
            case h632 => simp only [maxLen]; omega
            case hby2 => omega
            case hbase2 => exact (segs_step HS.out hbw hbo HG2.out _).2.2.1.size
            intro v3 w3 hown3 hg3 hnil3
            clear hnil3
            obtain ⟨p1, p2, p3⟩ := segs_push (s := List.drop q fs) HS.out hbw hbo HG2.out _ HD.out.1 HD.out.2.1 HOWN2.out hown3 hg3
            have hend := segs_end HL.out.1 hlt HG.out HCUT.out
            have P1 := Lib.hid p1
            have P4 := Lib.hid hend
            clear p1 p3 hown3 hg3 hend
            have HSP : Hid (split x.c fs = ss ++ [List.drop q fs]) := by
              show _ = _
              rw [split, if_pos Hc.out, HL.out.1]
              exact P4.out
            go_wp2
            rw [Exit.noGoto_ret]
            go_ret
            exact ⟨v3, _, rfl, by rw [HSP.out]; exact P1.out, p2⟩
      · obtain rfl : q = n := by omega
        have HSP : Hid (split x.c fs = ss) := by
          show _ = _
          rw [split, if_pos Hc.out, HL.out.1, HG.out]
          simp [segs]
        go_wp2
        rw [Exit.noGoto_ret]
        go_ret
        exact ⟨u6, _, rfl, by rw [HSP.out]; exact HS.out, hbw⟩
  · have hc' : may x.c = false := by simpa using hc
    rw [hc'] at hM
    have HM := Lib.hid hM
    have hsp : split x.c fs = [] := by rw [split, if_neg hc]
    have HSP := Lib.hid hsp
    clear hM hc hc' hl hsp
    go_enter Try.func15, Try.ntmps15
    go_wp2
    go_step3
    go_wp2_with (first
      | (go_at_call 9; refine (HM.out _).mono ?_; rintro e w1 ⟨rfl, rfl⟩))
    rw [Exit.noGoto_ret]
    go_ret
    exact ⟨_, _, rfl, by rw [HSP.out]; exact SegsAt.nil _ _, ((Below.refl _ _).alloc (Nat.le_refl _) _).alloc (by simp) _⟩
end Go.Proofs.Ytkmhjfcjplnjdaa
