/- The walk over the reference's Groups. -/
import Derived.Test.YtgdljjoaiogpfaaC16
import Derived.Test.YtgdljjoaiogpfaaR5
import Derived.Test.YtgdljjoaiogpfaaR8
namespace Go.Proofs.Ytgdljjoaiogpfaa
open Go.RowKit Go.Maps
theorem region_viaW {P : Program} {c : Code} {Q : Exit → Act → World → Prop} {a : Act} {w : World} (h : ∃ A W, c.wp P (Ends1 A W) a w ∧ Q .normal A W) : c.wp P Q a w := by
  obtain ⟨A, W, h1, h2⟩ := h
  refine Code.wp_mono ?_ h1
  rintro e a' w' he
  cases e with
  | normal => obtain ⟨rfl, rfl⟩ := he; exact h2
  | _ => exact he.elim
set_option maxRecDepth 100000 in
set_option maxHeartbeats 8000000 in
theorem rgroups11 {w : World} {A : Option Addr} {n c : Nat} {hs : List Hd} {B : Option Addr} {m d : Nat} {named : List Plc} (h : InOk w A n hs B m named) (hm : May hs) (slots bts : Int) :
    Calls Try.prog 11 #[.slice A n c, .slice B m d, .int .i64 slots, .int .i64 bts] w fun e w' => ∃ v us, e = .returned v ∧ Below w.heap.size w w' ∧ GR w' w.heap.size v (gfold named slots bts hs).1 us := by
  have H := Lib.hid h.hd
  have HLM := Lib.hid h.lim
  have HM := Lib.hid hm
  have HN : Hid (n ≤ 1000) := by have := h.lim.1; rw [h.hd.len] at this; exact this
  have HOH : Hid (∀ x ∈ hs, x.n ≤ 1000 ∧ ∀ s ∈ x.sl, SOk s) := Lib.hid (fun x hx => ⟨h.lim.2 x hx, by obtain ⟨k, hk⟩ := List.getElem?_of_mem hx; exact may_ok hm hk⟩)
  have HC31 : Hid (∀ V, Below w.heap.size w V → ∀ x : Hd, x.n ≤ 1000 → Calls Try.prog 31 #[.agg #[.int .u32 x.id, .slice x.A x.n x.c], .slice B m d] V fun e w' => e = .returned (.bool (isMixed named x)) ∧ Below V.heap.size V w') := Lib.hid (fun V hV x hx => rmixed31 (h.pl.below hV) h.mm x hx)
  have HC16 : Hid (∀ V, Below w.heap.size w V → ∀ x : Hd, x.n ≤ 1000 → Calls Try.prog 16 #[.agg #[.int .u32 x.id, .slice x.A x.n x.c], .slice B m d, .bool true] V fun e w' => ∃ v, e = .returned v ∧ Below V.heap.size V w' ∧ w'.ownsRow V.heap.size 39 2 v (part named x true).length (rowP (part named x true))) := Lib.hid (fun V hV x hx => part16 (h.pl.below hV) h.mm x hx true)
  clear h hm
  obtain ⟨i30, hi, hz0, hz1, hz2⟩ := info_parts info30
  have I0 := Lib.hid hi
  have Z0 := Lib.hid hz0
  have S0 := Lib.hid hz1
  have Y0 := Lib.hid hz2
  clear hi hz0 hz1 hz2
  obtain ⟨i33, hi, hz0, hz1, hz2⟩ := info_parts info33
  have I3 := Lib.hid hi
  have Z3 := Lib.hid hz0
  have S3 := Lib.hid hz1
  have Y3 := Lib.hid hz2
  clear hi hz0 hz1 hz2
  go_enter Try.func11, Try.ntmps11
  go_wp2_with fail
  go_loopg [9, 10, 11, 12] n (fun gk v s b i wr => ∃ (k : Nat) (us : List Value), k ≤ n ∧ gk = n - k ∧ i = .int .i64 k ∧ s = .int .i64 (gfold named slots bts (hs.take k)).2.1 ∧ b = .int .i64 (gfold named slots bts (hs.take k)).2.2 ∧ Below w.heap.size w wr ∧ GR wr w.heap.size v (gfold named slots bts (hs.take k)).1 us)
  case atStart => exact ⟨0, [], Nat.zero_le _, rfl, rfl, rfl, rfl, Below.refl _ _, GR.nil _ _⟩
  case round =>
    obtain ⟨k, us, hk, hgk, rfl, rfl, rfl, hb, hG⟩ := hrel
    have HK := Lib.hid hgk
    have HB := Lib.hid hb
    have HG := Lib.hid hG
    have HN' := HN.out
    clear hgk hb hG
    by_cases hlt : k < n
    · obtain ⟨x, hx⟩ : ∃ x, hs[k]? = some x := ⟨hs[k]'(by rw [H.out.len]; exact hlt), by simp⟩
      obtain ⟨hb, ho, rfl, c1, c2⟩ := (H.out.below HB.out).get hx
      have hk0 : (0 : Int) ≤ (k : Int) := by omega
      have hk1 : (k : Int) < (n : Int) := by omega
      have hxl : x.n ≤ 1000 := HLM.out.2 x (List.mem_of_getElem? hx)
      have HSLT := Lib.hid ((H.out.below HB.out).2 x (List.mem_of_getElem? hx))
      have HOKX := Lib.hid (HOH.out x (List.mem_of_getElem? hx))
      have HTK : Hid (gfold named slots bts (hs.take (k + 1)) = gstep named slots bts (gfold named slots bts (hs.take k)) x) := Lib.hid (by rw [List.take_add_one, hx]; exact gfold_snoc _ _ _ _ _)
      have HLIM := Lib.hid (gfold_lim (named := named) (slots := slots) (bts := bts) (hs := hs.take k) (fun t ht => HOH.out t (List.mem_of_mem_take ht)))
      have HTL : Hid ((hs.take k).length ≤ 1000) := Lib.hid (by simp; omega)
      have HQB := Lib.hid (bytes_le (named := named) (live := true) HOKX.out.1 HOKX.out.2)
      have HQL : Hid ((part named x true).length ≤ 1000) := Lib.hid (Nat.le_trans (partTo_len named x true x.n) hxl)
      obtain ⟨st, hst⟩ : ∃ st, gfold named slots bts (hs.take k) = st := ⟨_, rfl⟩
      rw [hst] at HG HTK HLIM ⊢
      clear hst
      obtain ⟨G, s0, b0⟩ := st
      simp only at HG HLIM ⊢
      have HX := Lib.hid hx
      clear hx
      have hcl : Hid (∀ V, Below wr.heap.size wr V → V.cell? ⟨hb, ho + k * 2, none⟩ = some (.int .u32 x.id) ∧ V.cell? ⟨hb, ho + k * 2 + 1, none⟩ = some (.slice x.A x.n x.c)) := Lib.hid (fun V hV => ⟨below_cell hV c1, below_cell hV c2⟩)
      go_wp2_with fail
      refine Calls.mono (HC31.out wr HB.out x hxl) ?_
      rintro e w1 ⟨rfl, hb1⟩
      have HB1 : Hid (Below wr.heap.size wr w1) := Lib.hid hb1
      have HBW1 : Hid (Below w.heap.size w w1) := Lib.hid (HB.out.trans (hb1.mono HB.out.size))
      clear hb1 c1 c2
      by_cases hmix : isMixed named x = true
      · have HSEL : Hid (isMixed named x = true) := Lib.hid hmix
        rw [hmix]
        clear hmix
        obtain ⟨c1, c2⟩ := hcl.out _ HB1.out
        go_wp2_with fail
        refine Calls.mono (HC16.out w1 HBW1.out x hxl) ?_
        rintro e w2 ⟨v2, rfl, hb2, hr2⟩
        obtain ⟨A2, ac2, hv2⟩ := own_slice hr2
        subst hv2
        have HP2 := Lib.hid (Pls.own hr2 rfl)
        have HB2 : Hid (Below wr.heap.size wr w2) := Lib.hid (HB1.out.trans (hb2.mono HB1.out.size))
        clear hb2 hr2 c1 c2
        obtain ⟨c1, c2⟩ := hcl.out _ HB2.out
        go_wp2_with fail
        refine Calls.mono (bytes_part (HSLT.out.below HB2.out) HOKX.out.2 hxl HP2.out) ?_
        rintro e w3 ⟨rfl, hb3⟩
        have HB3 : Hid (Below wr.heap.size wr w3) := Lib.hid (HB2.out.trans (hb3.mono HB2.out.size))
        have HBW3 : Hid (Below w.heap.size w w3) := Lib.hid (HB.out.trans (HB3.out.mono HB.out.size))
        have HG3 := Lib.hid (HG.out.below HB3.out)
        clear hb3 c1 c2 HG HP2
        obtain ⟨k1, hk1e⟩ : ∃ k1, (part named x true).length = k1 := ⟨_, rfl⟩
        obtain ⟨y1, hy1e⟩ : ∃ y1, bytes named x true = y1 := ⟨_, rfl⟩
        have HL1 := Lib.hid hk1e
        have HQ1 := Lib.hid hy1e.symm
        rw [hk1e] at HQL ⊢
        rw [hy1e] at HQB ⊢
        clear hk1e hy1e
        have hws : IntKind.i64.wrap (s0 + (k1 : Int)) = s0 + k1 := IntWalk.i64_in _ (by have := HLIM.out; have := HQL.out; have := HTL.out; omega)
        have hwb : IntKind.i64.wrap (b0 + y1) = b0 + y1 := IntWalk.i64_in _ (by have := HLIM.out; have := HQB.out; have := HTL.out; omega)
        obtain ⟨A0, c0, hv⟩ := own_slice HG3.out.row
        subst hv
        have HCASE : (G = [] ∨ (G ≠ [] ∧ ¬ s0 + (k1 : Int) ≤ slots) ∨ (G ≠ [] ∧ s0 + (k1 : Int) ≤ slots ∧ ¬ b0 + y1 ≤ bts)) ∨ (G ≠ [] ∧ s0 + (k1 : Int) ≤ slots ∧ b0 + y1 ≤ bts) := by
          by_cases h1 : G = []
          · exact .inl (.inl h1)
          · by_cases h2 : s0 + (k1 : Int) ≤ slots
            · by_cases h3 : b0 + y1 ≤ bts
              · exact .inr ⟨h1, h2, h3⟩
              · exact .inl (.inr (.inr ⟨h1, h2, h3⟩))
            · exact .inl (.inr (.inl ⟨h1, h2⟩))
        rcases HCASE with hno | ⟨hG0, hs0, hb0⟩
        · have HNEW : Hid (gstep named slots bts (G, s0, b0) x = (G ++ [[x.id]], (k1 : Int), y1)) := Lib.hid (by
            have hq1 := HQ1.out
            have hq2 := HL1.out
            rw [gstep_new HSEL.out (by rw [← hq1, hq2]; rintro ⟨q0, q1, q2⟩; rcases hno with h | ⟨_, h'⟩ | ⟨_, _, h''⟩ <;> first | exact q0 h | exact h' q1 | exact h'' q2), ← hq1, hq2])
          have HGL : Hid (G.length ≤ 1000) := Lib.hid (Nat.le_trans HLIM.out.1 HTL.out)
          have hno2 : ¬ 0 < G.length ∨ (0 < G.length ∧ ¬ s0 + (k1 : Int) ≤ slots) ∨ (0 < G.length ∧ s0 + (k1 : Int) ≤ slots ∧ ¬ b0 + y1 ≤ bts) := by
            rcases hno with h | ⟨h, h'⟩ | ⟨h, h', h''⟩
            · exact .inl (by rw [h]; simp)
            · exact .inr (.inl ⟨List.length_pos_iff.2 h, h'⟩)
            · exact .inr (.inr ⟨List.length_pos_iff.2 h, h', h''⟩)
          clear hno
          obtain ⟨gn, hgn⟩ : ∃ gn, G.length = gn := ⟨_, rfl⟩
          have HROW : Hid (w3.ownsRow w.heap.size 30 1 (.slice A0 gn c0) gn us) := Lib.hid (by have := HG3.out.row; rw [hgn] at this; exact this)
          have HGN := Lib.hid hgn
          rw [hgn] at hno2 HGL
          obtain ⟨c1, c2⟩ := hcl.out _ HB3.out
          clear c2
          rw [hgn]
          clear hgn
          rcases hno2 with h | ⟨h, h'⟩ | ⟨h, h', h''⟩
          · have hpos : ¬ (0 : Int) < (gn : Int) := by omega
            go_wp2_with (first | (at_builtin; refine wpList_append_own _ rfl (.tmp 83) (.tmp 90) _ rfl w.heap.size 30 i30 _ 1 24 Try.underlying26 I0.out Z0.out S0.out Y0.out rfl (by decide) _ _ _ rfl ((HROW.out.alloc _).alloc _) _ 1 1 [.slice (some ⟨w3.heap.size, 0, none⟩) 1 1] rfl rfl (new1 _ _ _ _ (by simp)) (by simp [Value.oneCell']) (by have := HGL.out; simp only [maxLen]; omega) (by have := HGL.out; omega) (by have := HBW3.out.size; simp; omega) ?_))
            intro v' w4 hown' hgrow _
            have HLW : Hid (Below w3.heap.size w3 ((w3.alloc (.cells #[.int .u32 x.id] 33)).alloc (.cells #[.slice (some ⟨w3.heap.size, 0, none⟩) 1 1] 30))) := Lib.hid (((Below.refl _ w3).alloc (Nat.le_refl _) _).alloc (by simp) _)
            have HP : Hid (GR w4 w.heap.size v' (G ++ [[x.id]]) (us ++ [.slice (some ⟨w3.heap.size, 0, none⟩) 1 1])) := Lib.hid (HG3.out.push HLW.out ((heap_alloc_old _ _ (by simp)).trans (heap_alloc_new w3 _)) (Nat.le_refl _) HBW3.out.size (by rw [HGN.out]; exact hown') (by rw [HGN.out]; exact hgrow))
            have HBW4 : Hid (Below w.heap.size w w4) := Lib.hid ((HBW3.out.trans (HLW.out.mono HBW3.out.size)).grown hgrow (Nat.le_trans HBW3.out.size HLW.out.size) (fun r e => (HROW.out.lt r e).1))
            obtain ⟨A3, ac3, hv3⟩ := own_slice hown'
            subst hv3
            clear hown' hgrow
            go_wp2
            go_roundg (n - (k + 1))
            case measure => rw [HK.out]; omega
            case rel => exact ⟨k + 1, _, by omega, rfl, by go_num, by rw [HTK.out, HNEW.out], by rw [HTK.out, HNEW.out], HBW4.out, by rw [HTK.out, HNEW.out]; exact HP.out⟩
          · have hpos : (0 : Int) < (gn : Int) := by omega
            go_wp2_with (first | (at_builtin; refine wpList_append_own _ rfl (.tmp 83) (.tmp 90) _ rfl w.heap.size 30 i30 _ 1 24 Try.underlying26 I0.out Z0.out S0.out Y0.out rfl (by decide) _ _ _ rfl ((HROW.out.alloc _).alloc _) _ 1 1 [.slice (some ⟨w3.heap.size, 0, none⟩) 1 1] rfl rfl (new1 _ _ _ _ (by simp)) (by simp [Value.oneCell']) (by have := HGL.out; simp only [maxLen]; omega) (by have := HGL.out; omega) (by have := HBW3.out.size; simp; omega) ?_))
            intro v' w4 hown' hgrow _
            have HLW : Hid (Below w3.heap.size w3 ((w3.alloc (.cells #[.int .u32 x.id] 33)).alloc (.cells #[.slice (some ⟨w3.heap.size, 0, none⟩) 1 1] 30))) := Lib.hid (((Below.refl _ w3).alloc (Nat.le_refl _) _).alloc (by simp) _)
            have HP : Hid (GR w4 w.heap.size v' (G ++ [[x.id]]) (us ++ [.slice (some ⟨w3.heap.size, 0, none⟩) 1 1])) := Lib.hid (HG3.out.push HLW.out ((heap_alloc_old _ _ (by simp)).trans (heap_alloc_new w3 _)) (Nat.le_refl _) HBW3.out.size (by rw [HGN.out]; exact hown') (by rw [HGN.out]; exact hgrow))
            have HBW4 : Hid (Below w.heap.size w w4) := Lib.hid ((HBW3.out.trans (HLW.out.mono HBW3.out.size)).grown hgrow (Nat.le_trans HBW3.out.size HLW.out.size) (fun r e => (HROW.out.lt r e).1))
            obtain ⟨A3, ac3, hv3⟩ := own_slice hown'
            subst hv3
            clear hown' hgrow
            go_wp2
            go_roundg (n - (k + 1))
            case measure => rw [HK.out]; omega
            case rel => exact ⟨k + 1, _, by omega, rfl, by go_num, by rw [HTK.out, HNEW.out], by rw [HTK.out, HNEW.out], HBW4.out, by rw [HTK.out, HNEW.out]; exact HP.out⟩
          · have hpos : (0 : Int) < (gn : Int) := by omega
            go_wp2_with (first | (at_builtin; refine wpList_append_own _ rfl (.tmp 83) (.tmp 90) _ rfl w.heap.size 30 i30 _ 1 24 Try.underlying26 I0.out Z0.out S0.out Y0.out rfl (by decide) _ _ _ rfl ((HROW.out.alloc _).alloc _) _ 1 1 [.slice (some ⟨w3.heap.size, 0, none⟩) 1 1] rfl rfl (new1 _ _ _ _ (by simp)) (by simp [Value.oneCell']) (by have := HGL.out; simp only [maxLen]; omega) (by have := HGL.out; omega) (by have := HBW3.out.size; simp; omega) ?_))
            intro v' w4 hown' hgrow _
            have HLW : Hid (Below w3.heap.size w3 ((w3.alloc (.cells #[.int .u32 x.id] 33)).alloc (.cells #[.slice (some ⟨w3.heap.size, 0, none⟩) 1 1] 30))) := Lib.hid (((Below.refl _ w3).alloc (Nat.le_refl _) _).alloc (by simp) _)
            have HP : Hid (GR w4 w.heap.size v' (G ++ [[x.id]]) (us ++ [.slice (some ⟨w3.heap.size, 0, none⟩) 1 1])) := Lib.hid (HG3.out.push HLW.out ((heap_alloc_old _ _ (by simp)).trans (heap_alloc_new w3 _)) (Nat.le_refl _) HBW3.out.size (by rw [HGN.out]; exact hown') (by rw [HGN.out]; exact hgrow))
            have HBW4 : Hid (Below w.heap.size w w4) := Lib.hid ((HBW3.out.trans (HLW.out.mono HBW3.out.size)).grown hgrow (Nat.le_trans HBW3.out.size HLW.out.size) (fun r e => (HROW.out.lt r e).1))
            obtain ⟨A3, ac3, hv3⟩ := own_slice hown'
            subst hv3
            clear hown' hgrow
            go_wp2
            go_roundg (n - (k + 1))
            case measure => rw [HK.out]; omega
            case rel => exact ⟨k + 1, _, by omega, rfl, by go_num, by rw [HTK.out, HNEW.out], by rw [HTK.out, HNEW.out], HBW4.out, by rw [HTK.out, HNEW.out]; exact HP.out⟩
        · obtain ⟨gv, cv, D, g, us0, u, cur, e1, rfl, rfl, hl0, hBgv, hcur, hcell, hfroz, hurow⟩ := HG3.out.form hG0
          have HNEW : Hid (gstep named slots bts (D ++ [g], s0, b0) x = (D ++ [g ++ [x.id]], s0 + (k1 : Int), b0 + y1)) := Lib.hid (by
            have hq1 := HQ1.out
            have hq2 := HL1.out
            rw [gstep_more HSEL.out (by rw [hq2]; exact hs0) (by rw [← hq1]; exact hb0), ← hq1, hq2])
          have HGL : Hid (D.length + 1 ≤ 1000 ∧ g.length ≤ 1000) := Lib.hid (by
            have q1 := HLIM.out.1
            have q2 := HLIM.out.2.1 g (by simp)
            have := HTL.out
            simp at q1
            omega)
          obtain ⟨rfl, rfl⟩ : A0 = some ⟨gv, 0, none⟩ ∧ c0 = cv := by injection e1 with q1 q2 q3; exact ⟨q1, q3⟩
          have hlen : (D ++ [g]).length = D.length + 1 := by simp
          rw [hlen] at HG3 ⊢
          clear e1 hlen hG0 hl0
          obtain ⟨Au, cu, hu⟩ := own_slice hurow
          subst hu
          obtain ⟨gn, hgn⟩ : ∃ gn, D.length + 1 = gn := ⟨_, rfl⟩
          have HGN := Lib.hid hgn
          rw [hgn]
          obtain ⟨kk, hkk⟩ : ∃ kk, D.length = kk := ⟨_, rfl⟩
          have HKK := Lib.hid hkk
          rw [hkk] at hcell hfroz
          have hpos : (0 : Int) < (gn : Int) := by omega
          have hkk0 : (0 : Int) ≤ (kk : Int) := by omega
          have hkk1 : (kk : Int) < (gn : Int) := by omega
          have hwk : IntKind.i64.wrap ((gn : Int) - 1) = (kk : Int) := by
            rw [show (gn : Int) - 1 = (kk : Int) by omega]
            exact IntWalk.i64_in _ (by have := HGL.out; omega)
          clear hgn hkk
          obtain ⟨WA, hWA⟩ : ∃ WA, w3.drew.alloc (.cells #[.int .u32 x.id] 33) = WA := ⟨_, rfl⟩
          have HBA : Hid (Below w3.heap.size w3 WA) := Lib.hid (hWA ▸ (below_drew (Below.refl _ w3)).alloc (Nat.le_refl _) _)
          have hnewc : ∀ j u, [Value.int .u32 x.id][j]? = some u → WA.cell? ((⟨w3.heap.size, 0, none⟩ : Addr).add j) = some u := hWA ▸ new1 w3.drew _ _ _ rfl
          obtain ⟨v', w4, hr, hown', hgrow, _, hat⟩ := run_append_own_at (P := Try.prog) WA w.heap.size 30 30 33 i33 _ 1 4 Try.underlying30 I3.out Z3.out S3.out Y3.out rfl (by decide) _ _ _ (hurow.kept (grown_of_below HBA.out) (by rcases hoo : Value.ownBlock (.slice Au g.length cu) with _ | q <;> simp)) ⟨w3.heap.size, 0, none⟩ 1 1 [.int .u32 x.id] rfl hnewc (by simp [Value.oneCell']) (by have := HGL.out; simp only [maxLen]; omega) (by have := HGL.out; omega) (Nat.le_trans HBW3.out.size HBA.out.size)
          obtain ⟨Au', cu', hv'⟩ := own_slice hown'
          subst hv'
          have HC2 : Hid (w4.heap[gv]? = some (.cells cur 30 (0, 0))) := Lib.hid ((hgrow.block gv (Nat.lt_of_lt_of_le (Array.getElem?_eq_some_iff.1 hcur).1 HBA.out.size) (fun e => (row_ne hurow (fun cs e2 => by rw [hcur] at e2; cases e2)) e.symm)).trans ((HBA.out.block gv (Array.getElem?_eq_some_iff.1 hcur).1).trans hcur))
          have HP : Hid (GR (w4.setCell ⟨gv, kk, none⟩ (.slice Au' (g.length + 1) cu')) w.heap.size (.slice (some ⟨gv, 0, none⟩) gn c0) (D ++ [g ++ [x.id]]) (us0 ++ [.slice Au' (g.length + 1) cu'])) := Lib.hid (by
            have q := HG3.out.grow HBA.out hown' hgrow hat
            rw [HGN.out, HKK.out] at q
            exact q)
          have HBW5 : Hid (Below w.heap.size w (w4.setCell ⟨gv, kk, none⟩ (.slice Au' (g.length + 1) cu'))) := Lib.hid (((HBW3.out.trans (HBA.out.mono HBW3.out.size)).grown hgrow (Nat.le_trans HBW3.out.size HBA.out.size) (fun r e => (hurow.lt r e).1)).setCell (p := ⟨gv, kk, none⟩) hBgv _)
          have HLB : Hid (hb < w.heap.size) := Lib.hid (by
            obtain ⟨b', o', e', hl', _⟩ := H.out.1.2 (by omega)
            cases e'
            exact hl')
          have HSX : Hid (∀ V, Below w.heap.size w V → V.cell? ⟨hb, ho + k * 2, none⟩ = some (.int .u32 x.id)) := Lib.hid (fun V hV => by
            obtain ⟨b', o', e', d1, _⟩ := (H.out).get HX.out
            cases e'
            exact (World.cell?_of_block (hV.block hb HLB.out)).trans d1)
          have hcellA : (w3.alloc (.cells #[.int .u32 x.id] 33)).cell? ⟨gv, kk, none⟩ = some (.slice Au g.length cu) := cell_al _ hcell
          have hcell2 : ∃ z, w4.cell? ⟨gv, kk, none⟩ = some z := by
            rcases hcc : w4.cell? ⟨gv, kk, none⟩ with _ | z
            · exfalso
              have q1 := World.cell?_of_block (w := w3) (w' := w4) (a := ⟨gv, kk, none⟩) (HC2.out.trans hcur.symm)
              rw [hcc, hcell] at q1
              cases q1
            · exact ⟨z, rfl⟩
          obtain ⟨z2, hcell2⟩ := hcell2
          have hfroz2 : w4.frozen? ⟨gv, kk, none⟩ = false := (World.frozen?_of_block (w := w3) (w' := w4) (a := ⟨gv, kk, none⟩) (HC2.out.trans hcur.symm)).trans hfroz
          have HS0 := Lib.hid (HSX.out _ (below_drew HBW3.out))
          have HSA : Hid (WA.cell? ⟨hb, ho + k * 2, none⟩ = some (.int .u32 x.id)) := Lib.hid (HSX.out _ (HBW3.out.trans (HBA.out.mono HBW3.out.size)))
          have HSB : Hid (w4.cell? ⟨hb, ho + k * 2, none⟩ = some (.int .u32 x.id)) := Lib.hid (HSX.out _ ((HBW3.out.trans (HBA.out.mono HBW3.out.size)).grown hgrow (Nat.le_trans HBW3.out.size HBA.out.size) (fun r e => (hurow.lt r e).1)))
          have HSC := Lib.hid (HSX.out _ HBW5.out)
          clear hnewc hat hcur HC2 hfroz hown' hgrow
          subst hWA
          go_wp2_with fail
          refine region_viaW ?_
          apply Exists.intro
          apply Exists.intro
          refine ⟨?_, ?_⟩
          · refine wp_region_held_drew (S := fun wx => wx.cell? ⟨hb, ho + k * 2, none⟩ = some (.int .u32 x.id)) (by kernel_rfl) HS0.out (fun hSx => ?_)
            refine wpAnyH_take (i := 0) (v := .slice (some ⟨gv, 0, none⟩) gn c0) rfl (by kernel_rfl) (by kernel_rfl) (by kernel_rfl) (fun _ _ _ h => h) (Or.inl ⟨by rfl, ?_⟩) hSx ?_
            · intro wx hSx2; clear hSx; go_simp
            simp only [Act.put, List.setIfInBounds_toArray]
            refine wpAnyH_take (i := 1) (v := .slice (some ⟨gv, 0, none⟩) gn c0) rfl (by kernel_rfl) (by kernel_rfl) (by kernel_rfl) (fun _ _ _ h => h) (Or.inl ⟨by rfl, ?_⟩) hSx ?_
            · intro wx hSx2; clear hSx; go_simp
            simp only [Act.put]
            refine wpAnyH_take (i := 2) (v := .int .i64 gn) rfl (by kernel_rfl) (by kernel_rfl) (by kernel_rfl) (fun _ _ _ h => h) (Or.inl ⟨by rfl, ?_⟩) hSx ?_
            · intro wx hSx2; clear hSx; go_simp
            simp only [Act.put]
            refine wpAnyH_take (i := 3) (v := .int .i64 kk) rfl (by kernel_rfl) (by kernel_rfl) (by kernel_rfl) (fun _ _ _ h => h) (Or.inl ⟨by rfl, ?_⟩) hSx ?_
            · intro wx hSx2; clear hSx; go_simp
            simp only [Act.put]
            refine wpAnyH_take (i := 4) (v := .slice (some ⟨gv, 0, none⟩) gn c0) rfl (by kernel_rfl) (by kernel_rfl) (by kernel_rfl) (fun _ _ _ h => h) (Or.inl ⟨by rfl, ?_⟩) hSx ?_
            · intro wx hSx2; clear hSx; go_simp
            simp only [Act.put]
            refine wpAnyH_take (i := 5) (v := .slice (some ⟨gv, 0, none⟩) gn c0) rfl (by kernel_rfl) (by kernel_rfl) (by kernel_rfl) (fun _ _ _ h => h) (Or.inl ⟨by rfl, ?_⟩) hSx ?_
            · intro wx hSx2; clear hSx; go_simp
            simp only [Act.put]
            refine wpAnyH_take (i := 6) (v := .int .i64 gn) rfl (by kernel_rfl) (by kernel_rfl) (by kernel_rfl) (fun _ _ _ h => h) (Or.inl ⟨by rfl, ?_⟩) hSx ?_
            · intro wx hSx2; clear hSx; go_simp
            simp only [Act.put]
            refine wpAnyH_take (i := 7) (v := .int .i64 kk) rfl (by kernel_rfl) (by kernel_rfl) (by kernel_rfl) (fun _ _ _ h => h) (Or.inl ⟨by rfl, ?_⟩) hSx ?_
            · intro wx hSx2; clear hSx; go_simp
            simp only [Act.put]
            refine wpAnyH_take (i := 8) (v := .pointer (some ⟨gv, kk, none⟩)) rfl (by kernel_rfl) (by kernel_rfl) (by kernel_rfl) (fun _ _ _ h => h) (Or.inl ⟨by rfl, ?_⟩) hSx ?_
            · intro wx hSx2; clear hSx; go_simp
            simp only [Act.put]
            refine wpAnyH_take (i := 10) (v := .slice (some ⟨hb, ho, none⟩) n c) rfl (by kernel_rfl) (by kernel_rfl) (by kernel_rfl) (fun _ _ _ h => h) (Or.inl ⟨by rfl, ?_⟩) hSx ?_
            · intro wx hSx2; clear hSx; go_simp
            simp only [Act.put]
            refine wpAnyH_take (i := 11) (v := .int .i64 k) rfl (by kernel_rfl) (by kernel_rfl) (by kernel_rfl) (fun _ _ _ h => h) (Or.inl ⟨by rfl, ?_⟩) hSx ?_
            · intro wx hSx2; clear hSx; go_simp
            simp only [Act.put]
            refine wpAnyH_take (i := 12) (v := .pointer (some ⟨hb, ho + k * 2, none⟩)) rfl (by kernel_rfl) (by kernel_rfl) (by kernel_rfl) (fun _ _ _ h => h) (Or.inl ⟨by rfl, ?_⟩) hSx ?_
            · intro wx hSx2; clear hSx; go_simp
            simp only [Act.put]
            refine wpAnyH_take (i := 13) (v := .pointer (some ⟨hb, ho + k * 2, none⟩)) rfl (by kernel_rfl) (by kernel_rfl) (by kernel_rfl) (fun _ _ _ h => h) (Or.inl ⟨by rfl, ?_⟩) hSx ?_
            · intro wx hSx2; clear hSx; go_simp
            simp only [Act.put]
            refine wpAnyH_take (i := 14) (v := .int .u32 x.id) rfl (by kernel_rfl) (by kernel_rfl) (by kernel_rfl) (fun _ _ _ h => h) (Or.inl ⟨by rfl, ?_⟩) hSx ?_
            · intro wx hSx2; clear hSx; go_simp
            simp only [Act.put]
            refine wpAnyH_ready (rs := [9, 15]) (by kernel_rfl) (by simp) ?_
            refine AllReadyH.cons rfl (fun KK hKK => ?_) (AllReadyH.cons rfl (fun KK hKK => ?_) AllReadyH.nil)
            · go_simp
              refine hKK.out _ _ HS0.out (fun hSy => ?_)
              clear hKK hSy KK
              refine wpAnyH_ready (rs := [15]) (by kernel_rfl) (by simp) ?_
              refine AllReadyH.cons rfl (fun KK hKK => ?_) AllReadyH.nil
              go_simp
              refine hKK.out _ _ (HSA.out) (fun hSy => ?_)
              clear hKK hSx
              have hSx := hSy
              clear hSy KK
              refine wpAnyH_ready (rs := [16]) (by kernel_rfl) (by simp) ?_
              refine AllReadyH.cons rfl (fun KK hKK => ?_) AllReadyH.nil
              refine if_yes (by kernel_rfl) ?_
              refine op_append_run (.tmp 67) (.tmp 73) 30 rfl rfl rfl hr ?_
              refine hKK.out _ _ HSB.out (fun hSy => ?_)
              clear hKK hSx
              have hSx := hSy
              clear hSy KK
              simp only [Act.put, List.setIfInBounds_toArray]
              refine wpAnyH_take (i := 17) (v := .pointer (some ⟨gv, kk, none⟩)) rfl (by kernel_rfl) (by kernel_rfl) (by kernel_rfl) (fun _ _ _ h => h) (Or.inl ⟨by rfl, ?_⟩) hSx ?_
              · intro wx hSx2; clear hSx; go_simp
              simp only [Act.put]
              refine wpAnyH_ready (rs := [18]) (by kernel_rfl) (by simp) ?_
              refine AllReadyH.cons rfl (fun KK hKK => ?_) AllReadyH.nil
              go_simp
              refine hKK.out _ _ (HSC.out) (fun hSy => ?_)
              clear hKK hSx
              have hSx := hSy
              clear hSy KK
              refine wpAnyH_done (by kernel_rfl) ?_ _
              exact ⟨rfl, rfl⟩
            · go_simp
              refine hKK.out _ _ HSA.out (fun hSy => ?_)
              clear hKK hSy KK
              refine wpAnyH_ready (rs := [9]) (by kernel_rfl) (by simp) ?_
              refine AllReadyH.cons rfl (fun KK hKK => ?_) AllReadyH.nil
              go_simp
              refine hKK.out _ _ (HSA.out) (fun hSy => ?_)
              clear hKK hSx
              have hSx := hSy
              clear hSy KK
              refine wpAnyH_ready (rs := [16]) (by kernel_rfl) (by simp) ?_
              refine AllReadyH.cons rfl (fun KK hKK => ?_) AllReadyH.nil
              refine if_yes (by kernel_rfl) ?_
              refine op_append_run (.tmp 67) (.tmp 73) 30 rfl rfl rfl hr ?_
              refine hKK.out _ _ HSB.out (fun hSy => ?_)
              clear hKK hSx
              have hSx := hSy
              clear hSy KK
              simp only [Act.put, List.setIfInBounds_toArray]
              refine wpAnyH_take (i := 17) (v := .pointer (some ⟨gv, kk, none⟩)) rfl (by kernel_rfl) (by kernel_rfl) (by kernel_rfl) (fun _ _ _ h => h) (Or.inl ⟨by rfl, ?_⟩) hSx ?_
              · intro wx hSx2; clear hSx; go_simp
              simp only [Act.put]
              refine wpAnyH_ready (rs := [18]) (by kernel_rfl) (by simp) ?_
              refine AllReadyH.cons rfl (fun KK hKK => ?_) AllReadyH.nil
              go_simp
              refine hKK.out _ _ (HSC.out) (fun hSy => ?_)
              clear hKK hSx
              have hSx := hSy
              clear hSy KK
              refine wpAnyH_done (by kernel_rfl) ?_ _
              exact ⟨rfl, rfl⟩
          go_wp2
          go_roundg (n - (k + 1))
          case measure => rw [HK.out]; omega
          case rel => exact ⟨k + 1, _, by omega, rfl, by go_num, by rw [HTK.out, HNEW.out], by rw [HTK.out, HNEW.out], HBW5.out, by rw [HTK.out, HNEW.out]; exact HP.out⟩
      · have HSEL : Hid (isMixed named x = false) := Lib.hid (by simpa using hmix)
        rw [show isMixed named x = false by simpa using hmix]
        clear hmix
        go_wp2
        go_roundg (n - (k + 1))
        case measure => rw [HK.out]; omega
        case rel => exact ⟨k + 1, us, by omega, rfl, by go_num, by rw [HTK.out, gstep_no HSEL.out], by rw [HTK.out, gstep_no HSEL.out], HBW1.out, by rw [HTK.out, gstep_no HSEL.out]; exact HG.out.below HB1.out⟩
    · have HT : Hid (hs.take k = hs) := Lib.hid (List.take_of_length_le (by rw [H.out.len]; omega))
      go_wp2
      go_ret
      exact ⟨_, us, rfl, HB.out, by have q := HG.out; rw [HT.out] at q; exact q⟩
end Go.Proofs.Ytgdljjoaiogpfaa
