/- The walk over CompactDone. -/
import Derived.Test.YtgdljjoaiogpfaaD5
namespace Go.Proofs.Ytgdljjoaiogpfaa
open Go.RowKit Go.Maps
set_option maxRecDepth 100000 in
set_option maxHeartbeats 8000000 in
theorem done5 {w : World} {A : Option Addr} {n c : Nat} {hs : List Hd} {B : Option Addr} {m d : Nat} {named : List Plc} (h : Hds w A n hs) (hi : ∀ x ∈ hs, (Lit.int .u32 x.id).wf = true) (hp : Pls w B m named) (hok : ∀ p ∈ named, PlcOk p) (slots bts : Int) :
    Calls Try.prog 5 #[.slice A n c, .slice B m d, .int .i64 slots, .int .i64 bts] w fun e w' => e = .returned (.bool true) ∧ Below w.heap.size w w' := by
  have H := Lib.hid h
  have HI := Lib.hid hi
  have HP := Lib.hid hp
  have HOK := Lib.hid hok
  clear h hi hp hok
  obtain ⟨i39, hi, hz0, hz1, hz2⟩ := info_parts info39
  have I3 := Lib.hid hi
  have Z3 := Lib.hid hz0
  have S3 := Lib.hid hz1
  have Y3 := Lib.hid hz2
  clear hi hz0 hz1 hz2
  obtain ⟨i45, hi, hz0, hz1, hz2⟩ := info_parts info45
  have I4 := Lib.hid hi
  have Z4 := Lib.hid hz0
  have S4 := Lib.hid hz1
  have Y4 := Lib.hid hz2
  clear hi hz0 hz1 hz2
  obtain ⟨i48, hi, hz0, hz1, hz2⟩ := info_parts info48
  have I8 := Lib.hid hi
  have Z8 := Lib.hid hz0
  have S8 := Lib.hid hz1
  have Y8 := Lib.hid hz2
  clear hi hz0 hz1 hz2
  go_enter Try.func5, Try.ntmps5
  go_wp2_with fail
  refine Calls.mono (few7 H.out B m d) ?_
  rintro e w1 ⟨⟨bf, rfl, hfew⟩, hb1⟩
  have HFEW := Lib.hid hfew
  have HB1 := Lib.hid hb1
  clear hfew hb1
  cases bf with
  | false =>
    go_wp2_with fail
    refine Calls.mono (awake8 _) ?_
    rintro e w2 ⟨rfl, hb2⟩
    go_wp2
    go_ret
    exact ⟨rfl, HB1.out.trans (hb2.mono HB1.out.size)⟩
  | true =>
    obtain ⟨hn, hm, hx⟩ := HFEW.out rfl
    have HIN : Hid (∀ V, Below w.heap.size w V → InOk V A n hs B m named) := Lib.hid (fun V hV => (inOk_few H.out HI.out HP.out HOK.out hn hm hx).below hV)
    have HN12 := Lib.hid hn
    have HX20 := Lib.hid hx
    clear hn hm hx HFEW
    go_wp2_with fail
    refine Calls.mono (may10 (HIN.out _ HB1.out).hd (HIN.out _ HB1.out).lim) ?_
    rintro e w2 ⟨rfl, hb2⟩
    have HB2 : Hid (Below w.heap.size w w2) := Lib.hid (HB1.out.trans (hb2.mono HB1.out.size))
    clear hb2
    by_cases hmay : May hs
    · have HMAY := Lib.hid hmay
      rw [mayB_yes hmay]
      clear hmay
      have HC16 : Hid (∀ V, Below w.heap.size w V → ∀ (x : Hd) (live : Bool), x.n ≤ 1000 → Calls Try.prog 16 #[.agg #[.int .u32 x.id, .slice x.A x.n x.c], .slice B m d, .bool live] V fun e w' => ∃ A c, e = .returned (.slice A (part named x live).length c) ∧ Below V.heap.size V w' ∧ Pls w' A (part named x live).length (part named x live) ∧ (A = none → (part named x live).length = 0 ∧ c = 0)) := Lib.hid (fun V hV x live hx => by
        refine (part16 (HIN.out V hV).pl (HIN.out V hV).mm x hx live).mono ?_
        rintro e w' ⟨v, rfl, hb, hr⟩
        obtain ⟨A, c, rfl, hz⟩ := own_slice2 hr
        exact ⟨A, c, rfl, hb, Pls.own hr rfl, hz⟩)
      go_wp2_with fail
      go_loopg [9, 10, 11] n (fun gk v1 v2 i wr => ∃ k : Nat, k ≤ n ∧ gk = n - k ∧ i = .int .i64 k ∧ Below w.heap.size w wr ∧ (∀ x ∈ hs.take k, x.id ≤ 2147483648) ∧ wr.ownsRow w.heap.size 45 2 v1 ((hs.take k).filter (isFull named)).length (row2 (((hs.take k).filter (isFull named)).map hdV)) ∧
        wr.ownsRow w.heap.size 39 2 v2 (allP named true ((hs.take k).filter (isFull named))).length (rowP (allP named true ((hs.take k).filter (isFull named)))))
      case atStart => exact ⟨0, Nat.zero_le _, rfl, rfl, HB2.out, by simp, World.ownsRow_nil _ _ _ _, World.ownsRow_nil _ _ _ _⟩
      case round =>
        obtain ⟨k, hk, hgk, rfl, hb, hle, hr1, hr2⟩ := hrel
        have HK := Lib.hid hgk
        have HB := Lib.hid hb
        have HLE := Lib.hid hle
        have HR1 := Lib.hid hr1
        have HR2 := Lib.hid hr2
        have hn12 := HN12.out
        clear hgk hb hle hr1 hr2
        by_cases hlt : k < n
        · obtain ⟨x, hx⟩ : ∃ x, hs[k]? = some x := ⟨hs[k]'(by rw [H.out.len]; exact hlt), by simp⟩
          obtain ⟨b, o, rfl, c1, c2⟩ := (H.out.below HB.out).get hx
          have hk0 : (0 : Int) ≤ (k : Int) := by omega
          have hk1 : (k : Int) < (n : Int) := by omega
          have hxm := List.mem_of_getElem? hx
          have hxl : x.n ≤ 20 := HX20.out x hxm
          have HXL : Hid (x.n ≤ 1000) := Lib.hid (by omega)
          have HTK : Hid (hs.take (k + 1) = hs.take k ++ [x]) := Lib.hid (by rw [List.take_add_one, hx]; rfl)
          have HPB : Hid (((hs.take k).filter (isFull named)).length ≤ 12 ∧ (allP named true ((hs.take k).filter (isFull named))).length ≤ 20000 ∧ (part named x true).length ≤ 20) := Lib.hid (by
            have q1 : ((hs.take k).filter (isFull named)).length ≤ (hs.take k).length := List.length_filter_le _ _
            have q2 : (hs.take k).length ≤ 12 := by simp; omega
            have q3 := allP_len named true ((hs.take k).filter (isFull named)) (fun y hy => by have := HX20.out y (List.mem_of_mem_take (List.mem_filter.1 hy).1); omega)
            have q4 := partTo_len named x true x.n
            refine ⟨by omega, by omega, ?_⟩
            unfold part
            omega)
          have hcl : Hid (∀ V, Below w.heap.size w V → V.cell? ⟨b, o + k * 2, none⟩ = some (.int .u32 x.id) ∧ V.cell? ⟨b, o + k * 2 + 1, none⟩ = some (.slice x.A x.n x.c)) := Lib.hid (fun V hV => by
            obtain ⟨b', o', e', d1, d2⟩ := (H.out.below hV).get hx
            cases e'
            exact ⟨d1, d2⟩)
          obtain ⟨L, hL⟩ : ∃ L, (hs.take k).filter (isFull named) = L := ⟨_, rfl⟩
          rw [hL] at HR1 HR2 HPB
          have HLL := Lib.hid hL
          obtain ⟨l1, hl1⟩ : ∃ l1, L.length = l1 := ⟨_, rfl⟩
          obtain ⟨l2, hl2⟩ : ∃ l2, (allP named true L).length = l2 := ⟨_, rfl⟩
          rw [hl1] at HR1 HPB
          rw [hl2] at HR2 HPB
          have HL1 := Lib.hid hl1
          have HL2 := Lib.hid hl2
          obtain ⟨A1, e1, hv1⟩ := own_slice HR1.out
          subst hv1
          obtain ⟨A2, e2, hv2⟩ := own_slice HR2.out
          subst hv2
          clear hx hxm hxl hL hl1 hl2 c1 c2
          obtain ⟨c1, c2⟩ := hcl.out _ HB.out
          by_cases hbig : (2147483648 : Int) < x.id
          · go_wp2_with fail
            refine Calls.mono (awake8 _) ?_
            rintro e w3 ⟨rfl, hb3⟩
            go_wp2
            go_ret
            exact ⟨rfl, HB.out.trans (hb3.mono HB.out.size)⟩
          · have HLE2 : Hid (∀ y ∈ hs.take (k + 1), y.id ≤ 2147483648) := Lib.hid (by
              rw [HTK.out]
              intro y hy
              rcases List.mem_append.1 hy with h1 | h1
              · exact HLE.out y h1
              · simp at h1; subst h1; omega)
            go_wp2_with fail
            refine Calls.mono (HC16.out _ HB.out x true HXL.out) ?_
            rintro e w3 ⟨A3, e3, rfl, hb3, hp3, hz3⟩
            have HB3 : Hid (Below w.heap.size w w3) := Lib.hid (HB.out.trans (hb3.mono HB.out.size))
            have HR1 := Lib.hid (HR1.out.kept (grown_of_below hb3) (none_or _))
            have HR2 := Lib.hid (HR2.out.kept (grown_of_below hb3) (none_or _))
            clear hb3 hp3 hz3 c1 c2
            obtain ⟨c1, c2⟩ := hcl.out _ HB3.out
            obtain ⟨k1, hk1e⟩ : ∃ k1, (part named x true).length = k1 := ⟨_, rfl⟩
            have HK1 := Lib.hid hk1e
            rw [hk1e]
            clear hk1e
            by_cases h0 : 0 < k1
            · have h0i : (0 : Int) < (k1 : Int) := by omega
              go_wp2_with fail
              refine Calls.mono (HC16.out _ HB3.out x false HXL.out) ?_
              rintro e w4 ⟨A4, e4, rfl, hb4, hp4, hz4⟩
              have HB4 : Hid (Below w.heap.size w w4) := Lib.hid (HB3.out.trans (hb4.mono HB3.out.size))
              have HR1 := Lib.hid (HR1.out.kept (grown_of_below hb4) (none_or _))
              have HR2 := Lib.hid (HR2.out.kept (grown_of_below hb4) (none_or _))
              clear hb4 hp4 hz4 c1 c2
              obtain ⟨c1, c2⟩ := hcl.out _ HB4.out
              obtain ⟨k2, hk2e⟩ : ∃ k2, (part named x false).length = k2 := ⟨_, rfl⟩
              have HK2 := Lib.hid hk2e
              rw [hk2e]
              clear hk2e
              by_cases h2 : k2 = 0
              · have HFU : Hid (isFull named x = true) := Lib.hid (by simp [isFull, HK1.out, HK2.out, h0, h2])
                subst h2
                go_wp2_with (first | (at_builtin; refine wpList_append_own _ rfl (.tmp 66) (.tmp 71) _ rfl w.heap.size 45 i45 _ 2 32 Try.underlying22 I4.out Z4.out S4.out Y4.out rfl (by decide) _ _ _ rfl (HR1.out.alloc _) _ 1 1 [.int .u32 x.id, .slice x.A x.n x.c] rfl rfl (new2 _ _ _ _ _ rfl) (by simp [Value.oneCell']) (by have := HPB.out; simp only [maxLen]; omega) (by have := HPB.out; omega) (by have := HB4.out.size; simp; omega) ?_))
                intro v5 w5 hown5 hgrow5 _
                obtain ⟨A5, e5, hv5⟩ := own_slice hown5
                subst hv5
                have HB5 : Hid (Below w.heap.size w w5) := Lib.hid ((HB4.out.alloc HB4.out.size _).grown hgrow5 (by have := HB4.out.size; simp; omega) (fun r e => (HR1.out.lt r e).1))
                have HR2 := Lib.hid ((HR2.out.alloc _).kept hgrow5 (rows_ne HR2.out HR1.out (by decide)))
                have HR5 := Lib.hid hown5
                clear hown5 hgrow5 c1 c2
                obtain ⟨c1, c2⟩ := hcl.out _ HB5.out
                go_wp2_with fail
                refine Calls.mono (HC16.out _ HB5.out x true HXL.out) ?_
                rintro e w6 ⟨A6, e6, rfl, hb6, hp6, hz6⟩
                have HB6 : Hid (Below w.heap.size w w6) := Lib.hid (HB5.out.trans (hb6.mono HB5.out.size))
                have HR5 := Lib.hid (HR5.out.kept (grown_of_below hb6) (none_or _))
                have HR2 := Lib.hid (HR2.out.kept (grown_of_below hb6) (none_or _))
                rw [HK1.out] at hp6 hz6
                rw [HK1.out]
                have HP6 := Lib.hid hp6
                have HZ6 := Lib.hid hz6
                clear hb6 hp6 hz6 c1 c2
                go_wp2_with (first | (at_builtin; refine wpList_append_any rfl (.tmp 73) (.tmp 79) _ rfl w.heap.size 39 i39 _ 2 16 Try.underlying23 I3.out Z3.out S3.out Y3.out rfl (by decide) _ _ _ rfl HR2.out _ _ _ (rowP (part named x true)) rfl (by rw [rowP_len, HK1.out]) HZ6.out HP6.out.news (rowP_one _) (by have := HPB.out; have := HK1.out; simp only [maxLen]; omega) (by have := HPB.out; have := HK1.out; omega) HB6.out.size ?_))
                intro v7 w7 hown7 hgrow7
                obtain ⟨A7, e7, hv7⟩ := own_slice hown7
                subst hv7
                have HB7 : Hid (Below w.heap.size w w7) := Lib.hid (HB6.out.grown hgrow7 HB6.out.size (fun r e => (HR2.out.lt r e).1))
                have HR5 := Lib.hid (HR5.out.kept hgrow7 (rows_ne HR5.out HR2.out (by decide)))
                go_wp2
                go_roundg (n - (k + 1))
                case measure => rw [HK.out]; omega
                case rel =>
                  refine ⟨k + 1, by omega, rfl, by go_num, HB7.out, HLE2.out, ?_, ?_⟩
                  · rw [HTK.out, full_snoc_yes HFU.out, HLL.out, List.length_append, HL1.out, List.map_append, List.map_cons, List.map_nil, row2_snoc]
                    exact HR5.out
                  · rw [HTK.out, full_snoc_yes HFU.out, HLL.out, allP_snoc, rowP_append, List.length_append, HL2.out, HK1.out]
                    exact hown7
              · have HFU : Hid (isFull named x = false) := Lib.hid (by simp [isFull, HK2.out, h2])
                have h2i : ¬ (k2 : Int) = 0 := by omega
                go_wp2
                go_roundg (n - (k + 1))
                case measure => rw [HK.out]; omega
                case rel => exact ⟨k + 1, by omega, rfl, by go_num, HB4.out, HLE2.out, by rw [HTK.out, full_snoc_no HFU.out, HLL.out, HL1.out]; exact HR1.out, by rw [HTK.out, full_snoc_no HFU.out, HLL.out, HL2.out]; exact HR2.out⟩
            · have HFU : Hid (isFull named x = false) := Lib.hid (by simp [isFull, HK1.out, h0])
              have h0i : ¬ (0 : Int) < (k1 : Int) := by omega
              go_wp2
              go_roundg (n - (k + 1))
              case measure => rw [HK.out]; omega
              case rel => exact ⟨k + 1, by omega, rfl, by go_num, HB3.out, HLE2.out, by rw [HTK.out, full_snoc_no HFU.out, HLL.out, HL1.out]; exact HR1.out, by rw [HTK.out, full_snoc_no HFU.out, HLL.out, HL2.out]; exact HR2.out⟩
        · have HT : Hid (hs.take k = hs) := Lib.hid (List.take_of_length_le (by rw [H.out.len]; omega))
          rw [HT.out] at HLE HR1 HR2
          have hk1 : ¬ (k : Int) < (n : Int) := by omega
          clear hlt HT
          obtain ⟨L1, hL1⟩ : ∃ L1, hs.filter (isFull named) = L1 := ⟨_, rfl⟩
          have HFL := Lib.hid hL1
          rw [hL1] at HR1 HR2
          obtain ⟨l1, hl1⟩ : ∃ l1, L1.length = l1 := ⟨_, rfl⟩
          obtain ⟨l2, hl2⟩ : ∃ l2, (allP named true L1).length = l2 := ⟨_, rfl⟩
          have HL1 := Lib.hid hl1
          have HL2 := Lib.hid hl2
          rw [hl1] at HR1
          rw [hl2] at HR2
          clear hL1 hl1 hl2
          obtain ⟨A1, e1, hv1⟩ := own_slice HR1.out
          subst hv1
          obtain ⟨A2, e2, hv2⟩ := own_slice HR2.out
          subst hv2
          go_wp2_with fail
          refine Calls.mono (groups9 (HIN.out _ HB.out) slots bts) ?_
          rintro e w3 ⟨gv, us, rfl, hb3, hg3⟩
          have HB3 : Hid (Below w.heap.size w w3) := Lib.hid (HB.out.trans (hb3.mono HB.out.size))
          rw [okHs_yes HMAY.out] at hg3
          obtain ⟨G, hG⟩ : ∃ G, (gfold named slots bts hs).1 = G := ⟨_, rfl⟩
          have HGE := Lib.hid hG
          rw [hG] at hg3
          obtain ⟨f, hf⟩ : ∃ f, idP named hs = f := ⟨_, rfl⟩
          have HF := Lib.hid hf
          have HFB : Hid (∀ b, (f b).length ≤ 20) := Lib.hid (fun b => by rw [← hf]; exact idP_small (may_dst HMAY.out) HX20.out b)
          have HGB : Hid (G.length ≤ 12 ∧ (∀ g ∈ G, g.length ≤ 12 ∧ (∀ i ∈ g, (Lit.int .u32 i).wf = true) ∧ (tot f g).length ≤ 240) ∧ lens G ≤ 12) := Lib.hid (by
            have q := gfold_lim (named := named) (slots := slots) (bts := bts) (hs := hs) (fun t ht => ⟨by have := HX20.out t ht; omega, by obtain ⟨j, hj⟩ := List.getElem?_of_mem ht; exact may_ok HMAY.out hj⟩)
            have q2 := gfold_lens (named := named) (slots := slots) (bts := bts) hs
            have q3 := gfold_tot (named := named) (slots := slots) (bts := bts) (may_dst HMAY.out) hs.length (Nat.le_refl _)
            rw [List.take_length] at q3
            have q4 := H.out.len
            have q5 := HN12.out
            rw [hG] at q q2 q3
            refine ⟨by omega, fun g hg => ⟨by have := q.2.1 g hg; omega, fun i hi => ?_, ?_⟩, by omega⟩
            · obtain ⟨x, hx, rfl, _⟩ := (q3.1 g hg).1 i hi
              exact HI.out x hx
            · have r1 := succTo_le (gs := g) HFB.out g.length
              have r2 := q.2.1 g hg
              unfold tot
              omega)
          have HGR0 := Lib.hid (show GR w3 w.heap.size gv G us from hg3.lower HB.out.size)
          have HST0 : Hid (St w G L1 w3 gv us (.slice A1 l1 e1) (.slice A2 l2 e2) [] (allP named true L1 ++ newP f G 0)) := Lib.hid (by
            refine ⟨HB3.out, HGR0.out, ?_, ?_, fun x hx => by cases hx⟩
            · rw [List.append_nil, HL1.out]
              exact HR1.out.kept (grown_of_below hb3) (none_or _)
            · rw [show newP f G 0 = [] from rfl, List.append_nil, HL2.out]
              exact HR2.out.kept (grown_of_below hb3) (none_or _))
          obtain ⟨gn, hgn⟩ : ∃ gn, G.length = gn := ⟨_, rfl⟩
          have HGN := Lib.hid hgn
          obtain ⟨GA, gc, hgv⟩ := own_slice hg3.row
          subst hgv
          rw [hgn] at HST0 HGB ⊢
          clear hG hf hgn hb3 hg3 HR1 HR2 HGR0
          go_wp2_with fail
          go_loopg [9, 10, 13] gn (fun gk v1 v2 i wr => ∃ (i0 : Nat) (S : List Hd), i0 ≤ gn ∧ gk = gn - i0 ∧ i = .int .i64 i0 ∧ S.length = i0 ∧ Succs named hs G S ∧ St w G L1 wr (.slice GA gn gc) us v1 v2 S (allP named true L1 ++ newP f G i0))
          case atStart => exact ⟨0, [], Nat.zero_le _, rfl, rfl, rfl, fun j x h => by simp at h, HST0.out⟩
          case round =>
            obtain ⟨wo, rfl⟩ : ∃ wo, wo = wr := ⟨_, rfl⟩
            obtain ⟨i0, S, hi0, hgk, rfl, hSl, hSS, hst⟩ := hrel
            have HK := Lib.hid hgk
            have HSL := Lib.hid hSl
            have HSS := Lib.hid hSS
            have HST := Lib.hid hst
            have hgb := HGB.out.1
            clear hgk hSl hSS hst
            obtain ⟨A1, e1, hv1⟩ := own_slice HST.out.left
            subst hv1
            obtain ⟨A2, e2, hv2⟩ := own_slice HST.out.plc
            subst hv2
            obtain ⟨P0, hP0⟩ : ∃ P0, allP named true L1 ++ newP f G i0 = P0 := ⟨_, rfl⟩
            have HP0 := Lib.hid hP0
            have HL1B : Hid (L1.length ≤ 12 ∧ (allP named true L1).length ≤ 240) := Lib.hid (by
              rw [← HFL.out]
              have q1 : (hs.filter (isFull named)).length ≤ hs.length := List.length_filter_le _ _
              have q2 := H.out.len
              have q3 := HN12.out
              refine ⟨by omega, ?_⟩
              have q4 := allP_both named (hs.filter (isFull named))
              have q5 := sumN_le (hs := hs.filter (isFull named)) (b := 20) (fun y hy => HX20.out y (List.mem_filter.1 hy).1)
              omega)
            have HPB : Hid (P0.length ≤ 480 ∧ (L1 ++ S).length ≤ 24) := Lib.hid (by
              have q1 := newP_len (G := G) HFB.out i0
              have q2 := lens_take G i0
              have q3 := HGB.out.2.2
              have q4 := HL1B.out
              have q5 := HSL.out
              rw [← hP0, List.length_append, List.length_append]
              omega)
            rw [hP0] at HST
            obtain ⟨pn, hpn⟩ : ∃ pn, P0.length = pn := ⟨_, rfl⟩
            have HPN := Lib.hid hpn
            obtain ⟨sn, hsn⟩ : ∃ sn, (L1 ++ S).length = sn := ⟨_, rfl⟩
            have HSN := Lib.hid hsn
            rw [hP0, hpn, hsn]
            rw [hpn, hsn] at HST HPB
            clear hP0 hpn hsn
            by_cases hlt : i0 < gn
            · obtain ⟨g, hg⟩ : ∃ g, G[i0]? = some g := ⟨G[i0]'(by rw [HGN.out]; exact hlt), by simp⟩
              obtain ⟨gb, Ai, ci, rfl, _, d1, i1⟩ := (HST.out.grp.read HGN.out).2 i0 g hg
              have HI1 := Lib.hid i1
              have HGG := Lib.hid hg
              obtain ⟨gl1, gl2, gl3⟩ := HGB.out.2.1 g (List.mem_of_getElem? hg)
              have HGL := Lib.hid gl1
              have HGW := Lib.hid gl2
              obtain ⟨F, hFF⟩ : ∃ F, tot f g = F := ⟨_, rfl⟩
              have HFF := Lib.hid hFF
              rw [hFF] at gl3
              obtain ⟨ln, hln⟩ : ∃ ln, g.length = ln := ⟨_, rfl⟩
              rw [hln] at d1 HI1 HGL
              have HSU : Hid (succTo (byAll named (okHs hs)) g ln = F) := Lib.hid (by rw [okHs_yes HMAY.out, byAll_eq HMAY.out, HF.out, ← hln]; exact hFF)
              obtain ⟨fn, hfn⟩ : ∃ fn, F.length = fn := ⟨_, rfl⟩
              have HFN := Lib.hid hfn
              rw [hfn] at gl3
              have hk0 : (0 : Int) ≤ (i0 : Int) := by omega
              have hk1 : (i0 : Int) < (gn : Int) := by omega
              have hw1 : IntKind.i64.wrap (2147483649 + (i0 : Int)) = 2147483649 + (i0 : Int) := IntWalk.i64_in _ (by omega)
              have hw2 : IntKind.u32.wrap (2147483649 + (i0 : Int)) = 2147483649 + (i0 : Int) := IntWalk.u32_in _ (by omega)
              clear hg i1 gl1 gl2 hFF hln hfn
              go_wp2_with fail
              obtain ⟨id, hid⟩ : ∃ id : Int, 2147483649 + (i0 : Int) = id := ⟨_, rfl⟩
              have HID : Hid (bigId i0 = id) := Lib.hid hid
              rw [hid]
              rw [hid] at hw1 hw2
              clear hw1 hw2
              refine Calls.mono (succ14 (HIN.out _ HST.out.bel) HI1.out HGW.out (by have := HGL.out; omega) id) ?_
              rintro e w4 ⟨lv, mv, rfl, hb4, hl4, hm4⟩
              rw [HSU.out] at hl4 hm4
              have HG4 : Hid (wo.grownBy w4 none) := Lib.hid (grown_of_below hb4)
              have HST4 := Lib.hid (HST.out.still HG4.out)
              have HSZ : Hid (wo.heap.size ≤ w4.heap.size) := Lib.hid hb4.size
              obtain ⟨Al, cl, hlv⟩ := own_slice hl4
              subst hlv
              obtain ⟨Am, cm, hmv⟩ := own_slice hm4
              subst hmv
              rw [HFN.out] at hl4 hm4 ⊢
              have HRL := Lib.hid hl4
              have HRM := Lib.hid hm4
              clear hb4 hl4 hm4 hid d1
              obtain ⟨bx, hbx⟩ : ∃ bx, w4.heap.size = bx := ⟨_, rfl⟩
              obtain ⟨w5, hw5⟩ : ∃ w5, w4.alloc (.cells #[.int .u32 id, .slice none 0 0] 45) = w5 := ⟨_, rfl⟩
              have HIN0 : Hid (Inn w G L1 bx bx id F hs w5 (.slice (some ⟨gb, 0, none⟩) gn gc) us (.slice A1 sn e1) (.slice A2 pn e2) S P0 (.slice none 0 0) (.slice Al fn cl) (.slice Am fn cm) 0) := Lib.hid (by
                have hgr : w4.grownBy w5 none := hw5 ▸ World.grownBy_alloc _ _ none
                have hww : w.heap.size ≤ wo.heap.size := HST.out.bel.size
                have hz := HSZ.out
                refine ⟨HST4.out.still hgr, Nat.le_refl _, by omega, fun r e => ?_, fun x hx r e => ?_, ?_, ?_, ?_, fun r e e2 => ?_, ?_⟩
                · have := (HST.out.left.lt r e).2; omega
                · have := ((HST.out.slt x hx).lt r e).2; omega
                · rw [← hw5, ← hbx]; exact heap_alloc_new w4 _
                · simpa [row2] using World.ownsRow_nil w5 bx 48 2
                · rw [HFN.out]; exact (row_lower39 HRL.out hww).kept hgr (none_or _)
                · have q1 := (HRL.out.lt r e).1
                  have q2 := (HST.out.plc.lt r e2).2
                  omega
                · rw [HFN.out]; exact (row_lower39 HRM.out hww).kept hgr (none_or _))
              have HBX := Lib.hid hbx
              have HW5 := Lib.hid hw5
              clear hbx hw5 HST4 HG4
              go_wp2_with fail
              rw [HW5.out, HBX.out]
              go_loopg [10, 18] fn (fun gk2 v2 kv wq => ∃ (q : Nat) (cur : Value), q ≤ fn ∧ gk2 = fn - q ∧ kv = .int .i64 q ∧ Inn w G L1 bx bx id F hs wq (.slice (some ⟨gb, 0, none⟩) gn gc) us (.slice A1 sn e1) v2 S (P0 ++ rangeP id q) cur (.slice Al fn cl) (.slice Am fn cm) q)
              case atStart => exact ⟨0, _, Nat.zero_le _, rfl, rfl, by simpa [rangeP] using HIN0.out⟩
              case round =>
                obtain ⟨q, cur, hq, hgk2, rfl, hin⟩ := hrel
                have HK2 := Lib.hid hgk2
                have HNN := Lib.hid hin
                clear hgk2 hin
                obtain ⟨Ac, cc, hcur⟩ := own_slice HNN.out.cur
                subst hcur
                obtain ⟨A3, e3, hv3⟩ := own_slice HNN.out.st.plc
                subst hv3
                have hlen2 : (P0 ++ rangeP id q).length = pn + q := by rw [List.length_append, HPN.out, rangeP_len]
                rw [hlen2] at HNN ⊢
                have HLEN2 := Lib.hid hlen2
                clear hlen2
                have HB8 := Lib.hid HNN.out.box
                by_cases hlt2 : q < fn
                · obtain ⟨p, hp⟩ : ∃ p, F[q]? = some p := ⟨F[q]'(by rw [HFN.out]; exact hlt2), by simp⟩
                  obtain ⟨x, hx, mm, hmm, rfl⟩ := mem_tot (named := named) (hs := hs) (g := g) (p := p) (by rw [HF.out, HFF.out]; exact List.mem_of_getElem? hp)
                  obtain ⟨s, hs'⟩ : ∃ s, x.sl[mm]? = some s := ⟨x.sl[mm]'(by rw [(H.out.2 x hx).len]; exact hmm), by simp⟩
                  have HSO := Lib.hid (slotOf_at (may_dst HMAY.out) hx hs')
                  have HPQ := Lib.hid hp
                  have hl := HNN.out.l
                  rw [HFN.out] at hl
                  obtain ⟨lb, lo, rfl, d0, d1⟩ := (Pls.own hl HFN.out).get hp
                  have hm := HNN.out.m
                  rw [HFN.out] at hm
                  obtain ⟨mb, rfl, _, _, _, _, _⟩ := (Mvs.own hm HFN.out).2 q _ hp
                  have HC17 := Lib.hid (slot17 (c := c) (HIN.out _ HNN.out.st.bel).hd (by have := HN12.out; omega) (fun y hy => by have := HX20.out y hy; omega) (may_dst HMAY.out) hx hs')
                  have hq0 : (0 : Int) ≤ (q : Int) := by omega
                  have hq1 : (q : Int) < (fn : Int) := by omega
                  obtain ⟨s1, s2⟩ := s
                  simp only at d0 d1 HC17
                  clear hp hs' hl hm hmm hx
                  go_wp2_with fail
                  refine Calls.mono HC17.out ?_
                  rintro e w6 ⟨rfl, hb6⟩
                  have HN6 := Lib.hid (HNN.out.still (grown_of_below hb6))
                  have hbx6 := HN6.out.box
                  obtain ⟨wT, hwT⟩ : ∃ wT, (w6.alloc (.cells #[.int .i64 s1, .int .u32 s2] 48)).alloc (.cells #[.int .i64 s1, .int .u32 s2] 48) = wT := ⟨_, rfl⟩
                  have HWT := Lib.hid hwT
                  have HLT : Hid (Below w6.heap.size w6 wT) := Lib.hid (hwT ▸ ((Below.refl _ w6).alloc (Nat.le_refl _) _).alloc (by simp) _)
                  have HNT := Lib.hid (HN6.out.still (grown_of_below HLT.out))
                  have b1 : (w6.alloc (.cells #[.int .i64 s1, .int .u32 s2] 48)).cell? ⟨bx, 1, none⟩ = some (.slice Ac q cc) := cell_al _ (cell_of_row _ bx 1 _ 45 (0, 0) hbx6)
                  have ha := heap_alloc_new w6 (.cells #[.int .i64 s1, .int .u32 s2] 48)
                  have a0 := cell_of_row _ w6.heap.size 0 _ 48 (0, 0) ha
                  have a1 := cell_of_row _ w6.heap.size 1 _ 48 (0, 0) ha
                  clear hb6 hbx6 hwT ha d0 d1
                  go_wp2_with (first | (at_builtin; refine wpList_append_own _ rfl (.tmp 131) (.tmp 133) _ rfl bx 48 i48 _ 2 16 Try.underlying43 I8.out Z8.out S8.out Y8.out rfl (by decide) _ _ _ rfl ((HN6.out.cur.alloc _).alloc _) _ 1 1 [.int .i64 s1, .int .u32 s2] rfl rfl (new2 _ _ _ _ _ (by simp)) (by simp [Value.oneCell']) (by simp only [maxLen]; omega) (by omega) (by have := HNT.out.box; have := (Array.getElem?_eq_some_iff.1 this).1; have q5 := HWT.out; rw [← q5] at this; omega) ?_))
                  intro v7 w7 hown7 hgrow7 _
                  obtain ⟨A7, e7, hv7⟩ := own_slice hown7
                  subst hv7
                  rw [HWT.out] at hgrow7
                  have HN8 := Lib.hid (HNT.out.slot HPQ.out hgrow7 (by rw [HSO.out, List.map_take]; exact hown7))
                  have hbx7 : w7.heap[bx]? = some (.cells #[.int .u32 id, .slice Ac q cc] 45 (0, 0)) := (hgrow7.block bx (Array.getElem?_eq_some_iff.1 HNT.out.box).1 (fun e => (row_ne HNT.out.cur (fun cs e2 => by rw [HNT.out.box] at e2; cases e2)) e.symm)).trans HNT.out.box
                  have b2 := cell_of_row _ bx 1 _ 45 (0, 0) hbx7
                  have b3 := frozen_of_row w7 bx 1 _ 45 hbx7
                  have hm8 := HN8.out.m
                  rw [HFN.out] at hm8
                  obtain ⟨mb', hmb, _, _, _, n2, n3⟩ := (Mvs.own hm8 HFN.out).2 q _ HPQ.out
                  obtain rfl : mb = mb' := by simpa using hmb
                  clear hmb hm8 hbx7 hown7 hgrow7 b1 a0 a1
                  have hpl := HN8.out.st.plc
                  rw [HLEN2.out] at hpl
                  have HPL := Lib.hid hpl
                  clear hpl
                  go_wp2_with (first | (at_builtin; refine wpList_append_own_at _ rfl (.tmp 136) (.tmp 142) _ rfl w.heap.size 39 i39 _ 2 16 Try.underlying23 I3.out Z3.out S3.out Y3.out rfl (by decide) _ _ _ rfl (HPL.out.alloc _) _ 1 1 [.int .u32 id, .int .i64 q] rfl rfl (new2 _ _ _ _ _ (by simp)) (by simp [Value.oneCell']) (by have := HPB.out; simp only [maxLen]; omega) (by have := HPB.out; omega) (by have := HN8.out.st.bel.size; simp at this ⊢; omega) ?_))
                  intro v9 w9 hown9 hgrow9 _ hat9
                  obtain ⟨A9, e9, hv9⟩ := own_slice hown9
                  subst hv9
                  have HN9 := Lib.hid ((HN8.out.still (World.grownBy_alloc _ (.cells #[.int .u32 id, .int .i64 q] 39) none)).place (p := (id, (q : Int))) hgrow9 (by rw [HLEN2.out]; exact hown9) (by simpa using hat9))
                  clear hown9 hgrow9 hat9 b2 b3 n2 n3
                  go_wp2
                  go_roundg (fn - (q + 1))
                  case measure => rw [HK2.out]; omega
                  case rel => exact ⟨q + 1, _, by omega, rfl, by go_num, by rw [rangeP_succ, ← List.append_assoc]; exact HN9.out⟩
                · have hqf : q = fn := by omega
                  subst hqf
                  have hq1 : ¬ (q : Int) < (q : Int) := by omega
                  have hb8 := HB8.out
                  have b0 := cell_of_row _ bx 0 _ 45 (0, 0) hb8
                  have b1 := cell_of_row _ bx 1 _ 45 (0, 0) hb8
                  have hlf := HNN.out.st.left
                  rw [HSN.out] at hlf
                  have HLF := Lib.hid hlf
                  clear hb8 hlf hlt2
                  go_wp2_with (first | (at_builtin; refine wpList_append_own _ rfl (.tmp 144) (.tmp 146) _ rfl w.heap.size 45 i45 _ 2 32 Try.underlying22 I4.out Z4.out S4.out Y4.out rfl (by decide) _ _ _ rfl (HLF.out.alloc _) _ 1 1 [.int .u32 id, .slice Ac q cc] rfl rfl (new2 _ _ _ _ _ rfl) (by simp [Value.oneCell']) (by have := HPB.out; simp only [maxLen]; omega) (by have := HPB.out; omega) (by have := HNN.out.st.bel.size; simp; omega) ?_))
                  intro v9 w9 hown9 hgrow9 _
                  obtain ⟨A9, e9, hv9⟩ := own_slice hown9
                  subst hv9
                  have HSX : Hid (St w G L1 w9 (.slice (some ⟨gb, 0, none⟩) gn gc) us (.slice A9 (sn + 1) e9) (.slice A3 (pn + q) e3) (S ++ [⟨id, Ac, q, cc, F.map (slotOf hs)⟩]) (P0 ++ rangeP id q)) := Lib.hid (by
                    refine (HNN.out.st.still (World.grownBy_alloc _ (.cells #[.int .u32 id, .slice Ac q cc] 45) none)).left' (x := ⟨id, Ac, q, cc, F.map (slotOf hs)⟩) ?_ hgrow9 (by rw [HSN.out, List.map_append]; exact hown9)
                    have hc := HNN.out.cur
                    rw [List.take_of_length_le (by rw [HFN.out]; exact Nat.le_refl _)] at hc
                    have e1 : (F.map (slotOf hs)).map sltV = F.map fun p => sltV (slotOf hs p) := by rw [List.map_map]; rfl
                    dsimp only
                    rw [e1]
                    exact (row_lower39 hc HNN.out.n0).alloc _)
                  clear hown9 hgrow9 b0 b1
                  go_wp2
                  go_roundg (gn - (i0 + 1))
                  case measure => rw [HK.out]; omega
                  case rel =>
                    refine ⟨i0 + 1, S ++ [⟨id, Ac, q, cc, F.map (slotOf hs)⟩], by omega, rfl, by go_num, by rw [List.length_append, HSL.out]; rfl, fun j x hj => ?_, ?_⟩
                    · by_cases hji : j < S.length
                      · rw [List.getElem?_append_left hji] at hj
                        exact HSS.out j x hj
                      · have hj0 : j = S.length := by
                          have := (List.getElem?_eq_some_iff.1 hj).1
                          simp at this
                          omega
                        subst hj0
                        rw [List.getElem?_concat_length] at hj
                        cases hj
                        rw [HSL.out]
                        exact ⟨g, HGG.out, HID.out.symm, by rw [HF.out, HFF.out], by rw [HF.out, HFF.out, HFN.out]⟩
                    · rw [newP_step HGG.out, HFF.out, HFN.out, ← List.append_assoc, HP0.out, HID.out]
                      exact HSX.out
            · have hig : i0 = gn := by omega
              subst hig
              have hk1 : ¬ (i0 : Int) < (i0 : Int) := by omega
              have HLAW := Lib.hid (done_law (named := named) (slots := slots) (bts := bts) (P := P0) HMAY.out HLE.out (fun x hx => (H.out.2 x hx).len) (S := S) (by rw [HGE.out]; exact HSS.out) (by rw [HGE.out, HGN.out]; exact HSL.out)
                (by rw [HFL.out, ← HP0.out]; intro p hp; exact List.mem_append_left _ hp) (by rw [HGE.out, HGN.out, HF.out, ← HP0.out]; intro p hp; exact List.mem_append_right _ hp))
              rw [HFL.out] at HLAW
              have HBEL := Lib.hid HST.out.bel
              have HSB : Hid (∀ x ∈ S, x.n ≤ 240 ∧ (Lit.int .u32 x.id).wf = true) := Lib.hid (fun x hx => by
                obtain ⟨j, hj⟩ := List.getElem?_of_mem hx
                obtain ⟨g, h1, h2, h3, h4⟩ := HSS.out j x hj
                have h5 := (HGB.out.2.1 g (List.mem_of_getElem? h1)).2.2
                have h6 := (List.getElem?_eq_some_iff.1 hj).1
                have h7 := HSL.out
                rw [HF.out] at h4
                exact ⟨by omega, by rw [h2]; exact wf_big j (by omega)⟩)
              have HLX : Hid (∀ x ∈ L1, x ∈ hs) := Lib.hid (fun x hx => by rw [← HFL.out] at hx; exact (List.mem_filter.1 hx).1)
              have HINL : Hid (InOk wo A1 sn (L1 ++ S) A2 pn P0) := Lib.hid (by
                have hl := HST.out.left
                rw [HSN.out] at hl
                have hpl := HST.out.plc
                rw [HPN.out] at hpl
                refine ⟨⟨Rows2.ofOwn hl (by rw [List.length_map]; exact HSN.out), fun x hx => ?_⟩, ⟨by have := HPB.out; have := HSN.out; omega, fun x hx => ?_⟩, fun x hx => ?_, Pls.own hpl HPN.out, fun p hp => ?_, by have := HPB.out; omega⟩
                · rcases List.mem_append.1 hx with h1 | h1
                  · exact (H.out.below HBEL.out).2 x (HLX.out x h1)
                  · obtain ⟨j, hj⟩ := List.getElem?_of_mem h1
                    obtain ⟨g, _, _, h3, h4⟩ := HSS.out j x hj
                    exact Rows2.ofOwn (HST.out.slt x h1) (by rw [List.length_map, h3, List.length_map, h4])
                · rcases List.mem_append.1 hx with h1 | h1
                  · have := HX20.out x (HLX.out x h1); omega
                  · have := (HSB.out x h1).1; omega
                · rcases List.mem_append.1 hx with h1 | h1
                  · exact HI.out x (HLX.out x h1)
                  · exact (HSB.out x h1).2
                · rw [← HP0.out] at hp
                  rcases List.mem_append.1 hp with h1 | h1
                  · exact HOK.out p (allP_named h1)
                  · exact newP_ok (by rw [HGN.out]; omega) (fun g hg => by have := (HGB.out.2.1 g hg).2.2; omega) _ p h1)
              clear hlt hi0
              go_wp2_with fail
              refine Calls.mono (sizes18 (HIN.out _ HBEL.out)) ?_
              rintro e w7 ⟨rfl, hb7⟩
              rw [okHs_yes HMAY.out]
              have HN7 := Lib.hid (HINL.out.below hb7)
              have HB7 : Hid (Below w.heap.size w w7) := Lib.hid (HBEL.out.trans (hb7.mono HBEL.out.size))
              clear hb7
              obtain ⟨SA, hSA⟩ : ∃ SA, sumB named true hs = SA := ⟨_, rfl⟩
              obtain ⟨SB, hSB⟩ : ∃ SB, sumB named false hs = SB := ⟨_, rfl⟩
              have HSA := Lib.hid hSA
              rw [hSA, hSB]
              clear hSA hSB
              go_wp2_with fail
              refine Calls.mono (sizes18 HN7.out) ?_
              rintro e w8 ⟨rfl, hb8⟩
              rw [okHs_yes HLAW.out.1, HLAW.out.2.2.1, HLAW.out.2.2.2, HSA.out]
              have HN8 := Lib.hid (HN7.out.below hb8)
              have HB8 : Hid (Below w.heap.size w w8) := Lib.hid (HB7.out.trans (hb8.mono HB7.out.size))
              clear hb8
              go_wp2_with fail
              refine Calls.mono (done19 HN8.out) ?_
              rintro e w9 ⟨rfl, hb9⟩
              rw [HLAW.out.2.1]
              have HB9 : Hid (Below w.heap.size w w9) := Lib.hid (HB8.out.trans (hb9.mono HB8.out.size))
              clear hb9
              go_wp2_with fail
              refine Calls.mono (awake8 _) ?_
              rintro e w10 ⟨rfl, hb10⟩
              go_wp2
              go_ret
              exact ⟨rfl, HB9.out.trans (hb10.mono HB9.out.size)⟩
    · rw [mayB_no hmay]
      clear hmay
      go_wp2_with fail
      refine Calls.mono (awake8 _) ?_
      rintro e w3 ⟨rfl, hb3⟩
      go_wp2
      go_ret
      exact ⟨rfl, HB2.out.trans (hb3.mono HB2.out.size)⟩
end Go.Proofs.Ytgdljjoaiogpfaa
