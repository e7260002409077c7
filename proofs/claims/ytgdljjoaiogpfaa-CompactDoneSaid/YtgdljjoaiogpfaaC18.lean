/- The walk over Successor. -/
import Derived.Test.YtgdljjoaiogpfaaC17
namespace Go.Proofs.Ytgdljjoaiogpfaa
open Go.RowKit Go.Maps
attribute [local go_sem] Oper.semAt_some
theorem wpList_lookup_run {P : Program} {w : World} {ops : Array Oper} {rest : List Oper} {o : Oper} {a : Act} {Q : Exit → Act → World → Prop} (hg : o.guard = none) (m x : Operand) (t : TypeId) (hop : o.op = Op.lookup t m x false) {mv xv v : Value} (hm : a.eval m = mv) (hx : a.eval x = xv)
    (hrun : (Instr.lookup t mv xv false).run P w = .ok v w) (hK : wpList P ops Q rest (a.put o.dst v) w) : wpList P ops Q (o :: rest) a w := by
  refine wpList_plain hg fun K' hK' => ?_
  unfold Oper.wp
  simp [execOp, hop, hm, hx, hrun, Result.andThen]
  exact hK' _ _ hK
theorem results_tmps2 {fn : Func} {p q : Tmp} (h : fn.results = #[.tmp p, .tmp q]) (tmps : Array Value) (w : World) :
    (results fn tmps).run Try.prog w = .ok (.tuple #[tmps.getD p undef, tmps.getD q undef]) w := by
  simp [results, h, go_sem]
theorem ByD.mono {W : World} {bm n n' : Nat} {fv : Int → Slc} (h : ByD W bm n fv) (hn : n ≤ n') : ByD W bm n' fv := by
  obtain ⟨D, h1, h2⟩ := h
  exact ⟨D, h1.mono hn, h2⟩
set_option maxRecDepth 100000 in
set_option maxHeartbeats 4000000 in
theorem succ14 {w : World} {A : Option Addr} {n c : Nat} {hs : List Hd} {B : Option Addr} {m d : Nat} {named : List Plc} (h : InOk w A n hs B m named) {GA : Option Addr} {gn gc : Nat} {gs : List Int} (hgs : Ids w GA gn gs) (hgw : ∀ g ∈ gs, (Lit.int .u32 g).wf = true) (hgn : gn ≤ 1000) (id : Int) :
    Calls Try.prog 14 #[.slice A n c, .slice B m d, .slice GA gn gc, .int .u32 id] w fun e w' => ∃ v1 v2, e = .returned (.tuple #[v1, v2]) ∧ Below w.heap.size w w' ∧ w'.ownsRow w.heap.size 39 2 v1 (succTo (byAll named (okHs hs)) gs gn).length (rowP (succTo (byAll named (okHs hs)) gs gn)) ∧
      w'.ownsRow w.heap.size 41 4 v2 (succTo (byAll named (okHs hs)) gs gn).length (rowM id (succTo (byAll named (okHs hs)) gs gn)) := by
  have HIN := Lib.hid h
  have HLM := Lib.hid (okHs_len h.lim)
  have HOI : Hid (∀ x ∈ okHs hs, (Lit.int .u32 x.id).wf = true) := Lib.hid (fun x hx => h.ids x (by unfold okHs at hx; split at hx; exact hx; simp at hx))
  have HGS := Lib.hid hgs
  have HGW := Lib.hid hgw
  clear h hgs hgw
  have hmm := @run_makeMap Try.prog
  refine (callsIn_wide (n := 9)).1 ?_
  refine callsIn_of_wp_marks Try.func14 rfl trivial ?_ rfl
  simp only [Try.ntmps14, List.size_toArray, List.length_cons, List.length_nil, Nat.reduceAdd, Nat.reduceSub, Array.replicate_succ, Array.replicate_zero, List.push_toArray, List.append_toArray, List.nil_append, List.cons_append]
  gi_wp2_with (refine ⟨trivial, ?_⟩; gi_at_call 29; refine (callsIn_wide.2 (parts_in HIN.out (((Below.refl _ w).alloc (Nat.le_refl _) _).alloc (by simp) _))).mono ?_; rintro e w1 ⟨b1, b2, rfl, hb, hy⟩)
  have hsz : w.heap.size + 2 ≤ w1.heap.size := by have := hb.size; simpa using this
  have hbw : Below w.heap.size w w1 := (((Below.refl _ w).alloc (Nat.le_refl _) _).alloc (by simp) _).trans (hb.mono (by simp; omega))
  have hi0 : SInv w named [] w1 := by
    refine ⟨⟨?_, fun _ => nilS, ((ByD.made w).kept (World.grownBy_alloc _ _ none) (by simp)).kept (grown_of_below hb) (by simp), fun b => Pls.nil _⟩, hbw⟩
    have q := Boxed.new (w.alloc (.map #[] 0)) 65 (.map (some w.heap.size))
    rw [World.size_alloc] at q
    exact (hb.block (w.heap.size + 1) (by simp)).trans q
  have hy2 : Yields Try.prog 35 #[.pointer (some ⟨b1, 0, none⟩), .pointer (some ⟨b2, 0, none⟩)] PV.val (Ex named) (Xp w.heap.size (w.heap.size + 2) w1.heap.size) (okHs hs) w1 := by simpa using hy
  clear hy hb hbw
  refine wpIn_rangeE (gf := 35) (lb := #[.pointer (some ⟨b1, 0, none⟩), .pointer (some ⟨b2, 0, none⟩)]) rfl (enters_of Try.func35 (by kernel_rfl) rfl) hy2 (fun q hq => xp_lt (by omega) hsz hq) (ex_own named)
    (SInv w named) (fun _ _ => False) (SInv.own w _ (by omega) named) (fun _ _ _ _ hf _ _ => hf) hi0 (fun y => .cells y.cells 62)
    (fun b y => { tmps := #[.slice A n c, .slice B m d, .slice GA gn gc, .int .u32 id, undef, undef, undef, undef, .slice none 0 0, .slice none 0 0, .pointer (some ⟨w.heap.size + 1, 0, none⟩), .pointer (some ⟨b, 0, none⟩), undef, undef, undef, undef, undef, undef, .map (some w.heap.size), .slice A n c, .slice B m d, .func (.func 35) #[] #[.pointer (some ⟨b1, 0, none⟩), .pointer (some ⟨b2, 0, none⟩)], y.val, undef, undef, undef, undef, undef, undef, undef, undef, undef, undef, undef, undef, undef, undef, undef, undef, undef, undef, undef, undef, undef, undef, undef, undef, undef, undef, undef, undef, undef, undef, undef, undef, undef, undef, undef, undef, undef, undef, undef], defers := [] }) ?assign ?body ?done ?stop
  case assign =>
    intro l y W K hK
    obtain ⟨yh, A1, k1, cc1, A2, k2, cc2, y1, y2⟩ := y
    simp only [PV.val, PV.cells]
    gi_wp2
    exact hK
  case stop =>
    rintro D c' W _ hf _
    exact hf.elim
  case body =>
    rintro l pre x rest y b W hl hxs ⟨⟨hv, fv, ⟨D, hm1, hm2, hm3⟩, hp⟩, hB⟩ hex hbk hle hwl
    obtain ⟨yh, A1, k1, cc1, A2, k2, cc2, y1, y2⟩ := y
    obtain ⟨rfl, p1, p2, q1e, q2e, z1, z2⟩ := hex
    have hwf := HOI.out yh (by rw [hxs]; simp)
    have HPRE : Hid (pre.length ≤ 1000) := Lib.hid (by have := HLM.out.1; rw [hxs] at this; simp at this; omega)
    simp only [PV.val, PV.cells] at *
    have HBK := Lib.hid hbk
    have HV := Lib.hid hv
    have HM1 := Lib.hid hm1
    have HM2 := Lib.hid hm2
    have HM3 := Lib.hid hm3
    have HP := Lib.hid hp
    have HP1 := Lib.hid p1
    have HB := Lib.hid hB
    have HWF := Lib.hid hwf
    have hc1 := hv.cell
    clear hv hm1 hm2 hm3 hp p1 p2 hB hbk q1e q2e z1 z2 hxs hwf
    obtain ⟨g0, g1, g2, g3, g4, g5⟩ := xcells (h := yh) (v1 := .slice A1 k1 cc1) (v2 := .slice A2 k2 cc2) (b1 := y1) (b2 := y2) HBK.out
    clear g1 g3 g4 g5
    gi_wp2_with (first | (gi_at_mapUpdate; refine wpListIn_mapUpdate_own _ rfl _ _ _ 65 rfl 33 23 keyed33 Try.underlying65 _ w.heap.size pre.length _ rfl HM1.out (by have := HPRE.out; simp only [maxLen]; omega) _ _ _ rfl rfl (keyOf33 HWF.out) (.held (slV (A1, k1, cc1))) [] rfl ?_; intro w2 hown2 hgrow2))
    have hmp : ∃ o : Obj, W.heap[w.heap.size]? = some o ∧ o.isCells = false := ByD.map ⟨D, HM1.out, HM2.out, HM3.out⟩
    refine ⟨KeepsFrom.of_grownBy hgrow2 (fun j e => by cases e; omega), KeepX.grown hgrow2 fun q hq => ⟨Nat.lt_of_lt_of_le (xp_lt (by omega) hsz hq) hwl, fun e => (by cases e; rcases hq with hq | hq <;> omega)⟩, ⟨?_, putF fv yh.id (A1, k1, cc1), ?_, ?_⟩, ?_⟩
    · exact boxed_own _ 65 (fun _ => .map (some w.heap.size)) () _ _ _ HV.out hgrow2 (fun r e => by cases e; exact hmp)
    · rw [List.length_append]
      exact byD_put HWF.out HM2.out HM3.out hown2
    · intro box
      rw [byAll_snoc]
      unfold putF
      by_cases e : box = yh.id
      · subst e
        simp only [if_pos]
        exact HP1.out.own2 hgrow2 (fun r e => by cases e; exact hmp)
      · simp only [if_neg e]
        exact (HP.out box).own2 hgrow2 (fun r e => by cases e; exact hmp)
    · exact HB.out.grown hgrow2 HB.out.size (fun r e => by cases e; exact Nat.le_refl _)
  case done =>
    rintro DD W hD ⟨⟨hv, fv, hby, hp⟩, hB⟩ hK
    have hc1 := hv.cell
    have HV := Lib.hid hv
    have HBY := Lib.hid hby
    have HP := Lib.hid hp
    have HB := Lib.hid hB
    have HK0 := Lib.hid hK
    clear hv hby hp hB hK
    gi_wp2_with (refine wpIn_wide.2 ?_)
    go_wp2_with fail
    obtain ⟨F, hF⟩ : ∃ F, byAll named (okHs hs) = F := ⟨_, rfl⟩
    have HFL : Hid (∀ b, (F b).length ≤ 1000) := Lib.hid (hF ▸ byAll_len named (okHs hs) HLM.out.2)
    have HF := Lib.hid hF
    rw [hF] at HP
    have HBY2 : Hid (ByD W w.heap.size 1000 fv) := Lib.hid (HBY.out.mono HLM.out.1)
    have HWS : Hid (w1.heap.size ≤ W.heap.size) := Lib.hid (Nat.le_trans hD (Nat.le_of_lt (Array.getElem?_eq_some_iff.1 HK0.out).1))
    have HMP : Hid (∃ o : Obj, W.heap[w.heap.size]? = some o ∧ o.isCells = false) := Lib.hid HBY.out.map
    clear hc1 HBY hF
    obtain ⟨i0, hi, hz0, hz1, hz2⟩ := info_parts info39
    obtain ⟨i1, hi', hz0', hz1', hz2'⟩ := info_parts info41
    have I0 := Lib.hid hi
    have Z0 := Lib.hid hz0
    have S0 := Lib.hid hz1
    have Y0 := Lib.hid hz2
    have I1 := Lib.hid hi'
    have Z1 := Lib.hid hz0'
    have S1 := Lib.hid hz1'
    have Y1 := Lib.hid hz2'
    clear hi hz0 hz1 hz2 hi' hz0' hz1' hz2'
    go_loopg [12, 13, 31] gn (fun gk v1 v2 i wr => ∃ k : Nat, k ≤ gn ∧ gk = gn - k ∧ i = .int .i64 k ∧ W.grownBy wr (some w.heap.size) ∧ ByD wr w.heap.size 1000 (leftF fv gs k) ∧ wr.ownsRow W.heap.size 39 2 v1 (succTo F gs k).length (rowP (succTo F gs k)) ∧ wr.ownsRow W.heap.size 41 4 v2 (succTo F gs k).length (rowM id (succTo F gs k)))
    case atStart => exact ⟨0, Nat.zero_le _, rfl, rfl, ⟨rfl, rfl, rfl, Nat.le_refl _, fun _ _ _ => rfl⟩, by (have e : leftF fv gs 0 = fv := by funext b; simp [leftF]); rw [e]; exact HBY2.out, World.ownsRow_nil _ _ _ _, World.ownsRow_nil _ _ _ _⟩
    case round =>
      obtain ⟨wo, rfl⟩ : ∃ wo, wo = wr := ⟨_, rfl⟩
      obtain ⟨k, hk, hgk, rfl, hg, hby, hr1, hr2⟩ := hrel
      have HK := Lib.hid hgk
      have HG := Lib.hid hg
      have HBY := Lib.hid hby
      have HR1 := Lib.hid hr1
      have HR2 := Lib.hid hr2
      have HBW : Hid (Below w.heap.size w wo) := Lib.hid (HB.out.grown hg HB.out.size (fun r e => by cases e; exact Nat.le_refl _))
      have HVO : Hid (Boxed wo (w.heap.size + 1) 65 (.map (some w.heap.size))) := Lib.hid (HV.out.kept hg (fun e => by injection e with e; omega))
      have HDO : Hid (wo.heap[DD]? = some (.deferred (some []))) := Lib.hid ((hg.block DD (Array.getElem?_eq_some_iff.1 HK0.out).1 (fun e => by injection e with e; omega)).trans HK0.out)
      have hc1 := HVO.out.cell
      clear hgk hg hby hr1 hr2
      by_cases hlt : k < gn
      · obtain ⟨g, hg⟩ : ∃ g, gs[k]? = some g := ⟨gs[k]'(by rw [HGS.out.len]; exact hlt), by simp⟩
        obtain ⟨gb, go, rfl, hgc⟩ := (HGS.out.below HBW.out).get hg
        have HGK := Lib.hid hg
        have HWG := Lib.hid (HGW.out g (List.mem_of_getElem? hg))
        have hk0 : (0 : Int) ≤ (k : Int) := by omega
        have hk1 : (k : Int) < (gn : Int) := by omega
        obtain ⟨D, hm1, hm2, hm3⟩ := HBY.out
        have HM1 := Lib.hid hm1
        have HM2 := Lib.hid hm2
        have HM3 := Lib.hid hm3
        have hlook := lookup_run HWG.out hm1 hm3
        obtain ⟨L, hL⟩ : ∃ L, (if g ∈ gs.take k then [] else F g) = L := ⟨_, rfl⟩
        have HPL : Hid (Pls W (leftF fv gs k g).1 (leftF fv gs k g).2.1 L) := Lib.hid (by
          rw [← hL]
          unfold leftF
          by_cases e : g ∈ gs.take k
          · rw [if_pos e, if_pos e]; exact Pls.nil _
          · rw [if_neg e, if_neg e]; exact HP.out g)
        have HST : Hid (succTo F gs (k + 1) = succTo F gs k ++ L) := Lib.hid (by rw [← hL]; exact succTo_step hg)
        have HSL : Hid ((succTo F gs k).length ≤ 1000000 ∧ L.length ≤ 1000) := Lib.hid ⟨by have := succTo_len (gs := gs) HFL.out k; omega, by rw [← hL]; split; exact Nat.zero_le _; exact HFL.out g⟩
        obtain ⟨⟨LA, ln, lc⟩, hLf⟩ : ∃ t, leftF fv gs k g = t := ⟨_, rfl⟩
        rw [hLf] at HPL hlook
        simp only [slV] at hlook
        have HLOOK := Lib.hid hlook
        have HPLn : Hid (L.length = ln) := Lib.hid HPL.out.len
        simp only at HPL
        clear hg hm1 hm2 hm3 hlook hL hLf
        obtain ⟨S, hS⟩ : ∃ S, succTo F gs k = S := ⟨_, rfl⟩
        rw [hS] at HR1 HR2 HST HSL
        clear hS
        obtain ⟨A1, c1, hv1⟩ := own_slice HR1.out
        subst hv1
        obtain ⟨A2, c2, hv2⟩ := own_slice HR2.out
        subst hv2
        go_wp2_with (first | (at_lookup; refine wpList_lookup_run rfl _ _ 65 rfl rfl rfl HLOOK.out ?_))
        go_loopg [12, 13, 39] ln (fun gk2 u1 u2 j wq => ∃ q : Nat, q ≤ ln ∧ gk2 = ln - q ∧ j = .int .i64 q ∧ W.grownBy wq (some w.heap.size) ∧ wq.ownsMap Try.prog 33 RV w.heap.size 1000 D ∧ wq.ownsRow W.heap.size 39 2 u1 (S ++ L.take q).length (rowP (S ++ L.take q)) ∧ wq.ownsRow W.heap.size 41 4 u2 (S ++ L.take q).length (rowM id (S ++ L.take q)))
        case atStart => exact ⟨0, Nat.zero_le _, rfl, rfl, HG.out, HM1.out, by simpa using HR1.out, by simpa using HR2.out⟩
        case round =>
          obtain ⟨q, hq, hgk2, rfl, hg2, hm4, hr3, hr4⟩ := hrel
          have HGK2 := Lib.hid hgk2
          have HG2 := Lib.hid hg2
          have HM4 := Lib.hid hm4
          have HR3 := Lib.hid hr3
          have HR4 := Lib.hid hr4
          have HSZ : Hid (W.heap.size ≤ wr.heap.size) := Lib.hid hg2.size
          have HVR : Hid (Boxed wr (w.heap.size + 1) 65 (.map (some w.heap.size))) := Lib.hid (HV.out.kept hg2 (fun e => by injection e with e; omega))
          clear hgk2 hg2 hm4 hr3 hr4 hc1
          by_cases hlt2 : q < ln
          · obtain ⟨x, hx⟩ : ∃ x, L[q]? = some x := ⟨L[q]'(by rw [HPLn.out]; exact hlt2), by simp⟩
            obtain ⟨lb, lo, rfl, d1, d2⟩ := (HPL.out.own2 HG2.out (fun r e => by cases e; exact HMP.out)).get hx
            have hq0 : (0 : Int) ≤ (q : Int) := by omega
            have hq1 : (q : Int) < (ln : Int) := by omega
            have HTQ : Hid (S ++ L.take (q + 1) = (S ++ L.take q) ++ [x]) := Lib.hid (by rw [List.take_add_one, hx]; simp)
            have HTL : Hid ((S ++ L.take q).length ≤ 1001000) := Lib.hid (by have := HSL.out; simp; omega)
            obtain ⟨T, hT⟩ : ∃ T, S ++ L.take q = T := ⟨_, rfl⟩
            rw [hT] at HR3 HR4 HTQ HTL
            clear hx hT
            obtain ⟨tn, htn⟩ : ∃ tn, T.length = tn := ⟨_, rfl⟩
            have HTN := Lib.hid htn
            rw [htn] at HR3 HR4 HTL
            obtain ⟨A3, c3, hv3⟩ := own_slice HR3.out
            subst hv3
            obtain ⟨A4, c4, hv4⟩ := own_slice HR4.out
            subst hv4
            obtain ⟨xb, xs⟩ := x
            simp only at d1 d2
            clear htn
            have hbx := heap_alloc_new wr (.cells #[.int .u32 xb, .int .i64 xs] 39)
            have HBX := Lib.hid hbx
            have f0 := cell_of_row _ wr.heap.size 0 _ 39 (0, 0) hbx
            have f1 := cell_of_row _ wr.heap.size 1 _ 39 (0, 0) hbx
            clear hbx
            go_wp2_with (first
              | (at_builtin; refine wpList_append_own _ rfl (.tmp 43) (.tmp 50) _ rfl W.heap.size 41 i1 _ 4 32 Try.underlying34 I1.out Z1.out S1.out Y1.out rfl (by decide) _ _ _ rfl ((HR4.out.alloc _).alloc _) _ 1 1 [.int .u32 xb, .int .i64 xs, .int .u32 id, .int .i64 tn] rfl rfl (new4 _ _ _ _ _ _ _ (by simp)) (by simp [Value.oneCell']) (by have := HTL.out; simp only [maxLen]; omega) (by have := HTL.out; omega) (by have := HSZ.out; simp; omega) ?_))
            intro v5 w2 hown5 hgrow5 _
            obtain ⟨A5, c5, hv5⟩ := own_slice hown5
            subst hv5
            have HLW : Hid (Below wr.heap.size wr ((wr.alloc (.cells #[.int .u32 xb, .int .i64 xs] 39)).alloc (.cells #[.int .u32 xb, .int .i64 xs, .int .u32 id, .int .i64 tn] 41))) := Lib.hid (((Below.refl _ wr).alloc (Nat.le_refl _) _).alloc (by simp) _)
            have hx2 : w2.heap[wr.heap.size]? = some (.cells #[.int .u32 xb, .int .i64 xs] 39 (0, 0)) := (hgrow5.block _ (by simp; omega) (fun e => (row_ne ((HR4.out.alloc (.cells #[.int .u32 xb, .int .i64 xs] 39)).alloc (.cells #[.int .u32 xb, .int .i64 xs, .int .u32 id, .int .i64 tn] 41)) (r := wr.heap.size) (fun cs e2 => by rw [(heap_alloc_old _ _ (by simp)).trans HBX.out] at e2; cases e2)) e.symm)).trans ((heap_alloc_old _ _ (by simp)).trans HBX.out)
            have e0 := cell_of_row _ wr.heap.size 0 _ 39 (0, 0) hx2
            have e1 := cell_of_row _ wr.heap.size 1 _ 39 (0, 0) hx2
            have HR35 : Hid (w2.ownsRow W.heap.size 39 2 (.slice A3 tn c3) tn (rowP T)) := Lib.hid (((HR3.out.alloc _).alloc _).kept hgrow5 (by
              rcases hoo : Value.ownBlock (.slice A3 tn c3) with _ | r
              · exact .inl rfl
              · right
                intro e
                have q1 := HR4.out.2
                rcases HR3.out.2 with ⟨e3, _⟩ | ⟨g3, cp3, cu3, e3, _, hg3, _⟩
                · rw [e3] at hoo; cases hoo
                · rw [e3] at hoo
                  obtain rfl : g3 = r := by simpa [Value.ownBlock] using hoo
                  exact row_ne HR4.out (fun cs e4 => by rw [hg3] at e4; cases e4) e.symm))
            have HG5 : Hid (W.grownBy w2 (some w.heap.size)) := Lib.hid (gb_step (gb_step HG2.out (grown_of_below HLW.out) (fun r e => by cases e)) hgrow5 (fun r e => (HR4.out.lt r e).1))
            have HM5 : Hid (w2.ownsMap Try.prog 33 RV w.heap.size 1000 D) := Lib.hid (((HM4.out.alloc _).alloc _).kept hgrow5 (fun e => by have := (HR4.out.lt _ e.symm).1; have := HWS.out; omega))
            have HSZ5 : Hid (W.heap.size ≤ w2.heap.size) := Lib.hid (Nat.le_trans HSZ.out (Nat.le_trans HLW.out.size hgrow5.size))
            have HOWN5 := Lib.hid hown5
            clear hx2 f0 f1 hown5 hgrow5 HLW d1 d2
            go_wp2_with (first
              | (at_builtin; refine wpList_append_own _ rfl (.tmp 52) (.tmp 54) _ rfl W.heap.size 39 i0 _ 2 16 Try.underlying23 I0.out Z0.out S0.out Y0.out rfl (by decide) _ _ _ rfl (HR35.out.alloc _) _ 1 1 [.int .u32 xb, .int .i64 xs] rfl rfl (new2 _ _ _ _ _ (by simp)) (by simp [Value.oneCell']) (by have := HTL.out; simp only [maxLen]; omega) (by have := HTL.out; omega) (by have := HSZ5.out; simp; omega) ?_))
            intro v6 w3 hown6 hgrow6 _
            obtain ⟨A6, c6, hv6⟩ := own_slice hown6
            subst hv6
            have HR56 : Hid (w3.ownsRow W.heap.size 41 4 (.slice A5 (tn + 1) c5) (tn + 1) (rowM id T ++ [.int .u32 xb, .int .i64 xs, .int .u32 id, .int .i64 tn])) := Lib.hid ((HOWN5.out.alloc _).kept hgrow6 (by
              rcases hoo : Value.ownBlock (.slice A5 (tn + 1) c5) with _ | r
              · exact .inl rfl
              · right
                intro e
                rcases HOWN5.out.2 with ⟨e3, _⟩ | ⟨g3, cp3, cu3, e3, _, hg3, _⟩
                · rw [e3] at hoo; cases hoo
                · rw [e3] at hoo
                  obtain rfl : g3 = r := by simpa [Value.ownBlock] using hoo
                  exact row_ne HR35.out (fun cs e4 => by rw [hg3] at e4; cases e4) e.symm))
            have HG6 : Hid (W.grownBy w3 (some w.heap.size)) := Lib.hid (gb_step (gb_step HG5.out (World.grownBy_alloc _ _ none) (fun r e => by cases e)) hgrow6 (fun r e => (HR35.out.lt r e).1))
            have HM6 : Hid (w3.ownsMap Try.prog 33 RV w.heap.size 1000 D) := Lib.hid ((HM5.out.alloc _).kept hgrow6 (fun e => by have := (HR35.out.lt _ e.symm).1; have := HWS.out; omega))
            have HOWN6 := Lib.hid hown6
            clear hown6 hgrow6 e0 e1
            have hlnb : ln ≤ 1000 := by have := HSL.out.2; have := HPLn.out; omega
            go_wp2
            go_roundg (ln - (q + 1))
            case measure => rw [HGK2.out]; omega
            case rel =>
              refine ⟨q + 1, by omega, rfl, by go_num, HG6.out, HM6.out, ?_, ?_⟩
              · rw [HTQ.out, rowP_snoc, List.length_append, HTN.out]
                exact HOWN6.out
              · rw [HTQ.out, rowM_snoc, List.length_append, HTN.out]
                exact HR56.out
          · have HTQ : Hid (L.take q = L) := Lib.hid (List.take_of_length_le (by rw [HPLn.out]; omega))
            rw [HTQ.out] at HR3 HR4
            have hc1 := HVR.out.cell
            go_wp2_with (first | (at_delete; refine wpList_delete_own _ rfl _ _ 65 33 rfl 23 keyed33 Try.underlying65 RV w.heap.size 1000 D rfl HM4.out _ _ rfl (keyOf33 HWG.out) ?_; intro w2 hown2 hturn2))
            have HBY3 := Lib.hid (byD_del HM2.out HM3.out hown2)
            have hgr := hturn2.grown
            have HG3 : Hid (W.grownBy w2 (some w.heap.size)) := Lib.hid (HG2.out.trans hgr)
            have HR33 := Lib.hid (HR3.out.kept hgr (.inr fun e => by have := (HR3.out.lt _ e).1; have := HWS.out; omega))
            have HR44 := Lib.hid (HR4.out.kept hgr (.inr fun e => by have := (HR4.out.lt _ e).1; have := HWS.out; omega))
            clear hown2 hturn2 hgr hc1
            go_wp2
            go_roundg (gn - (k + 1))
            case measure => rw [HK.out]; omega
            case rel =>
              refine ⟨k + 1, by omega, rfl, by go_num, HG3.out, ?_, ?_, ?_⟩
              · rw [← leftF_step HGK.out]; exact HBY3.out
              · rw [HST.out]; exact HR33.out
              · rw [HST.out]; exact HR44.out
      · have HT : Hid (k = gn) := Lib.hid (by omega)
        go_wp2
        gi_wp2
        refine ⟨by simp, .inl ⟨_, _, rfl, run_takeDeferred HDO.out, ?_⟩⟩
        refine ⟨_, results_tmps2 rfl _ _, _, _, rfl, HBW.out.trans (belowK_b (w := w) (Nat.le_refl _) wo DD _ _ (by omega) HDO.out rfl rfl), ?_, ?_⟩
        · rw [HF.out, ← HT.out]
          exact row_lower39 (ownsRow_putObj HR1.out _ HDO.out rfl) (by have := HWS.out; omega)
        · rw [HF.out, ← HT.out]
          exact row_lower39 (ownsRow_putObj HR2.out _ HDO.out rfl) (by have := HWS.out; omega)
end Go.Proofs.Ytgdljjoaiogpfaa
