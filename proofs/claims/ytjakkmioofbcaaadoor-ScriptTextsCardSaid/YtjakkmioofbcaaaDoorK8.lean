/- The walk over the law of scripts' texts. -/
import Derived.Test.YtjakkmioofbcaaaDoorKA
namespace Go.Proofs.YtjakkmioofbcaaaDoor
open Go.RowKit
theorem new_cells (w : World) (M : List Value) (t : TypeId) : ∀ j u, M[j]? = some u → (w.alloc (.cells M.toArray t)).cell? ((⟨w.heap.size, 0, none⟩ : Addr).add j) = some u := by
  intro j u hj
  have hadd : (⟨w.heap.size, 0, none⟩ : Addr).add j = ⟨w.heap.size, j, none⟩ := by unfold Addr.add; split <;> simp_all
  rw [hadd, cell_of_row _ _ j _ t _ (heap_alloc_new w _)]
  simpa using hj
set_option maxRecDepth 100000 in
set_option maxHeartbeats 8000000 in
theorem texts4 (a b : Int) (c : Fin 13 → Int) (V : Value) (l0 : List St) (w : World) (hlg : Lg w) (hp : Prm w V l0) :
    Calls Tryd.prog 4 #[.agg (scL a b c V).toArray] w fun e w' => e = .returned (.bool true) ∧ Below w.heap.size w w' := by
  obtain ⟨A, cp, rfl⟩ := hp.1
  have hlm : l0.length ≤ maxLen := hp.2.1
  unfold maxLen at hlm
  have HLG := Lib.hid hlg
  have HPR := Lib.hid hp
  have HX0 : Hid (BoxS w 30 (scL a b c (.slice A l0.length cp)) (w.alloc (.cells (scL a b c (.slice A l0.length cp)).toArray 30))) := Lib.hid BoxS.first
  have HF : Hid (∀ W, BoxS w 30 (scL a b c (.slice A l0.length cp)) W → W.cell? ⟨w.heap.size, 15, none⟩ = some (.slice A l0.length cp)) := Lib.hid (fun W hW => hW.facts.2.2.1)
  have HSC : Hid (∀ U, (scL a b c (.slice A l0.length cp)).toArray.setIfInBounds 15 U = (scL a b c U).toArray) := Lib.hid (fun U => scL_set _ _ _ _ U)
  have h0 := HF.out _ HX0.out
  obtain ⟨i4, hi4, hz4, hs4, hy4⟩ := info_parts info44
  have I44 := Lib.hid hi4
  have Z44 := Lib.hid hz4
  have S44 := Lib.hid hs4
  have Y44 := Lib.hid hy4
  obtain ⟨i1, hi1, hz1, hs1, hy1⟩ := info_parts info41c
  have I41 := Lib.hid hi1
  have Z41 := Lib.hid hz1
  have S41 := Lib.hid hs1
  have Y41 := Lib.hid hy1
  clear hp hlg hi4 hz4 hs4 hy4 hi1 hz1 hs1 hy1
  generalize scL a b c (.slice A l0.length cp) = SL at *
  go_enter Tryd.func4, Tryd.ntmps4
  go_wp2_with fail
  clear h0
  go_loopg [3, 4, 5] l0.length (fun gk v u i wr => ∃ (k : Nat) (ps : List (St × Value)), k ≤ l0.length ∧ k ≤ 40 ∧ gk = l0.length - k ∧ i = .int .i64 k ∧ Lin w SL l0 k v u ps wr)
  case atStart => exact ⟨0, [], Nat.zero_le _, by omega, rfl, rfl, ⟨HX0.out, rfl, rfl, World.ownsRow_nil _ _ _ _, World.ownsRow_nil _ _ _ _, (fun p hp => by cases hp), (fun p hp => by cases hp)⟩⟩
  case round =>
    obtain ⟨k, ps, hk, hk40, hgk, rfl, hin⟩ := hrel
    obtain ⟨VA, VC, rfl⟩ := own_slice hin.so
    obtain ⟨UA, UC, hu⟩ := own_slice hin.ca
    obtain ⟨n, hn⟩ : ∃ n, (callsOf (ps.map (·.1))).length = n := ⟨_, rfl⟩
    rw [hn] at hu
    subst hu
    have HN := Lib.hid hn
    have HN40 : Hid (n ≤ 40) := Lib.hid (by have h1 := calls_le (ps.map (·.1)); rw [hn, List.length_map, hin.pl] at h1; omega)
    have HIN := Lib.hid hin
    have HK := Lib.hid hgk
    have hcell := HF.out _ hin.bx
    have hkI : (k : Int) ≤ 40 := by omega
    have hk0 : (0 : Int) ≤ (k : Int) := by omega
    have HBB : Hid (Below w.heap.size w wr) := Lib.hid hin.bx.base
    have HB1 : Hid (Below (w.heap.size + 1) (w.alloc (.cells SL.toArray 30)) wr) := Lib.hid hin.bx.bw
    have HSZ : Hid (w.heap.size + 1 ≤ wr.heap.size) := Lib.hid hin.bx.size
    clear hgk hin hn
    by_cases hgo : k < l0.length ∧ k < 40
    · obtain ⟨hlt, hlt40⟩ := hgo
      have hk1 : (k : Int) < (l0.length : Int) := by omega
      have hk2 : (k : Int) < 40 := by omega
      obtain ⟨b1, o1, s, B, cap, rfl, hks, hr, hkp, hcap, hcm, hnm, hdm⟩ := HPR.out.at hlt
      have HRR : Hid (wr.rangeAt b1 (o1 + k * 19) (s.L (.slice B s.kp.length cap))) := Lib.hid (hr wr HBB.out)
      have HFW : Hid (Calls Tryd.prog 10 #[.agg (s.L (.slice B s.kp.length cap)).toArray] wr fun e w' => GiveFewA B (fewS s) e w' ∧ Below wr.heap.size wr w') := Lib.hid (by
        have h := few10A s B cap wr (hkp.below HBB.out) hcap hcm hnm hdm
        simp only [St.A, stA_eq] at h
        exact h)
      have HI : Hid ((Tryd.prog.info? 44).map (·.size) = some (s.L (.slice B s.kp.length cap)).length) := Lib.hid info30
      have HKP := Lib.hid hkp
      have HKS := Lib.hid hks
      generalize s.L (.slice B s.kp.length cap) = M0 at *
      have HFK : Hid (∀ cap2, Kp w (.slice B (fewS s).kp.length cap2) (fewS s).kp) := Lib.hid (fun cap2 => few_kp HKP.out)
      have HMP : Hid ((l0.take (k + 1)).map fewS = (l0.take k).map fewS ++ [fewS s]) := Lib.hid (by rw [List.take_add_one, hks]; simp)
      clear hr hkp hcap hcm hnm hdm hks
      obtain ⟨t, ht⟩ : ∃ t, fewS s = t := ⟨_, rfl⟩
      rw [ht] at HFW HFK HMP
      clear ht HKP HKS
      go_wp2_with (first
        | ((with_reducible refine wpList_load_midg (op := ⟨some 29, _, _, _, _, _⟩) ?_ 44 (.tmp 28) rfl b1 (o1 + k * 19) ?_ M0 _ HRR.out Tryd.underlying44 rfl HI.out ?_); kernel_rfl; rfl))
      refine Calls.mono HFW.out ?_
      rintro e w6 ⟨⟨cap2, hk6, rfl⟩, hb6⟩
      have HB6 := Lib.hid hb6
      have HKT := Lib.hid (HFK.out cap2)
      have HI2 : Hid ((Tryd.prog.info? 44).map (·.size) = some (t.L (.slice B t.kp.length cap2)).toArray.size) := Lib.hid info30
      have HI2L : Hid ((Tryd.prog.info? 44).map (·.size) = some (t.L (.slice B t.kp.length cap2)).length) := Lib.hid info30
      have HZL : Hid ((#[.int .i64 0, .int .i64 0, .string ⟨#[]⟩, .string ⟨#[]⟩, .int .i64 0, .slice none 0 0, .int .i64 0, .int .i64 0, .int .i64 0, .int .i64 0, .int .i64 0, .int .i64 0, .int .i64 0, .int .i64 0, .int .i64 0, .int .i64 0, .int .i64 0, .int .i64 0, .int .i64 0] : Array Value).size = (t.L (.slice B t.kp.length cap2)).toArray.size) := Lib.hid rfl
      have HOL : Hid ((t.L (.slice B t.kp.length cap2)).toArray.all (·.oneCell') = true) := Lib.hid (stL_one _ _ _ _ _ _ _ _ _)
      have HL19 : Hid ((t.L (.slice B t.kp.length cap2)).length = 19) := Lib.hid rfl
      have HCF : Hid (∀ (W : World) (g : Nat), W.heap[g]? = some (.cells (t.L (.slice B t.kp.length cap2)).toArray 44 (0, 0)) → W.cell? ⟨g, 0, none⟩ = some (.int .i64 t.k) ∧ W.cell? ⟨g, 2, none⟩ = some (.string (str t.nm)) ∧ W.cell? ⟨g, 3, none⟩ = some (.string (str t.dt)) ∧ W.cell? ⟨g, 5, none⟩ = some (.slice B t.kp.length cap2) ∧ W.rangeAt g 1 (cvL (callOf t))) := Lib.hid (fun W g hg => ⟨cell_of_row W g 0 _ 44 _ hg, cell_of_row W g 2 _ 44 _ hg, cell_of_row W g 3 _ 44 _ hg, cell_of_row W g 5 _ 44 _ hg, fun j v hj => by
        rw [cell_of_row W g (1 + j) _ 44 _ hg]
        match j, hj with
        | 0, hj => exact hj
        | 1, hj => exact hj
        | 2, hj => exact hj⟩)
      have HOE : Hid (∀ u ∈ t.L (.slice B t.kp.length cap2), u.oneCell' = true) := Lib.hid (fun u hu => by have := HOL.out; rw [List.all_toArray, List.all_eq_true] at this; exact this u hu)
      obtain ⟨M, hM⟩ : ∃ M, t.L (.slice B t.kp.length cap2) = M := ⟨_, rfl⟩
      have HME := Lib.hid hM
      rw [hM] at HI2 HI2L HZL HOL HL19 HCF HOE
      rw [hM]
      clear hM hk6 hb6
      have HH7 : Hid ((w6.alloc (.cells M.toArray 44)).heap[w6.heap.size]? = some (.cells M.toArray 44 (0, 0))) := Lib.hid (heap_alloc_new w6 _)
      obtain ⟨c0', c2', c3', c5', hr1'⟩ := HCF.out _ _ HH7.out
      have HB7 : Hid (Below wr.heap.size wr (w6.alloc (.cells M.toArray 44))) := Lib.hid (HB6.out.alloc HB6.out.size _)
      have hns : (str t.nm).size = t.nm.length := str_size _
      have hds : (str t.dt).size = t.dt.length := str_size _
      clear hr1'
      by_cases hbig : 5000 < t.nm.length ∨ 5000 < t.dt.length ∨ 5000 < t.kp.length
      · have hbig2 : 5000 < t.nm.length ∨ (¬ 5000 < t.nm.length ∧ 5000 < t.dt.length) ∨ (¬ 5000 < t.nm.length ∧ ¬ 5000 < t.dt.length ∧ 5000 < t.kp.length) := by omega
        have HBX : Hid (Below w.heap.size w (w6.alloc (.cells M.toArray 44))) := Lib.hid (HBB.out.trans (HB7.out.mono (by have := HSZ.out; omega)))
        clear hbig
        rcases hbig2 with h1 | ⟨h1, h2⟩ | ⟨h1, h2, h3⟩
        all_goals
          go_wp2_with (first
            | ((with_reducible refine wpList_store_new (op := ⟨none, _, _, _, _, _⟩) rfl 44 (.tmp 6) (.tmp 30) rfl w6.heap.size _ M.toArray rfl ?_ ?_ HI2.out HZL.out HOL.out ?_); rfl; rfl))
          refine Calls.mono (awake7 _) ?_
          rintro e w8 ⟨rfl, hb8⟩
          have HB8 := Lib.hid hb8
          clear hb8
          go_wp2_with fail
          go_ret
          exact ⟨rfl, HBX.out.trans (HB8.out.mono HBX.out.size)⟩
      · have h1 : ¬ 5000 < t.nm.length := by omega
        have h2 : ¬ 5000 < t.dt.length := by omega
        have h3 : ¬ 5000 < t.kp.length := by omega
        have HSM : Hid (t.nm.length ≤ 5000 ∧ t.dt.length ≤ 5000 ∧ t.kp.length ≤ 5000) := Lib.hid (by omega)
        have HB8 : Hid (Below wr.heap.size wr ((w6.alloc (.cells M.toArray 44)).alloc (.cells M.toArray 44))) := Lib.hid (HB7.out.alloc HB7.out.size _)
        have HN8 : Hid (∀ j u, M[j]? = some u → ((w6.alloc (.cells M.toArray 44)).alloc (.cells M.toArray 44)).cell? ((⟨(w6.alloc (.cells M.toArray 44)).heap.size, 0, none⟩ : Addr).add j) = some u) := Lib.hid (new_cells _ M 44)
        have HSO8 : Hid (((w6.alloc (.cells M.toArray 44)).alloc (.cells M.toArray 44)).ownsRow (w.heap.size + 1) 44 19 (.slice VA k VC) k (flatP ps)) := Lib.hid (own_below HIN.out.so HB8.out)
        have HCA8 : Hid (((w6.alloc (.cells M.toArray 44)).alloc (.cells M.toArray 44)).ownsRow (w.heap.size + 1) 41 3 (.slice UA n UC) n (flatC (callsOf (ps.map (·.1))))) := Lib.hid (by have := own_below HIN.out.ca HB8.out; rw [HN.out] at this; exact this)
        have HR7 : Hid ((w6.alloc (.cells M.toArray 44)).rangeAt w6.heap.size 0 M) := Lib.hid (range_of_row HH7.out)
        clear hbig
        go_wp2_with (first
          | ((with_reducible refine wpList_store_new (op := ⟨none, _, _, _, _, _⟩) rfl 44 (.tmp 6) (.tmp 30) rfl w6.heap.size _ M.toArray rfl ?_ ?_ HI2.out HZL.out HOL.out ?_); rfl; rfl)
          | ((with_reducible refine wpList_load_midg (op := ⟨some 51, _, _, _, _, _⟩) ?_ 44 (.tmp 6) rfl w6.heap.size 0 ?_ M _ HR7.out Tryd.underlying44 rfl HI2L.out ?_); kernel_rfl; rfl)
          | ((with_reducible refine wpList_build_one (op := ⟨some 52, _, _, _, _, _⟩) rfl 24 (.tmp 51) ?_ 44 19 _ M ?_ Tryd.underlying24 Tryd.sizeOf44 Tryd.zeroValue44 ?_ ?_ HL19.out ?_); rfl; rfl; decide; decide)
          | (at_builtin; go_loud (refine wpList_append_own _ rfl (.tmp 50) (.tmp 52) _ rfl (w.heap.size + 1) 44 i4 _ 19 184 Tryd.underlying24 I44.out Z44.out S44.out Y44.out rfl (by decide) _ k (flatP ps) rfl HSO8.out _ 1 1 M rfl HL19.out HN8.out HOE.out (by unfold maxLen; omega) (by omega) (by have := HB8.out.size; have := HSZ.out; omega) ?_)))
        intro v9 w9 hown9 hg9 _
        obtain ⟨V9, C9, rfl⟩ := own_slice hown9
        have HO9 := Lib.hid hown9
        have HBL : Hid (∀ j, (Value.slice VA k VC).ownBlock = some j → w.heap.size + 1 ≤ j ∧ j < wr.heap.size) := Lib.hid (fun j e => HIN.out.so.lt j e)
        have HH9 : Hid (w9.heap[w6.heap.size]? = some (.cells M.toArray 44 (0, 0))) := Lib.hid ((hg9.block _ (by simp; omega) (fun e => by have := (HBL.out _ e.symm).2; have := HB6.out.size; omega)).trans ((Below.heap_alloc _ _ _ (by simp)).trans HH7.out))
        have HCA9 : Hid (w9.ownsRow (w.heap.size + 1) 41 3 (.slice UA n UC) n (flatC (callsOf (ps.map (·.1))))) := Lib.hid (HCA8.out.kept hg9 (own_ne HCA8.out HSO8.out (by decide)))
        have HB9 : Hid (Below (w.heap.size + 1) wr w9) := Lib.hid ((HB8.out.mono HSZ.out).grown hg9 (Nat.le_trans HSZ.out HB8.out.size) (fun j e => (HBL.out j e).1))
        have HOL2 : Hid (∀ p ∈ ps ++ [(t, Value.slice B t.kp.length cap2)], ∃ A c, p.2 = .slice A p.1.kp.length c ∧ Kp w p.2 p.1.kp) := Lib.hid (fun p hp => by
          rcases List.mem_append.1 hp with hp | hp
          · exact HIN.out.ol p hp
          · rw [List.mem_singleton] at hp
            subst hp
            exact ⟨B, cap2, rfl, HKT.out⟩)
        have HSM2 : Hid (∀ s ∈ (ps ++ [(t, Value.slice B t.kp.length cap2)]).map (·.1), s.nm.length ≤ 5000 ∧ s.dt.length ≤ 5000 ∧ s.kp.length ≤ 5000) := Lib.hid (fun s hs => by
          rw [List.map_append] at hs
          rcases List.mem_append.1 hs with hs | hs
          · exact HIN.out.sm s hs
          · simp only [List.map_cons, List.map_nil, List.mem_singleton] at hs
            subst hs
            exact HSM.out)
        have HPM : Hid ((ps ++ [(t, Value.slice B t.kp.length cap2)]).map (·.1) = ps.map (·.1) ++ [t]) := Lib.hid (by simp)
        have HMP2 : Hid ((ps ++ [(t, Value.slice B t.kp.length cap2)]).map (·.1) = (l0.take (k + 1)).map fewS) := Lib.hid (by rw [HPM.out, HMP.out, HIN.out.mp])
        have HPL2 : Hid ((ps ++ [(t, Value.slice B t.kp.length cap2)]).length = k + 1) := Lib.hid (by rw [List.length_append, HIN.out.pl]; rfl)
        have HFL : Hid (flatP (ps ++ [(t, Value.slice B t.kp.length cap2)]) = flatP ps ++ M) := Lib.hid (by rw [flat_snoc, HME.out])
        have HBW : Hid (BoxS w 30 SL w9) := Lib.hid ⟨HB1.out.trans HB9.out⟩
        clear c0' c2' c3' c5' hown9 hg9
        obtain ⟨d0, _, _, _, hr9⟩ := HCF.out _ _ HH9.out
        by_cases hq : t.k = 1
        · have hd : (t.k == 1) = true := by simpa using hq
          have HCS : Hid (callsOf ((ps ++ [(t, Value.slice B t.kp.length cap2)]).map (·.1)) = callsOf (ps.map (·.1)) ++ [callOf t]) := Lib.hid (by rw [HPM.out, calls_snoc, if_pos hq])
          have HR9 := Lib.hid hr9
          have HCE : Hid ((Tryd.prog.info? 41).map (·.size) = some (cvL (callOf t)).length) := Lib.hid info41n
          have HC3 : Hid ((cvL (callOf t)).length = 3) := Lib.hid rfl
          have HCO : Hid (∀ u ∈ cvL (callOf t), u.oneCell' = true) := Lib.hid (by simp [cvL, Value.oneCell'])
          obtain ⟨CV, hCV⟩ : ∃ x, cvL (callOf t) = x := ⟨_, rfl⟩
          have HCV := Lib.hid hCV
          rw [hCV] at HR9 HCE HC3 HCO
          clear hr9 hCV
          have HNW : Hid (∀ j u, CV[j]? = some u → (w9.alloc (.cells CV.toArray 41)).cell? ((⟨w9.heap.size, 0, none⟩ : Addr).add j) = some u) := Lib.hid (new_cells w9 CV 41)
          have HCA10 : Hid ((w9.alloc (.cells CV.toArray 41)).ownsRow (w.heap.size + 1) 41 3 (.slice UA n UC) n (flatC (callsOf (ps.map (·.1))))) := Lib.hid (own_below HCA9.out ((Below.refl _ _).alloc (Nat.le_refl _) _))
          have HO10 : Hid ((w9.alloc (.cells CV.toArray 41)).ownsRow (w.heap.size + 1) 44 19 (.slice V9 (k + 1) C9) (k + 1) (flatP ps ++ M)) := Lib.hid (own_below HO9.out ((Below.refl _ _).alloc (Nat.le_refl _) _))
          generalize t.k = tk at *
          clear hq
          go_wp2_with (first
            | ((with_reducible refine wpList_load_midg (op := ⟨some 59, _, _, _, _, _⟩) ?_ 41 (.tmp 58) rfl w6.heap.size 1 ?_ CV _ HR9.out Tryd.underlying41 rfl HCE.out ?_); kernel_rfl; rfl)
            | ((with_reducible refine wpList_build_one (op := ⟨some 60, _, _, _, _, _⟩) rfl 37 (.tmp 59) ?_ 41 3 _ CV ?_ Tryd.underlying37 Tryd.sizeOf41 Tryd.zeroValue41 ?_ ?_ HC3.out ?_); rfl; rfl; decide; decide)
            | (at_builtin; go_loud (refine wpList_append_own _ rfl (.tmp 57) (.tmp 60) _ rfl (w.heap.size + 1) 41 i1 _ 3 40 Tryd.underlying37 I41.out Z41.out S41.out Y41.out rfl (by decide) _ n _ rfl HCA10.out _ 1 1 CV rfl HC3.out HNW.out HCO.out (by have := HN40.out; unfold maxLen; omega) (by have := HN40.out; omega) (by have := HBW.out.size; simp; omega) ?_)))
          intro v11 w11 hown11 hg11 _
          obtain ⟨V11, C11, rfl⟩ := own_slice hown11
          have HO11 := Lib.hid hown11
          have HO12 : Hid (w11.ownsRow (w.heap.size + 1) 44 19 (.slice V9 (k + 1) C9) (k + 1) (flatP ps ++ M)) := Lib.hid (HO10.out.kept hg11 (own_ne HO10.out HCA10.out (by decide)))
          have HB11 : Hid (Below (w.heap.size + 1) w9 w11) := Lib.hid (((Below.refl _ _).alloc (by have := HBW.out.size; omega) _).grown hg11 (by have := HBW.out.size; simp; omega) (fun j e => (HCA10.out.lt j e).1))
          clear hown11 hg11
          go_wp2_with fail
          go_roundg (l0.length - (k + 1))
          case measure => rw [HK.out]; omega
          case rel => exact ⟨k + 1, ps ++ [(t, Value.slice B t.kp.length cap2)], by omega, by omega, rfl, by go_num, ⟨⟨HBW.out.bw.trans HB11.out⟩, HPL2.out, HMP2.out, by rw [HFL.out]; exact HO12.out, by rw [HCS.out, flatC_snoc, List.length_append, HN.out, HCV.out]; exact HO11.out, HOL2.out, HSM2.out⟩⟩
        · have hd : (t.k == 1) = false := by simpa using hq
          have HCS : Hid (callsOf ((ps ++ [(t, Value.slice B t.kp.length cap2)]).map (·.1)) = callsOf (ps.map (·.1))) := Lib.hid (by rw [HPM.out, calls_snoc, if_neg hq])
          clear hr9
          generalize t.k = tk at *
          clear hq
          go_wp2_with fail
          go_roundg (l0.length - (k + 1))
          case measure => rw [HK.out]; omega
          case rel => exact ⟨k + 1, ps ++ [(t, Value.slice B t.kp.length cap2)], by omega, by omega, rfl, by go_num, ⟨HBW.out, HPL2.out, HMP2.out, by rw [HFL.out]; exact HO9.out, by rw [HCS.out, HN.out]; exact HCA9.out, HOL2.out, HSM2.out⟩⟩
    · have hcs : k = l0.length ∨ (k < l0.length ∧ k = 40) := by omega
      have HHG : Hid (wr.heap[w.heap.size]? = some (.cells SL.toArray 30 (0, 0))) := Lib.hid HIN.out.bx.heap
      have hz : wr.frozen? ⟨w.heap.size, 15, none⟩ = false := frozen_of_row wr w.heap.size 15 _ 30 HHG.out
      have HLL : Hid ((ps.map (·.1)).length = k) := Lib.hid (by rw [List.length_map, HIN.out.pl])
      have HLF : Hid (∀ s ∈ ps.map (·.1), Fits s) := Lib.hid (fun s hs => by
        rw [HIN.out.mp] at hs
        obtain ⟨t, _, rfl⟩ := List.mem_map.1 hs
        exact fits_few t)
      have HLS : Hid (∀ s ∈ ps.map (·.1), s.nm.length ≤ 5000 ∧ s.dt.length ≤ 5000 ∧ s.kp.length ≤ 5000) := Lib.hid HIN.out.sm
      obtain ⟨X, hX⟩ : ∃ X, wr.setCell ⟨w.heap.size, 15, none⟩ (.slice VA k VC) = X := ⟨_, rfl⟩
      have HXE := Lib.hid hX
      have HHX : Hid (X.heap[w.heap.size]? = some (.cells (scL a b c (.slice VA k VC)).toArray 30 (0, 0))) := Lib.hid (by rw [← hX, Go.heap_setCell_same _ _ _ _ _ _ HHG.out, HSC.out])
      have HSOX : Hid (X.ownsRow (w.heap.size + 1) 44 19 (.slice VA k VC) k (flatP ps)) := Lib.hid (by
        rw [← hX, setCell_eq_setRow wr w.heap.size 15 _ 30 (0, 0) _ HHG.out]
        exact own_setRow2 HIN.out.so (by omega))
      have HCAX : Hid (X.ownsRow (w.heap.size + 1) 41 3 (.slice UA n UC) n (flatC (callsOf (ps.map (·.1))))) := Lib.hid (by
        rw [← hX, setCell_eq_setRow wr w.heap.size 15 _ 30 (0, 0) _ HHG.out]
        have h := HIN.out.ca
        rw [HN.out] at h
        exact own_setRow2 h (by omega))
      have HBX : Hid (Below w.heap.size w X) := Lib.hid (by rw [← hX]; exact HBB.out.setCell (by simp) _)
      have HXS : Hid (w.heap.size < X.heap.size) := Lib.hid (by rw [← hX]; have := HSZ.out; simp [World.setCell]; omega)
      have HST : Hid (Sts X (.slice VA k VC) (ps.map (·.1))) := Lib.hid (HIN.out.sows HSOX.out HBX.out).sts
      have HLX : Hid (Lg X) := Lib.hid (HLG.out.below HLG.out.1 HBX.out)
      obtain ⟨l, hl⟩ : ∃ l, ps.map (·.1) = l := ⟨_, rfl⟩
      rw [hl] at HLL HLF HLS HCAX HST HN
      clear hX hl
      have HC11 : Hid (Calls Tryd.prog 11 #[.slice VA k VC] X fun e w' => ∃ U, e = .returned U ∧ w'.ownsRow X.heap.size 41 3 U (callsOf l).length (flatC (callsOf l)) ∧ Below X.heap.size X w') := Lib.hid (calls11 _ l X HST.out (by have := HLL.out; omega))
      have HRX : Hid (∀ W, Below X.heap.size X W → W.rangeAt w.heap.size 0 (scL a b c (.slice VA k VC))) := Lib.hid (fun W hb => range_of_row ((hb.block _ HXS.out).trans HHX.out))
      have HO13 : Hid (∀ W, Calls Tryd.prog 13 #[.agg (scL a b c (.slice VA k VC)).toArray] W fun e w' => e = .returned (.agg (scL a b c (.slice VA k VC)).toArray) ∧ Below W.heap.size W w') := Lib.hid (fun W => ours13 a b c VA k VC W)
      have HT12 : Hid (∀ W, Below X.heap.size X W → Calls Tryd.prog 12 #[.agg (scL a b c (.slice VA k VC)).toArray] W fun e w' => e = .returned (textV a b c l) ∧ Below W.heap.size W w') := Lib.hid (fun W hb => text12 a b c _ l W (HST.out.below hb) HLF.out (by have := HLL.out; omega) (fun hg => text_bound hg (by have := HLL.out; omega) HLS.out))
      have HG14 : Hid (∀ W, Below X.heap.size X W → Calls Tryd.prog 14 #[.agg (scL a b c (.slice VA k VC)).toArray] W fun e w' => e = .returned (.bool (goodB a b c l)) ∧ Below W.heap.size W w') := Lib.hid (fun W hb => rgood14 a b c _ l W (HST.out.below hb) HLF.out (by have := HLL.out; omega))
      have HT15 : Hid (goodB a b c l = true → ∀ W, Below X.heap.size X W → Calls Tryd.prog 15 #[.agg (scL a b c (.slice VA k VC)).toArray] W fun e w' => e = .returned (.string (str (textL a b c l))) ∧ Below W.heap.size W w') := Lib.hid (fun hg W hb => rtext15 a b c _ l W (HST.out.below hb) HLF.out (by have := HLL.out; omega) (text_bound hg (by have := HLL.out; omega) HLS.out) hg)
      have HRD : Hid (goodB a b c l = true → ∀ W, Below X.heap.size X W → Calls Tryd.prog 5 #[.string (str (textL a b c l))] W fun e w' => (∃ A2 c2, Sts w' (.slice A2 k c2) l ∧ e = .returned (.tuple #[.agg (scL a b c (.slice A2 k c2)).toArray, .int .i64 ((k : Int) + 1), .int .i64 0])) ∧ Below W.heap.size W w') := Lib.hid (fun hg W hb => by
        refine (read5 (textL a b c l) (text_bound hg (by have := HLL.out; omega) HLS.out) W (HLX.out.below HLX.out.1 hb)).mono ?_
        rintro e w' ⟨hgv, hb'⟩
        rw [read_text hg] at hgv
        obtain ⟨V2, h1, _, h3⟩ := hgv
        obtain ⟨A2, c2, rfl⟩ := h1.1
        rw [HLL.out] at h1 h3
        exact ⟨⟨A2, c2, h1, h3⟩, hb'⟩)
      have HSS : Hid (∀ A2 c2 W, Sts W (.slice A2 k c2) l → Below X.heap.size X W → Calls Tryd.prog 7 #[.agg (scL a b c (.slice A2 k c2)).toArray, .agg (scL a b c (.slice VA k VC)).toArray] W fun e w' => e = .returned (.bool true) ∧ Below W.heap.size W w') := Lib.hid (fun A2 c2 W h hb => rsamescript7 a b c _ _ l W h (HST.out.below hb) HLF.out (by have := HLL.out; omega))
      have HI30 : Hid ((Tryd.prog.info? 30).map (·.size) = some (scL a b c (.slice VA k VC)).length) := Lib.hid infoR
      have HTV : Hid (textV a b c l = if goodB a b c l = true then .tuple #[.string (str (textL a b c l)), .int .i64 0] else .tuple #[.string ⟨#[]⟩, .int .i64 1]) := Lib.hid rfl
      generalize scL a b c (.slice VA k VC) = SLX at *
      clear hgo
      rcases hcs with hcs | ⟨hcs, hcs2⟩
      case' inl =>
        have hx1 : ¬ (k : Int) < (l0.length : Int) := by omega
      case' inr =>
        have hx1 : (k : Int) < (l0.length : Int) := by omega
        have hx2 : ¬ (k : Int) < 40 := by omega
      all_goals
        clear hcs
        try clear hcs2
        go_wp2_with fail
        rw [HXE.out]
        clear hx1 hz hcell
        try clear hx2
        refine Calls.mono HC11.out ?_
        rintro e w3 ⟨U2, rfl, hown3, hb3⟩
        rw [HN.out] at hown3
        obtain ⟨UA2, UC2, rfl⟩ := own_slice hown3
        have HO3 := Lib.hid hown3
        have HB3 := Lib.hid hb3
        have HCA3 : Hid (w3.ownsRow (w.heap.size + 1) 41 3 (.slice UA n UC) n (flatC (callsOf l))) := Lib.hid (own_below HCAX.out hb3)
        clear hown3 hb3
        go_wp2_with fail
        refine Calls.mono (awake7 _) ?_
        rintro e w4 ⟨rfl, hb4⟩
        have HO4 : Hid (w4.ownsRow X.heap.size 41 3 (.slice UA2 n UC2) n (flatC (callsOf l))) := Lib.hid (own_below HO3.out hb4)
        have HCA4 : Hid (w4.ownsRow (w.heap.size + 1) 41 3 (.slice UA n UC) n (flatC (callsOf l))) := Lib.hid (own_below HCA3.out hb4)
        have HB4 : Hid (Below X.heap.size X w4) := Lib.hid (HB3.out.trans (hb4.mono HB3.out.size))
        clear hb4
        go_wp2_with fail
        go_loopg [8] n (fun gk i wr => ∃ j : Nat, j ≤ n ∧ gk = n - j ∧ i = .int .i64 j ∧ Below w4.heap.size w4 wr)
        case atStart => exact ⟨0, Nat.zero_le _, rfl, rfl, Below.refl _ _⟩
        case round =>
          obtain ⟨j, hj, hgj, rfl, hbj⟩ := hrel
          have HKJ := Lib.hid hgj
          have HBJ := Lib.hid hbj
          have hj0 : (0 : Int) ≤ (j : Int) := by omega
          have hjI : (j : Int) ≤ 40 := by have := HN40.out; omega
          clear hgj hbj
          by_cases hlt : j < n
          · obtain ⟨x, hx⟩ : ∃ x, (callsOf l)[j]? = some x := ⟨_, List.getElem?_eq_getElem (by rw [HN.out]; exact hlt)⟩
            obtain ⟨g1, rfl, hg1, hr1⟩ := row_at HCA4.out HN.out hx
            obtain ⟨g2, rfl, hg2, hr2⟩ := row_at HO4.out HN.out hx
            have HR1 : Hid (∀ W, Below wr.heap.size wr W → W.rangeAt g1 (j * 3) (cvL x)) := Lib.hid (fun W hW i v hi => ((HBJ.out.trans (hW.mono HBJ.out.size)).cell (p := ⟨g1, j * 3 + i, none⟩) hg1).trans (hr1 i v hi))
            have HR2 : Hid (∀ W, Below wr.heap.size wr W → W.rangeAt g2 (j * 3) (cvL x)) := Lib.hid (fun W hW i v hi => ((HBJ.out.trans (hW.mono HBJ.out.size)).cell (p := ⟨g2, j * 3 + i, none⟩) hg2).trans (hr2 i v hi))
            have HNE : Hid (∀ W, (binOp .neq 41 (.agg (cvL x).toArray) (.agg (cvL x).toArray)).run Tryd.prog W = .ok (.bool false) W) := Lib.hid (fun W => neq25b x.1 x.1 x.2.1 x.2.2 x.2.1 x.2.2 true (by simp) W)
            have HCE : Hid ((Tryd.prog.info? 41).map (·.size) = some (cvL x).length) := Lib.hid info41n
            clear hr1 hr2 hx hg1 hg2
            generalize cvL x = CX at *
            have hj1 : (j : Int) < (n : Int) := by omega
            have g25 := guard25
            go_wp2_with fail
            refine wp_region_held_drew (S := Below wr.heap.size wr) (by kernel_rfl) (below_drew (Below.refl _ _)) (fun hSx => ?_)
            refine wpAnyH_take (i := 0) (oi := ⟨some 81, _, _, _, _, none⟩) (v := .slice (some ⟨g2, 0, none⟩) n UC2) rfl (by kernel_rfl) (by kernel_rfl) (by kernel_rfl) (fun _ _ _ h => h) (Or.inl ⟨by kernel_rfl, ?_⟩) hSx ?_
            · intro wx hSx2; clear hSx; go_simp
            try simp only [Act.put, List.setIfInBounds_toArray]
            refine wpAnyH_take (i := 1) (oi := ⟨some 82, _, _, _, _, none⟩) (v := .int .i64 j) rfl (by kernel_rfl) (by kernel_rfl) (by kernel_rfl) (fun _ _ _ h => h) (Or.inl ⟨by kernel_rfl, ?_⟩) hSx ?_
            · intro wx hSx2; clear hSx; go_simp
            try simp only [Act.put, List.setIfInBounds_toArray]
            refine wpAnyH_take (i := 2) (oi := ⟨some 83, _, _, _, _, none⟩) (v := .pointer (some ⟨g2, j * 3, none⟩)) rfl (by kernel_rfl) (by kernel_rfl) (by kernel_rfl) (fun _ _ _ h => h) (Or.inl ⟨by kernel_rfl, ?_⟩) hSx ?_
            · intro wx hSx2; clear hSx; go_simp
            try simp only [Act.put, List.setIfInBounds_toArray]
            refine wpAnyH_take (i := 3) (oi := ⟨some 84, _, _, _, _, none⟩) (v := .agg CX.toArray) rfl (by kernel_rfl) (by kernel_rfl) (by kernel_rfl) (fun _ _ _ h => h) (yieldsIf_load_mid (by kernel_rfl) 41 (.tmp 83) rfl g2 (j * 3) rfl CX _ (fun W hW => HR2.out W hW) Tryd.underlying41 rfl HCE.out) hSx ?_
            try simp only [Act.put, List.setIfInBounds_toArray]
            refine wpAnyH_take (i := 4) (oi := ⟨some 85, _, _, _, _, none⟩) (v := .slice (some ⟨g1, 0, none⟩) n UC) rfl (by kernel_rfl) (by kernel_rfl) (by kernel_rfl) (fun _ _ _ h => h) (Or.inl ⟨by kernel_rfl, ?_⟩) hSx ?_
            · intro wx hSx2; clear hSx; go_simp
            try simp only [Act.put, List.setIfInBounds_toArray]
            refine wpAnyH_take (i := 5) (oi := ⟨some 86, _, _, _, _, none⟩) (v := .int .i64 j) rfl (by kernel_rfl) (by kernel_rfl) (by kernel_rfl) (fun _ _ _ h => h) (Or.inl ⟨by kernel_rfl, ?_⟩) hSx ?_
            · intro wx hSx2; clear hSx; go_simp
            try simp only [Act.put, List.setIfInBounds_toArray]
            refine wpAnyH_take (i := 6) (oi := ⟨some 87, _, _, _, _, none⟩) (v := .pointer (some ⟨g1, j * 3, none⟩)) rfl (by kernel_rfl) (by kernel_rfl) (by kernel_rfl) (fun _ _ _ h => h) (Or.inl ⟨by kernel_rfl, ?_⟩) hSx ?_
            · intro wx hSx2; clear hSx; go_simp
            try simp only [Act.put, List.setIfInBounds_toArray]
            refine wpAnyH_take (i := 7) (oi := ⟨some 88, _, _, _, _, none⟩) (v := .agg CX.toArray) rfl (by kernel_rfl) (by kernel_rfl) (by kernel_rfl) (fun _ _ _ h => h) (yieldsIf_load_mid (by kernel_rfl) 41 (.tmp 87) rfl g1 (j * 3) rfl CX _ (fun W hW => HR1.out W hW) Tryd.underlying41 rfl HCE.out) hSx ?_
            try simp only [Act.put, List.setIfInBounds_toArray]
            refine wpAnyH_take (i := 8) (oi := ⟨some 89, _, _, _, _, none⟩) (v := .bool false) rfl (by kernel_rfl) (by kernel_rfl) (by kernel_rfl) (fun _ _ _ h => h) (Or.inl ⟨by kernel_rfl, ?_⟩) hSx ?_
            · intro wx hSx2; clear hSx; have hf0 := HNE.out; go_simp
            try simp only [Act.put, List.setIfInBounds_toArray]
            refine wpAnyH_done (by kernel_rfl) ?_ _
            go_wp2_with fail
            go_roundg (n - (j + 1))
            case measure => rw [HKJ.out]; omega
            case rel => exact ⟨j + 1, by omega, rfl, by go_num, HBJ.out.trans (hSx.mono HBJ.out.size)⟩
          · obtain rfl : j = n := by omega
            have HBQ : Hid (Below X.heap.size X wr) := Lib.hid (HB4.out.trans (HBJ.out.mono HB4.out.size))
            have HR0 := Lib.hid (HRX.out _ HBQ.out)
            cases hg : goodB a b c l
            · rw [hg] at HG14 HTV
              rw [HTV.out] at HT12
              have HT12' : Hid (∀ W, Below X.heap.size X W → Calls Tryd.prog 12 #[.agg SLX.toArray] W fun e w' => e = .returned (.tuple #[.string ⟨#[]⟩, .int .i64 1]) ∧ Below W.heap.size W w') := Lib.hid HT12.out
              clear hg HT12 HTV
              go_wp2_with (first
                | ((with_reducible refine wpList_load_midg (op := ⟨some 91, _, _, _, _, _⟩) ?_ 30 (.tmp 1) rfl w.heap.size 0 ?_ SLX _ HR0.out Tryd.underlying30 rfl HI30.out ?_); kernel_rfl; rfl)
                | (go_at_call 13; (with_reducible refine (HO13.out _).mono ?_); rintro e w5 ⟨rfl, hb5⟩; have HB5 : Hid (Below X.heap.size X w5) := Lib.hid (HBQ.out.trans (hb5.mono HBQ.out.size)); clear hb5)
                | (go_at_call 12; (with_reducible refine (HT12'.out _ HB5.out).mono ?_); rintro e w6 ⟨rfl, hb6⟩; have HB6 : Hid (Below X.heap.size X w6) := Lib.hid (HB5.out.trans (hb6.mono HB5.out.size)); have HR6 := Lib.hid (HRX.out _ HB6.out); clear hb6)
                | ((with_reducible refine wpList_load_midg (op := ⟨some 96, _, _, _, _, _⟩) ?_ 30 (.tmp 1) rfl w.heap.size 0 ?_ SLX _ HR6.out Tryd.underlying30 rfl HI30.out ?_); kernel_rfl; rfl)
                | (go_at_call 14; (with_reducible refine (HG14.out _ HB6.out).mono ?_); rintro e w7 ⟨rfl, hb7⟩; have HB7 : Hid (Below X.heap.size X w7) := Lib.hid (HB6.out.trans (hb7.mono HB6.out.size)); clear hb7))
              go_ret
              exact ⟨rfl, HBX.out.trans (HB7.out.mono HBX.out.size)⟩
            have H15 := Lib.hid (HT15.out hg)
            have HRD5 := Lib.hid (HRD.out hg)
            rw [hg] at HG14 HTV
            rw [HTV.out] at HT12
            have HT12' : Hid (∀ W, Below X.heap.size X W → Calls Tryd.prog 12 #[.agg SLX.toArray] W fun e w' => e = .returned (.tuple #[.string (str (textL a b c l)), .int .i64 0]) ∧ Below W.heap.size W w') := Lib.hid HT12.out
            clear hg HT12 HTV HT15 HRD
            generalize textL a b c l = T at *
            go_wp2_with (first
              | ((with_reducible refine wpList_load_midg (op := ⟨some 91, _, _, _, _, _⟩) ?_ 30 (.tmp 1) rfl w.heap.size 0 ?_ SLX _ HR0.out Tryd.underlying30 rfl HI30.out ?_); kernel_rfl; rfl)
              | (go_at_call 13; (with_reducible refine (HO13.out _).mono ?_); rintro e w5 ⟨rfl, hb5⟩; have HB5 : Hid (Below X.heap.size X w5) := Lib.hid (HBQ.out.trans (hb5.mono HBQ.out.size)); clear hb5)
              | (go_at_call 12; (with_reducible refine (HT12'.out _ HB5.out).mono ?_); rintro e w6 ⟨rfl, hb6⟩; have HB6 : Hid (Below X.heap.size X w6) := Lib.hid (HB5.out.trans (hb6.mono HB5.out.size)); have HR6 := Lib.hid (HRX.out _ HB6.out); clear hb6)
              | ((with_reducible refine wpList_load_midg (op := ⟨some 96, _, _, _, _, _⟩) ?_ 30 (.tmp 1) rfl w.heap.size 0 ?_ SLX _ HR6.out Tryd.underlying30 rfl HI30.out ?_); kernel_rfl; rfl)
              | (go_at_call 14; (with_reducible refine (HG14.out _ HB6.out).mono ?_); rintro e w7 ⟨rfl, hb7⟩; have HB7 : Hid (Below X.heap.size X w7) := Lib.hid (HB6.out.trans (hb7.mono HB6.out.size)); clear hb7))
            refine Calls.mono (HRD5.out _ HB7.out) ?_
            rintro e w8 ⟨⟨A2, c2, hs8, rfl⟩, hb8⟩
            have HS8 := Lib.hid hs8
            have HB8 : Hid (Below X.heap.size X w8) := Lib.hid (HB7.out.trans (hb8.mono HB7.out.size))
            have HTH : Hid (∀ W, Calls Tryd.prog 8 #[.agg (scL a b c (.slice A2 k c2)).toArray] W fun e w' => e = .returned (.agg (scL a b c (.slice A2 k c2)).toArray) ∧ Below W.heap.size W w') := Lib.hid (fun W => theirs8 a b c A2 k c2 W)
            have HSM8 : Hid (∀ W, Below w8.heap.size w8 W → Calls Tryd.prog 7 #[.agg (scL a b c (.slice A2 k c2)).toArray, .agg SLX.toArray] W fun e w' => e = .returned (.bool true) ∧ Below W.heap.size W w') := Lib.hid (fun W hb => HSS.out A2 c2 W (HS8.out.below hb) (HB8.out.trans (hb.mono HB8.out.size)))
            have HI26 : Hid ((Tryd.prog.info? 26).map (·.size) = some (scL a b c (.slice A2 k c2)).length) := Lib.hid info26
            have HI262 : Hid ((Tryd.prog.info? 26).map (·.size) = some (scL a b c (.slice A2 k c2)).toArray.size) := Lib.hid info26
            have HZ2 : Hid ((#[.int .i64 0, .int .i64 0, .int .i64 0, .int .i64 0, .int .i64 0, .int .i64 0, .int .i64 0, .int .i64 0, .int .i64 0, .int .i64 0, .int .i64 0, .int .i64 0, .int .i64 0, .int .i64 0, .int .i64 0, .slice none 0 0] : Array Value).size = (scL a b c (.slice A2 k c2)).toArray.size) := Lib.hid rfl
            have HO2 : Hid ((scL a b c (.slice A2 k c2)).toArray.all (·.oneCell') = true) := Lib.hid (scL_one _ _ _ _ _ _)
            generalize scL a b c (.slice A2 k c2) = SL2 at *
            clear hs8 hb8
            obtain ⟨W9, hW9⟩ : ∃ W, w8.alloc (.cells SL2.toArray 26) = W := ⟨_, rfl⟩
            have HW9 := Lib.hid hW9
            have HB89 : Hid (Below w8.heap.size w8 W9) := Lib.hid (by rw [← hW9]; exact (Below.refl _ _).alloc (Nat.le_refl _) _)
            have HB9 : Hid (Below X.heap.size X W9) := Lib.hid (HB8.out.trans (HB89.out.mono HB8.out.size))
            have HSM7 : Hid (∀ W, Below W9.heap.size W9 W → Calls Tryd.prog 7 #[.agg SL2.toArray, .agg SLX.toArray] W fun e w' => e = .returned (.bool true) ∧ Below W.heap.size W w') := Lib.hid (fun W hb => HSM8.out W (HB89.out.trans (hb.mono HB89.out.size)))
            have HRX9 : Hid (∀ W, Below W9.heap.size W9 W → W.rangeAt w.heap.size 0 SLX) := Lib.hid (fun W hb => HRX.out W (HB9.out.trans (hb.mono HB9.out.size)))
            have HR2 : Hid (∀ W, Below W9.heap.size W9 W → W.rangeAt w8.heap.size 0 SL2) := Lib.hid (fun W hb => fresh_range w8 SL2 26 W (by rw [HW9.out]; exact hb.mono (by rw [← HW9.out]; simp)))
            clear hW9
            go_wp2_with ((with_reducible refine wpList_store_new (op := ⟨none, _, _, _, _, _⟩) rfl 26 (.tmp 11) (.tmp 108) rfl w8.heap.size _ SL2.toArray rfl ?_ ?_ HI262.out HZ2.out HO2.out ?_); rfl; rfl)
            rw [HW9.out]
            have hwk : IntKind.i64.wrap ((k : Int) + 1) = (k : Int) + 1 := IntWalk.i64_in _ (by omega)
            refine wp_region_held_drew (S := Below W9.heap.size W9) (by kernel_rfl) (below_drew (Below.refl _ _)) (fun hSx => ?_)
            refine wpAnyH_take (i := 0) (oi := ⟨some 111, _, _, _, _, none⟩) (v := .string (str T)) rfl (by kernel_rfl) (by kernel_rfl) (by kernel_rfl) (fun _ _ _ h => h) (Or.inl ⟨by kernel_rfl, ?_⟩) hSx ?_
            · intro wx hSx2; clear hSx; go_simp
            try simp only [Act.put, List.setIfInBounds_toArray]
            refine wpAnyH_take (i := 1) (oi := ⟨some 112, _, _, _, _, none⟩) (v := .agg SLX.toArray) rfl (by kernel_rfl) (by kernel_rfl) (by kernel_rfl) (fun _ _ _ h => h) (yieldsIf_load_mid (by kernel_rfl) 30 (.tmp 1) rfl w.heap.size 0 rfl SLX _ (fun W hW => HRX9.out W hW) Tryd.underlying30 rfl HI30.out) hSx ?_
            try simp only [Act.put, List.setIfInBounds_toArray]
            refine wpAnyH_ready (rs := [2]) (by kernel_rfl) (by simp) ?_
            refine AllReadyH.cons (o := ⟨some 113, _, _, _, _, none⟩) rfl (fun KK hKK => ?_) AllReadyH.nil
            go_simp
            refine (H15.out _ (HB9.out.trans (hSx.mono HB9.out.size))).mono ?_
            rintro e wz ⟨rfl, hbz⟩
            refine hKK.out _ _ (Below.trans hSx (hbz.mono (Below.size hSx))) (fun hSy => ?_)
            clear hKK hSx
            have hSx := hSy
            clear hSy KK
            try simp only [Act.put, List.setIfInBounds_toArray, List.set_cons_zero, List.set_cons_succ]
            refine wpAnyH_take (i := 3) (oi := ⟨some 114, _, _, _, _, none⟩) (v := .bool true) rfl (by kernel_rfl) (by kernel_rfl) (by kernel_rfl) (fun _ _ _ h => h) (Or.inl ⟨by kernel_rfl, ?_⟩) hSx ?_
            · intro wx hSx2; clear hSx; go_simp
            try simp only [Act.put, List.setIfInBounds_toArray]
            refine wpAnyH_take (i := 4) (oi := ⟨some 115, _, _, _, _, none⟩) (v := .bool true) rfl (by kernel_rfl) (by kernel_rfl) (by kernel_rfl) (fun _ _ _ h => h) (Or.inl ⟨by kernel_rfl, ?_⟩) hSx ?_
            · intro wx hSx2; clear hSx; go_simp
            try simp only [Act.put, List.setIfInBounds_toArray]
            refine wpAnyH_take (i := 5) (oi := ⟨some 116, _, _, _, _, some (4, true)⟩) (v := .int .i64 0) rfl (by kernel_rfl) (by kernel_rfl) (by kernel_rfl) (fun _ _ _ h => h) (Or.inl ⟨by kernel_rfl, ?_⟩) hSx ?_
            · intro wx hSx2; clear hSx; go_simp
            try simp only [Act.put, List.setIfInBounds_toArray]
            refine wpAnyH_take (i := 6) (oi := ⟨some 117, _, _, _, _, some (4, true)⟩) (v := .bool true) rfl (by kernel_rfl) (by kernel_rfl) (by kernel_rfl) (fun _ _ _ h => h) (Or.inl ⟨by kernel_rfl, ?_⟩) hSx ?_
            · intro wx hSx2; clear hSx; go_simp
            try simp only [Act.put, List.setIfInBounds_toArray]
            refine wpAnyH_take (i := 7) (oi := ⟨some 118, _, _, _, _, none⟩) (v := .bool true) rfl (by kernel_rfl) (by kernel_rfl) (by kernel_rfl) (fun _ _ _ h => h) (Or.inl ⟨by kernel_rfl, ?_⟩) hSx ?_
            · intro wx hSx2; clear hSx; go_simp
            try simp only [Act.put, List.setIfInBounds_toArray]
            refine wpAnyH_take (i := 8) (oi := ⟨some 119, _, _, _, _, none⟩) (v := .bool true) rfl (by kernel_rfl) (by kernel_rfl) (by kernel_rfl) (fun _ _ _ h => h) (Or.inl ⟨by kernel_rfl, ?_⟩) hSx ?_
            · intro wx hSx2; clear hSx; go_simp
            try simp only [Act.put, List.setIfInBounds_toArray]
            refine wpAnyH_take (i := 9) (oi := ⟨some 120, _, _, _, _, some (8, true)⟩) (v := .agg SL2.toArray) rfl (by kernel_rfl) (by kernel_rfl) (by kernel_rfl) (fun _ _ _ h => h) (yieldsIf_load_mid (by kernel_rfl) 26 (.tmp 11) rfl w8.heap.size 0 rfl SL2 _ (fun W hW => HR2.out W hW) Tryd.underlying26 rfl HI26.out) hSx ?_
            try simp only [Act.put, List.setIfInBounds_toArray]
            refine wpAnyH_take (i := 11) (oi := ⟨some 122, _, _, _, _, some (8, true)⟩) (v := .agg SLX.toArray) rfl (by kernel_rfl) (by kernel_rfl) (by kernel_rfl) (fun _ _ _ h => h) (yieldsIf_load_mid (by kernel_rfl) 30 (.tmp 1) rfl w.heap.size 0 rfl SLX _ (fun W hW => HRX9.out W hW) Tryd.underlying30 rfl HI30.out) hSx ?_
            try simp only [Act.put, List.setIfInBounds_toArray]
            refine wpAnyH_ready (rs := [10]) (by kernel_rfl) (by simp) ?_
            refine AllReadyH.cons (o := ⟨some 121, _, _, _, _, some (8, true)⟩) rfl (fun KK hKK => ?_) AllReadyH.nil
            go_simp
            refine (HTH.out _).mono ?_
            rintro e wz ⟨rfl, hbz⟩
            refine hKK.out _ _ (Below.trans hSx (hbz.mono (Below.size hSx))) (fun hSy => ?_)
            clear hKK hSx
            have hSx := hSy
            clear hSy KK
            try simp only [Act.put, List.setIfInBounds_toArray, List.set_cons_zero, List.set_cons_succ]
            refine wpAnyH_ready (rs := [12]) (by kernel_rfl) (by simp) ?_
            refine AllReadyH.cons (o := ⟨some 123, _, _, _, _, some (8, true)⟩) rfl (fun KK hKK => ?_) AllReadyH.nil
            go_simp
            refine (HSM7.out _ hSx).mono ?_
            rintro e wz ⟨rfl, hbz⟩
            refine hKK.out _ _ (Below.trans hSx (hbz.mono (Below.size hSx))) (fun hSy => ?_)
            clear hKK hSx
            have hSx := hSy
            clear hSy KK
            try simp only [Act.put, List.setIfInBounds_toArray, List.set_cons_zero, List.set_cons_succ]
            refine wpAnyH_take (i := 13) (oi := ⟨some 124, _, _, _, _, none⟩) (v := .bool true) rfl (by kernel_rfl) (by kernel_rfl) (by kernel_rfl) (fun _ _ _ h => h) (Or.inl ⟨by kernel_rfl, ?_⟩) hSx ?_
            · intro wx hSx2; clear hSx; go_simp
            try simp only [Act.put, List.setIfInBounds_toArray]
            refine wpAnyH_take (i := 14) (oi := ⟨some 125, _, _, _, _, none⟩) (v := .bool true) rfl (by kernel_rfl) (by kernel_rfl) (by kernel_rfl) (fun _ _ _ h => h) (Or.inl ⟨by kernel_rfl, ?_⟩) hSx ?_
            · intro wx hSx2; clear hSx; go_simp
            try simp only [Act.put, List.setIfInBounds_toArray]
            refine wpAnyH_take (i := 15) (oi := ⟨some 126, _, _, _, _, some (14, true)⟩) (v := .int .i64 ((k : Int) + 1)) rfl (by kernel_rfl) (by kernel_rfl) (by kernel_rfl) (fun _ _ _ h => h) (Or.inl ⟨by kernel_rfl, ?_⟩) hSx ?_
            · intro wx hSx2; clear hSx; go_simp
            try simp only [Act.put, List.setIfInBounds_toArray]
            refine wpAnyH_take (i := 16) (oi := ⟨some 127, _, _, _, _, some (14, true)⟩) (v := .slice VA k VC) rfl (by kernel_rfl) (by kernel_rfl) (by kernel_rfl) (fun _ _ _ h => h) (Or.inl ⟨by kernel_rfl, ?_⟩) hSx ?_
            · intro wx hSx2; clear hSx; go_simp
            try simp only [Act.put, List.setIfInBounds_toArray]
            refine wpAnyH_take (i := 17) (oi := ⟨some 128, _, _, _, _, some (14, true)⟩) (v := .int .i64 k) rfl (by kernel_rfl) (by kernel_rfl) (by kernel_rfl) (fun _ _ _ h => h) (Or.inl ⟨by kernel_rfl, ?_⟩) hSx ?_
            · intro wx hSx2; clear hSx; go_simp
            try simp only [Act.put, List.setIfInBounds_toArray]
            refine wpAnyH_take (i := 18) (oi := ⟨some 129, _, _, _, _, some (14, true)⟩) (v := .int .i64 ((k : Int) + 1)) rfl (by kernel_rfl) (by kernel_rfl) (by kernel_rfl) (fun _ _ _ h => h) (Or.inl ⟨by kernel_rfl, ?_⟩) hSx ?_
            · intro wx hSx2; clear hSx; go_simp
            try simp only [Act.put, List.setIfInBounds_toArray]
            refine wpAnyH_take (i := 19) (oi := ⟨some 130, _, _, _, _, some (14, true)⟩) (v := .bool true) rfl (by kernel_rfl) (by kernel_rfl) (by kernel_rfl) (fun _ _ _ h => h) (Or.inl ⟨by kernel_rfl, ?_⟩) hSx ?_
            · intro wx hSx2; clear hSx; go_simp
            try simp only [Act.put, List.setIfInBounds_toArray]
            refine wpAnyH_take (i := 20) (oi := ⟨some 131, _, _, _, _, none⟩) (v := .bool true) rfl (by kernel_rfl) (by kernel_rfl) (by kernel_rfl) (fun _ _ _ h => h) (Or.inl ⟨by kernel_rfl, ?_⟩) hSx ?_
            · intro wx hSx2; clear hSx; go_simp
            try simp only [Act.put, List.setIfInBounds_toArray]
            refine wpAnyH_take (i := 21) (oi := ⟨some 132, _, _, _, _, none⟩) (v := .bool true) rfl (by kernel_rfl) (by kernel_rfl) (by kernel_rfl) (fun _ _ _ h => h) (Or.inl ⟨by kernel_rfl, ?_⟩) hSx ?_
            · intro wx hSx2; clear hSx; go_simp
            try simp only [Act.put, List.setIfInBounds_toArray]
            refine wpAnyH_take (i := 22) (oi := ⟨some 133, _, _, _, _, some (21, true)⟩) (v := .int .i64 0) rfl (by kernel_rfl) (by kernel_rfl) (by kernel_rfl) (fun _ _ _ h => h) (Or.inl ⟨by kernel_rfl, ?_⟩) hSx ?_
            · intro wx hSx2; clear hSx; go_simp
            try simp only [Act.put, List.setIfInBounds_toArray]
            refine wpAnyH_take (i := 23) (oi := ⟨some 134, _, _, _, _, some (21, true)⟩) (v := .bool true) rfl (by kernel_rfl) (by kernel_rfl) (by kernel_rfl) (fun _ _ _ h => h) (Or.inl ⟨by kernel_rfl, ?_⟩) hSx ?_
            · intro wx hSx2; clear hSx; go_simp
            try simp only [Act.put, List.setIfInBounds_toArray]
            refine wpAnyH_take (i := 24) (oi := ⟨some 135, _, _, _, _, none⟩) (v := .bool true) rfl (by kernel_rfl) (by kernel_rfl) (by kernel_rfl) (fun _ _ _ h => h) (Or.inl ⟨by kernel_rfl, ?_⟩) hSx ?_
            · intro wx hSx2; clear hSx; go_simp
            try simp only [Act.put, List.setIfInBounds_toArray]
            refine wpAnyH_take (i := 25) (oi := ⟨some 2, _, _, _, _, none⟩) (v := .bool true) rfl (by kernel_rfl) (by kernel_rfl) (by kernel_rfl) (fun _ _ _ h => h) (Or.inl ⟨by kernel_rfl, ?_⟩) hSx ?_
            · intro wx hSx2; clear hSx; go_simp
            try simp only [Act.put, List.setIfInBounds_toArray]
            refine wpAnyH_done (by kernel_rfl) ?_ _
            go_wp2_with fail
            go_ret
            exact ⟨rfl, HBX.out.trans ((HB9.out.trans (hSx.mono HB9.out.size)).mono HBX.out.size)⟩

end Go.Proofs.YtjakkmioofbcaaaDoor
