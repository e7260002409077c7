/- The walk over Parse. -/
import Derived.Test.YtocfhldmnbmapaaGreatDoorAE
namespace Go.Proofs.YtocfhldmnbmapaaGreatDoor
open Go.RowKit
theorem results13 (tmps : Array Value) (W : World) (b : Nat) (f : Fd) (e : Int) (h0 : tmps.getD 2 undef = .pointer (some ⟨b, 0, none⟩)) (h3 : tmps.getD 3 undef = .int .i64 e) (hb : W.heap[b]? = some (.cells (fdV f) 25 (0, 0))) : (results Tryz.f13 tmps).run Tryz.prog W = .ok (.tuple #[.agg (fdV f), .int .i64 e]) W := by
  rw [results_cell_tmp rfl, h0, h3]
  simp only [asAddr, Sem.run_pure, Result.andThen_ok, loadVar25 hb]
set_option maxRecDepth 100000 in
set_option maxHeartbeats 4000000 in
theorem parse13 (s : List UInt8) (hs : s.length ≤ 900000) (w : World) (hg : Gw w) : Calls Tryz.prog 13 #[.string (str s)] w (ParsePost s w) := by
  have hmf : ∀ (fn : Fn) (first cap : Array Value) (W : World), (Instr.makeFunc fn first cap).run Tryz.prog W = .ok (.func fn first cap) W := fun _ _ _ _ => rfl
  have HMF := Lib.hid hmf
  clear hmf
  have HGW := Lib.hid hg
  obtain ⟨r0, hr0⟩ : ∃ r0, r0 = w.heap.size := ⟨_, rfl⟩
  have HR0 : Hid ((w.alloc (.cells #[.int .i64 0, .int .u32 0, .string ⟨#[]⟩, .int .i64 0] 25)).heap[r0]? = some (.cells fdZ 25 (0, 0))) := Lib.hid (by rw [hr0]; exact heap_alloc_new _ _)
  have HB0 : Hid (Below w.heap.size w (w.alloc (.cells #[.int .i64 0, .int .u32 0, .string ⟨#[]⟩, .int .i64 0] 25))) := Lib.hid ((Below.refl _ _).alloc (Nat.le_refl _) _)
  have HL0 : Hid (w.heap.size ≤ r0 ∧ r0 < (w.alloc (.cells #[.int .i64 0, .int .u32 0, .string ⟨#[]⟩, .int .i64 0] 25)).heap.size) := Lib.hid ⟨by omega, by rw [World.size_alloc, hr0]; omega⟩
  have HG0 := Lib.hid (hg.below HB0.out)
  obtain ⟨a, ws, hsp⟩ : ∃ a ws, splitL 32 s = a :: ws := by
    cases h : splitL 32 s with
    | nil => exact absurd h (splitL_ne _ _)
    | cons a ws => exact ⟨a, ws, rfl⟩
  have hsl := split_len s
  have HSP := Lib.hid (split36 s (by omega) (w.alloc (.cells #[.int .i64 0, .int .u32 0, .string ⟨#[]⟩, .int .i64 0] 25)) HG0.out)
  rw [hsp] at hsl HSP
  have hal : a.length ≤ 1000000 := by have := hsl.2 a (List.mem_cons_self ..); omega
  have HWL : Hid ((∀ x ∈ ws, x.length ≤ 1000000) ∧ ws.length ≤ 1000000) := Lib.hid ⟨fun x hx => by have := hsl.2 x (List.mem_cons_of_mem _ hx); omega, by have := hsl.1; simp only [List.length_cons] at this; omega⟩
  obtain ⟨n, hn⟩ : ∃ n, n = ws.length := ⟨_, rfl⟩
  have hn1 : (a :: ws).length = n + 1 := by rw [hn]; rfl
  rw [hn1] at HSP
  have hnb : n ≤ 1000000 := by rw [hn]; exact HWL.out.2
  have HNN := Lib.hid hn
  have HPO : Hid (parseO s = (kindO a).bind fun k => partsO k ws) := Lib.hid (by unfold parseO; rw [hsp])
  have HK31 := Lib.hid kinds31
  have HI77 := Lib.hid info77
  have HS77 : Hid ((#[Value.string { data := #[] }, Value.string { data := #[] }, Value.string { data := #[] }, Value.string { data := #[] }, Value.string { data := #[] }, Value.string { data := #[] }, Value.string { data := #[] }, Value.string { data := #[] }, Value.string { data := #[] }, Value.string { data := #[] }, Value.string { data := #[] }, Value.string { data := #[] }, Value.string { data := #[] }, Value.string { data := #[] }, Value.string { data := #[] }, Value.string { data := #[] }, Value.string { data := #[] }, Value.string { data := #[] }] : Array Value).size = kindsA.size) := Lib.hid rfl
  have HON77 : Hid (kindsA.all (·.oneCell') = true) := Lib.hid (by kernel_rfl)
  have HX37 : Hid (∀ kb W, W.heap[kb]? = some (.cells kindsA 77 (0, 0)) → Calls Tryz.prog 37 #[.slice (some ⟨kb, 1, none⟩) 17 17, .string (str a)] W fun e W' => e = .returned (.int .i64 (idxK a)) ∧ W' = W) := Lib.hid (fun kb W h => index37 kb a W h)
  have hik := idx_kind a
  have HIK := Lib.hid hik
  generalize kindsA = KA at *
  clear hg hsl hn1 hsp hs hn hik
  go_enter Tryz.func13, Tryz.ntmps13
  go_upto_region 1 with fail
  rw [← hr0]
  clear hr0
  generalize w.alloc (.cells #[.int .i64 0, .int .u32 0, .string ⟨#[]⟩, .int .i64 0] 25) = V1 at *
  obtain ⟨N, hN⟩ : ∃ N, N = V1.heap.size := ⟨_, rfl⟩
  rw [← hN] at HSP
  have HNV := Lib.hid hN
  clear hN
  go_wp2_with fail
  refine Calls.mono HSP.out ?_
  rintro _ V2 ⟨rfl, hV2⟩
  have HC2 : Hid (V2.heap[N]? = some (.cells (strsA (a :: ws)) 9 (0, 0))) := Lib.hid (by rw [hV2, HNV.out]; exact heap_alloc_new _ _)
  have HB2 : Hid (Below V1.heap.size V1 V2) := Lib.hid (by rw [hV2]; exact (Below.refl _ _).alloc (Nat.le_refl _) _)
  clear hV2 HSP
  go_upto_region 2 with fail
  obtain ⟨wb, hwb⟩ : ∃ wb, wb = V2.heap.size := ⟨_, rfl⟩
  rw [← hwb]
  have HC3 : Hid ((V2.alloc (.cells #[.slice (some ⟨N, 0, none⟩) (n + 1) (n + 1)] 66)).heap[wb]? = some (.cells #[.slice (some ⟨N, 0, none⟩) (n + 1) (n + 1)] 66 (0, 0))) := Lib.hid (by rw [hwb]; exact heap_alloc_new _ _)
  have HB3 : Hid (Below V1.heap.size V1 (V2.alloc (.cells #[.slice (some ⟨N, 0, none⟩) (n + 1) (n + 1)] 66))) := Lib.hid (HB2.out.alloc HB2.out.size _)
  have HB23 : Hid (Below V2.heap.size V2 (V2.alloc (.cells #[.slice (some ⟨N, 0, none⟩) (n + 1) (n + 1)] 66))) := Lib.hid ((Below.refl _ _).alloc (Nat.le_refl _) _)
  have HWB := Lib.hid hwb
  clear hwb
  generalize V2.alloc (.cells #[.slice (some ⟨N, 0, none⟩) (n + 1) (n + 1)] 66) = V3 at *
  go_wp2_with fail
  refine Calls.mono (HK31.out V3) ?_
  rintro _ V4 ⟨rfl, hb4⟩
  have HB34 := Lib.hid hb4
  clear hb4
  go_upto_region 3 with (first
    | ((with_reducible refine wpList_store_new (op := ⟨none, .store _ _ _, _, _, _, _⟩) rfl 77 (.tmp 5) (.tmp 21) rfl _ KA ?_ ?_ HI77.out HS77.out HON77.out ?_); rfl; rfl))
  obtain ⟨kb, hkb⟩ : ∃ kb, kb = V4.heap.size := ⟨_, rfl⟩
  rw [← hkb]
  have HC5 : Hid ((V4.alloc (.cells KA 77)).heap[kb]? = some (.cells KA 77 (0, 0))) := Lib.hid (by rw [hkb]; exact heap_alloc_new _ _)
  have HB35 : Hid (Below V3.heap.size V3 (V4.alloc (.cells KA 77))) := Lib.hid (HB34.out.alloc HB34.out.size _)
  clear hkb
  generalize V4.alloc (.cells KA 77) = V5 at *
  have HB25 : Hid (Below V2.heap.size V2 V5) := Lib.hid (HB23.out.trans (HB35.out.mono HB23.out.size))
  have HB15 : Hid (Below V1.heap.size V1 V5) := Lib.hid (HB2.out.trans (HB25.out.mono HB2.out.size))
  have HCN5 : Hid (V5.heap[N]? = some (.cells (strsA (a :: ws)) 9 (0, 0))) := Lib.hid ((HB25.out.block _ (lt_of_block HC2.out)).trans HC2.out)
  have HCW5 : Hid (V5.heap[wb]? = some (.cells #[.slice (some ⟨N, 0, none⟩) (n + 1) (n + 1)] 66 (0, 0))) := Lib.hid ((HB35.out.block _ (lt_of_block HC3.out)).trans HC3.out)
  have HS5 : Hid (V5.cell? ⟨wb, 0, none⟩ = some (.slice (some ⟨N, 0, none⟩) (n + 1) (n + 1)) ∧ V5.cell? ⟨N, 0, none⟩ = some (.string (str a))) := Lib.hid ⟨cell_of_row V5 wb 0 _ 66 (0, 0) HCW5.out, (cell_of_row V5 N 0 _ 9 (0, 0) HCN5.out).trans rfl⟩
  have hsl := words_slice kb
  have hn2 : (0 : Int) < (n : Int) + 1 := by omega
  go_wp2_with fail
  refine wp_region_held_drew (S := (fun W => W.cell? ⟨wb, 0, none⟩ = some (.slice (some ⟨N, 0, none⟩) (n + 1) (n + 1)) ∧ W.cell? ⟨N, 0, none⟩ = some (.string (str a)))) (by kernel_rfl) ?_ (fun hSx => ?_)
  · exact HS5.out
  refine wpAnyH_take (i := 0) (oi := ⟨some 22, _, _, _, _, none⟩) (v := ?_) rfl (by kernel_rfl) (by kernel_rfl) (by kernel_rfl) (fun _ _ _ h => h) (Or.inl ⟨by kernel_rfl, ?_⟩) hSx ?_
  rotate_left 1
  focus (intro wx hSw; obtain ⟨s0, s1⟩ := hSw; go_simp; first | done | with_reducible rfl)
  try simp only [Act.put, List.setIfInBounds_toArray, List.set_cons_zero, List.set_cons_succ]
  refine wpAnyH_take (i := 1) (oi := ⟨some 23, _, _, _, _, none⟩) (v := ?_) rfl (by kernel_rfl) (by kernel_rfl) (by kernel_rfl) (fun _ _ _ h => h) (Or.inl ⟨by kernel_rfl, ?_⟩) hSx ?_
  rotate_left 1
  focus (intro wx hSw; obtain ⟨s0, s1⟩ := hSw; go_simp; first | done | with_reducible rfl)
  try simp only [Act.put, List.setIfInBounds_toArray, List.set_cons_zero, List.set_cons_succ]
  refine wpAnyH_take (i := 2) (oi := ⟨some 24, _, _, _, _, none⟩) (v := ?_) rfl (by kernel_rfl) (by kernel_rfl) (by kernel_rfl) (fun _ _ _ h => h) (Or.inl ⟨by kernel_rfl, ?_⟩) hSx ?_
  rotate_left 1
  focus (intro wx hSw; obtain ⟨s0, s1⟩ := hSw; go_simp; first | done | with_reducible rfl)
  try simp only [Act.put, List.setIfInBounds_toArray, List.set_cons_zero, List.set_cons_succ]
  refine wpAnyH_take (i := 3) (oi := ⟨some 25, _, _, _, _, none⟩) (v := ?_) rfl (by kernel_rfl) (by kernel_rfl) (by kernel_rfl) (fun _ _ _ h => h) (Or.inl ⟨by kernel_rfl, ?_⟩) hSx ?_
  rotate_left 1
  focus (intro wx hSw; obtain ⟨s0, s1⟩ := hSw; go_simp; first | done | with_reducible rfl)
  try simp only [Act.put, List.setIfInBounds_toArray, List.set_cons_zero, List.set_cons_succ]
  refine wpAnyH_ready (rs := [4]) (by kernel_rfl) (by simp) ?_
  refine AllReadyH.cons (o := ⟨some 26, _, _, _, _, none⟩) rfl (fun KK hKK => ?_) AllReadyH.nil
  go_simp
  have HB6' : Hid (Below V5.heap.size V5 V5.drew) := Lib.hid (below_drew (Below.refl _ _))
  have HX := HX37.out kb V5.drew ((HB6'.out.block _ (lt_of_block HC5.out)).trans HC5.out)
  with_reducible refine Calls.mono HX ?_
  rintro e V7 ⟨rfl, rfl⟩
  clear HX
  refine hKK.out _ _ (HS5.out) (fun hSy => ?_)
  clear hKK hSx
  have hSx := hSy
  clear hSy KK
  try simp only [Act.put, List.setIfInBounds_toArray, List.set_cons_zero, List.set_cons_succ]
  refine wpAnyH_take (i := 5) (oi := ⟨some 6, _, _, _, _, none⟩) (v := ?_) rfl (by kernel_rfl) (by kernel_rfl) (by kernel_rfl) (fun _ _ _ h => h) (Or.inl ⟨by kernel_rfl, ?_⟩) hSx ?_
  rotate_left 1
  focus (intro wx hSw; obtain ⟨s0, s1⟩ := hSw; go_simp; first | done | with_reducible rfl)
  try simp only [Act.put, List.setIfInBounds_toArray, List.set_cons_zero, List.set_cons_succ]
  refine wpAnyH_done (by kernel_rfl) ?_ _
  clear hSx hsl
  obtain ⟨V6, hV6⟩ : ∃ V, V = V5.drew := ⟨_, rfl⟩
  rw [← hV6]
  have HB6 : Hid (Below V5.heap.size V5 V6) := Lib.hid (by rw [hV6]; exact below_drew (Below.refl _ _))
  clear hV6
  rcases HIK.out with ⟨hk, hi⟩ | ⟨k, hk, hi⟩
  · have HK := Lib.hid hk
    rw [hi]
    clear hk hi
    have HR6 : Hid (V6.heap[r0]? = some (.cells fdZ 25 (0, 0))) := Lib.hid ((HB6.out.block _ (by have := HL0.out.2; have := HB15.out.size; omega)).trans ((HB15.out.block _ HL0.out.2).trans HR0.out))
    have HI25 : Hid ((Tryz.prog.info? 25).map (·.size) = some (#[.int .i64 0, .int .u32 0, .string ⟨#[]⟩, .int .i64 0] : Array Value).size) := Lib.hid info25
    have HON25 : Hid ((#[.int .i64 0, .int .u32 0, .string ⟨#[]⟩, .int .i64 0] : Array Value).all (·.oneCell') = true) := Lib.hid (by kernel_rfl)
    have HFIN : Hid (ParsePost s w (.returned (.tuple #[.agg (fdV zfd), .int .i64 7])) (V6.setRow r0 #[.int .i64 0, .int .u32 0, .string ⟨#[]⟩, .int .i64 0])) := Lib.hid (by
      have hb : Below w.heap.size w V6 := HB0.out.trans ((HB15.out.trans (HB6.out.mono HB15.out.size)).mono HB0.out.size)
      refine ⟨?_, below_grown0 hb (setRow_grown _ _ _) HL0.out.1⟩
      unfold parseF parseE
      rw [HPO.out, HK.out]
      rfl)
    have HRW : Hid ((V6.setRow r0 #[.int .i64 0, .int .u32 0, .string ⟨#[]⟩, .int .i64 0]).heap[r0]? = some (.cells (fdV zfd) 25 (0, 0))) := Lib.hid (setRow_heap _ _ _ _ _ _ HR6.out)
    go_wp2_with (first
      | ((with_reducible refine wpList_store_row (o := ⟨none, .store _ _ _, _, _, _, _⟩) rfl 25 (.tmp 2) (.tmp 29) rfl r0 #[.int .i64 0, .int .u32 0, .string ⟨#[]⟩, .int .i64 0] ?_ ?_ 25 _ HR6.out HI25.out rfl HON25.out ?_); rfl; rfl))
    exact bodyPost_ret (results13 _ _ r0 zfd 7 rfl rfl HRW.out) rfl HFIN.out
  · have HK := Lib.hid hk
    rw [hi]
    clear hk hi
    have hk0 : ¬ (k : Int) < 0 := by omega
    have hkb2 : k ≤ 100 := by have := (word_kind HK.out).2.1; omega
    obtain ⟨K, hKK⟩ : ∃ K, K = k + 1 := ⟨_, rfl⟩
    have hw1 : IntKind.i64.wrap ((k : Int) + 1) = (K : Int) := by rw [IntWalk.i64_in _ (by omega)]; omega
    have HPK : Hid (parseO s = endO (r3O (hasT (K : Nat)).2.2 (r2O (hasT (K : Nat)).2.1 (r1O K ws)))) := Lib.hid (by rw [HPO.out, HK.out, ← hKK, ← parts_eq]; rfl)
    clear hKK
    go_upto_region 7 with fail
    obtain ⟨fb, hfb⟩ : ∃ fb, fb = V6.heap.size := ⟨_, rfl⟩
    rw [← hfb]
    obtain ⟨ob, hob⟩ : ∃ ob, ob = fb + 1 := ⟨_, rfl⟩
    rw [← hob]
    have HST : Hid (St w r0 wb fb ob (a :: ws) true ⟨(K : Nat), 0, [], 0⟩ ((V6.alloc (.cells #[.int .i64 (K : Nat), .int .u32 0, .string ⟨#[]⟩, .int .i64 0] 25)).alloc (.cells #[.bool true] 4))) := Lib.hid (by
      have hb56 := HB15.out.trans (HB6.out.mono HB15.out.size)
      have hbw6 : Below w.heap.size w V6 := HB0.out.trans (hb56.mono HB0.out.size)
      have hb6 : Below V6.heap.size V6 ((V6.alloc (.cells #[.int .i64 (K : Nat), .int .u32 0, .string ⟨#[]⟩, .int .i64 0] 25)).alloc (.cells #[.bool true] 4)) := ((Below.refl _ _).alloc (Nat.le_refl _) _).alloc (by rw [World.size_alloc]; omega) _
      have q1 := HL0.out.1
      have q2 : r0 < N := by rw [HNV.out]; exact HL0.out.2
      have q3 : N < wb := by rw [HWB.out]; exact lt_of_block HC2.out
      have q4 : wb < V5.heap.size := lt_of_block HCW5.out
      have q5 := HB6.out.size
      have hr6 : V6.heap[r0]? = some (.cells fdZ 25 (0, 0)) := (HB6.out.block _ (by omega)).trans ((HB15.out.block _ HL0.out.2).trans HR0.out)
      have hn6 : V6.heap[N]? = some (.cells (strsA (a :: ws)) 9 (0, 0)) := (HB6.out.block _ (by omega)).trans HCN5.out
      have hw6 := (HB6.out.block _ (by omega)).trans HCW5.out
      refine ⟨(hb6.block _ (by omega)).trans hr6, ⟨_, (hb6.block _ (by omega)).trans hw6, N, 0, by simp only [List.length_cons]; rw [HNN.out], ?_, ?_, fun i x hx => ?_⟩, ?_, ?_, hbw6.trans (hb6.mono hbw6.size), HGW.out.below (hbw6.trans (hb6.mono hbw6.size)), ?_, ?_⟩
      · have := hb6.size; omega
      · omega
      · rw [Nat.zero_add]
        exact (cell_of_row _ N i _ 9 (0, 0) ((hb6.block _ (by omega)).trans hn6)).trans (strsA_get hx)
      · rw [hfb]
        exact (((Below.refl (V6.alloc (.cells #[.int .i64 (K : Nat), .int .u32 0, .string ⟨#[]⟩, .int .i64 0] 25)).heap.size (V6.alloc (.cells #[.int .i64 (K : Nat), .int .u32 0, .string ⟨#[]⟩, .int .i64 0] 25))).alloc (Nat.le_refl _) (.cells #[.bool true] 4)).block _ (by rw [World.size_alloc]; omega)).trans (heap_alloc_new _ _)
      · have e : ob = (V6.alloc (.cells #[.int .i64 (K : Nat), .int .u32 0, .string ⟨#[]⟩, .int .i64 0] 25)).heap.size := by rw [World.size_alloc]; omega
        rw [e]
        exact heap_alloc_new _ _
      · omega
      · omega)
    clear hfb hob HCN5 HCW5 HS5 HC5 HR0 HC2 HC3
    generalize (V6.alloc (.cells #[.int .i64 (K : Nat), .int .u32 0, .string ⟨#[]⟩, .int .i64 0] 25)).alloc (.cells #[.bool true] 4) = V8 at *
    have HH := Lib.hid (has30 (K : Nat))
    unfold has3 at HH
    obtain ⟨x, hx⟩ : ∃ x, x = (hasT (K : Nat)).1 := ⟨_, rfl⟩
    obtain ⟨y, hy⟩ : ∃ y, y = (hasT (K : Nat)).2.1 := ⟨_, rfl⟩
    obtain ⟨z, hz⟩ : ∃ z, z = (hasT (K : Nat)).2.2 := ⟨_, rfl⟩
    rw [← hx, ← hy, ← hz] at HH
    rw [← hy, ← hz] at HPK
    have HX := Lib.hid hx
    clear hx hy hz hw1 hk0
    have cf := HST.out.cf.1
    go_wp2_with fail
    refine Calls.mono (HH.out _) ?_
    rintro _ V9 ⟨rfl, rfl⟩
    clear HH cf
    go_upto_region 8 with fail
    go_cut [] from 19 (fun wx => St w r0 wb fb ob ws true ⟨(K : Nat), 0, [], 0⟩ wx)
    case first =>
      obtain ⟨v, hv, N', o', rfl, hN', hT', hc'⟩ := HST.out.hw
      have hln : (a :: ws).length = n + 1 := by rw [HNN.out]; rfl
      rw [hln] at hv
      have cw := cell_of_row V9 wb 0 _ 66 (0, 0) hv
      have zw := frozen_of_row V9 wb 0 _ 66 hv
      have HV : Hid (∀ A, (ws ≠ [] → A = o' + 1) → St w r0 wb fb ob ws true ⟨(K : Nat), 0, [], 0⟩ (V9.setCell ⟨wb, 0, none⟩ (.slice (some ⟨N', A, none⟩) n n))) := Lib.hid (fun A hA => HST.out.set_ws HGW.out _ ws ⟨N', A, by rw [HNN.out], hN', hT', fun i y hy => by
        have hne : ws ≠ [] := fun q => by rw [q] at hy; cases hy
        rw [hA hne]
        have := hc' (i + 1) y hy
        rwa [Nat.add_assoc, Nat.add_comm 1 i]⟩)
      have n1 : (1 : Int) ≤ (n : Int) + 1 := by omega
      clear hv hN' hT' hc' hln
      by_cases hn0 : n = 0
      · have hre : ws = [] := List.length_eq_zero_iff.1 (by rw [← HNN.out]; exact hn0)
        subst hn0
        go_wp2_with fail
        go_meet
        case rel => exact HV.out _ (fun q => absurd hre q)
      · have m1 : (1 : Int) < (n : Int) + 1 := by omega
        have m2 : ¬ (n : Int) = 0 := by omega
        go_wp2_with fail
        go_meet
        case rel => exact HV.out _ (fun _ => rfl)
    case rest =>
    have HS1 := Lib.hid hcut
    clear hcut HST
    have hmf := HMF.out
    go_upto_if 43 with fail
    go_cut [] from 19 (fun wx => Stage w r0 wb fb ob (r1O K ws) wx)
    case first =>
      cases x with
      | false =>
        have HS2 : Hid (Stage w r0 wb fb ob (r1O K ws) wc) := Lib.hid ⟨true, ws, _, HS1.out, fun _ => r1_false HX.out.symm, (fun q => by cases q), by simp only; omega, by simp only; omega, HWL.out⟩
        go_wp2_with fail
        go_meet
        case rel => exact HS2.out
      | true =>
        have HC38 := Lib.hid (next38 HS1.out HGW.out HWL.out.1 HWL.out.2)
        clear HS1
        go_wp2_with fail
        refine Calls.mono HC38.out ?_
        rintro _ V10 ⟨x1, ok1, ws1, rfl, hxl, hst, hnx⟩
        have HN1 := Lib.hid hnx
        have HS10 := Lib.hid hst
        have HC39 := Lib.hid (number39 x1 hxl V10 hst.gw)
        clear hnx hst hxl HC38
        go_wp2_with fail
        refine Calls.mono HC39.out ?_
        rintro _ V11 ⟨nn, b, rfl, h1, h2, h3, hb⟩
        have HS11 := Lib.hid (HS10.out.below hb)
        have HQ := Lib.hid (And.intro h1 (And.intro h2 h3))
        have wn : IntKind.u32.wrap (nn : Int) = (nn : Int) := by rw [IntKind.wrap_u32]; omega
        clear h1 h2 h3 hb HS10 HC39
        have co := HS11.out.co
        have zo := HS11.out.zo
        have cf := HS11.out.cf.2.1
        have zf := HS11.out.zf 1
        have hne : ob ≠ fb := HS11.out.d.2.2.2.2.2
        have hne2 : ¬ ob = fb := hne
        have hne3 : ¬ fb = ob := fun q => hne q.symm
        have HS2 := Lib.hid (Stage.num1 (b := b) HX.out.symm rfl HWL.out HGW.out HS11.out HN1.out HQ.out.1 HQ.out.2.1 HQ.out.2.2)
        cases ok1 with
        | false =>
          go_wp2_with fail
          go_meet
          case rel => exact HS2.out
        | true =>
          go_wp2_with fail
          go_meet
          case rel => exact HS2.out
    case rest =>
    obtain ⟨ok2, ws2, ⟨k2, id2, nm2, a2⟩, hst, hr1, hr2, hid, hat, hl1, hl2⟩ := hcut
    have HS3 := Lib.hid hst
    have HR3 := Lib.hid (And.intro hr1 hr2)
    have HL3 := Lib.hid (And.intro hl1 hl2)
    have HF3 : Hid (a2 < 4294967296 ∧ id2 < 4294967296) := Lib.hid ⟨hat, hid⟩
    clear hst hr1 hr2 hid hat hl1 hl2 HS1
    go_upto_if 57 with fail
    go_cut [] from 19 (fun wx => Stage w r0 wb fb ob (r2O y (r1O K ws)) wx)
    case first =>
      cases y with
      | false =>
        have HS2 : Hid (Stage w r0 wb fb ob (r2O false (r1O K ws)) wc) := Lib.hid (by
          rw [r2_false _ r1_plain]
          exact ⟨ok2, ws2, _, HS3.out, HR3.out.1, HR3.out.2, HF3.out.2, HF3.out.1, HL3.out.1, HL3.out.2⟩)
        go_wp2_with fail
        go_meet
        case rel => exact HS2.out
      | true =>
        have HC38 := Lib.hid (next38 HS3.out HGW.out HL3.out.1 HL3.out.2)
        clear HS3
        go_wp2_with fail
        refine Calls.mono HC38.out ?_
        rintro _ V10 ⟨x1, ok1, ws1, rfl, hxl, hst, hnx⟩
        have HN1 := Lib.hid hnx
        have HS10 := Lib.hid hst
        have HC40 := Lib.hid (text40 x1 hxl V10)
        clear hnx hst hxl HC38
        go_wp2_with fail
        refine Calls.mono HC40.out ?_
        rintro _ V11 ⟨tt, b, rfl, h2, h3, _, hb⟩
        have HS11 := Lib.hid (HS10.out.below hb)
        have HQ := Lib.hid (And.intro h2 h3)
        clear h2 h3 hb HS10 HC40
        have co := HS11.out.co
        have zo := HS11.out.zo
        have cf := HS11.out.cf.2.2.1
        have zf := HS11.out.zf 2
        have hne : ob ≠ fb := HS11.out.d.2.2.2.2.2
        have hne2 : ¬ ob = fb := hne
        have hne3 : ¬ fb = ob := fun q => hne q.symm
        have HS2 := Lib.hid (Stage.txt2 (b := b) HR3.out.1 HR3.out.2 HF3.out (fun p q => (r1_plain p q).2) HL3.out HGW.out HS11.out HN1.out HQ.out.1 HQ.out.2)
        cases ok1 with
        | false =>
          go_wp2_with fail
          go_meet
          case rel => exact HS2.out
        | true =>
          go_wp2_with fail
          go_meet
          case rel => exact HS2.out
    case rest =>
    clear HS3 HR3 HL3 HF3
    obtain ⟨ok3, ws3, ⟨k3, id3, nm3, a3⟩, hst, hr1, hr2, hid, hat, hl1, hl2⟩ := hcut
    have HS4 := Lib.hid hst
    have HR4 := Lib.hid (And.intro hr1 hr2)
    have HL4 := Lib.hid (And.intro hl1 hl2)
    have HF4 : Hid (a3 < 4294967296 ∧ id3 < 4294967296) := Lib.hid ⟨hat, hid⟩
    clear hst hr1 hr2 hid hat hl1 hl2
    go_upto_if 70 with fail
    go_cut [] from 19 (fun wx => Stage w r0 wb fb ob (r3O z (r2O y (r1O K ws))) wx)
    case first =>
      cases z with
      | false =>
        have HS2 : Hid (Stage w r0 wb fb ob (r3O false (r2O y (r1O K ws))) wc) := Lib.hid (by
          rw [r3_false _ r2_plain]
          exact ⟨ok3, ws3, _, HS4.out, HR4.out.1, HR4.out.2, HF4.out.2, HF4.out.1, HL4.out.1, HL4.out.2⟩)
        go_wp2_with fail
        go_meet
        case rel => exact HS2.out
      | true =>
        have HC38 := Lib.hid (next38 HS4.out HGW.out HL4.out.1 HL4.out.2)
        clear HS4
        go_wp2_with fail
        refine Calls.mono HC38.out ?_
        rintro _ V10 ⟨x1, ok1, ws1, rfl, hxl, hst, hnx⟩
        have HN1 := Lib.hid hnx
        have HS10 := Lib.hid hst
        have HC39 := Lib.hid (number39 x1 hxl V10 hst.gw)
        clear hnx hst hxl HC38
        go_wp2_with fail
        refine Calls.mono HC39.out ?_
        rintro _ V11 ⟨nn, b, rfl, h1, h2, h3, hb⟩
        have HS11 := Lib.hid (HS10.out.below hb)
        have HQ := Lib.hid (And.intro h1 (And.intro h2 h3))
        have wn : IntKind.i64.wrap (nn : Int) = (nn : Int) := IntWalk.i64_in _ (by omega)
        clear h1 h2 h3 hb HS10 HC39
        have co := HS11.out.co
        have zo := HS11.out.zo
        have cf := HS11.out.cf.2.2.2
        have zf := HS11.out.zf 3
        have hne : ob ≠ fb := HS11.out.d.2.2.2.2.2
        have hne2 : ¬ ob = fb := hne
        have hne3 : ¬ fb = ob := fun q => hne q.symm
        have HS2 := Lib.hid (Stage.num3 (b := b) HR4.out.1 HR4.out.2 HF4.out.2 HL4.out HGW.out HS11.out HN1.out HQ.out.1 HQ.out.2.1 HQ.out.2.2)
        cases ok1 with
        | false =>
          go_wp2_with fail
          go_meet
          case rel => exact HS2.out
        | true =>
          go_wp2_with fail
          go_meet
          case rel => exact HS2.out
    case rest =>
    clear HS4 HR4 HL4 HF4
    obtain ⟨ok4, ws4, ⟨k4, id4, nm4, a4⟩, hst, hr1, hr2, _, _, _, hl2⟩ := hcut
    generalize r3O z (r2O y (r1O K ws)) = res at *
    have HS5 := Lib.hid hst
    have HR5 := Lib.hid (And.intro hr1 hr2)
    have HI25 : Hid ((Tryz.prog.info? 25).map (·.size) = some (#[.int .i64 0, .int .u32 0, .string ⟨#[]⟩, .int .i64 0] : Array Value).size) := Lib.hid info25
    have HON25 : Hid ((#[.int .i64 0, .int .u32 0, .string ⟨#[]⟩, .int .i64 0] : Array Value).all (·.oneCell') = true) := Lib.hid (by kernel_rfl)
    have HJ25 : Hid ((Tryz.prog.info? 25).map (·.size) = some (#[.int .i64 k4, .int .u32 (id4 : Nat), .string (str nm4), .int .i64 a4] : Array Value).size) := Lib.hid info25
    have HOJ25 : Hid ((#[.int .i64 k4, .int .u32 (id4 : Nat), .string (str nm4), .int .i64 a4] : Array Value).all (·.oneCell') = true) := Lib.hid (by simp [Value.oneCell'])
    have HBAD : Hid (∀ V, St w r0 wb fb ob ws4 ok4 ⟨k4, id4, nm4, a4⟩ V → endO res = none → (V.setRow r0 #[.int .i64 0, .int .u32 0, .string ⟨#[]⟩, .int .i64 0]).heap[r0]? = some (.cells (fdV zfd) 25 (0, 0)) ∧ ParsePost s w (.returned (.tuple #[.agg (fdV zfd), .int .i64 7])) (V.setRow r0 #[.int .i64 0, .int .u32 0, .string ⟨#[]⟩, .int .i64 0])) := Lib.hid (fun V hV he => by
      obtain ⟨q1, q2⟩ := hV.set_r #[.int .i64 0, .int .u32 0, .string ⟨#[]⟩, .int .i64 0]
      refine ⟨q1, ?_, q2⟩
      unfold parseF parseE
      rw [HPK.out, he]
      rfl)
    have HGOOD : Hid (∀ V, St w r0 wb fb ob ws4 ok4 ⟨k4, id4, nm4, a4⟩ V → endO res = some ⟨k4, id4, nm4, a4⟩ → (V.setRow r0 #[.int .i64 k4, .int .u32 (id4 : Nat), .string (str nm4), .int .i64 a4]).heap[r0]? = some (.cells (fdV ⟨k4, id4, nm4, a4⟩) 25 (0, 0)) ∧ ParsePost s w (.returned (.tuple #[.agg (fdV ⟨k4, id4, nm4, a4⟩), .int .i64 0])) (V.setRow r0 #[.int .i64 k4, .int .u32 (id4 : Nat), .string (str nm4), .int .i64 a4])) := Lib.hid (fun V hV he => by
      obtain ⟨q1, q2⟩ := hV.set_r #[.int .i64 k4, .int .u32 (id4 : Nat), .string (str nm4), .int .i64 a4]
      refine ⟨q1, ?_, q2⟩
      unfold parseF parseE
      rw [HPK.out, he]
      rfl)
    have co := hst.co
    obtain ⟨c0, c1, c2, c3⟩ := hst.cf
    simp only at c0 c1 c2 c3
    obtain ⟨v, hv, N', o', rfl, hN', hT', hc'⟩ := hst.hw
    have cw := cell_of_row wc wb 0 _ 66 (0, 0) hv
    have HR0 := Lib.hid hst.hr
    clear hst hr1 hr2 hv hN' hT' hc' HPK
    cases ok4 with
    | false =>
      have HB := Lib.hid (HBAD.out wc HS5.out (by rw [HR5.out.2 rfl]; rfl))
      go_wp2_with (first
        | ((with_reducible refine wpList_store_row (o := ⟨none, .store _ _ _, _, _, _, _⟩) rfl 25 (.tmp 2) (.tmp 96) rfl r0 #[.int .i64 0, .int .u32 0, .string ⟨#[]⟩, .int .i64 0] ?_ ?_ 25 _ HR0.out HI25.out rfl HON25.out ?_); rfl; rfl))
      exact bodyPost_ret (results13 _ _ r0 zfd 7 rfl rfl HB.out.1) rfl HB.out.2
    | true =>
      by_cases hw0 : ws4 = []
      · subst hw0
        have hz0 : ((([] : List (List UInt8)).length : Nat) : Int) = 0 := rfl
        simp only [List.length_nil] at cw
        have HMAY := Lib.hid (may29 k4 id4 nm4 a4 wc)
        unfold fdV at HMAY
        simp only at HMAY
        by_cases hm : mayP ⟨k4, id4, nm4, a4⟩
        · rw [decide_eq_true hm] at HMAY
          have HB := Lib.hid (fun V hV => HGOOD.out V hV (by rw [HR5.out.1 rfl]; exact if_pos ⟨rfl, hm⟩))
          clear hm
          go_wp2_with fail
          refine Calls.mono HMAY.out ?_
          rintro _ V12 ⟨rfl, hb⟩
          have HS12 := Lib.hid (HS5.out.below hb)
          have HB2 := Lib.hid (HB.out V12 HS12.out)
          obtain ⟨d0, d1, d2, d3⟩ := HS12.out.cf
          simp only at d0 d1 d2 d3
          have HR2 := Lib.hid HS12.out.hr
          clear hb c0 c1 c2 c3 co cw
          go_wp2_with (first
            | ((with_reducible refine wpList_store_row (o := ⟨none, .store _ _ _, _, _, _, _⟩) rfl 25 (.tmp 2) (.tmp 97) rfl r0 #[.int .i64 k4, .int .u32 (id4 : Nat), .string (str nm4), .int .i64 a4] ?_ ?_ 25 _ HR2.out HJ25.out rfl HOJ25.out ?_); rfl; rfl))
          exact bodyPost_ret (results13 _ _ r0 ⟨k4, id4, nm4, a4⟩ 0 rfl rfl HB2.out.1) rfl HB2.out.2
        · rw [decide_eq_false hm] at HMAY
          have HB := Lib.hid (fun V hV => HBAD.out V hV (by rw [HR5.out.1 rfl]; exact if_neg (fun q => hm q.2)))
          clear hm
          go_wp2_with fail
          refine Calls.mono HMAY.out ?_
          rintro _ V12 ⟨rfl, hb⟩
          have HS12 := Lib.hid (HS5.out.below hb)
          have HB2 := Lib.hid (HB.out V12 HS12.out)
          have HR2 := Lib.hid HS12.out.hr
          clear hb c0 c1 c2 c3 co cw
          go_wp2_with (first
            | ((with_reducible refine wpList_store_row (o := ⟨none, .store _ _ _, _, _, _, _⟩) rfl 25 (.tmp 2) (.tmp 96) rfl r0 #[.int .i64 0, .int .u32 0, .string ⟨#[]⟩, .int .i64 0] ?_ ?_ 25 _ HR2.out HI25.out rfl HON25.out ?_); rfl; rfl))
          exact bodyPost_ret (results13 _ _ r0 zfd 7 rfl rfl HB2.out.1) rfl HB2.out.2
      · have HB := Lib.hid (HBAD.out wc HS5.out (by rw [HR5.out.1 rfl]; exact if_neg (fun q => hw0 q.1)))
        have hw1 : (0 : Int) < (ws4.length : Int) := by have := List.length_pos_iff.2 hw0; omega
        have hw2 : 0 < ws4.length := List.length_pos_iff.2 hw0
        clear hw0
        generalize ws4.length = m4 at *
        go_wp2_with (first
          | ((with_reducible refine wpList_store_row (o := ⟨none, .store _ _ _, _, _, _, _⟩) rfl 25 (.tmp 2) (.tmp 96) rfl r0 #[.int .i64 0, .int .u32 0, .string ⟨#[]⟩, .int .i64 0] ?_ ?_ 25 _ HR0.out HI25.out rfl HON25.out ?_); rfl; rfl))
        exact bodyPost_ret (results13 _ _ r0 zfd 7 rfl rfl HB.out.1) rfl HB.out.2
end Go.Proofs.YtocfhldmnbmapaaGreatDoor
