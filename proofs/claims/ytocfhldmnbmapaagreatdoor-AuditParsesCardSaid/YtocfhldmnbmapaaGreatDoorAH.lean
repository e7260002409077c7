/- No superblock in bytes 0. -/
import Derived.Test.YtocfhldmnbmapaaGreatDoorAG
namespace Go.Proofs.YtocfhldmnbmapaaGreatDoor
open Go.RowKit
def supZ : Array Value := #[.int .u64 0, .int .i64 0, .int .i64 0, .int .i64 0, .int .i64 0, .slice none 0 0]
theorem info41 : (Tryz.prog.info? 41).map (·.size) = some (#[.int .u64 0, .int .i64 0, .int .i64 0, .int .i64 0, .int .i64 0, .slice none 0 0] : Array Value).size := by kernel_rfl
theorem sup_one : (#[.int .u64 0, .int .i64 0, .int .i64 0, .int .i64 0, .int .i64 0, .slice none 0 0] : Array Value).all (·.oneCell') = true := by kernel_rfl
def SupAt (b : Nat) (W : World) : Prop := W.heap[b]? = some (.cells #[.int .u64 0, .int .i64 0, .int .i64 0, .int .i64 0, .int .i64 0, .slice none 0 0] 41 (0, 0))
theorem SupAt.below {b : Nat} {W W' : World} (h : SupAt b W) (hb : Below W.heap.size W W') : SupAt b W' := (hb.block _ (lt_of_block h)).trans h
theorem SupAt.grown {b g : Nat} {W W' : World} (h : SupAt b W) (hg : W.grownBy W' (some g)) (hn : b ≠ g) : SupAt b W' := (hg.block _ (lt_of_block h) (fun e => by injection e with e; exact hn e)).trans h
theorem SupAt.new (W : World) : SupAt W.heap.size (W.alloc (.cells #[.int .u64 0, .int .i64 0, .int .i64 0, .int .i64 0, .int .i64 0, .slice none 0 0] 41)) := heap_alloc_new _ _
theorem SupAt.c {b : Nat} {W : World} (h : SupAt b W) : W.cell? ⟨b, 0, none⟩ = some (.int .u64 0) ∧ W.cell? ⟨b, 1, none⟩ = some (.int .i64 0) ∧ W.cell? ⟨b, 2, none⟩ = some (.int .i64 0) ∧ W.cell? ⟨b, 3, none⟩ = some (.int .i64 0) ∧ W.cell? ⟨b, 4, none⟩ = some (.int .i64 0) ∧ W.cell? ⟨b, 5, none⟩ = some (.slice none 0 0) :=
  ⟨cell_of_row W b 0 _ 41 (0, 0) h, cell_of_row W b 1 _ 41 (0, 0) h, cell_of_row W b 2 _ 41 (0, 0) h, cell_of_row W b 3 _ 41 (0, 0) h, cell_of_row W b 4 _ 41 (0, 0) h, cell_of_row W b 5 _ 41 (0, 0) h⟩
theorem loadVar41 {W : World} {b : Nat} (h : SupAt b W) : (loadVar 41 ⟨b, 0, none⟩).run Tryz.prog W = .ok (.agg #[.int .u64 0, .int .i64 0, .int .i64 0, .int .i64 0, .int .i64 0, .slice none 0 0]) W := by
  obtain ⟨c0, c1, c2, c3, c4, c5⟩ := h.c
  go_simp
theorem results_sup {fn : Func} {p u : Tmp} (hf : fn.results = #[.cell p 41, .tmp u]) (tmps : Array Value) (W : World) (b : Nat) (e : Int) (h0 : tmps.getD p undef = .pointer (some ⟨b, 0, none⟩)) (h3 : tmps.getD u undef = .int .i64 e) (hb : SupAt b W) : (results fn tmps).run Tryz.prog W = .ok (.tuple #[.agg #[.int .u64 0, .int .i64 0, .int .i64 0, .int .i64 0, .int .i64 0, .slice none 0 0], .int .i64 e]) W := by
  rw [results_cell_tmp hf, h0, h3]
  simp only [asAddr, Sem.run_pure, Result.andThen_ok, loadVar41 hb]
/-- what Get holds -/
structure GA (w0 : World) (r0 q rb n : Nat) (W : World) : Prop where
  rd : RdZ rb n W
  r : SupAt r0 W
  cq : W.cell? ⟨q, 0, none⟩ = some (.pointer (some ⟨rb, 0, none⟩))
  bl : Below w0.heap.size w0 W
  ge : w0.heap.size ≤ rb ∧ w0.heap.size ≤ r0
  ne : r0 ≠ rb ∧ q ≠ rb
  ql : q < W.heap.size
theorem GA.below {w0 : World} {r0 q rb n : Nat} {W W' : World} (h : GA w0 r0 q rb n W) (hb : Below W.heap.size W W') : GA w0 r0 q rb n W' := ⟨h.rd.below hb, h.r.below hb, (hb.cell (p := ⟨q, 0, none⟩) h.ql).trans h.cq, h.bl.trans (hb.mono h.bl.size), h.ge, h.ne, Nat.lt_of_lt_of_le h.ql hb.size⟩
theorem GA.step {w0 : World} {r0 q rb n m : Nat} {W W' : World} (h : GA w0 r0 q rb n W) (hr : RdZ rb m W') (hg : W.grownBy W' (some rb)) : GA w0 r0 q rb m W' := ⟨hr, h.r.grown hg h.ne.1, hg.cell h.cq (fun e => by injection e with e; exact h.ne.2 (by first | exact e | exact e.symm)), below_grown0 h.bl hg h.ge.1, h.ge, h.ne, Nat.lt_of_lt_of_le h.ql hg.size⟩
theorem GA.set {w0 : World} {r0 q rb n b : Nat} {W : World} (h : GA w0 r0 q rb n W) (hb : SupAt b W) (hn : b ≠ r0 ∧ b ≠ q ∧ b ≠ rb ∧ w0.heap.size ≤ b) : GA w0 r0 q rb n (W.setRow b #[.int .u64 0, .int .i64 0, .int .i64 0, .int .i64 0, .int .i64 0, .slice none 0 0]) ∧ SupAt b (W.setRow b #[.int .u64 0, .int .i64 0, .int .i64 0, .int .i64 0, .int .i64 0, .slice none 0 0]) := by
  have hg := setRow_grown W b #[.int .u64 0, .int .i64 0, .int .i64 0, .int .i64 0, .int .i64 0, .slice none 0 0]
  exact ⟨⟨(hg.block _ (lt_of_block h.rd) (fun e => by injection e with e; exact hn.2.2.1 (by first | exact e | exact e.symm))).trans h.rd, h.r.grown hg (fun e => hn.1 e.symm), hg.cell h.cq (fun e => by injection e with e; exact hn.2.1 (by first | exact e | exact e.symm)), below_grown0 h.bl hg hn.2.2.2, h.ge, h.ne, Nat.lt_of_lt_of_le h.ql hg.size⟩, setRow_heap _ _ _ _ _ _ hb⟩
def GetPost (w : World) (e : Ending) (w' : World) : Prop := e = .returned (.tuple #[.agg #[.int .u64 0, .int .i64 0, .int .i64 0, .int .i64 0, .int .i64 0, .slice none 0 0], .int .i64 110]) ∧ Below w.heap.size w w'
def MidR (w0 : World) (r0 q rb : Nat) (v : Value) (W : World) : Prop := ∃ b5, v = .pointer (some ⟨b5, 0, none⟩) ∧ SupAt b5 W ∧ GA w0 r0 q rb 96 W ∧ b5 ≠ rb
set_option maxRecDepth 100000 in
set_option maxHeartbeats 4000000 in
theorem get167 (w : World) : Calls Tryz.prog 167 #[.string (str (zs 128))] w (GetPost w) := by
  have hsz : (str (zs 128)).size = 128 := by rw [str_size, zs_len]
  have HPUT := Lib.hid put240
  obtain ⟨r0, hr0⟩ : ∃ r0, r0 = w.heap.size := ⟨_, rfl⟩
  have HR0 : Hid (SupAt r0 (w.alloc (.cells #[.int .u64 0, .int .i64 0, .int .i64 0, .int .i64 0, .int .i64 0, .slice none 0 0] 41))) := Lib.hid (by rw [hr0]; exact SupAt.new w)
  have HB0 : Hid (Below w.heap.size w (w.alloc (.cells #[.int .u64 0, .int .i64 0, .int .i64 0, .int .i64 0, .int .i64 0, .slice none 0 0] 41))) := Lib.hid ((Below.refl _ _).alloc (Nat.le_refl _) _)
  have HL0 : Hid (w.heap.size ≤ r0 ∧ r0 < (w.alloc (.cells #[.int .u64 0, .int .i64 0, .int .i64 0, .int .i64 0, .int .i64 0, .slice none 0 0] 41)).heap.size) := Lib.hid ⟨by omega, by rw [World.size_alloc]; omega⟩
  have HRD := Lib.hid (read235 (zs 128))
  have HI41 := Lib.hid info41
  have HO41 := Lib.hid sup_one
  generalize hZ : zs 128 = Z at *
  have HZ := Lib.hid hZ
  clear hZ
  go_enter Tryz.func167, Tryz.ntmps167
  go_upto_region 1 with fail
  rw [← hr0]
  clear hr0
  generalize w.alloc (.cells #[.int .u64 0, .int .i64 0, .int .i64 0, .int .i64 0, .int .i64 0, .slice none 0 0] 41) = V1 at *
  go_wp2_with fail
  refine Calls.mono (HRD.out V1) ?_
  rintro _ V2 ⟨rfl, hV2⟩
  obtain ⟨rb, hrb⟩ : ∃ rb, rb = V1.heap.size := ⟨_, rfl⟩
  rw [← hrb]
  have HRZ : Hid (RdZ rb 128 V2) := Lib.hid (by rw [hV2, hrb, ← HZ.out]; exact heap_alloc_new _ _)
  have HB2 : Hid (Below V1.heap.size V1 V2) := Lib.hid (by rw [hV2]; exact (Below.refl _ _).alloc (Nat.le_refl _) _)
  have HN1 : Hid (r0 < rb ∧ rb < V2.heap.size) := Lib.hid ⟨by rw [hrb]; exact HL0.out.2, lt_of_block HRZ.out⟩
  clear hV2 hrb
  go_upto_region 4 with fail
  obtain ⟨q, hq⟩ : ∃ q, q = V2.heap.size := ⟨_, rfl⟩
  rw [← hq]
  have HG3 : Hid (GA w r0 q rb 128 (V2.alloc (.cells #[.pointer (some ⟨rb, 0, none⟩)] 329))) := Lib.hid (by
    have hb : Below V2.heap.size V2 (V2.alloc (.cells #[.pointer (some ⟨rb, 0, none⟩)] 329)) := (Below.refl _ _).alloc (Nat.le_refl _) _
    have h1 := HL0.out
    have h2 := HN1.out
    refine ⟨HRZ.out.below hb, (HR0.out.below HB2.out).below hb, ?_, (HB0.out.trans (HB2.out.mono HB0.out.size)).trans (hb.mono (HB0.out.trans (HB2.out.mono HB0.out.size)).size), ⟨by omega, h1.1⟩, ⟨by omega, by omega⟩, by rw [World.size_alloc]; omega⟩
    rw [hq]
    exact cell_of_row _ _ 0 _ 329 (0, 0) (heap_alloc_new _ _))
  clear hq HRZ HR0 HB0 HB2 HL0 HN1
  generalize V2.alloc (.cells #[.pointer (some ⟨rb, 0, none⟩)] 329) = V3 at *
  have cq := HG3.out.cq
  have HT := Lib.hid (take236 (k := 8) HG3.out.rd (by decide) (by decide))
  go_wp2_with fail
  refine Calls.mono HT.out ?_
  rintro _ V4 ⟨rfl, h1, h2⟩
  have HG4 := Lib.hid (HG3.out.step h1 h2)
  clear h1 h2 HT HG3 cq
  go_upto_region 5 with fail
  go_cut [5] from 10 (fun s wx => MidR w r0 q rb s wx)
  case first =>
    have HGY : Hid (GA w r0 q rb 120 V4.drew) := Lib.hid (HG4.out.below (below_drew (Below.refl _ _)))
    refine wp_region_held_drew (S := fun W => W.cell? ⟨q, 0, none⟩ = some (.pointer (some ⟨rb, 0, none⟩))) (by kernel_rfl) ?_ (fun hSx => ?_)
    · exact HGY.out.cq
    refine wpAnyH_take (i := 0) (oi := ⟨some 20, _, _, _, _, none⟩) (v := ?_) rfl (by kernel_rfl) (by kernel_rfl) (by kernel_rfl) (fun _ _ _ h => h) (Or.inl ⟨by kernel_rfl, ?_⟩) hSx ?_
    rotate_left 1
    focus (intro wx hSw; have s0 := hSw; go_simp; first | done | with_reducible rfl)
    try simp only [Act.put, List.setIfInBounds_toArray, List.set_cons_zero, List.set_cons_succ]
    refine wpAnyH_take (i := 1) (oi := ⟨some 21, _, _, _, _, none⟩) (v := ?_) rfl (by kernel_rfl) (by kernel_rfl) (by kernel_rfl) (fun _ _ _ h => h) (Or.inl ⟨by kernel_rfl, ?_⟩) hSx ?_
    rotate_left 1
    focus (intro wx hSw; have s0 := hSw; go_simp; first | done | with_reducible rfl)
    try simp only [Act.put, List.setIfInBounds_toArray, List.set_cons_zero, List.set_cons_succ]
    refine wpAnyH_take (i := 3) (oi := ⟨some 23, _, _, _, _, none⟩) (v := ?_) rfl (by kernel_rfl) (by kernel_rfl) (by kernel_rfl) (fun _ _ _ h => h) (Or.inl ⟨by kernel_rfl, ?_⟩) hSx ?_
    rotate_left 1
    focus (intro wx hSw; have s0 := hSw; go_simp; first | done | with_reducible rfl)
    try simp only [Act.put, List.setIfInBounds_toArray, List.set_cons_zero, List.set_cons_succ]
    refine wpAnyH_take (i := 5) (oi := ⟨some 25, _, _, _, _, none⟩) (v := ?_) rfl (by kernel_rfl) (by kernel_rfl) (by kernel_rfl) (fun _ _ _ h => h) (Or.inl ⟨by kernel_rfl, ?_⟩) hSx ?_
    rotate_left 1
    focus (intro wx hSw; have s0 := hSw; go_simp; first | done | with_reducible rfl)
    try simp only [Act.put, List.setIfInBounds_toArray, List.set_cons_zero, List.set_cons_succ]
    refine wpAnyH_take (i := 7) (oi := ⟨some 27, _, _, _, _, none⟩) (v := ?_) rfl (by kernel_rfl) (by kernel_rfl) (by kernel_rfl) (fun _ _ _ h => h) (Or.inl ⟨by kernel_rfl, ?_⟩) hSx ?_
    rotate_left 1
    focus (intro wx hSw; have s0 := hSw; go_simp; first | done | with_reducible rfl)
    try simp only [Act.put, List.setIfInBounds_toArray, List.set_cons_zero, List.set_cons_succ]
    refine wpAnyH_take (i := 9) (oi := ⟨some 29, _, _, _, _, none⟩) (v := ?_) rfl (by kernel_rfl) (by kernel_rfl) (by kernel_rfl) (fun _ _ _ h => h) (Or.inl ⟨by kernel_rfl, ?_⟩) hSx ?_
    rotate_left 1
    focus (intro wx hSw; have s0 := hSw; go_simp; first | done | with_reducible rfl)
    try simp only [Act.put, List.setIfInBounds_toArray, List.set_cons_zero, List.set_cons_succ]
    refine wpAnyH_ready (rs := [2, 12]) (by kernel_rfl) (by simp) ?_
    refine AllReadyH.cons (o := ⟨some 22, _, _, _, _, none⟩) rfl (fun KK hKK => ?_) (AllReadyH.cons (o := ⟨some 5, _, _, _, _, none⟩) rfl (fun KK hKK => ?_) AllReadyH.nil)
    · go_simp
      have HK1 := Lib.hid (u64_237 HGY.out.rd (by decide) (by decide))
      with_reducible refine Calls.mono HK1.out ?_
      rintro e y1 ⟨rfl, h1, h2⟩
      have HGA1 := Lib.hid (HGY.out.step h1 h2)
      clear h1 h2 HK1
      refine hKK.out _ _ (HGA1.out.cq) (fun hSy => ?_)
      clear hKK hSx
      have hSx := hSy
      clear hSy KK
      try simp only [Act.put, List.setIfInBounds_toArray, List.set_cons_zero, List.set_cons_succ]
      refine wpAnyH_ready (rs := [4, 12]) (by kernel_rfl) (by simp) ?_
      refine AllReadyH.cons (o := ⟨some 24, _, _, _, _, none⟩) rfl (fun KK hKK => ?_) (AllReadyH.cons (o := ⟨some 5, _, _, _, _, none⟩) rfl (fun KK hKK => ?_) AllReadyH.nil)
      · go_simp
        have HK2 := Lib.hid (word238 HGA1.out.rd (by decide) (by decide))
        with_reducible refine Calls.mono HK2.out ?_
        rintro e y2 ⟨rfl, h1, h2⟩
        have HGA2 := Lib.hid (HGA1.out.step h1 h2)
        clear h1 h2 HK2
        refine hKK.out _ _ (HGA2.out.cq) (fun hSy => ?_)
        clear hKK hSx
        have hSx := hSy
        clear hSy KK
        try simp only [Act.put, List.setIfInBounds_toArray, List.set_cons_zero, List.set_cons_succ]
        refine wpAnyH_ready (rs := [6, 12]) (by kernel_rfl) (by simp) ?_
        refine AllReadyH.cons (o := ⟨some 26, _, _, _, _, none⟩) rfl (fun KK hKK => ?_) (AllReadyH.cons (o := ⟨some 5, _, _, _, _, none⟩) rfl (fun KK hKK => ?_) AllReadyH.nil)
        · go_simp
          have HK3 := Lib.hid (word238 HGA2.out.rd (by decide) (by decide))
          with_reducible refine Calls.mono HK3.out ?_
          rintro e y3 ⟨rfl, h1, h2⟩
          have HGA3 := Lib.hid (HGA2.out.step h1 h2)
          clear h1 h2 HK3
          refine hKK.out _ _ (HGA3.out.cq) (fun hSy => ?_)
          clear hKK hSx
          have hSx := hSy
          clear hSy KK
          try simp only [Act.put, List.setIfInBounds_toArray, List.set_cons_zero, List.set_cons_succ]
          refine wpAnyH_ready (rs := [8, 12]) (by kernel_rfl) (by simp) ?_
          refine AllReadyH.cons (o := ⟨some 28, _, _, _, _, none⟩) rfl (fun KK hKK => ?_) (AllReadyH.cons (o := ⟨some 5, _, _, _, _, none⟩) rfl (fun KK hKK => ?_) AllReadyH.nil)
          · go_simp
            have HK4 := Lib.hid (word238 HGA3.out.rd (by decide) (by decide))
            with_reducible refine Calls.mono HK4.out ?_
            rintro e y4 ⟨rfl, h1, h2⟩
            have HGA4 := Lib.hid (HGA3.out.step h1 h2)
            clear h1 h2 HK4
            refine hKK.out _ _ (HGA4.out.cq) (fun hSy => ?_)
            clear hKK hSx
            have hSx := hSy
            clear hSy KK
            try simp only [Act.put, List.setIfInBounds_toArray, List.set_cons_zero, List.set_cons_succ]
            refine wpAnyH_ready (rs := [10, 12]) (by kernel_rfl) (by simp) ?_
            refine AllReadyH.cons (o := ⟨some 30, _, _, _, _, none⟩) rfl (fun KK hKK => ?_) (AllReadyH.cons (o := ⟨some 5, _, _, _, _, none⟩) rfl (fun KK hKK => ?_) AllReadyH.nil)
            · go_simp
              have HK5 := Lib.hid (word238 HGA4.out.rd (by decide) (by decide))
              with_reducible refine Calls.mono HK5.out ?_
              rintro e y5 ⟨rfl, h1, h2⟩
              have HGA5 := Lib.hid (HGA4.out.step h1 h2)
              clear h1 h2 HK5
              refine hKK.out _ _ (HGA5.out.cq) (fun hSy => ?_)
              clear hKK hSx
              have hSx := hSy
              clear hSy KK
              try simp only [Act.put, List.setIfInBounds_toArray, List.set_cons_zero, List.set_cons_succ]
              refine wpAnyH_take (i := 11) (oi := ⟨some 31, _, _, _, _, none⟩) (v := ?_) rfl (by kernel_rfl) (by kernel_rfl) (by kernel_rfl) (fun _ _ _ h => h) (Or.inl ⟨by kernel_rfl, ?_⟩) hSx ?_
              rotate_left 1
              focus (intro wx hSw; have s0 := hSw; go_simp; first | done | with_reducible rfl)
              try simp only [Act.put, List.setIfInBounds_toArray, List.set_cons_zero, List.set_cons_succ]
              refine wpAnyH_ready (rs := [12]) (by kernel_rfl) (by simp) ?_
              refine AllReadyH.cons (o := ⟨some 5, _, _, _, _, none⟩) rfl (fun KK hKK => ?_) AllReadyH.nil
              go_simp
              obtain ⟨b5, hb5⟩ : ∃ b5, b5 = (y5).heap.size := ⟨_, rfl⟩
              have HGA6 : Hid (GA w r0 q rb 96 ((y5).alloc (.cells #[.int .u64 0, .int .i64 0, .int .i64 0, .int .i64 0, .int .i64 0, .slice none 0 0] 41))) := Lib.hid (HGA5.out.below ((Below.refl (y5).heap.size (y5)).alloc (Nat.le_refl _) (.cells #[.int .u64 0, .int .i64 0, .int .i64 0, .int .i64 0, .int .i64 0, .slice none 0 0] 41)))
              have HSA6 : Hid (SupAt b5 ((y5).alloc (.cells #[.int .u64 0, .int .i64 0, .int .i64 0, .int .i64 0, .int .i64 0, .slice none 0 0] 41))) := Lib.hid (by rw [hb5]; exact SupAt.new (y5))
              have HB5N : Hid (b5 ≠ r0 ∧ b5 ≠ q ∧ b5 ≠ rb ∧ w.heap.size ≤ b5) := Lib.hid (by rw [hb5]; have h1 : r0 < (y5).heap.size := lt_of_block HGA5.out.r; have h2 : q < (y5).heap.size := HGA5.out.ql; have h3 : rb < (y5).heap.size := lt_of_block HGA5.out.rd; have h4 : w.heap.size ≤ (y5).heap.size := HGA5.out.bl.size; exact ⟨by omega, by omega, by omega, by omega⟩)
              try rw [← hb5]
              clear hb5
              refine hKK.out _ _ (HGA6.out.cq) (fun hSy => ?_)
              clear hKK hSx
              have hSx := hSy
              clear hSy KK
              try simp only [Act.put, List.setIfInBounds_toArray, List.set_cons_zero, List.set_cons_succ]
              refine wpAnyH_ready (rs := [13]) (by kernel_rfl) (by simp) ?_
              refine AllReadyH.cons (o := ⟨none, _, _, _, _, none⟩) rfl (fun KK hKK => ?_) AllReadyH.nil
              have HSR := Lib.hid HSA6.out
              unfold SupAt at HSR
              have HFS := Lib.hid (HGA6.out.set HSA6.out HB5N.out)
              refine wp_store_row 41 (.tmp 5) (.tmp 31) rfl b5 #[.int .u64 0, .int .i64 0, .int .i64 0, .int .i64 0, .int .i64 0, .slice none 0 0] rfl rfl 41 _ HSR.out HI41.out rfl HO41.out ?_
              refine hKK.out _ _ (HFS.out.1.cq) (fun hSy => ?_)
              clear hKK hSx
              have hSx := hSy
              clear hSy KK
              try simp only [Act.put]
              refine wpAnyH_done (by kernel_rfl) ?_ _
              clear hSx
              go_wp2_with fail
              go_meet
              case rel => exact ⟨b5, rfl, HFS.out.2, HFS.out.1, HB5N.out.2.2.1⟩
            · go_simp
              obtain ⟨b5, hb5⟩ : ∃ b5, b5 = (y4).heap.size := ⟨_, rfl⟩
              have HGA7 : Hid (GA w r0 q rb 100 ((y4).alloc (.cells #[.int .u64 0, .int .i64 0, .int .i64 0, .int .i64 0, .int .i64 0, .slice none 0 0] 41))) := Lib.hid (HGA4.out.below ((Below.refl (y4).heap.size (y4)).alloc (Nat.le_refl _) (.cells #[.int .u64 0, .int .i64 0, .int .i64 0, .int .i64 0, .int .i64 0, .slice none 0 0] 41)))
              have HSA7 : Hid (SupAt b5 ((y4).alloc (.cells #[.int .u64 0, .int .i64 0, .int .i64 0, .int .i64 0, .int .i64 0, .slice none 0 0] 41))) := Lib.hid (by rw [hb5]; exact SupAt.new (y4))
              have HB5N : Hid (b5 ≠ r0 ∧ b5 ≠ q ∧ b5 ≠ rb ∧ w.heap.size ≤ b5) := Lib.hid (by rw [hb5]; have h1 : r0 < (y4).heap.size := lt_of_block HGA4.out.r; have h2 : q < (y4).heap.size := HGA4.out.ql; have h3 : rb < (y4).heap.size := lt_of_block HGA4.out.rd; have h4 : w.heap.size ≤ (y4).heap.size := HGA4.out.bl.size; exact ⟨by omega, by omega, by omega, by omega⟩)
              try rw [← hb5]
              clear hb5
              refine hKK.out _ _ (HGA7.out.cq) (fun hSy => ?_)
              clear hKK hSx
              have hSx := hSy
              clear hSy KK
              try simp only [Act.put, List.setIfInBounds_toArray, List.set_cons_zero, List.set_cons_succ]
              refine wpAnyH_ready (rs := [10]) (by kernel_rfl) (by simp) ?_
              refine AllReadyH.cons (o := ⟨some 30, _, _, _, _, none⟩) rfl (fun KK hKK => ?_) AllReadyH.nil
              go_simp
              have HK8 := Lib.hid (word238 HGA7.out.rd (by decide) (by decide))
              with_reducible refine Calls.mono HK8.out ?_
              rintro e y8 ⟨rfl, h1, h2⟩
              have HGA8 := Lib.hid (HGA7.out.step h1 h2)
              have HSA8 := Lib.hid (HSA7.out.grown h2 HB5N.out.2.2.1)
              clear h1 h2 HK8
              refine hKK.out _ _ (HGA8.out.cq) (fun hSy => ?_)
              clear hKK hSx
              have hSx := hSy
              clear hSy KK
              try simp only [Act.put, List.setIfInBounds_toArray, List.set_cons_zero, List.set_cons_succ]
              refine wpAnyH_take (i := 11) (oi := ⟨some 31, _, _, _, _, none⟩) (v := ?_) rfl (by kernel_rfl) (by kernel_rfl) (by kernel_rfl) (fun _ _ _ h => h) (Or.inl ⟨by kernel_rfl, ?_⟩) hSx ?_
              rotate_left 1
              focus (intro wx hSw; have s0 := hSw; go_simp; first | done | with_reducible rfl)
              try simp only [Act.put, List.setIfInBounds_toArray, List.set_cons_zero, List.set_cons_succ]
              refine wpAnyH_ready (rs := [13]) (by kernel_rfl) (by simp) ?_
              refine AllReadyH.cons (o := ⟨none, _, _, _, _, none⟩) rfl (fun KK hKK => ?_) AllReadyH.nil
              have HSR := Lib.hid HSA8.out
              unfold SupAt at HSR
              have HFS := Lib.hid (HGA8.out.set HSA8.out HB5N.out)
              refine wp_store_row 41 (.tmp 5) (.tmp 31) rfl b5 #[.int .u64 0, .int .i64 0, .int .i64 0, .int .i64 0, .int .i64 0, .slice none 0 0] rfl rfl 41 _ HSR.out HI41.out rfl HO41.out ?_
              refine hKK.out _ _ (HFS.out.1.cq) (fun hSy => ?_)
              clear hKK hSx
              have hSx := hSy
              clear hSy KK
              try simp only [Act.put]
              refine wpAnyH_done (by kernel_rfl) ?_ _
              clear hSx
              go_wp2_with fail
              go_meet
              case rel => exact ⟨b5, rfl, HFS.out.2, HFS.out.1, HB5N.out.2.2.1⟩
          · go_simp
            obtain ⟨b5, hb5⟩ : ∃ b5, b5 = (y3).heap.size := ⟨_, rfl⟩
            have HGA9 : Hid (GA w r0 q rb 104 ((y3).alloc (.cells #[.int .u64 0, .int .i64 0, .int .i64 0, .int .i64 0, .int .i64 0, .slice none 0 0] 41))) := Lib.hid (HGA3.out.below ((Below.refl (y3).heap.size (y3)).alloc (Nat.le_refl _) (.cells #[.int .u64 0, .int .i64 0, .int .i64 0, .int .i64 0, .int .i64 0, .slice none 0 0] 41)))
            have HSA9 : Hid (SupAt b5 ((y3).alloc (.cells #[.int .u64 0, .int .i64 0, .int .i64 0, .int .i64 0, .int .i64 0, .slice none 0 0] 41))) := Lib.hid (by rw [hb5]; exact SupAt.new (y3))
            have HB5N : Hid (b5 ≠ r0 ∧ b5 ≠ q ∧ b5 ≠ rb ∧ w.heap.size ≤ b5) := Lib.hid (by rw [hb5]; have h1 : r0 < (y3).heap.size := lt_of_block HGA3.out.r; have h2 : q < (y3).heap.size := HGA3.out.ql; have h3 : rb < (y3).heap.size := lt_of_block HGA3.out.rd; have h4 : w.heap.size ≤ (y3).heap.size := HGA3.out.bl.size; exact ⟨by omega, by omega, by omega, by omega⟩)
            try rw [← hb5]
            clear hb5
            refine hKK.out _ _ (HGA9.out.cq) (fun hSy => ?_)
            clear hKK hSx
            have hSx := hSy
            clear hSy KK
            try simp only [Act.put, List.setIfInBounds_toArray, List.set_cons_zero, List.set_cons_succ]
            refine wpAnyH_ready (rs := [8]) (by kernel_rfl) (by simp) ?_
            refine AllReadyH.cons (o := ⟨some 28, _, _, _, _, none⟩) rfl (fun KK hKK => ?_) AllReadyH.nil
            go_simp
            have HK10 := Lib.hid (word238 HGA9.out.rd (by decide) (by decide))
            with_reducible refine Calls.mono HK10.out ?_
            rintro e y10 ⟨rfl, h1, h2⟩
            have HGA10 := Lib.hid (HGA9.out.step h1 h2)
            have HSA10 := Lib.hid (HSA9.out.grown h2 HB5N.out.2.2.1)
            clear h1 h2 HK10
            refine hKK.out _ _ (HGA10.out.cq) (fun hSy => ?_)
            clear hKK hSx
            have hSx := hSy
            clear hSy KK
            try simp only [Act.put, List.setIfInBounds_toArray, List.set_cons_zero, List.set_cons_succ]
            refine wpAnyH_ready (rs := [10]) (by kernel_rfl) (by simp) ?_
            refine AllReadyH.cons (o := ⟨some 30, _, _, _, _, none⟩) rfl (fun KK hKK => ?_) AllReadyH.nil
            go_simp
            have HK11 := Lib.hid (word238 HGA10.out.rd (by decide) (by decide))
            with_reducible refine Calls.mono HK11.out ?_
            rintro e y11 ⟨rfl, h1, h2⟩
            have HGA11 := Lib.hid (HGA10.out.step h1 h2)
            have HSA11 := Lib.hid (HSA10.out.grown h2 HB5N.out.2.2.1)
            clear h1 h2 HK11
            refine hKK.out _ _ (HGA11.out.cq) (fun hSy => ?_)
            clear hKK hSx
            have hSx := hSy
            clear hSy KK
            try simp only [Act.put, List.setIfInBounds_toArray, List.set_cons_zero, List.set_cons_succ]
            refine wpAnyH_take (i := 11) (oi := ⟨some 31, _, _, _, _, none⟩) (v := ?_) rfl (by kernel_rfl) (by kernel_rfl) (by kernel_rfl) (fun _ _ _ h => h) (Or.inl ⟨by kernel_rfl, ?_⟩) hSx ?_
            rotate_left 1
            focus (intro wx hSw; have s0 := hSw; go_simp; first | done | with_reducible rfl)
            try simp only [Act.put, List.setIfInBounds_toArray, List.set_cons_zero, List.set_cons_succ]
            refine wpAnyH_ready (rs := [13]) (by kernel_rfl) (by simp) ?_
            refine AllReadyH.cons (o := ⟨none, _, _, _, _, none⟩) rfl (fun KK hKK => ?_) AllReadyH.nil
            have HSR := Lib.hid HSA11.out
            unfold SupAt at HSR
            have HFS := Lib.hid (HGA11.out.set HSA11.out HB5N.out)
            refine wp_store_row 41 (.tmp 5) (.tmp 31) rfl b5 #[.int .u64 0, .int .i64 0, .int .i64 0, .int .i64 0, .int .i64 0, .slice none 0 0] rfl rfl 41 _ HSR.out HI41.out rfl HO41.out ?_
            refine hKK.out _ _ (HFS.out.1.cq) (fun hSy => ?_)
            clear hKK hSx
            have hSx := hSy
            clear hSy KK
            try simp only [Act.put]
            refine wpAnyH_done (by kernel_rfl) ?_ _
            clear hSx
            go_wp2_with fail
            go_meet
            case rel => exact ⟨b5, rfl, HFS.out.2, HFS.out.1, HB5N.out.2.2.1⟩
        · go_simp
          obtain ⟨b5, hb5⟩ : ∃ b5, b5 = (y2).heap.size := ⟨_, rfl⟩
          have HGA12 : Hid (GA w r0 q rb 108 ((y2).alloc (.cells #[.int .u64 0, .int .i64 0, .int .i64 0, .int .i64 0, .int .i64 0, .slice none 0 0] 41))) := Lib.hid (HGA2.out.below ((Below.refl (y2).heap.size (y2)).alloc (Nat.le_refl _) (.cells #[.int .u64 0, .int .i64 0, .int .i64 0, .int .i64 0, .int .i64 0, .slice none 0 0] 41)))
          have HSA12 : Hid (SupAt b5 ((y2).alloc (.cells #[.int .u64 0, .int .i64 0, .int .i64 0, .int .i64 0, .int .i64 0, .slice none 0 0] 41))) := Lib.hid (by rw [hb5]; exact SupAt.new (y2))
          have HB5N : Hid (b5 ≠ r0 ∧ b5 ≠ q ∧ b5 ≠ rb ∧ w.heap.size ≤ b5) := Lib.hid (by rw [hb5]; have h1 : r0 < (y2).heap.size := lt_of_block HGA2.out.r; have h2 : q < (y2).heap.size := HGA2.out.ql; have h3 : rb < (y2).heap.size := lt_of_block HGA2.out.rd; have h4 : w.heap.size ≤ (y2).heap.size := HGA2.out.bl.size; exact ⟨by omega, by omega, by omega, by omega⟩)
          try rw [← hb5]
          clear hb5
          refine hKK.out _ _ (HGA12.out.cq) (fun hSy => ?_)
          clear hKK hSx
          have hSx := hSy
          clear hSy KK
          try simp only [Act.put, List.setIfInBounds_toArray, List.set_cons_zero, List.set_cons_succ]
          refine wpAnyH_ready (rs := [6]) (by kernel_rfl) (by simp) ?_
          refine AllReadyH.cons (o := ⟨some 26, _, _, _, _, none⟩) rfl (fun KK hKK => ?_) AllReadyH.nil
          go_simp
          have HK13 := Lib.hid (word238 HGA12.out.rd (by decide) (by decide))
          with_reducible refine Calls.mono HK13.out ?_
          rintro e y13 ⟨rfl, h1, h2⟩
          have HGA13 := Lib.hid (HGA12.out.step h1 h2)
          have HSA13 := Lib.hid (HSA12.out.grown h2 HB5N.out.2.2.1)
          clear h1 h2 HK13
          refine hKK.out _ _ (HGA13.out.cq) (fun hSy => ?_)
          clear hKK hSx
          have hSx := hSy
          clear hSy KK
          try simp only [Act.put, List.setIfInBounds_toArray, List.set_cons_zero, List.set_cons_succ]
          refine wpAnyH_ready (rs := [8]) (by kernel_rfl) (by simp) ?_
          refine AllReadyH.cons (o := ⟨some 28, _, _, _, _, none⟩) rfl (fun KK hKK => ?_) AllReadyH.nil
          go_simp
          have HK14 := Lib.hid (word238 HGA13.out.rd (by decide) (by decide))
          with_reducible refine Calls.mono HK14.out ?_
          rintro e y14 ⟨rfl, h1, h2⟩
          have HGA14 := Lib.hid (HGA13.out.step h1 h2)
          have HSA14 := Lib.hid (HSA13.out.grown h2 HB5N.out.2.2.1)
          clear h1 h2 HK14
          refine hKK.out _ _ (HGA14.out.cq) (fun hSy => ?_)
          clear hKK hSx
          have hSx := hSy
          clear hSy KK
          try simp only [Act.put, List.setIfInBounds_toArray, List.set_cons_zero, List.set_cons_succ]
          refine wpAnyH_ready (rs := [10]) (by kernel_rfl) (by simp) ?_
          refine AllReadyH.cons (o := ⟨some 30, _, _, _, _, none⟩) rfl (fun KK hKK => ?_) AllReadyH.nil
          go_simp
          have HK15 := Lib.hid (word238 HGA14.out.rd (by decide) (by decide))
          with_reducible refine Calls.mono HK15.out ?_
          rintro e y15 ⟨rfl, h1, h2⟩
          have HGA15 := Lib.hid (HGA14.out.step h1 h2)
          have HSA15 := Lib.hid (HSA14.out.grown h2 HB5N.out.2.2.1)
          clear h1 h2 HK15
          refine hKK.out _ _ (HGA15.out.cq) (fun hSy => ?_)
          clear hKK hSx
          have hSx := hSy
          clear hSy KK
          try simp only [Act.put, List.setIfInBounds_toArray, List.set_cons_zero, List.set_cons_succ]
          refine wpAnyH_take (i := 11) (oi := ⟨some 31, _, _, _, _, none⟩) (v := ?_) rfl (by kernel_rfl) (by kernel_rfl) (by kernel_rfl) (fun _ _ _ h => h) (Or.inl ⟨by kernel_rfl, ?_⟩) hSx ?_
          rotate_left 1
          focus (intro wx hSw; have s0 := hSw; go_simp; first | done | with_reducible rfl)
          try simp only [Act.put, List.setIfInBounds_toArray, List.set_cons_zero, List.set_cons_succ]
          refine wpAnyH_ready (rs := [13]) (by kernel_rfl) (by simp) ?_
          refine AllReadyH.cons (o := ⟨none, _, _, _, _, none⟩) rfl (fun KK hKK => ?_) AllReadyH.nil
          have HSR := Lib.hid HSA15.out
          unfold SupAt at HSR
          have HFS := Lib.hid (HGA15.out.set HSA15.out HB5N.out)
          refine wp_store_row 41 (.tmp 5) (.tmp 31) rfl b5 #[.int .u64 0, .int .i64 0, .int .i64 0, .int .i64 0, .int .i64 0, .slice none 0 0] rfl rfl 41 _ HSR.out HI41.out rfl HO41.out ?_
          refine hKK.out _ _ (HFS.out.1.cq) (fun hSy => ?_)
          clear hKK hSx
          have hSx := hSy
          clear hSy KK
          try simp only [Act.put]
          refine wpAnyH_done (by kernel_rfl) ?_ _
          clear hSx
          go_wp2_with fail
          go_meet
          case rel => exact ⟨b5, rfl, HFS.out.2, HFS.out.1, HB5N.out.2.2.1⟩
      · go_simp
        obtain ⟨b5, hb5⟩ : ∃ b5, b5 = (y1).heap.size := ⟨_, rfl⟩
        have HGA16 : Hid (GA w r0 q rb 112 ((y1).alloc (.cells #[.int .u64 0, .int .i64 0, .int .i64 0, .int .i64 0, .int .i64 0, .slice none 0 0] 41))) := Lib.hid (HGA1.out.below ((Below.refl (y1).heap.size (y1)).alloc (Nat.le_refl _) (.cells #[.int .u64 0, .int .i64 0, .int .i64 0, .int .i64 0, .int .i64 0, .slice none 0 0] 41)))
        have HSA16 : Hid (SupAt b5 ((y1).alloc (.cells #[.int .u64 0, .int .i64 0, .int .i64 0, .int .i64 0, .int .i64 0, .slice none 0 0] 41))) := Lib.hid (by rw [hb5]; exact SupAt.new (y1))
        have HB5N : Hid (b5 ≠ r0 ∧ b5 ≠ q ∧ b5 ≠ rb ∧ w.heap.size ≤ b5) := Lib.hid (by rw [hb5]; have h1 : r0 < (y1).heap.size := lt_of_block HGA1.out.r; have h2 : q < (y1).heap.size := HGA1.out.ql; have h3 : rb < (y1).heap.size := lt_of_block HGA1.out.rd; have h4 : w.heap.size ≤ (y1).heap.size := HGA1.out.bl.size; exact ⟨by omega, by omega, by omega, by omega⟩)
        try rw [← hb5]
        clear hb5
        refine hKK.out _ _ (HGA16.out.cq) (fun hSy => ?_)
        clear hKK hSx
        have hSx := hSy
        clear hSy KK
        try simp only [Act.put, List.setIfInBounds_toArray, List.set_cons_zero, List.set_cons_succ]
        refine wpAnyH_ready (rs := [4]) (by kernel_rfl) (by simp) ?_
        refine AllReadyH.cons (o := ⟨some 24, _, _, _, _, none⟩) rfl (fun KK hKK => ?_) AllReadyH.nil
        go_simp
        have HK17 := Lib.hid (word238 HGA16.out.rd (by decide) (by decide))
        with_reducible refine Calls.mono HK17.out ?_
        rintro e y17 ⟨rfl, h1, h2⟩
        have HGA17 := Lib.hid (HGA16.out.step h1 h2)
        have HSA17 := Lib.hid (HSA16.out.grown h2 HB5N.out.2.2.1)
        clear h1 h2 HK17
        refine hKK.out _ _ (HGA17.out.cq) (fun hSy => ?_)
        clear hKK hSx
        have hSx := hSy
        clear hSy KK
        try simp only [Act.put, List.setIfInBounds_toArray, List.set_cons_zero, List.set_cons_succ]
        refine wpAnyH_ready (rs := [6]) (by kernel_rfl) (by simp) ?_
        refine AllReadyH.cons (o := ⟨some 26, _, _, _, _, none⟩) rfl (fun KK hKK => ?_) AllReadyH.nil
        go_simp
        have HK18 := Lib.hid (word238 HGA17.out.rd (by decide) (by decide))
        with_reducible refine Calls.mono HK18.out ?_
        rintro e y18 ⟨rfl, h1, h2⟩
        have HGA18 := Lib.hid (HGA17.out.step h1 h2)
        have HSA18 := Lib.hid (HSA17.out.grown h2 HB5N.out.2.2.1)
        clear h1 h2 HK18
        refine hKK.out _ _ (HGA18.out.cq) (fun hSy => ?_)
        clear hKK hSx
        have hSx := hSy
        clear hSy KK
        try simp only [Act.put, List.setIfInBounds_toArray, List.set_cons_zero, List.set_cons_succ]
        refine wpAnyH_ready (rs := [8]) (by kernel_rfl) (by simp) ?_
        refine AllReadyH.cons (o := ⟨some 28, _, _, _, _, none⟩) rfl (fun KK hKK => ?_) AllReadyH.nil
        go_simp
        have HK19 := Lib.hid (word238 HGA18.out.rd (by decide) (by decide))
        with_reducible refine Calls.mono HK19.out ?_
        rintro e y19 ⟨rfl, h1, h2⟩
        have HGA19 := Lib.hid (HGA18.out.step h1 h2)
        have HSA19 := Lib.hid (HSA18.out.grown h2 HB5N.out.2.2.1)
        clear h1 h2 HK19
        refine hKK.out _ _ (HGA19.out.cq) (fun hSy => ?_)
        clear hKK hSx
        have hSx := hSy
        clear hSy KK
        try simp only [Act.put, List.setIfInBounds_toArray, List.set_cons_zero, List.set_cons_succ]
        refine wpAnyH_ready (rs := [10]) (by kernel_rfl) (by simp) ?_
        refine AllReadyH.cons (o := ⟨some 30, _, _, _, _, none⟩) rfl (fun KK hKK => ?_) AllReadyH.nil
        go_simp
        have HK20 := Lib.hid (word238 HGA19.out.rd (by decide) (by decide))
        with_reducible refine Calls.mono HK20.out ?_
        rintro e y20 ⟨rfl, h1, h2⟩
        have HGA20 := Lib.hid (HGA19.out.step h1 h2)
        have HSA20 := Lib.hid (HSA19.out.grown h2 HB5N.out.2.2.1)
        clear h1 h2 HK20
        refine hKK.out _ _ (HGA20.out.cq) (fun hSy => ?_)
        clear hKK hSx
        have hSx := hSy
        clear hSy KK
        try simp only [Act.put, List.setIfInBounds_toArray, List.set_cons_zero, List.set_cons_succ]
        refine wpAnyH_take (i := 11) (oi := ⟨some 31, _, _, _, _, none⟩) (v := ?_) rfl (by kernel_rfl) (by kernel_rfl) (by kernel_rfl) (fun _ _ _ h => h) (Or.inl ⟨by kernel_rfl, ?_⟩) hSx ?_
        rotate_left 1
        focus (intro wx hSw; have s0 := hSw; go_simp; first | done | with_reducible rfl)
        try simp only [Act.put, List.setIfInBounds_toArray, List.set_cons_zero, List.set_cons_succ]
        refine wpAnyH_ready (rs := [13]) (by kernel_rfl) (by simp) ?_
        refine AllReadyH.cons (o := ⟨none, _, _, _, _, none⟩) rfl (fun KK hKK => ?_) AllReadyH.nil
        have HSR := Lib.hid HSA20.out
        unfold SupAt at HSR
        have HFS := Lib.hid (HGA20.out.set HSA20.out HB5N.out)
        refine wp_store_row 41 (.tmp 5) (.tmp 31) rfl b5 #[.int .u64 0, .int .i64 0, .int .i64 0, .int .i64 0, .int .i64 0, .slice none 0 0] rfl rfl 41 _ HSR.out HI41.out rfl HO41.out ?_
        refine hKK.out _ _ (HFS.out.1.cq) (fun hSy => ?_)
        clear hKK hSx
        have hSx := hSy
        clear hSy KK
        try simp only [Act.put]
        refine wpAnyH_done (by kernel_rfl) ?_ _
        clear hSx
        go_wp2_with fail
        go_meet
        case rel => exact ⟨b5, rfl, HFS.out.2, HFS.out.1, HB5N.out.2.2.1⟩
    · go_simp
      obtain ⟨b5, hb5⟩ : ∃ b5, b5 = (V4).heap.size := ⟨_, rfl⟩
      have HGA21 : Hid (GA w r0 q rb 120 ((V4.alloc (.cells #[.int .u64 0, .int .i64 0, .int .i64 0, .int .i64 0, .int .i64 0, .slice none 0 0] 41)).drew)) := Lib.hid (HGY.out.below ((Below.refl (V4.drew).heap.size (V4.drew)).alloc (Nat.le_refl _) (.cells #[.int .u64 0, .int .i64 0, .int .i64 0, .int .i64 0, .int .i64 0, .slice none 0 0] 41)))
      have HSA21 : Hid (SupAt b5 ((V4.alloc (.cells #[.int .u64 0, .int .i64 0, .int .i64 0, .int .i64 0, .int .i64 0, .slice none 0 0] 41)).drew)) := Lib.hid (by rw [hb5]; exact SupAt.new (V4.drew))
      have HB5N : Hid (b5 ≠ r0 ∧ b5 ≠ q ∧ b5 ≠ rb ∧ w.heap.size ≤ b5) := Lib.hid (by rw [hb5]; have h1 : r0 < (V4).heap.size := lt_of_block HGY.out.r; have h2 : q < (V4).heap.size := HGY.out.ql; have h3 : rb < (V4).heap.size := lt_of_block HGY.out.rd; have h4 : w.heap.size ≤ (V4).heap.size := HGY.out.bl.size; exact ⟨by omega, by omega, by omega, by omega⟩)
      try rw [← hb5]
      clear hb5
      refine hKK.out _ _ (HGA21.out.cq) (fun hSy => ?_)
      clear hKK hSx
      have hSx := hSy
      clear hSy KK
      try simp only [Act.put, List.setIfInBounds_toArray, List.set_cons_zero, List.set_cons_succ]
      refine wpAnyH_ready (rs := [2]) (by kernel_rfl) (by simp) ?_
      refine AllReadyH.cons (o := ⟨some 22, _, _, _, _, none⟩) rfl (fun KK hKK => ?_) AllReadyH.nil
      go_simp
      have HK22 := Lib.hid (u64_237 HGA21.out.rd (by decide) (by decide))
      with_reducible refine Calls.mono HK22.out ?_
      rintro e y22 ⟨rfl, h1, h2⟩
      have HGA22 := Lib.hid (HGA21.out.step h1 h2)
      have HSA22 := Lib.hid (HSA21.out.grown h2 HB5N.out.2.2.1)
      clear h1 h2 HK22
      refine hKK.out _ _ (HGA22.out.cq) (fun hSy => ?_)
      clear hKK hSx
      have hSx := hSy
      clear hSy KK
      try simp only [Act.put, List.setIfInBounds_toArray, List.set_cons_zero, List.set_cons_succ]
      refine wpAnyH_ready (rs := [4]) (by kernel_rfl) (by simp) ?_
      refine AllReadyH.cons (o := ⟨some 24, _, _, _, _, none⟩) rfl (fun KK hKK => ?_) AllReadyH.nil
      go_simp
      have HK23 := Lib.hid (word238 HGA22.out.rd (by decide) (by decide))
      with_reducible refine Calls.mono HK23.out ?_
      rintro e y23 ⟨rfl, h1, h2⟩
      have HGA23 := Lib.hid (HGA22.out.step h1 h2)
      have HSA23 := Lib.hid (HSA22.out.grown h2 HB5N.out.2.2.1)
      clear h1 h2 HK23
      refine hKK.out _ _ (HGA23.out.cq) (fun hSy => ?_)
      clear hKK hSx
      have hSx := hSy
      clear hSy KK
      try simp only [Act.put, List.setIfInBounds_toArray, List.set_cons_zero, List.set_cons_succ]
      refine wpAnyH_ready (rs := [6]) (by kernel_rfl) (by simp) ?_
      refine AllReadyH.cons (o := ⟨some 26, _, _, _, _, none⟩) rfl (fun KK hKK => ?_) AllReadyH.nil
      go_simp
      have HK24 := Lib.hid (word238 HGA23.out.rd (by decide) (by decide))
      with_reducible refine Calls.mono HK24.out ?_
      rintro e y24 ⟨rfl, h1, h2⟩
      have HGA24 := Lib.hid (HGA23.out.step h1 h2)
      have HSA24 := Lib.hid (HSA23.out.grown h2 HB5N.out.2.2.1)
      clear h1 h2 HK24
      refine hKK.out _ _ (HGA24.out.cq) (fun hSy => ?_)
      clear hKK hSx
      have hSx := hSy
      clear hSy KK
      try simp only [Act.put, List.setIfInBounds_toArray, List.set_cons_zero, List.set_cons_succ]
      refine wpAnyH_ready (rs := [8]) (by kernel_rfl) (by simp) ?_
      refine AllReadyH.cons (o := ⟨some 28, _, _, _, _, none⟩) rfl (fun KK hKK => ?_) AllReadyH.nil
      go_simp
      have HK25 := Lib.hid (word238 HGA24.out.rd (by decide) (by decide))
      with_reducible refine Calls.mono HK25.out ?_
      rintro e y25 ⟨rfl, h1, h2⟩
      have HGA25 := Lib.hid (HGA24.out.step h1 h2)
      have HSA25 := Lib.hid (HSA24.out.grown h2 HB5N.out.2.2.1)
      clear h1 h2 HK25
      refine hKK.out _ _ (HGA25.out.cq) (fun hSy => ?_)
      clear hKK hSx
      have hSx := hSy
      clear hSy KK
      try simp only [Act.put, List.setIfInBounds_toArray, List.set_cons_zero, List.set_cons_succ]
      refine wpAnyH_ready (rs := [10]) (by kernel_rfl) (by simp) ?_
      refine AllReadyH.cons (o := ⟨some 30, _, _, _, _, none⟩) rfl (fun KK hKK => ?_) AllReadyH.nil
      go_simp
      have HK26 := Lib.hid (word238 HGA25.out.rd (by decide) (by decide))
      with_reducible refine Calls.mono HK26.out ?_
      rintro e y26 ⟨rfl, h1, h2⟩
      have HGA26 := Lib.hid (HGA25.out.step h1 h2)
      have HSA26 := Lib.hid (HSA25.out.grown h2 HB5N.out.2.2.1)
      clear h1 h2 HK26
      refine hKK.out _ _ (HGA26.out.cq) (fun hSy => ?_)
      clear hKK hSx
      have hSx := hSy
      clear hSy KK
      try simp only [Act.put, List.setIfInBounds_toArray, List.set_cons_zero, List.set_cons_succ]
      refine wpAnyH_take (i := 11) (oi := ⟨some 31, _, _, _, _, none⟩) (v := ?_) rfl (by kernel_rfl) (by kernel_rfl) (by kernel_rfl) (fun _ _ _ h => h) (Or.inl ⟨by kernel_rfl, ?_⟩) hSx ?_
      rotate_left 1
      focus (intro wx hSw; have s0 := hSw; go_simp; first | done | with_reducible rfl)
      try simp only [Act.put, List.setIfInBounds_toArray, List.set_cons_zero, List.set_cons_succ]
      refine wpAnyH_ready (rs := [13]) (by kernel_rfl) (by simp) ?_
      refine AllReadyH.cons (o := ⟨none, _, _, _, _, none⟩) rfl (fun KK hKK => ?_) AllReadyH.nil
      have HSR := Lib.hid HSA26.out
      unfold SupAt at HSR
      have HFS := Lib.hid (HGA26.out.set HSA26.out HB5N.out)
      refine wp_store_row 41 (.tmp 5) (.tmp 31) rfl b5 #[.int .u64 0, .int .i64 0, .int .i64 0, .int .i64 0, .int .i64 0, .slice none 0 0] rfl rfl 41 _ HSR.out HI41.out rfl HO41.out ?_
      refine hKK.out _ _ (HFS.out.1.cq) (fun hSy => ?_)
      clear hKK hSx
      have hSx := hSy
      clear hSy KK
      try simp only [Act.put]
      refine wpAnyH_done (by kernel_rfl) ?_ _
      clear hSx
      go_wp2_with fail
      go_meet
      case rel => exact ⟨b5, rfl, HFS.out.2, HFS.out.1, HB5N.out.2.2.1⟩
  case rest =>
  obtain ⟨b5, rfl, hb5, hga, hne⟩ := hcut
  have HS5 := Lib.hid hb5
  have HG6 := Lib.hid hga
  have HN6 := Lib.hid hne
  clear hb5 hga hne HG4
  have HH1 := Lib.hid (half239 HG6.out.rd (by decide) (by decide))
  have cq := HG6.out.cq
  go_wp2_with fail
  refine Calls.mono HH1.out ?_
  rintro _ V7 ⟨rfl, h1, h2⟩
  have HG7 := Lib.hid (HG6.out.step h1 h2)
  have HS7 := Lib.hid (HS5.out.grown h2 HN6.out)
  clear h1 h2 HH1 HG6 HS5 cq
  have HH2 := Lib.hid (half239 HG7.out.rd (by decide) (by decide))
  have cq := HG7.out.cq
  go_wp2_with fail
  refine Calls.mono HH2.out ?_
  rintro _ V8 ⟨rfl, h1, h2⟩
  have HG8 := Lib.hid (HG7.out.step h1 h2)
  have HS8 := Lib.hid (HS7.out.grown h2 HN6.out)
  clear h1 h2 HH2 HG7 HS7 cq
  obtain ⟨c0, c1, c2, c3, c4, c5⟩ := HS8.out.c
  go_wp2_with fail
  refine wp_loop_rounds 1 ?_
  rw [rounds_succ]
  go_wp2_with fail
  refine Calls.mono (HPUT.out V8) ?_
  rintro _ V9 ⟨rfl, hb⟩
  have HG9 := Lib.hid (HG8.out.below hb)
  have HRW := Lib.hid HG9.out.r
  unfold SupAt at HRW
  have HFIN : Hid (SupAt r0 (V9.setRow r0 #[.int .u64 0, .int .i64 0, .int .i64 0, .int .i64 0, .int .i64 0, .slice none 0 0]) ∧ GetPost w (.returned (.tuple #[.agg #[.int .u64 0, .int .i64 0, .int .i64 0, .int .i64 0, .int .i64 0, .slice none 0 0], .int .i64 110])) (V9.setRow r0 #[.int .u64 0, .int .i64 0, .int .i64 0, .int .i64 0, .int .i64 0, .slice none 0 0])) := Lib.hid ⟨setRow_heap _ _ _ _ _ _ HG9.out.r, rfl, below_grown0 HG9.out.bl (setRow_grown _ _ _) HG9.out.ge.2⟩
  clear hb c0 c1 c2 c3 c4 c5
  go_wp2_with (first
    | ((with_reducible refine wpList_store_row (o := ⟨none, .store _ _ _, _, _, _, _⟩) rfl 41 (.tmp 2) (.tmp 66) rfl r0 #[.int .u64 0, .int .i64 0, .int .i64 0, .int .i64 0, .int .i64 0, .slice none 0 0] ?_ ?_ 41 _ HRW.out HI41.out rfl HO41.out ?_); rfl; rfl))
  exact bodyPost_ret (results_sup rfl _ _ r0 110 rfl rfl HFIN.out.1) rfl HFIN.out.2
end Go.Proofs.YtocfhldmnbmapaaGreatDoor
