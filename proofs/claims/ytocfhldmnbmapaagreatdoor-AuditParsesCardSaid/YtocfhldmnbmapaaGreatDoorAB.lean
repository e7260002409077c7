/- The walk over the reference's Text. -/
import Derived.Test.YtocfhldmnbmapaaGreatDoorAA
import Derived.Test.YtocfhldmnbmapaaGreatDoorA9
namespace Go.Proofs.YtocfhldmnbmapaaGreatDoor
open Go.RowKit
theorem app_sp (D : List UInt8) : str D ++ (⟨#[32]⟩ : ByteArray) = str (D ++ [32]) := by
  have : (⟨#[32]⟩ : ByteArray) = str [32] := rfl
  rw [this, str_app]
set_option maxRecDepth 100000 in
set_option maxHeartbeats 4000000 in
theorem rtext14 (k : Int) (id : Nat) (nm : List UInt8) (a : Int) (w : World) (hi : id < 4294967296) (ha : a < 4294967296) (hm : mayP ⟨k, id, nm, a⟩) : Calls Tryz.prog 14 #[.agg (fdV ⟨k, id, nm, a⟩)] w fun e w' => e = .returned (.string (str (textL ⟨k, id, nm, a⟩))) ∧ Below w.heap.size w w' := by
  have HB : Hid (Below w.heap.size w (w.alloc (.cells #[.int .i64 k, .int .u32 (id : Nat), .string (str nm), .int .i64 a] 25))) := Lib.hid ((Below.refl _ _).alloc (Nat.le_refl _) _)
  obtain ⟨h1, h2, h3, h4, h5⟩ := hm
  clear h5
  simp only at h1 h2 h3 h4
  obtain ⟨k, rfl⟩ : ∃ j : Nat, k = (j : Nat) := ⟨k.toNat, by omega⟩
  obtain ⟨a, rfl⟩ : ∃ j : Nat, a = (j : Nat) := ⟨a.toNat, by omega⟩
  have HTX : Hid (textL ⟨(k : Nat), id, nm, (a : Nat)⟩ = wordsL.getD k [] ++ joinT ((if (hasT (k : Nat)).1 then [Lib.decDigits id] else []) ++ ((if (hasT (k : Nat)).2.1 then [hexL nm] else []) ++ (if (hasT (k : Nat)).2.2 then [Lib.decDigits a] else [])))) := Lib.hid rfl
  obtain ⟨R, hR⟩ : ∃ R, R = textL ⟨(k : Nat), id, nm, (a : Nat)⟩ := ⟨_, rfl⟩
  rw [← hR] at HTX ⊢
  clear hR
  have HCF := Lib.hid (cellsF_new w (k : Nat) id nm (a : Nat))
  unfold fdV at *
  simp only at *
  obtain ⟨b0, hb0⟩ : ∃ b0, b0 = w.heap.size := ⟨_, rfl⟩
  have HLT : Hid (b0 < (w.alloc (.cells #[.int .i64 (k : Nat), .int .u32 (id : Nat), .string (str nm), .int .i64 (a : Nat)] 25)).heap.size) := Lib.hid (by rw [World.size_alloc, hb0]; omega)
  rw [← hb0] at HCF
  have hk18 : k < 18 := by omega
  have HKG := Lib.hid (kinds_get k hk18)
  have HKS : Hid (kindsA.size = 18) := Lib.hid rfl
  have HK41 := Lib.hid words41
  have HWL := word_len ⟨k, by omega⟩
  simp only at HWL
  generalize wordsL.getD k [] = wk at *
  generalize kindsA = KA at *
  have HD1 := dec_len hi
  have HD2 := dec_len (u := a) (by omega)
  have HHX : (hexL nm).length ≤ 96 := by rw [hex_len]; omega
  have HF32 := Lib.hid (fun W => rnumber42 id hi W)
  have HF34 := Lib.hid (fun W => rnumber42 a (by omega) W)
  have HF33 : Hid (∀ W, Calls Tryz.prog 43 #[.string (str nm)] W fun e w' => e = .returned (.string (str (hexL nm))) ∧ Below W.heap.size W w') := Lib.hid (fun W => (rhex43 nm (by omega) W).mono (by
    rintro e w' ⟨q1, q, rfl⟩
    exact ⟨q1, below_drewN (Below.refl _ _) q⟩))
  generalize Lib.decDigits id = di at *
  generalize Lib.decDigits a = da at *
  generalize hexL nm = hx at *
  have HH := Lib.hid (fun W => parts35 (k : Nat) W)
  unfold has3 at HH
  generalize hasT (k : Nat) = T at *
  obtain ⟨x, y, z⟩ := T
  simp only at HH HTX
  have wu : IntKind.i64.wrap (id : Int) = (id : Int) := IntWalk.i64_in _ (by omega)
  have hk0 : (0 : Int) ≤ (k : Int) := by omega
  have hk1 : (k : Int) < 18 := by omega
  clear hi ha h1 h2 h3 h4
  go_enter Tryz.func14, Tryz.ntmps14
  go_upto_region 1 with fail
  rw [← hb0]
  clear hb0
  generalize w.alloc (.cells #[.int .i64 (k : Nat), .int .u32 (id : Nat), .string (str nm), .int .i64 (a : Nat)] 25) = V at *
  have c0 := HCF.out.1
  go_wp2_with fail
  refine Calls.mono (HH.out _) ?_
  rintro _ W2 ⟨rfl, rfl⟩
  go_wp2_with fail
  refine wp_region_held_drew (S := (fun W => W.cell? ⟨b0, 0, none⟩ = some (.int .i64 (k : Nat)))) (by kernel_rfl) ?_ (fun hSx => ?_)
  · exact c0
  refine wpAnyH_take (i := 1) (oi := ⟨some 15, _, _, _, _, none⟩) (v := ?_) rfl (by kernel_rfl) (by kernel_rfl) (by kernel_rfl) (fun _ _ _ h => h) (Or.inl ⟨by kernel_rfl, ?_⟩) hSx ?_
  rotate_left 1
  focus (intro wx hSw; have s0 := hSw; go_simp; first | done | with_reducible rfl)
  try simp only [Act.put, List.setIfInBounds_toArray, List.set_cons_zero, List.set_cons_succ]
  refine wpAnyH_take (i := 2) (oi := ⟨some 16, _, _, _, _, none⟩) (v := ?_) rfl (by kernel_rfl) (by kernel_rfl) (by kernel_rfl) (fun _ _ _ h => h) (Or.inl ⟨by kernel_rfl, ?_⟩) hSx ?_
  rotate_left 1
  focus (intro wx hSw; have s0 := hSw; go_simp; first | done | with_reducible rfl)
  try simp only [Act.put, List.setIfInBounds_toArray, List.set_cons_zero, List.set_cons_succ]
  refine wpAnyH_ready (rs := [0]) (by kernel_rfl) (by simp) ?_
  refine AllReadyH.cons (o := ⟨some 14, _, _, _, _, none⟩) rfl (fun KK hKK => ?_) AllReadyH.nil
  go_simp
  with_reducible refine Calls.mono (HK41.out _) ?_
  rintro e W3 ⟨rfl, hw3⟩
  have HB3 : Hid (Below W2.heap.size W2 W3) := Lib.hid (by rw [hw3]; exact (below_drew (Below.refl _ _)).alloc (Nat.le_refl _) _)
  have HC3 := Lib.hid (HCF.out.below HB3.out HLT.out)
  have HBB3 := Lib.hid (HB.out.trans (HB3.out.mono HB.out.size))
  have HL3 : Hid (b0 < W3.heap.size) := Lib.hid (Nat.lt_of_lt_of_le HLT.out HB3.out.size)
  have cw : W3.cell? ⟨W2.heap.size, k, none⟩ = some (.string (str wk)) := by
    rw [hw3]
    exact (cell_of_row _ W2.heap.size k _ 9 (0, 0) (heap_alloc_new W2.drew _)).trans HKG.out
  clear hw3
  refine hKK.out _ _ (HC3.out.1) (fun hSy => ?_)
  clear hKK hSx
  have hSx := hSy
  clear hSy KK
  try simp only [Act.put, List.setIfInBounds_toArray, List.set_cons_zero, List.set_cons_succ]
  refine wpAnyH_take (i := 3) (oi := ⟨some 17, _, _, _, _, none⟩) (v := ?_) rfl (by kernel_rfl) (by kernel_rfl) (by kernel_rfl) (fun _ _ _ h => h) (Or.inl ⟨by kernel_rfl, ?_⟩) hSx ?_
  rotate_left 1
  focus (intro wx hSw; have s0 := hSw; go_simp; first | done | with_reducible rfl)
  try simp only [Act.put, List.setIfInBounds_toArray, List.set_cons_zero, List.set_cons_succ]
  refine wpAnyH_ready (rs := [4]) (by kernel_rfl) (by simp) ?_
  refine AllReadyH.cons (o := ⟨some 18, _, _, _, _, none⟩) rfl (fun KK hKK => ?_) AllReadyH.nil
  go_simp
  refine hKK.out _ _ (HC3.out.1) (fun hSy => ?_)
  clear hKK hSx
  have hSx := hSy
  clear hSy KK
  try simp only [Act.put, List.setIfInBounds_toArray, List.set_cons_zero, List.set_cons_succ]
  refine wpAnyH_take (i := 5) (oi := ⟨some 6, _, _, _, _, none⟩) (v := ?_) rfl (by kernel_rfl) (by kernel_rfl) (by kernel_rfl) (fun _ _ _ h => h) (Or.inl ⟨by kernel_rfl, ?_⟩) hSx ?_
  rotate_left 1
  focus (intro wx hSw; have s0 := hSw; go_simp; first | done | with_reducible rfl)
  try simp only [Act.put, List.setIfInBounds_toArray, List.set_cons_zero, List.set_cons_succ]
  refine wpAnyH_done (by kernel_rfl) ?_ _
  clear hSx c0
  cases x <;> cases y <;> cases z
  · go_wp2_with fail
    go_ret
    exact ⟨by rw [HTX.out]; simp [joinT], HBB3.out⟩
  · have c4 := HC3.out.2.2.2
    obtain ⟨u4, hu4⟩ : ∃ v, v = wk ++ [32] := ⟨_, rfl⟩
    have p4 : ¬ 9223372036854775807 < (str wk).size + 1 := by rw [str_size]; omega
    have p4' : ¬ 9223372036854775807 < (str wk).size + (⟨#[32]⟩ : ByteArray).size := by rw [str_size]; show ¬ _ < _ + 1; omega
    have q4 : str wk ++ (⟨#[32]⟩ : ByteArray) = str u4 := by rw [hu4]; exact app_sp _
    have lu4 : u4.length ≤ 8 := by rw [hu4, List.length_append]; simp; omega
    have HU4 := Lib.hid hu4
    clear hu4
    go_wp2_with fail
    refine Calls.mono (HF34.out W3) ?_
    rintro _ W4 ⟨rfl, hb⟩
    have HC4 := Lib.hid (HC3.out.below hb HL3.out)
    have HL4 : Hid (b0 < W4.heap.size) := Lib.hid (Nat.lt_of_lt_of_le HL3.out hb.size)
    have HBB4 := Lib.hid (HBB3.out.trans (hb.mono HBB3.out.size))
    clear hb c4
    have r4 : ¬ 9223372036854775807 < (str u4).size + (str da).size := by rw [str_size, str_size]; omega
    obtain ⟨v4, hv4⟩ : ∃ v, v = u4 ++ da := ⟨_, rfl⟩
    have s4 : str u4 ++ str da = str v4 := by rw [hv4]; exact str_app _ _
    have l4 : v4.length ≤ 18 := by rw [hv4, List.length_append]; omega
    have HV4 := Lib.hid hv4
    clear hv4
    go_wp2_with fail
    go_ret
    exact ⟨by rw [HTX.out, HV4.out, HU4.out]; simp [joinT], HBB4.out⟩
  · have c4 := HC3.out.2.2.1
    obtain ⟨u4, hu4⟩ : ∃ v, v = wk ++ [32] := ⟨_, rfl⟩
    have p4 : ¬ 9223372036854775807 < (str wk).size + 1 := by rw [str_size]; omega
    have p4' : ¬ 9223372036854775807 < (str wk).size + (⟨#[32]⟩ : ByteArray).size := by rw [str_size]; show ¬ _ < _ + 1; omega
    have q4 : str wk ++ (⟨#[32]⟩ : ByteArray) = str u4 := by rw [hu4]; exact app_sp _
    have lu4 : u4.length ≤ 8 := by rw [hu4, List.length_append]; simp; omega
    have HU4 := Lib.hid hu4
    clear hu4
    go_wp2_with fail
    refine Calls.mono (HF33.out W3) ?_
    rintro _ W4 ⟨rfl, hb⟩
    have HC4 := Lib.hid (HC3.out.below hb HL3.out)
    have HL4 : Hid (b0 < W4.heap.size) := Lib.hid (Nat.lt_of_lt_of_le HL3.out hb.size)
    have HBB4 := Lib.hid (HBB3.out.trans (hb.mono HBB3.out.size))
    clear hb c4
    have r4 : ¬ 9223372036854775807 < (str u4).size + (str hx).size := by rw [str_size, str_size]; omega
    obtain ⟨v4, hv4⟩ : ∃ v, v = u4 ++ hx := ⟨_, rfl⟩
    have s4 : str u4 ++ str hx = str v4 := by rw [hv4]; exact str_app _ _
    have l4 : v4.length ≤ 104 := by rw [hv4, List.length_append]; omega
    have HV4 := Lib.hid hv4
    clear hv4
    go_wp2_with fail
    go_ret
    exact ⟨by rw [HTX.out, HV4.out, HU4.out]; simp [joinT], HBB4.out⟩
  · have c4 := HC3.out.2.2.1
    obtain ⟨u4, hu4⟩ : ∃ v, v = wk ++ [32] := ⟨_, rfl⟩
    have p4 : ¬ 9223372036854775807 < (str wk).size + 1 := by rw [str_size]; omega
    have p4' : ¬ 9223372036854775807 < (str wk).size + (⟨#[32]⟩ : ByteArray).size := by rw [str_size]; show ¬ _ < _ + 1; omega
    have q4 : str wk ++ (⟨#[32]⟩ : ByteArray) = str u4 := by rw [hu4]; exact app_sp _
    have lu4 : u4.length ≤ 8 := by rw [hu4, List.length_append]; simp; omega
    have HU4 := Lib.hid hu4
    clear hu4
    go_wp2_with fail
    refine Calls.mono (HF33.out W3) ?_
    rintro _ W4 ⟨rfl, hb⟩
    have HC4 := Lib.hid (HC3.out.below hb HL3.out)
    have HL4 : Hid (b0 < W4.heap.size) := Lib.hid (Nat.lt_of_lt_of_le HL3.out hb.size)
    have HBB4 := Lib.hid (HBB3.out.trans (hb.mono HBB3.out.size))
    clear hb c4
    have r4 : ¬ 9223372036854775807 < (str u4).size + (str hx).size := by rw [str_size, str_size]; omega
    obtain ⟨v4, hv4⟩ : ∃ v, v = u4 ++ hx := ⟨_, rfl⟩
    have s4 : str u4 ++ str hx = str v4 := by rw [hv4]; exact str_app _ _
    have l4 : v4.length ≤ 104 := by rw [hv4, List.length_append]; omega
    have HV4 := Lib.hid hv4
    clear hv4
    have c5 := HC4.out.2.2.2
    obtain ⟨u5, hu5⟩ : ∃ v, v = v4 ++ [32] := ⟨_, rfl⟩
    have p5 : ¬ 9223372036854775807 < (str v4).size + 1 := by rw [str_size]; omega
    have p5' : ¬ 9223372036854775807 < (str v4).size + (⟨#[32]⟩ : ByteArray).size := by rw [str_size]; show ¬ _ < _ + 1; omega
    have q5 : str v4 ++ (⟨#[32]⟩ : ByteArray) = str u5 := by rw [hu5]; exact app_sp _
    have lu5 : u5.length ≤ 105 := by rw [hu5, List.length_append]; simp; omega
    have HU5 := Lib.hid hu5
    clear hu5
    go_wp2_with fail
    refine Calls.mono (HF34.out W4) ?_
    rintro _ W5 ⟨rfl, hb⟩
    have HC5 := Lib.hid (HC4.out.below hb HL4.out)
    have HL5 : Hid (b0 < W5.heap.size) := Lib.hid (Nat.lt_of_lt_of_le HL4.out hb.size)
    have HBB5 := Lib.hid (HBB4.out.trans (hb.mono HBB4.out.size))
    clear hb c5
    have r5 : ¬ 9223372036854775807 < (str u5).size + (str da).size := by rw [str_size, str_size]; omega
    obtain ⟨v5, hv5⟩ : ∃ v, v = u5 ++ da := ⟨_, rfl⟩
    have s5 : str u5 ++ str da = str v5 := by rw [hv5]; exact str_app _ _
    have l5 : v5.length ≤ 115 := by rw [hv5, List.length_append]; omega
    have HV5 := Lib.hid hv5
    clear hv5
    go_wp2_with fail
    go_ret
    exact ⟨by rw [HTX.out, HV5.out, HU5.out, HV4.out, HU4.out]; simp [joinT], HBB5.out⟩
  · have c4 := HC3.out.2.1
    obtain ⟨u4, hu4⟩ : ∃ v, v = wk ++ [32] := ⟨_, rfl⟩
    have p4 : ¬ 9223372036854775807 < (str wk).size + 1 := by rw [str_size]; omega
    have p4' : ¬ 9223372036854775807 < (str wk).size + (⟨#[32]⟩ : ByteArray).size := by rw [str_size]; show ¬ _ < _ + 1; omega
    have q4 : str wk ++ (⟨#[32]⟩ : ByteArray) = str u4 := by rw [hu4]; exact app_sp _
    have lu4 : u4.length ≤ 8 := by rw [hu4, List.length_append]; simp; omega
    have HU4 := Lib.hid hu4
    clear hu4
    go_wp2_with fail
    refine Calls.mono (HF32.out W3) ?_
    rintro _ W4 ⟨rfl, hb⟩
    have HC4 := Lib.hid (HC3.out.below hb HL3.out)
    have HL4 : Hid (b0 < W4.heap.size) := Lib.hid (Nat.lt_of_lt_of_le HL3.out hb.size)
    have HBB4 := Lib.hid (HBB3.out.trans (hb.mono HBB3.out.size))
    clear hb c4
    have r4 : ¬ 9223372036854775807 < (str u4).size + (str di).size := by rw [str_size, str_size]; omega
    obtain ⟨v4, hv4⟩ : ∃ v, v = u4 ++ di := ⟨_, rfl⟩
    have s4 : str u4 ++ str di = str v4 := by rw [hv4]; exact str_app _ _
    have l4 : v4.length ≤ 18 := by rw [hv4, List.length_append]; omega
    have HV4 := Lib.hid hv4
    clear hv4
    go_wp2_with fail
    go_ret
    exact ⟨by rw [HTX.out, HV4.out, HU4.out]; simp [joinT], HBB4.out⟩
  · have c4 := HC3.out.2.1
    obtain ⟨u4, hu4⟩ : ∃ v, v = wk ++ [32] := ⟨_, rfl⟩
    have p4 : ¬ 9223372036854775807 < (str wk).size + 1 := by rw [str_size]; omega
    have p4' : ¬ 9223372036854775807 < (str wk).size + (⟨#[32]⟩ : ByteArray).size := by rw [str_size]; show ¬ _ < _ + 1; omega
    have q4 : str wk ++ (⟨#[32]⟩ : ByteArray) = str u4 := by rw [hu4]; exact app_sp _
    have lu4 : u4.length ≤ 8 := by rw [hu4, List.length_append]; simp; omega
    have HU4 := Lib.hid hu4
    clear hu4
    go_wp2_with fail
    refine Calls.mono (HF32.out W3) ?_
    rintro _ W4 ⟨rfl, hb⟩
    have HC4 := Lib.hid (HC3.out.below hb HL3.out)
    have HL4 : Hid (b0 < W4.heap.size) := Lib.hid (Nat.lt_of_lt_of_le HL3.out hb.size)
    have HBB4 := Lib.hid (HBB3.out.trans (hb.mono HBB3.out.size))
    clear hb c4
    have r4 : ¬ 9223372036854775807 < (str u4).size + (str di).size := by rw [str_size, str_size]; omega
    obtain ⟨v4, hv4⟩ : ∃ v, v = u4 ++ di := ⟨_, rfl⟩
    have s4 : str u4 ++ str di = str v4 := by rw [hv4]; exact str_app _ _
    have l4 : v4.length ≤ 18 := by rw [hv4, List.length_append]; omega
    have HV4 := Lib.hid hv4
    clear hv4
    have c5 := HC4.out.2.2.2
    obtain ⟨u5, hu5⟩ : ∃ v, v = v4 ++ [32] := ⟨_, rfl⟩
    have p5 : ¬ 9223372036854775807 < (str v4).size + 1 := by rw [str_size]; omega
    have p5' : ¬ 9223372036854775807 < (str v4).size + (⟨#[32]⟩ : ByteArray).size := by rw [str_size]; show ¬ _ < _ + 1; omega
    have q5 : str v4 ++ (⟨#[32]⟩ : ByteArray) = str u5 := by rw [hu5]; exact app_sp _
    have lu5 : u5.length ≤ 19 := by rw [hu5, List.length_append]; simp; omega
    have HU5 := Lib.hid hu5
    clear hu5
    go_wp2_with fail
    refine Calls.mono (HF34.out W4) ?_
    rintro _ W5 ⟨rfl, hb⟩
    have HC5 := Lib.hid (HC4.out.below hb HL4.out)
    have HL5 : Hid (b0 < W5.heap.size) := Lib.hid (Nat.lt_of_lt_of_le HL4.out hb.size)
    have HBB5 := Lib.hid (HBB4.out.trans (hb.mono HBB4.out.size))
    clear hb c5
    have r5 : ¬ 9223372036854775807 < (str u5).size + (str da).size := by rw [str_size, str_size]; omega
    obtain ⟨v5, hv5⟩ : ∃ v, v = u5 ++ da := ⟨_, rfl⟩
    have s5 : str u5 ++ str da = str v5 := by rw [hv5]; exact str_app _ _
    have l5 : v5.length ≤ 29 := by rw [hv5, List.length_append]; omega
    have HV5 := Lib.hid hv5
    clear hv5
    go_wp2_with fail
    go_ret
    exact ⟨by rw [HTX.out, HV5.out, HU5.out, HV4.out, HU4.out]; simp [joinT], HBB5.out⟩
  · have c4 := HC3.out.2.1
    obtain ⟨u4, hu4⟩ : ∃ v, v = wk ++ [32] := ⟨_, rfl⟩
    have p4 : ¬ 9223372036854775807 < (str wk).size + 1 := by rw [str_size]; omega
    have p4' : ¬ 9223372036854775807 < (str wk).size + (⟨#[32]⟩ : ByteArray).size := by rw [str_size]; show ¬ _ < _ + 1; omega
    have q4 : str wk ++ (⟨#[32]⟩ : ByteArray) = str u4 := by rw [hu4]; exact app_sp _
    have lu4 : u4.length ≤ 8 := by rw [hu4, List.length_append]; simp; omega
    have HU4 := Lib.hid hu4
    clear hu4
    go_wp2_with fail
    refine Calls.mono (HF32.out W3) ?_
    rintro _ W4 ⟨rfl, hb⟩
    have HC4 := Lib.hid (HC3.out.below hb HL3.out)
    have HL4 : Hid (b0 < W4.heap.size) := Lib.hid (Nat.lt_of_lt_of_le HL3.out hb.size)
    have HBB4 := Lib.hid (HBB3.out.trans (hb.mono HBB3.out.size))
    clear hb c4
    have r4 : ¬ 9223372036854775807 < (str u4).size + (str di).size := by rw [str_size, str_size]; omega
    obtain ⟨v4, hv4⟩ : ∃ v, v = u4 ++ di := ⟨_, rfl⟩
    have s4 : str u4 ++ str di = str v4 := by rw [hv4]; exact str_app _ _
    have l4 : v4.length ≤ 18 := by rw [hv4, List.length_append]; omega
    have HV4 := Lib.hid hv4
    clear hv4
    have c5 := HC4.out.2.2.1
    obtain ⟨u5, hu5⟩ : ∃ v, v = v4 ++ [32] := ⟨_, rfl⟩
    have p5 : ¬ 9223372036854775807 < (str v4).size + 1 := by rw [str_size]; omega
    have p5' : ¬ 9223372036854775807 < (str v4).size + (⟨#[32]⟩ : ByteArray).size := by rw [str_size]; show ¬ _ < _ + 1; omega
    have q5 : str v4 ++ (⟨#[32]⟩ : ByteArray) = str u5 := by rw [hu5]; exact app_sp _
    have lu5 : u5.length ≤ 19 := by rw [hu5, List.length_append]; simp; omega
    have HU5 := Lib.hid hu5
    clear hu5
    go_wp2_with fail
    refine Calls.mono (HF33.out W4) ?_
    rintro _ W5 ⟨rfl, hb⟩
    have HC5 := Lib.hid (HC4.out.below hb HL4.out)
    have HL5 : Hid (b0 < W5.heap.size) := Lib.hid (Nat.lt_of_lt_of_le HL4.out hb.size)
    have HBB5 := Lib.hid (HBB4.out.trans (hb.mono HBB4.out.size))
    clear hb c5
    have r5 : ¬ 9223372036854775807 < (str u5).size + (str hx).size := by rw [str_size, str_size]; omega
    obtain ⟨v5, hv5⟩ : ∃ v, v = u5 ++ hx := ⟨_, rfl⟩
    have s5 : str u5 ++ str hx = str v5 := by rw [hv5]; exact str_app _ _
    have l5 : v5.length ≤ 115 := by rw [hv5, List.length_append]; omega
    have HV5 := Lib.hid hv5
    clear hv5
    go_wp2_with fail
    go_ret
    exact ⟨by rw [HTX.out, HV5.out, HU5.out, HV4.out, HU4.out]; simp [joinT], HBB5.out⟩
  · have c4 := HC3.out.2.1
    obtain ⟨u4, hu4⟩ : ∃ v, v = wk ++ [32] := ⟨_, rfl⟩
    have p4 : ¬ 9223372036854775807 < (str wk).size + 1 := by rw [str_size]; omega
    have p4' : ¬ 9223372036854775807 < (str wk).size + (⟨#[32]⟩ : ByteArray).size := by rw [str_size]; show ¬ _ < _ + 1; omega
    have q4 : str wk ++ (⟨#[32]⟩ : ByteArray) = str u4 := by rw [hu4]; exact app_sp _
    have lu4 : u4.length ≤ 8 := by rw [hu4, List.length_append]; simp; omega
    have HU4 := Lib.hid hu4
    clear hu4
    go_wp2_with fail
    refine Calls.mono (HF32.out W3) ?_
    rintro _ W4 ⟨rfl, hb⟩
    have HC4 := Lib.hid (HC3.out.below hb HL3.out)
    have HL4 : Hid (b0 < W4.heap.size) := Lib.hid (Nat.lt_of_lt_of_le HL3.out hb.size)
    have HBB4 := Lib.hid (HBB3.out.trans (hb.mono HBB3.out.size))
    clear hb c4
    have r4 : ¬ 9223372036854775807 < (str u4).size + (str di).size := by rw [str_size, str_size]; omega
    obtain ⟨v4, hv4⟩ : ∃ v, v = u4 ++ di := ⟨_, rfl⟩
    have s4 : str u4 ++ str di = str v4 := by rw [hv4]; exact str_app _ _
    have l4 : v4.length ≤ 18 := by rw [hv4, List.length_append]; omega
    have HV4 := Lib.hid hv4
    clear hv4
    have c5 := HC4.out.2.2.1
    obtain ⟨u5, hu5⟩ : ∃ v, v = v4 ++ [32] := ⟨_, rfl⟩
    have p5 : ¬ 9223372036854775807 < (str v4).size + 1 := by rw [str_size]; omega
    have p5' : ¬ 9223372036854775807 < (str v4).size + (⟨#[32]⟩ : ByteArray).size := by rw [str_size]; show ¬ _ < _ + 1; omega
    have q5 : str v4 ++ (⟨#[32]⟩ : ByteArray) = str u5 := by rw [hu5]; exact app_sp _
    have lu5 : u5.length ≤ 19 := by rw [hu5, List.length_append]; simp; omega
    have HU5 := Lib.hid hu5
    clear hu5
    go_wp2_with fail
    refine Calls.mono (HF33.out W4) ?_
    rintro _ W5 ⟨rfl, hb⟩
    have HC5 := Lib.hid (HC4.out.below hb HL4.out)
    have HL5 : Hid (b0 < W5.heap.size) := Lib.hid (Nat.lt_of_lt_of_le HL4.out hb.size)
    have HBB5 := Lib.hid (HBB4.out.trans (hb.mono HBB4.out.size))
    clear hb c5
    have r5 : ¬ 9223372036854775807 < (str u5).size + (str hx).size := by rw [str_size, str_size]; omega
    obtain ⟨v5, hv5⟩ : ∃ v, v = u5 ++ hx := ⟨_, rfl⟩
    have s5 : str u5 ++ str hx = str v5 := by rw [hv5]; exact str_app _ _
    have l5 : v5.length ≤ 115 := by rw [hv5, List.length_append]; omega
    have HV5 := Lib.hid hv5
    clear hv5
    have c6 := HC5.out.2.2.2
    obtain ⟨u6, hu6⟩ : ∃ v, v = v5 ++ [32] := ⟨_, rfl⟩
    have p6 : ¬ 9223372036854775807 < (str v5).size + 1 := by rw [str_size]; omega
    have p6' : ¬ 9223372036854775807 < (str v5).size + (⟨#[32]⟩ : ByteArray).size := by rw [str_size]; show ¬ _ < _ + 1; omega
    have q6 : str v5 ++ (⟨#[32]⟩ : ByteArray) = str u6 := by rw [hu6]; exact app_sp _
    have lu6 : u6.length ≤ 116 := by rw [hu6, List.length_append]; simp; omega
    have HU6 := Lib.hid hu6
    clear hu6
    go_wp2_with fail
    refine Calls.mono (HF34.out W5) ?_
    rintro _ W6 ⟨rfl, hb⟩
    have HC6 := Lib.hid (HC5.out.below hb HL5.out)
    have HL6 : Hid (b0 < W6.heap.size) := Lib.hid (Nat.lt_of_lt_of_le HL5.out hb.size)
    have HBB6 := Lib.hid (HBB5.out.trans (hb.mono HBB5.out.size))
    clear hb c6
    have r6 : ¬ 9223372036854775807 < (str u6).size + (str da).size := by rw [str_size, str_size]; omega
    obtain ⟨v6, hv6⟩ : ∃ v, v = u6 ++ da := ⟨_, rfl⟩
    have s6 : str u6 ++ str da = str v6 := by rw [hv6]; exact str_app _ _
    have l6 : v6.length ≤ 126 := by rw [hv6, List.length_append]; omega
    have HV6 := Lib.hid hv6
    clear hv6
    go_wp2_with fail
    go_ret
    exact ⟨by rw [HTX.out, HV6.out, HU6.out, HV5.out, HU5.out, HV4.out, HU4.out]; simp [joinT], HBB6.out⟩
end Go.Proofs.YtocfhldmnbmapaaGreatDoor
