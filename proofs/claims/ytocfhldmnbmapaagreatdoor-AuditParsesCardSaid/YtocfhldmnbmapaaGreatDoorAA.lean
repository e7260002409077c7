/- The walk over Text. -/
import Derived.Test.YtocfhldmnbmapaaGreatDoorA2
import Derived.Test.YtocfhldmnbmapaaGreatDoorA5
import Derived.Test.YtocfhldmnbmapaaGreatDoorA6
import Derived.Test.YtocfhldmnbmapaaGreatDoorA7
namespace Go.Proofs.YtocfhldmnbmapaaGreatDoor
open Go.RowKit
theorem dec_len {u : Nat} (h : u < 4294967296) : (Lib.decDigits u).length ≤ 10 := by rw [Lib.decDigits_length]; exact ndig_le h
theorem word_len : ∀ k : Fin 18, (wordsL.getD k.1 []).length ≤ 7 := by decide
theorem itoa34 (u : Nat) (h : u < 4294967296) (w : World) (ht : Gw w) : Calls Tryz.prog 34 #[.int .i64 (u : Nat)] w fun e w' => e = .returned (.string (str (Lib.decDigits u))) ∧ Below w.heap.size w w' := by
  refine (Tryz.strconv_Itoa (u : Nat) (by omega) (by omega) w ht.tb).mono ?_
  rintro e w' ⟨rfl, k, os, rfl⟩
  exact ⟨by rw [Lib.itoa_nonneg]; rfl, Lib.below_grow w.heap.size w (Nat.le_refl _) k os⟩
theorem sp_app (D : List UInt8) : (⟨#[32]⟩ : ByteArray) ++ str D = str (32 :: D) := by
  have : (⟨#[32]⟩ : ByteArray) = str [32] := rfl
  rw [this, str_app]
  rfl
def cellsF (b0 : Nat) (k : Int) (id : Nat) (nm : List UInt8) (a : Int) (W : World) : Prop := W.cell? ⟨b0, 0, none⟩ = some (.int .i64 k) ∧ W.cell? ⟨b0, 1, none⟩ = some (.int .u32 (id : Nat)) ∧ W.cell? ⟨b0, 2, none⟩ = some (.string (str nm)) ∧ W.cell? ⟨b0, 3, none⟩ = some (.int .i64 a)
theorem cellsF_new (W : World) (k : Int) (id : Nat) (nm : List UInt8) (a : Int) : cellsF W.heap.size k id nm a (W.alloc (.cells (fdV ⟨k, id, nm, a⟩) 25)) :=
  ⟨cell_of_row _ W.heap.size 0 _ 25 (0, 0) (heap_alloc_new _ _), cell_of_row _ W.heap.size 1 _ 25 (0, 0) (heap_alloc_new _ _), cell_of_row _ W.heap.size 2 _ 25 (0, 0) (heap_alloc_new _ _), cell_of_row _ W.heap.size 3 _ 25 (0, 0) (heap_alloc_new _ _)⟩
theorem cellsF.below {b0 : Nat} {k : Int} {id : Nat} {nm : List UInt8} {a : Int} {W W' : World} (h : cellsF b0 k id nm a W) (hb : Below W.heap.size W W') (hl : b0 < W.heap.size) : cellsF b0 k id nm a W' :=
  ⟨(hb.cell (p := ⟨b0, 0, none⟩) hl).trans h.1, (hb.cell (p := ⟨b0, 1, none⟩) hl).trans h.2.1, (hb.cell (p := ⟨b0, 2, none⟩) hl).trans h.2.2.1, (hb.cell (p := ⟨b0, 3, none⟩) hl).trans h.2.2.2⟩
set_option maxRecDepth 100000 in
set_option maxHeartbeats 4000000 in
theorem text9_no (k : Int) (id : Nat) (nm : List UInt8) (a : Int) (w : World) (hm : ¬ mayP ⟨k, id, nm, a⟩) : Calls Tryz.prog 9 #[.agg (fdV ⟨k, id, nm, a⟩)] w fun e w' => e = .returned (.string (str ([]))) ∧ Below w.heap.size w w' := by
  have HB : Hid (Below w.heap.size w (w.alloc (.cells #[.int .i64 k, .int .u32 (id : Nat), .string (str nm), .int .i64 a] 25))) := Lib.hid ((Below.refl _ _).alloc (Nat.le_refl _) _)
  have HM := Lib.hid (may29 k id nm a (w.alloc (.cells #[.int .i64 k, .int .u32 (id : Nat), .string (str nm), .int .i64 a] 25)))
  rw [decide_eq_false hm] at HM
  unfold fdV at *
  simp only at *
  clear hm
  go_enter Tryz.func9, Tryz.ntmps9
  go_wp2_with fail
  refine Calls.mono HM.out ?_
  rintro _ W1 ⟨rfl, hb1⟩
  have HB1 := Lib.hid (HB.out.trans (hb1.mono HB.out.size))
  clear hb1
  go_wp2_with fail
  go_ret
  exact ⟨rfl, HB1.out⟩
set_option maxRecDepth 100000 in
set_option maxHeartbeats 4000000 in
theorem text9_yes (k : Int) (id : Nat) (nm : List UInt8) (a : Int) (w : World) (hg : Gw w) (hi : id < 4294967296) (ha : a < 4294967296) (hm : mayP ⟨k, id, nm, a⟩) : Calls Tryz.prog 9 #[.agg (fdV ⟨k, id, nm, a⟩)] w fun e w' => e = .returned (.string (str (textL ⟨k, id, nm, a⟩))) ∧ Below w.heap.size w w' := by
  have HB : Hid (Below w.heap.size w (w.alloc (.cells #[.int .i64 k, .int .u32 (id : Nat), .string (str nm), .int .i64 a] 25))) := Lib.hid ((Below.refl _ _).alloc (Nat.le_refl _) _)
  have HM := Lib.hid (may29 k id nm a (w.alloc (.cells #[.int .i64 k, .int .u32 (id : Nat), .string (str nm), .int .i64 a] 25)))
  rw [decide_eq_true hm] at HM
  obtain ⟨h1, h2, h3, h4, h5⟩ := hm
  clear h5
  simp only at h1 h2 h3 h4
  obtain ⟨k, rfl⟩ : ∃ j : Nat, k = (j : Nat) := ⟨k.toNat, by omega⟩
  obtain ⟨a, rfl⟩ : ∃ j : Nat, a = (j : Nat) := ⟨a.toNat, by omega⟩
  have HTX : Hid (textL ⟨(k : Nat), id, nm, (a : Nat)⟩ = wordsL.getD k [] ++ joinT ((if (hasT (k : Nat)).1 then [Lib.decDigits id] else []) ++ ((if (hasT (k : Nat)).2.1 then [hexL nm] else []) ++ (if (hasT (k : Nat)).2.2 then [Lib.decDigits a] else [])))) := Lib.hid rfl
  obtain ⟨R, hR⟩ : ∃ R, R = textL ⟨(k : Nat), id, nm, (a : Nat)⟩ := ⟨_, rfl⟩
  rw [← hR] at HTX ⊢
  clear hR
  have HCF := Lib.hid (cellsF_new w (k : Nat) id nm (a : Nat))
  unfold fdV at *
  simp only at *
  have hb0 : ∃ b0, b0 = w.heap.size := ⟨_, rfl⟩
  obtain ⟨b0, hb0⟩ := hb0
  have HLT : Hid (b0 < (w.alloc (.cells #[.int .i64 (k : Nat), .int .u32 (id : Nat), .string (str nm), .int .i64 (a : Nat)] 25)).heap.size) := Lib.hid (by rw [World.size_alloc, hb0]; omega)
  have HG := Lib.hid (hg.below HB.out)
  rw [← hb0] at HCF
  have HIX : Hid (∀ W, (Instr.index 77 (.agg kindsA) (.int .i64 (k : Nat))).run Tryz.prog W = .ok (.string (str (wordsL.getD k []))) W) := Lib.hid (fun W => run_index_array kindsA .i64 k _ W Tryz.underlying77 Tryz.sizeOf9 Tryz.isAgg9 (by omega) (kinds_get k (by omega)))
  have HK31 := Lib.hid kinds31
  have HWL := word_len ⟨k, by omega⟩
  simp only at HWL
  generalize wordsL.getD k [] = wk at *
  generalize kindsA = KA at *
  have HD1 := dec_len hi
  have HD2 := dec_len (u := a) (by omega)
  have HHX : (hexL nm).length ≤ 96 := by rw [hex_len]; omega
  have HF32 := Lib.hid (fun W hw => fmt32 id hi W hw)
  have HF34 := Lib.hid (fun W hw => itoa34 a (by omega) W hw)
  have HF33 := Lib.hid (fun W => hex33 nm (by omega) W)
  generalize Lib.decDigits id = di at *
  generalize Lib.decDigits a = da at *
  generalize hexL nm = hx at *
  have HH := Lib.hid (fun W => has30 (k : Nat) W)
  unfold has3 at HH
  generalize hasT (k : Nat) = T at *
  obtain ⟨x, y, z⟩ := T
  simp only at HH HTX
  have HX9 := Lib.hid hb0
  have wu : IntKind.u64.wrap (id : Int) = (id : Int) := by rw [IntKind.wrap_u64]; omega
  clear hg hi ha h1 h2 h3 h4
  go_enter Tryz.func9, Tryz.ntmps9
  go_upto_region 1 with fail
  rw [← hb0]
  clear hb0
  generalize w.alloc (.cells #[.int .i64 (k : Nat), .int .u32 (id : Nat), .string (str nm), .int .i64 (a : Nat)] 25) = V at *
  have c0 := HCF.out.1
  have c1 := HCF.out.2.1
  have c2 := HCF.out.2.2.1
  have c3 := HCF.out.2.2.2
  go_wp2_with fail
  refine Calls.mono HM.out ?_
  rintro _ W1 ⟨rfl, hb1⟩
  have HB1 := Lib.hid (HB.out.trans (hb1.mono HB.out.size))
  have HC1 := Lib.hid (HCF.out.below hb1 HLT.out)
  have HG1 := Lib.hid (HG.out.below hb1)
  have HL1 : Hid (b0 < W1.heap.size) := Lib.hid (Nat.lt_of_lt_of_le HLT.out hb1.size)
  have d0 := HC1.out.1
  clear hb1 HM HCF HLT HG c0 c1 c2 c3
  go_wp2_with fail
  refine Calls.mono (HH.out _) ?_
  rintro _ W2 ⟨rfl, rfl⟩
  have HX2 := HIX.out
  go_wp2_with fail
  refine wp_region_held_drew (S := (fun W => W.cell? ⟨b0, 0, none⟩ = some (.int .i64 (k : Nat)))) (by kernel_rfl) ?_ (fun hSx => ?_)
  · exact d0
  refine wpAnyH_take (i := 1) (oi := ⟨some 18, _, _, _, _, none⟩) (v := ?_) rfl (by kernel_rfl) (by kernel_rfl) (by kernel_rfl) (fun _ _ _ h => h) (Or.inl ⟨by kernel_rfl, ?_⟩) hSx ?_
  rotate_left 1
  focus (intro wx hSw; have s0 := hSw; go_simp; first | done | with_reducible rfl)
  try simp only [Act.put, List.setIfInBounds_toArray, List.set_cons_zero, List.set_cons_succ]
  refine wpAnyH_take (i := 2) (oi := ⟨some 19, _, _, _, _, none⟩) (v := ?_) rfl (by kernel_rfl) (by kernel_rfl) (by kernel_rfl) (fun _ _ _ h => h) (Or.inl ⟨by kernel_rfl, ?_⟩) hSx ?_
  rotate_left 1
  focus (intro wx hSw; have s0 := hSw; go_simp; first | done | with_reducible rfl)
  try simp only [Act.put, List.setIfInBounds_toArray, List.set_cons_zero, List.set_cons_succ]
  refine wpAnyH_ready (rs := [0]) (by kernel_rfl) (by simp) ?_
  refine AllReadyH.cons (o := ⟨some 17, _, _, _, _, none⟩) rfl (fun KK hKK => ?_) AllReadyH.nil
  go_simp
  have HBD : Hid (Below W2.heap.size W2 W2.drew) := Lib.hid (below_drew (Below.refl _ _))
  with_reducible refine Calls.mono (HK31.out _) ?_
  rintro e W3 ⟨rfl, hb3⟩
  have HB3 := Lib.hid (HBD.out.trans (hb3.mono HBD.out.size))
  have HC3 := Lib.hid (HC1.out.below HB3.out HL1.out)
  have HG3 := Lib.hid (HG1.out.below HB3.out)
  have HBB3 := Lib.hid (HB1.out.trans (HB3.out.mono HB1.out.size))
  have HL3 : Hid (b0 < W3.heap.size) := Lib.hid (Nat.lt_of_lt_of_le HL1.out HB3.out.size)
  clear hb3
  refine hKK.out _ _ (HC3.out.1) (fun hSy => ?_)
  clear hKK hSx
  have hSx := hSy
  clear hSy KK
  try simp only [Act.put, List.setIfInBounds_toArray, List.set_cons_zero, List.set_cons_succ]
  refine wpAnyH_take (i := 3) (oi := ⟨some 20, _, _, _, _, none⟩) (v := ?_) rfl (by kernel_rfl) (by kernel_rfl) (by kernel_rfl) (fun _ _ _ h => h) (Or.inl ⟨by kernel_rfl, ?_⟩) hSx ?_
  rotate_left 1
  focus (intro wx hSw; have s0 := hSw; go_simp; first | done | with_reducible rfl)
  try simp only [Act.put, List.setIfInBounds_toArray, List.set_cons_zero, List.set_cons_succ]
  refine wpAnyH_take (i := 4) (oi := ⟨some 6, _, _, _, _, none⟩) (v := ?_) rfl (by kernel_rfl) (by kernel_rfl) (by kernel_rfl) (fun _ _ _ h => h) (Or.inl ⟨by kernel_rfl, ?_⟩) hSx ?_
  rotate_left 1
  focus (intro wx hSw; have s0 := hSw; go_simp; first | done | with_reducible rfl)
  try simp only [Act.put, List.setIfInBounds_toArray, List.set_cons_zero, List.set_cons_succ]
  refine wpAnyH_done (by kernel_rfl) ?_ _
  clear hSx d0
  cases x <;> cases y <;> cases z
  · go_wp2_with fail
    go_ret
    exact ⟨by rw [HTX.out]; simp [joinT], HBB3.out⟩
  · have c4 := HC3.out.2.2.2
    go_wp2_with fail
    refine Calls.mono (HF34.out W3 HG3.out) ?_
    rintro _ W4 ⟨rfl, hb⟩
    have HC4 := Lib.hid (HC3.out.below hb HL3.out)
    have HG4 := Lib.hid (HG3.out.below hb)
    have HL4 : Hid (b0 < W4.heap.size) := Lib.hid (Nat.lt_of_lt_of_le HL3.out hb.size)
    have HBB4 := Lib.hid (HBB3.out.trans (hb.mono HBB3.out.size))
    clear hb c4
    have p4 : ¬ 9223372036854775807 < 1 + (str da).size := by rw [str_size]; omega
    have p4' : ¬ 9223372036854775807 < (⟨#[32]⟩ : ByteArray).size + (str da).size := by rw [str_size]; show ¬ _ < 1 + _; omega
    have q4 := sp_app da
    have r4 : ¬ 9223372036854775807 < (str wk).size + (str (32 :: da)).size := by rw [str_size, str_size, List.length_cons]; omega
    obtain ⟨v4, hv4⟩ : ∃ v, v = wk ++ 32 :: da := ⟨_, rfl⟩
    have s4 : str wk ++ str (32 :: da) = str v4 := by rw [hv4]; exact str_app _ _
    have l4 : v4.length ≤ 18 := by rw [hv4, List.length_append, List.length_cons]; omega
    have HV4 := Lib.hid hv4
    clear hv4
    go_wp2_with fail
    go_ret
    exact ⟨by rw [HTX.out, HV4.out]; simp [joinT], HBB4.out⟩
  · have c4 := HC3.out.2.2.1
    go_wp2_with fail
    refine Calls.mono (HF33.out W3) ?_
    rintro _ W4 ⟨rfl, hb⟩
    have HC4 := Lib.hid (HC3.out.below hb HL3.out)
    have HG4 := Lib.hid (HG3.out.below hb)
    have HL4 : Hid (b0 < W4.heap.size) := Lib.hid (Nat.lt_of_lt_of_le HL3.out hb.size)
    have HBB4 := Lib.hid (HBB3.out.trans (hb.mono HBB3.out.size))
    clear hb c4
    have p4 : ¬ 9223372036854775807 < 1 + (str hx).size := by rw [str_size]; omega
    have p4' : ¬ 9223372036854775807 < (⟨#[32]⟩ : ByteArray).size + (str hx).size := by rw [str_size]; show ¬ _ < 1 + _; omega
    have q4 := sp_app hx
    have r4 : ¬ 9223372036854775807 < (str wk).size + (str (32 :: hx)).size := by rw [str_size, str_size, List.length_cons]; omega
    obtain ⟨v4, hv4⟩ : ∃ v, v = wk ++ 32 :: hx := ⟨_, rfl⟩
    have s4 : str wk ++ str (32 :: hx) = str v4 := by rw [hv4]; exact str_app _ _
    have l4 : v4.length ≤ 104 := by rw [hv4, List.length_append, List.length_cons]; omega
    have HV4 := Lib.hid hv4
    clear hv4
    go_wp2_with fail
    go_ret
    exact ⟨by rw [HTX.out, HV4.out]; simp [joinT], HBB4.out⟩
  · have c4 := HC3.out.2.2.1
    go_wp2_with fail
    refine Calls.mono (HF33.out W3) ?_
    rintro _ W4 ⟨rfl, hb⟩
    have HC4 := Lib.hid (HC3.out.below hb HL3.out)
    have HG4 := Lib.hid (HG3.out.below hb)
    have HL4 : Hid (b0 < W4.heap.size) := Lib.hid (Nat.lt_of_lt_of_le HL3.out hb.size)
    have HBB4 := Lib.hid (HBB3.out.trans (hb.mono HBB3.out.size))
    clear hb c4
    have p4 : ¬ 9223372036854775807 < 1 + (str hx).size := by rw [str_size]; omega
    have p4' : ¬ 9223372036854775807 < (⟨#[32]⟩ : ByteArray).size + (str hx).size := by rw [str_size]; show ¬ _ < 1 + _; omega
    have q4 := sp_app hx
    have r4 : ¬ 9223372036854775807 < (str wk).size + (str (32 :: hx)).size := by rw [str_size, str_size, List.length_cons]; omega
    obtain ⟨v4, hv4⟩ : ∃ v, v = wk ++ 32 :: hx := ⟨_, rfl⟩
    have s4 : str wk ++ str (32 :: hx) = str v4 := by rw [hv4]; exact str_app _ _
    have l4 : v4.length ≤ 104 := by rw [hv4, List.length_append, List.length_cons]; omega
    have HV4 := Lib.hid hv4
    clear hv4
    have c5 := HC4.out.2.2.2
    go_wp2_with fail
    refine Calls.mono (HF34.out W4 HG4.out) ?_
    rintro _ W5 ⟨rfl, hb⟩
    have HC5 := Lib.hid (HC4.out.below hb HL4.out)
    have HG5 := Lib.hid (HG4.out.below hb)
    have HL5 : Hid (b0 < W5.heap.size) := Lib.hid (Nat.lt_of_lt_of_le HL4.out hb.size)
    have HBB5 := Lib.hid (HBB4.out.trans (hb.mono HBB4.out.size))
    clear hb c5
    have p5 : ¬ 9223372036854775807 < 1 + (str da).size := by rw [str_size]; omega
    have p5' : ¬ 9223372036854775807 < (⟨#[32]⟩ : ByteArray).size + (str da).size := by rw [str_size]; show ¬ _ < 1 + _; omega
    have q5 := sp_app da
    have r5 : ¬ 9223372036854775807 < (str v4).size + (str (32 :: da)).size := by rw [str_size, str_size, List.length_cons]; omega
    obtain ⟨v5, hv5⟩ : ∃ v, v = v4 ++ 32 :: da := ⟨_, rfl⟩
    have s5 : str v4 ++ str (32 :: da) = str v5 := by rw [hv5]; exact str_app _ _
    have l5 : v5.length ≤ 115 := by rw [hv5, List.length_append, List.length_cons]; omega
    have HV5 := Lib.hid hv5
    clear hv5
    go_wp2_with fail
    go_ret
    exact ⟨by rw [HTX.out, HV5.out, HV4.out]; simp [joinT], HBB5.out⟩
  · have c4 := HC3.out.2.1
    go_wp2_with fail
    refine Calls.mono (HF32.out W3 HG3.out) ?_
    rintro _ W4 ⟨rfl, hb⟩
    have HC4 := Lib.hid (HC3.out.below hb HL3.out)
    have HG4 := Lib.hid (HG3.out.below hb)
    have HL4 : Hid (b0 < W4.heap.size) := Lib.hid (Nat.lt_of_lt_of_le HL3.out hb.size)
    have HBB4 := Lib.hid (HBB3.out.trans (hb.mono HBB3.out.size))
    clear hb c4
    have p4 : ¬ 9223372036854775807 < 1 + (str di).size := by rw [str_size]; omega
    have p4' : ¬ 9223372036854775807 < (⟨#[32]⟩ : ByteArray).size + (str di).size := by rw [str_size]; show ¬ _ < 1 + _; omega
    have q4 := sp_app di
    have r4 : ¬ 9223372036854775807 < (str wk).size + (str (32 :: di)).size := by rw [str_size, str_size, List.length_cons]; omega
    obtain ⟨v4, hv4⟩ : ∃ v, v = wk ++ 32 :: di := ⟨_, rfl⟩
    have s4 : str wk ++ str (32 :: di) = str v4 := by rw [hv4]; exact str_app _ _
    have l4 : v4.length ≤ 18 := by rw [hv4, List.length_append, List.length_cons]; omega
    have HV4 := Lib.hid hv4
    clear hv4
    go_wp2_with fail
    go_ret
    exact ⟨by rw [HTX.out, HV4.out]; simp [joinT], HBB4.out⟩
  · have c4 := HC3.out.2.1
    go_wp2_with fail
    refine Calls.mono (HF32.out W3 HG3.out) ?_
    rintro _ W4 ⟨rfl, hb⟩
    have HC4 := Lib.hid (HC3.out.below hb HL3.out)
    have HG4 := Lib.hid (HG3.out.below hb)
    have HL4 : Hid (b0 < W4.heap.size) := Lib.hid (Nat.lt_of_lt_of_le HL3.out hb.size)
    have HBB4 := Lib.hid (HBB3.out.trans (hb.mono HBB3.out.size))
    clear hb c4
    have p4 : ¬ 9223372036854775807 < 1 + (str di).size := by rw [str_size]; omega
    have p4' : ¬ 9223372036854775807 < (⟨#[32]⟩ : ByteArray).size + (str di).size := by rw [str_size]; show ¬ _ < 1 + _; omega
    have q4 := sp_app di
    have r4 : ¬ 9223372036854775807 < (str wk).size + (str (32 :: di)).size := by rw [str_size, str_size, List.length_cons]; omega
    obtain ⟨v4, hv4⟩ : ∃ v, v = wk ++ 32 :: di := ⟨_, rfl⟩
    have s4 : str wk ++ str (32 :: di) = str v4 := by rw [hv4]; exact str_app _ _
    have l4 : v4.length ≤ 18 := by rw [hv4, List.length_append, List.length_cons]; omega
    have HV4 := Lib.hid hv4
    clear hv4
    have c5 := HC4.out.2.2.2
    go_wp2_with fail
    refine Calls.mono (HF34.out W4 HG4.out) ?_
    rintro _ W5 ⟨rfl, hb⟩
    have HC5 := Lib.hid (HC4.out.below hb HL4.out)
    have HG5 := Lib.hid (HG4.out.below hb)
    have HL5 : Hid (b0 < W5.heap.size) := Lib.hid (Nat.lt_of_lt_of_le HL4.out hb.size)
    have HBB5 := Lib.hid (HBB4.out.trans (hb.mono HBB4.out.size))
    clear hb c5
    have p5 : ¬ 9223372036854775807 < 1 + (str da).size := by rw [str_size]; omega
    have p5' : ¬ 9223372036854775807 < (⟨#[32]⟩ : ByteArray).size + (str da).size := by rw [str_size]; show ¬ _ < 1 + _; omega
    have q5 := sp_app da
    have r5 : ¬ 9223372036854775807 < (str v4).size + (str (32 :: da)).size := by rw [str_size, str_size, List.length_cons]; omega
    obtain ⟨v5, hv5⟩ : ∃ v, v = v4 ++ 32 :: da := ⟨_, rfl⟩
    have s5 : str v4 ++ str (32 :: da) = str v5 := by rw [hv5]; exact str_app _ _
    have l5 : v5.length ≤ 29 := by rw [hv5, List.length_append, List.length_cons]; omega
    have HV5 := Lib.hid hv5
    clear hv5
    go_wp2_with fail
    go_ret
    exact ⟨by rw [HTX.out, HV5.out, HV4.out]; simp [joinT], HBB5.out⟩
  · have c4 := HC3.out.2.1
    go_wp2_with fail
    refine Calls.mono (HF32.out W3 HG3.out) ?_
    rintro _ W4 ⟨rfl, hb⟩
    have HC4 := Lib.hid (HC3.out.below hb HL3.out)
    have HG4 := Lib.hid (HG3.out.below hb)
    have HL4 : Hid (b0 < W4.heap.size) := Lib.hid (Nat.lt_of_lt_of_le HL3.out hb.size)
    have HBB4 := Lib.hid (HBB3.out.trans (hb.mono HBB3.out.size))
    clear hb c4
    have p4 : ¬ 9223372036854775807 < 1 + (str di).size := by rw [str_size]; omega
    have p4' : ¬ 9223372036854775807 < (⟨#[32]⟩ : ByteArray).size + (str di).size := by rw [str_size]; show ¬ _ < 1 + _; omega
    have q4 := sp_app di
    have r4 : ¬ 9223372036854775807 < (str wk).size + (str (32 :: di)).size := by rw [str_size, str_size, List.length_cons]; omega
    obtain ⟨v4, hv4⟩ : ∃ v, v = wk ++ 32 :: di := ⟨_, rfl⟩
    have s4 : str wk ++ str (32 :: di) = str v4 := by rw [hv4]; exact str_app _ _
    have l4 : v4.length ≤ 18 := by rw [hv4, List.length_append, List.length_cons]; omega
    have HV4 := Lib.hid hv4
    clear hv4
    have c5 := HC4.out.2.2.1
    go_wp2_with fail
    refine Calls.mono (HF33.out W4) ?_
    rintro _ W5 ⟨rfl, hb⟩
    have HC5 := Lib.hid (HC4.out.below hb HL4.out)
    have HG5 := Lib.hid (HG4.out.below hb)
    have HL5 : Hid (b0 < W5.heap.size) := Lib.hid (Nat.lt_of_lt_of_le HL4.out hb.size)
    have HBB5 := Lib.hid (HBB4.out.trans (hb.mono HBB4.out.size))
    clear hb c5
    have p5 : ¬ 9223372036854775807 < 1 + (str hx).size := by rw [str_size]; omega
    have p5' : ¬ 9223372036854775807 < (⟨#[32]⟩ : ByteArray).size + (str hx).size := by rw [str_size]; show ¬ _ < 1 + _; omega
    have q5 := sp_app hx
    have r5 : ¬ 9223372036854775807 < (str v4).size + (str (32 :: hx)).size := by rw [str_size, str_size, List.length_cons]; omega
    obtain ⟨v5, hv5⟩ : ∃ v, v = v4 ++ 32 :: hx := ⟨_, rfl⟩
    have s5 : str v4 ++ str (32 :: hx) = str v5 := by rw [hv5]; exact str_app _ _
    have l5 : v5.length ≤ 115 := by rw [hv5, List.length_append, List.length_cons]; omega
    have HV5 := Lib.hid hv5
    clear hv5
    go_wp2_with fail
    go_ret
    exact ⟨by rw [HTX.out, HV5.out, HV4.out]; simp [joinT], HBB5.out⟩
  · have c4 := HC3.out.2.1
    go_wp2_with fail
    refine Calls.mono (HF32.out W3 HG3.out) ?_
    rintro _ W4 ⟨rfl, hb⟩
    have HC4 := Lib.hid (HC3.out.below hb HL3.out)
    have HG4 := Lib.hid (HG3.out.below hb)
    have HL4 : Hid (b0 < W4.heap.size) := Lib.hid (Nat.lt_of_lt_of_le HL3.out hb.size)
    have HBB4 := Lib.hid (HBB3.out.trans (hb.mono HBB3.out.size))
    clear hb c4
    have p4 : ¬ 9223372036854775807 < 1 + (str di).size := by rw [str_size]; omega
    have p4' : ¬ 9223372036854775807 < (⟨#[32]⟩ : ByteArray).size + (str di).size := by rw [str_size]; show ¬ _ < 1 + _; omega
    have q4 := sp_app di
    have r4 : ¬ 9223372036854775807 < (str wk).size + (str (32 :: di)).size := by rw [str_size, str_size, List.length_cons]; omega
    obtain ⟨v4, hv4⟩ : ∃ v, v = wk ++ 32 :: di := ⟨_, rfl⟩
    have s4 : str wk ++ str (32 :: di) = str v4 := by rw [hv4]; exact str_app _ _
    have l4 : v4.length ≤ 18 := by rw [hv4, List.length_append, List.length_cons]; omega
    have HV4 := Lib.hid hv4
    clear hv4
    have c5 := HC4.out.2.2.1
    go_wp2_with fail
    refine Calls.mono (HF33.out W4) ?_
    rintro _ W5 ⟨rfl, hb⟩
    have HC5 := Lib.hid (HC4.out.below hb HL4.out)
    have HG5 := Lib.hid (HG4.out.below hb)
    have HL5 : Hid (b0 < W5.heap.size) := Lib.hid (Nat.lt_of_lt_of_le HL4.out hb.size)
    have HBB5 := Lib.hid (HBB4.out.trans (hb.mono HBB4.out.size))
    clear hb c5
    have p5 : ¬ 9223372036854775807 < 1 + (str hx).size := by rw [str_size]; omega
    have p5' : ¬ 9223372036854775807 < (⟨#[32]⟩ : ByteArray).size + (str hx).size := by rw [str_size]; show ¬ _ < 1 + _; omega
    have q5 := sp_app hx
    have r5 : ¬ 9223372036854775807 < (str v4).size + (str (32 :: hx)).size := by rw [str_size, str_size, List.length_cons]; omega
    obtain ⟨v5, hv5⟩ : ∃ v, v = v4 ++ 32 :: hx := ⟨_, rfl⟩
    have s5 : str v4 ++ str (32 :: hx) = str v5 := by rw [hv5]; exact str_app _ _
    have l5 : v5.length ≤ 115 := by rw [hv5, List.length_append, List.length_cons]; omega
    have HV5 := Lib.hid hv5
    clear hv5
    have c6 := HC5.out.2.2.2
    go_wp2_with fail
    refine Calls.mono (HF34.out W5 HG5.out) ?_
    rintro _ W6 ⟨rfl, hb⟩
    have HC6 := Lib.hid (HC5.out.below hb HL5.out)
    have HG6 := Lib.hid (HG5.out.below hb)
    have HL6 : Hid (b0 < W6.heap.size) := Lib.hid (Nat.lt_of_lt_of_le HL5.out hb.size)
    have HBB6 := Lib.hid (HBB5.out.trans (hb.mono HBB5.out.size))
    clear hb c6
    have p6 : ¬ 9223372036854775807 < 1 + (str da).size := by rw [str_size]; omega
    have p6' : ¬ 9223372036854775807 < (⟨#[32]⟩ : ByteArray).size + (str da).size := by rw [str_size]; show ¬ _ < 1 + _; omega
    have q6 := sp_app da
    have r6 : ¬ 9223372036854775807 < (str v5).size + (str (32 :: da)).size := by rw [str_size, str_size, List.length_cons]; omega
    obtain ⟨v6, hv6⟩ : ∃ v, v = v5 ++ 32 :: da := ⟨_, rfl⟩
    have s6 : str v5 ++ str (32 :: da) = str v6 := by rw [hv6]; exact str_app _ _
    have l6 : v6.length ≤ 126 := by rw [hv6, List.length_append, List.length_cons]; omega
    have HV6 := Lib.hid hv6
    clear hv6
    go_wp2_with fail
    go_ret
    exact ⟨by rw [HTX.out, HV6.out, HV5.out, HV4.out]; simp [joinT], HBB6.out⟩
theorem text9 (f : Fd) (w : World) (hg : Gw w) (hi : f.id < 4294967296) (ha : f.at_ < 4294967296) : Calls Tryz.prog 9 #[.agg (fdV f)] w fun e w' => e = .returned (.string (str (if mayP f then textL f else []))) ∧ Below w.heap.size w w' := by
  by_cases h : mayP f
  · rw [if_pos h]
    exact text9_yes f.k f.id f.nm f.at_ w hg hi ha h
  · rw [if_neg h]
    exact text9_no f.k f.id f.nm f.at_ w h
end Go.Proofs.YtocfhldmnbmapaaGreatDoor
