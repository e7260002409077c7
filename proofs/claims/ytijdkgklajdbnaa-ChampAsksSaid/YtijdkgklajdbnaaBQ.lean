/- The walk over ChampAsks. -/
import Derived.Test.YtijdkgklajdbnaaBP
import Derived.Test.YtijdkgklajdbnaaBO
namespace Go.Proofs.Ytijdkgklajdbnaa
open Go.RowKit
theorem eg22 : ∀ args w, (callFunc 22 args).run Try.prog w = .ok (.enter 22 args) w := enters_of Try.func22 (by kernel_rfl) rfl
theorem AskW.lt {W0 W : World} {done : List Fp} {v : Value} {b : Nat} (h : AskW W0 done v W) (ht : AskT W0 W b) : b < W.heap.size := by
  have hlt : W0.heap.size < W.heap.size := (Array.getElem?_eq_some_iff.1 h.box).1
  rcases ht with ht | ⟨v', h1, h2⟩
  · omega
  · obtain rfl := box_one h.box h1
    exact (h.row.lt b h2).2
theorem look22 {W0 : World} {hs : List Fp} {ls : List Lst} {A B : Option Addr} {c d g1 g2 : Nat} (h : LawSt W0 hs ls A B c d g1 g2) :
    Look 22 #[.pointer (some ⟨W0.heap.size, 0, none⟩), .pointer (some ⟨g1, 0, none⟩), .pointer (some ⟨g2, 0, none⟩)] (fun x => (listG hs ls x).l) (fun done W => ∃ v, AskW W0 done v W) (AskT W0) where
  lt done W b hi ht := by
    obtain ⟨v, hv⟩ := hi
    exact hv.lt ht
  keep done W W' row hi hg hr := by
    obtain ⟨v, hv⟩ := hi
    exact ⟨⟨v, (hv.keep hg hr).1⟩, (hv.keep hg hr).2⟩
  call done x W hd hi hx := by
    obtain ⟨v, hv⟩ := hi
    refine (closure22 h hv hx hd).mono ?_
    rintro e W' ⟨he, ⟨v', hv', hat⟩, h1, h2, h3, h4, h5⟩
    have hg := h.got x hv'.below
    refine ⟨listG hs ls x, he, rfl, hg.1, hg.2.1, hg.2.2, ⟨v', hv'⟩, ⟨h1, h2, h3, h4, fun b hb ht => h5 b hb (fun e => ht (.inl (by omega))) (fun e => ht (.inr ⟨v, hv.box, e⟩)), fun b ht => ?_⟩⟩
    rcases ht with ht | ⟨v2, q1, q2⟩
    · exact .inl (.inl ht)
    · obtain rfl := box_one hv'.box q1
      rcases hat with e | ⟨b', e, hb'⟩
      · exact .inl (.inr ⟨v, hv.box, by rw [← e]; exact q2⟩)
      · rw [e] at q2
        cases q2
        exact .inr hb'
  eg := eg22
theorem asked22 {W0 w : World} {hs : List Fp} {ls : List Lst} {A B : Option Addr} {c d g1 g2 : Nat} (h : LawSt W0 hs ls A B c d g1 g2) (hw : ∃ v, AskW W0 [] v w) :
    Asked A hs.length c (.func (.func 22) #[] #[.pointer (some ⟨W0.heap.size, 0, none⟩), .pointer (some ⟨g1, 0, none⟩), .pointer (some ⟨g2, 0, none⟩)]) w (askP (ids (toldL hs ls))) (fun W => ∃ v, AskW W0 (setF hs) v W) := by
  have hb : Below W0.heap.size W0 w := by
    obtain ⟨v, hv⟩ := hw
    exact hv.below
  refine (ask29 (look22 h) hw (h.fps.below hb) h.all (by have := h.n1; omega) h.aok).mono ?_
  rintro e w' ⟨B', d', vs, he, hids, hrow, hin, h12, hinv, _⟩
  exact ⟨B', d', vs, he, by rw [hids, askI_told], hrow, hin, h12, hinv⟩
theorem ask_ok (W0 : World) (done : List Fp) : BelowOk (fun W => ∃ v, AskW W0 done v W) := fun _ _ h hb => by
  obtain ⟨v, hv⟩ := h
  exact ⟨v, (hv.keep (grown_of_below hb) (fun b e => by cases e)).1⟩
set_option maxRecDepth 100000 in
set_option maxHeartbeats 4000000 in
theorem asks6 {A B : Option Addr} {c d : Nat} {hs : List Fp} {ls : List Lst} {most : Int} {w : World} (h : Fps w A hs) (hl : Ls w B ls) (ha : AllFp hs) (hlo : ∀ x ∈ ls, AOkc x) (hid : ∀ x ∈ ls, ∀ y ∈ x.l, IdOk y) :
    Calls Try.prog 6 #[.slice A hs.length c, .slice B ls.length d, .int .i64 most] w fun e w' => e = .returned (.bool true) ∧ Below w.heap.size w w' := by
  have HC := Lib.hid (few9 (c := c) (d := d) h hl ha hlo)
  have HA := Lib.hid ha
  have HID := Lib.hid hid
  clear h hl ha hlo hid
  go_enter Try.func6, Try.ntmps6
  go_wp2_with fail
  refine Calls.mono HC.out ?_
  intro e w1 hp
  obtain ⟨XA, Xc, VA, Vc, F, vs, rfl, hlaw, hbw⟩ := few_law hp HA.out HID.out
  have HL := Lib.hid hlaw
  have HBW := Lib.hid hbw
  clear hp hlaw hbw HC HA HID
  go_upto_region 2 with fail
  have hg2 : w1.heap.size + 1 = w1.heap.size + 1 := rfl
  generalize (w1.alloc (.cells #[.slice XA F.length Xc] 22)).alloc (.cells #[.slice VA vs.length Vc] 23) = W0 at *
  generalize w1.heap.size = g1 at *
  clear hg2
  have HCS : Hid (∀ W, Below W0.heap.size W0 W → W.cell? ⟨g1, 0, none⟩ = some (.slice XA F.length Xc) ∧ W.cell? ⟨g1 + 1, 0, none⟩ = some (.slice VA vs.length Vc)) := Lib.hid (fun W hW => HL.out.cells hW)
  obtain ⟨c1, c2⟩ := HCS.out (W0.alloc (.cells #[.slice none 0 0] 22)) ((Below.refl _ _).alloc (Nat.le_refl _) _)
  have HC18 : Hid (Calls Try.prog 18 #[.slice XA F.length Xc, .func (.func 22) #[] #[.pointer (some ⟨W0.heap.size, 0, none⟩), .pointer (some ⟨g1, 0, none⟩), .pointer (some ⟨g1 + 1, 0, none⟩)], .int .i64 most] (W0.alloc (.cells #[.slice none 0 0] 22)) fun e w' => ∃ v u, e = .returned v ∧ AskW W0 (setF F) u w') := Lib.hid (by
    have h0 : AskW W0 [] (.slice none 0 0) (W0.alloc (.cells #[.slice none 0 0] 22)) := ⟨(Below.refl _ _).alloc (Nat.le_refl _) _, heap_alloc_new _ _, World.ownsRow_nil _ _ _ _⟩
    refine (choose18 (most := most) (of := allN (ids (toldL F vs))) (asked22 HL.out ⟨_, h0⟩) (ask_ok W0 (setF F)) HL.out.told.2 (by rw [askP, List.length_map]; exact HL.out.told.1) (fun x hx => allN_ask hx)).mono ?_
    rintro e w' ⟨C, q, he, _, _, u, hu⟩
    exact ⟨_, u, he, hu⟩)
  go_wp2_with fail
  refine Calls.mono HC18.out ?_
  rintro e w2 ⟨v, u, rfl, hu⟩
  obtain ⟨UA, UC, rfl⟩ := own_slice hu.row
  have HU := Lib.hid hu
  have HB2 : Hid (Below W0.heap.size W0 w2) := Lib.hid hu.below
  have hlt : w2.cell? ⟨W0.heap.size, 0, none⟩ = some (.slice UA (setF F).length UC) := by
    unfold World.cell?
    rw [hu.box]
    rfl
  have HCT : Hid (∀ W, Below w2.heap.size w2 W → W.cell? ⟨W0.heap.size, 0, none⟩ = some (.slice UA (setF F).length UC) ∧ W.cell? ⟨g1, 0, none⟩ = some (.slice XA F.length Xc)) := Lib.hid (fun W hW => ⟨(hW.cell (p := ⟨W0.heap.size, 0, none⟩) (World.block_lt_of_cell? w2 _ hlt)).trans hlt, (HL.out.cells (HB2.out.trans (hW.mono HB2.out.size))).1⟩)
  have HC24 : Hid (∀ W, Below w2.heap.size w2 W → Calls Try.prog 24 #[.slice XA F.length Xc] W fun e w' => ∃ B d, e = .returned (.slice B (setF F).length d) ∧ Fps w' B (setF F) ∧ Below w2.heap.size w2 w') := Lib.hid (fun W hW => by
    refine (rset24 (c := Xc) (HL.out.fps.below (HB2.out.trans (hW.mono HB2.out.size))) HL.out.all (by have := HL.out.n1; omega)).mono ?_
    rintro e w' ⟨B, d, he, hf, _, _, hb⟩
    exact ⟨B, d, he, hf, hW.trans (hb.mono hW.size)⟩)
  have HC23 : Hid (∀ W B d, Below w2.heap.size w2 W → Fps W B (setF F) → Calls Try.prog 23 #[.slice UA (setF F).length UC, .slice B (setF F).length d] W fun e w' => e = .returned (.bool true) ∧ Below w2.heap.size w2 w') := Lib.hid (fun W B d hW hB => by
    have hs := setF_fp HL.out.all
    have hq := same23 (c := UC) (d := d) ((row_own HU.out.row : Fps w2 UA (setF F)).below hW) hB hs hs (by have := setF_len F; have := HL.out.n1; omega)
    rw [decide_eq_true rfl] at hq
    exact hq.mono (fun e w' ⟨h1, q, h2⟩ => ⟨h1, by rw [h2]; exact below_drewN hW q⟩))
  have HR0 : Hid (Below w2.heap.size w2 w2.drew) := Lib.hid (below_drew (Below.refl _ _))
  generalize (setF F).length = SN at *
  clear hlt hu
  go_wp2_with fail
  refine wp_region_held_drew (S := (fun W => W.cell? ⟨W0.heap.size, 0, none⟩ = some (.slice UA SN UC) ∧ W.cell? ⟨g1, 0, none⟩ = some (.slice XA F.length Xc))) (by kernel_rfl) ?_ (fun hSx => ?_)
  · exact HCT.out _ HR0.out
  refine wpAnyH_take (i := 0) (oi := ⟨some 20, _, _, _, _, none⟩) (v := ?_) rfl (by kernel_rfl) (by kernel_rfl) (by kernel_rfl) (fun _ _ _ h => h) (Or.inl ⟨by kernel_rfl, ?_⟩) hSx ?_
  rotate_left 1
  focus (intro wx hSw; obtain ⟨s0, s1⟩ := hSw; go_simp; first | done | with_reducible rfl)
  try simp only [Act.put, List.setIfInBounds_toArray, List.set_cons_zero, List.set_cons_succ]
  refine wpAnyH_take (i := 1) (oi := ⟨some 21, _, _, _, _, none⟩) (v := ?_) rfl (by kernel_rfl) (by kernel_rfl) (by kernel_rfl) (fun _ _ _ h => h) (Or.inl ⟨by kernel_rfl, ?_⟩) hSx ?_
  rotate_left 1
  focus (intro wx hSw; obtain ⟨s0, s1⟩ := hSw; go_simp; first | done | with_reducible rfl)
  try simp only [Act.put, List.setIfInBounds_toArray, List.set_cons_zero, List.set_cons_succ]
  refine wpAnyH_ready (rs := [2]) (by kernel_rfl) (by simp) ?_
  refine AllReadyH.cons (o := ⟨some 22, _, _, _, _, none⟩) rfl (fun KK hKK => ?_) AllReadyH.nil
  go_simp
  with_reducible refine Calls.mono (HC24.out _ HR0.out) ?_
  rintro e z1 ⟨SB, sd, rfl, hsf, hq⟩
  have HR1 := Lib.hid hq
  have HSF := Lib.hid hsf
  clear hq hsf
  refine hKK.out _ _ (HCT.out _ HR1.out) (fun hSy => ?_)
  clear hKK hSx
  have hSx := hSy
  clear hSy KK
  try simp only [Act.put, List.setIfInBounds_toArray, List.set_cons_zero, List.set_cons_succ]
  refine wpAnyH_ready (rs := [3]) (by kernel_rfl) (by simp) ?_
  refine AllReadyH.cons (o := ⟨some 23, _, _, _, _, none⟩) rfl (fun KK hKK => ?_) AllReadyH.nil
  go_simp
  with_reducible refine Calls.mono (HC23.out _ _ _ HR1.out HSF.out) ?_
  rintro e z2 ⟨rfl, hq⟩
  have HR2 := Lib.hid hq
  clear hq
  refine hKK.out _ _ (HCT.out _ HR2.out) (fun hSy => ?_)
  clear hKK hSx
  have hSx := hSy
  clear hSy KK
  try simp only [Act.put, List.setIfInBounds_toArray, List.set_cons_zero, List.set_cons_succ]
  refine wpAnyH_take (i := 4) (oi := ⟨some 24, _, _, _, _, none⟩) (v := ?_) rfl (by kernel_rfl) (by kernel_rfl) (by kernel_rfl) (fun _ _ _ h => h) (Or.inl ⟨by kernel_rfl, ?_⟩) hSx ?_
  rotate_left 1
  focus (intro wx hSw; obtain ⟨s0, s1⟩ := hSw; go_simp; first | done | with_reducible rfl)
  try simp only [Act.put, List.setIfInBounds_toArray, List.set_cons_zero, List.set_cons_succ]
  refine wpAnyH_ready (rs := [5]) (by kernel_rfl) (by simp) ?_
  refine AllReadyH.cons (o := ⟨some 25, _, _, _, _, some (4, true)⟩) rfl (fun KK hKK => ?_) AllReadyH.nil
  go_simp
  with_reducible refine Calls.mono (awakeW HR2.out) ?_
  rintro e z3 ⟨rfl, hq⟩
  have HR3 := Lib.hid hq
  clear hq
  refine hKK.out _ _ (HCT.out _ HR3.out) (fun hSy => ?_)
  clear hKK hSx
  have hSx := hSy
  clear hSy KK
  try simp only [Act.put, List.setIfInBounds_toArray, List.set_cons_zero, List.set_cons_succ]
  refine wpAnyH_take (i := 6) (oi := ⟨some 26, _, _, _, _, none⟩) (v := ?_) rfl (by kernel_rfl) (by kernel_rfl) (by kernel_rfl) (fun _ _ _ h => h) (Or.inl ⟨by kernel_rfl, ?_⟩) hSx ?_
  rotate_left 1
  focus (intro wx hSw; obtain ⟨s0, s1⟩ := hSw; go_simp; first | done | with_reducible rfl)
  try simp only [Act.put, List.setIfInBounds_toArray, List.set_cons_zero, List.set_cons_succ]
  refine wpAnyH_take (i := 7) (oi := ⟨some 6, _, _, _, _, none⟩) (v := ?_) rfl (by kernel_rfl) (by kernel_rfl) (by kernel_rfl) (fun _ _ _ h => h) (Or.inl ⟨by kernel_rfl, ?_⟩) hSx ?_
  rotate_left 1
  focus (intro wx hSw; obtain ⟨s0, s1⟩ := hSw; go_simp; first | done | with_reducible rfl)
  try simp only [Act.put, List.setIfInBounds_toArray, List.set_cons_zero, List.set_cons_succ]
  refine wpAnyH_done (by kernel_rfl) ?_ _
  go_wp2_with fail
  go_ret
  exact ⟨rfl, HBW.out.trans ((HB2.out.trans (HR3.out.mono HB2.out.size)).mono HBW.out.size)⟩
end Go.Proofs.Ytijdkgklajdbnaa
