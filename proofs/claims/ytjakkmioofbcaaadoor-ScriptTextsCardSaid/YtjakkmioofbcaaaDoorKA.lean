/- The walks over Text, the reference's Text, Calls; the plain law of Text; few once more. -/
import Derived.Test.YtjakkmioofbcaaaDoorJ11
import Derived.Laws.IdiomStrings
import Derived.Deep.Cut
namespace Go.Proofs.YtjakkmioofbcaaaDoor
open Go.RowKit
def textL (a b : Int) (c : Fin 13 → Int) (l : List St) : List UInt8 := headL a b c ++ [10] ++ l.flatMap fun s => lineL s ++ [10]
def textV (a b : Int) (c : Fin 13 → Int) (l : List St) : Value := if goodB a b c l = true then .tuple #[.string (str (textL a b c l)), .int .i64 0] else .tuple #[.string ⟨#[]⟩, .int .i64 1]
theorem builder_below {T e : TypeId} {B b : Nat} {bs : List Value} {w w' : World} (h : Lib.IsBuilder T e B b bs w) (hb : Below w.heap.size w w') : Lib.IsBuilder T e B b bs w' := by
  have key : ∀ p, Lib.BuilderAt T e B b p bs w → Lib.BuilderAt T e B b p bs w' := by
    rintro p ⟨h1, v, h2, h3, h4⟩
    exact ⟨h1, v, (hb.block _ (Array.getElem?_eq_some_iff.1 h2).1).trans h2, own_below h3 hb, h4⟩
  exact h.elim (fun h => .inl (key _ h)) (fun h => .inr (key _ h))
theorem str_cells (l : List UInt8) : Lib.strCells (str l) = bytesV l := by simp [Lib.strCells, bytesV, str]
theorem good_iff (a b : Int) (c : Fin 13 → Int) (l : List St) : goodB a b c l = true ↔ HeadOk a b c ∧ ∀ s ∈ l, mayB s = true := by
  unfold goodB HeadOk
  rw [Bool.and_eq_true, Bool.and_eq_true, fit_iff, small_iff, List.all_eq_true]
  exact ⟨fun h => ⟨⟨h.1.1.1, h.1.1.2, h.1.2⟩, h.2⟩, fun h => ⟨⟨⟨h.1.1, h.1.2.1⟩, h.1.2.2⟩, h.2⟩⟩
theorem text_snoc (a b : Int) (c : Fin 13 → Int) (l : List St) (k : Nat) (s : St) (h : l[k]? = some s) : textL a b c (l.take (k + 1)) = textL a b c (l.take k) ++ (lineL s ++ [10]) := by
  rw [textL, textL, List.take_add_one, h]
  simp
theorem text_le (a b : Int) (c : Fin 13 → Int) (l : List St) (k : Nat) : (textL a b c (l.take k)).length ≤ (textL a b c l).length := by
  conv => rhs; rw [← List.take_append_drop k l]
  unfold textL
  rw [List.flatMap_append]
  simp
set_option maxRecDepth 100000 in
set_option maxHeartbeats 8000000 in
theorem text12 (a b : Int) (c : Fin 13 → Int) (V : Value) (l : List St) (w : World) (hs : Sts w V l) (hf : ∀ s ∈ l, Fits s) (hl : l.length ≤ 1000) (ht : goodB a b c l = true → (textL a b c l).length ≤ 1000000) :
    Calls Tryd.prog 12 #[.agg (scL a b c V).toArray] w fun e w' => e = .returned (textV a b c l) ∧ Below w.heap.size w w' := by
  obtain ⟨A, cp, rfl⟩ := hs.1
  have HST := Lib.hid hs
  have HFT := Lib.hid hf
  have HTKG : Hid (goodB a b c l = true → ∀ k, (textL a b c (l.take k)).length ≤ 1000000) := Lib.hid (fun hg k => Nat.le_trans (text_le a b c l k) (ht hg))
  have HGI := Lib.hid (good_iff a b c l)
  have HTV : Hid (textV a b c l = if goodB a b c l = true then .tuple #[.string (str (textL a b c l)), .int .i64 0] else .tuple #[.string ⟨#[]⟩, .int .i64 1]) := Lib.hid rfl
  have HT0 : Hid (textL a b c (l.take 0) = headL a b c ++ [10]) := Lib.hid (by simp [textL])
  have HTS := Lib.hid (text_snoc a b c l)
  have HTN : Hid (textL a b c (l.take l.length) = textL a b c l) := Lib.hid (by rw [List.take_length])
  have HSM : Hid (∀ W, Calls Tryd.prog 27 #[.agg (cfL c).toArray] W fun e w' => e = .returned (.bool (smallB c)) ∧ Below W.heap.size W w') := Lib.hid (fun W => small24 c W)
  have HHD : Hid (HeadOk a b c → ∀ W, Calls Tryd.prog 30 #[.agg (scL a b c (.slice A l.length cp)).toArray] W fun e w' => e = .returned (.string (str (headL a b c))) ∧ Below W.heap.size W w') := Lib.hid (fun h W => head30 a b c _ W h)
  obtain ⟨SS, hSS⟩ : ∃ SS, BoxS w 26 (scL a b c (.slice A l.length cp)) = SS := ⟨_, rfl⟩
  have HF : Hid (∀ W, SS W → W.cell? ⟨w.heap.size, 0, none⟩ = some (.int .i64 a) ∧ W.cell? ⟨w.heap.size, 1, none⟩ = some (.int .i64 b) ∧ W.cell? ⟨w.heap.size, 15, none⟩ = some (.slice A l.length cp) ∧ W.rangeAt w.heap.size 2 (cfL c) ∧ W.rangeAt w.heap.size 0 (scL a b c (.slice A l.length cp))) := Lib.hid (fun W hW => by rw [← hSS] at hW; exact hW.facts)
  have HSA : Hid (∀ W W', SS W → Below W.heap.size W W' → SS W') := Lib.hid (fun W W' hW hb => by rw [← hSS] at hW ⊢; exact hW.below hb)
  have HSB : Hid (∀ W, SS W → Below w.heap.size w W ∧ w.heap.size < W.heap.size) := Lib.hid (fun W hW => by rw [← hSS] at hW; exact ⟨hW.base, hW.size⟩)
  have HS0 : Hid (SS (w.alloc (.cells (scL a b c (.slice A l.length cp)).toArray 26))) := Lib.hid (by rw [← hSS]; exact BoxS.first)
  have HSX : Hid (∀ W B W', SS W → w.heap.size < B → Below B W W' → SS W') := Lib.hid (fun W B W' hW hB hb => by rw [← hSS] at hW ⊢; exact ⟨hW.bw.trans (hb.mono hB)⟩)
  have HIC : Hid ((Tryd.prog.info? 23).map (·.size) = some (cfL c).length) := Lib.hid info28
  have HISL : Hid ((Tryd.prog.info? 26).map (·.size) = some (scL a b c (.slice A l.length cp)).length) := Lib.hid info26
  obtain ⟨f0, f1, f2, f3, f4⟩ := HF.out _ HS0.out
  have HR3 := Lib.hid f3
  clear hSS hs hf f3 f4 ht
  generalize scL a b c (.slice A l.length cp) = SL at *
  generalize cfL c = CL at *
  by_cases h1 : 2147483647 < max a b
  case pos =>
    have hng : ¬ goodB a b c l = true := fun h => by have := (HGI.out.1 h).1; have h2 := this.1; have h3 := this.2.1; omega
    have HE : Hid (textV a b c l = .tuple #[.string ⟨#[]⟩, .int .i64 1]) := Lib.hid (by rw [HTV.out, if_neg hng])
    rw [HE.out]
    have d1 : decide (2147483647 < max a b) = true := by simpa using h1
    clear hng h1
    go_enter Tryd.func12, Tryd.ntmps12
    go_wp2_with fail
    go_ret2
    exact ⟨rfl, (HSB.out _ HS0.out).1⟩
  have d1 : decide (2147483647 < max a b) = false := by simpa using h1
  by_cases h2 : min a b < 0
  case pos =>
    have hng : ¬ goodB a b c l = true := fun h => by have := (HGI.out.1 h).1; have h2 := this.1; have h3 := this.2.1; omega
    have HE : Hid (textV a b c l = .tuple #[.string ⟨#[]⟩, .int .i64 1]) := Lib.hid (by rw [HTV.out, if_neg hng])
    rw [HE.out]
    have d2 : decide (min a b < 0) = true := by simpa using h2
    clear hng h1 h2
    go_enter Tryd.func12, Tryd.ntmps12
    go_wp2_with fail
    go_ret2
    exact ⟨rfl, (HSB.out _ HS0.out).1⟩
  have d2 : decide (min a b < 0) = false := by simpa using h2
  have HAB : Hid ((0 ≤ a ∧ a ≤ 2147483647) ∧ (0 ≤ b ∧ b ≤ 2147483647)) := Lib.hid (by omega)
  clear h1 h2
  cases h3 : smallB c
  case false =>
    have hng : ¬ goodB a b c l = true := fun h => by have := (small_iff c).2 (HGI.out.1 h).1.2.2; rw [h3] at this; cases this
    have HE : Hid (textV a b c l = .tuple #[.string ⟨#[]⟩, .int .i64 1]) := Lib.hid (by rw [HTV.out, if_neg hng])
    rw [h3] at HSM
    rw [HE.out]
    clear hng h3
    go_enter Tryd.func12, Tryd.ntmps12
    go_wp2_with (first
      | ((with_reducible refine wpList_load_midg (op := ⟨some 26, _, _, _, _, _⟩) ?_ 23 (.tmp 25) rfl w.heap.size 2 ?_ CL _ HR3.out Tryd.underlying23 rfl HIC.out ?_); kernel_rfl; rfl)
      | (go_at_call 27; (with_reducible refine (HSM.out _).mono ?_); rintro e w3 ⟨rfl, hb3⟩; have HS3 := Lib.hid (HSA.out _ _ HS0.out hb3); clear hb3))
    go_ret2
    exact ⟨rfl, (HSB.out _ HS3.out).1⟩
  have HHO : Hid (HeadOk a b c) := Lib.hid ⟨HAB.out.1, HAB.out.2, (small_iff c).1 h3⟩
  rw [h3] at HSM
  clear h3
  have HHH := Lib.hid (HHD.out HHO.out)
  have HHL : Hid ((headL a b c).length ≤ 200000) := Lib.hid (by
    obtain ⟨g1, g2, g3⟩ := HHO.out
    have k1 := digs_len10 a.toNat (by omega)
    have k2 := digs_len10 b.toNat (by omega)
    have k3 := setL_small c g3
    simp [headL, storeW]
    omega)
  go_enter Tryd.func12, Tryd.ntmps12
  go_wp2_with (first
    | ((with_reducible refine wpList_load_midg (op := ⟨some 26, _, _, _, _, _⟩) ?_ 23 (.tmp 25) rfl w.heap.size 2 ?_ CL _ HR3.out Tryd.underlying23 rfl HIC.out ?_); kernel_rfl; rfl)
    | (go_at_call 27; (with_reducible refine (HSM.out _).mono ?_); rintro e w3 ⟨rfl, hb3⟩; have HS3 := Lib.hid (HSA.out _ _ HS0.out hb3); obtain ⟨_, _, p15, _⟩ := HF.out _ HS3.out; clear hb3))
  clear f0 f1 f2 d1 d2 p15
  go_loopg [33] l.length (fun gk i wr => ∃ k : Nat, k ≤ l.length ∧ gk = l.length - k ∧ i = .int .i64 k ∧ SS wr ∧ (l.take k).all mayB = true)
  case atStart => exact ⟨0, Nat.zero_le _, rfl, rfl, HS3.out, rfl⟩
  case round =>
    obtain ⟨k, hk, hgk, rfl, hss, hall⟩ := hrel
    have HK := Lib.hid hgk
    have HSR := Lib.hid hss
    have HAL := Lib.hid hall
    have hkI : (k : Int) ≤ 1000 := by omega
    clear hgk hss hall
    by_cases hlt : k < l.length
    · obtain ⟨b1, o1, s, B, cap, rfl, hks, hmem, hr, hkp⟩ := (HST.out.below (HSB.out _ HSR.out).1).at hlt
      have HCK : Hid (∀ W, Below wr.heap.size wr W → Calls Tryd.prog 28 #[.agg (s.L (.slice B s.kp.length cap)).toArray] W fun e w' => e = .returned (.int .i64 (if mayB s then 0 else 1)) ∧ Below W.heap.size W w') := Lib.hid (fun W hb => check11 s B cap W (hkp.below hb) (HFT.out s hmem))
      have HI : Hid ((Tryd.prog.info? 44).map (·.size) = some (s.L (.slice B s.kp.length cap)).length) := Lib.hid info30
      have HI2 : Hid ((Tryd.prog.info? 44).map (·.size) = some (s.L (.slice B s.kp.length cap)).toArray.size) := Lib.hid info30
      have HZL : Hid ((#[.int .i64 0, .int .i64 0, .string ⟨#[]⟩, .string ⟨#[]⟩, .int .i64 0, .slice none 0 0, .int .i64 0, .int .i64 0, .int .i64 0, .int .i64 0, .int .i64 0, .int .i64 0, .int .i64 0, .int .i64 0, .int .i64 0, .int .i64 0, .int .i64 0, .int .i64 0, .int .i64 0] : Array Value).size = (s.L (.slice B s.kp.length cap)).toArray.size) := Lib.hid rfl
      have HOL : Hid ((s.L (.slice B s.kp.length cap)).toArray.all (·.oneCell') = true) := Lib.hid (stL_one _ _ _ _ _ _ _ _ _)
      have HR := Lib.hid hr
      have HKS := Lib.hid hks
      generalize s.L (.slice B s.kp.length cap) = M at *
      clear hr hkp hks
      have hk0 : (0 : Int) ≤ (k : Int) := by omega
      have hk1 : (k : Int) < (l.length : Int) := by omega
      have HR2 : Hid ((wr.alloc (.cells M.toArray 44)).rangeAt wr.heap.size 0 M) := Lib.hid (range_of_row (heap_alloc_new wr _))
      have HBA : Hid (Below wr.heap.size wr (wr.alloc (.cells M.toArray 44))) := Lib.hid ((Below.refl _ _).alloc (Nat.le_refl _) _)
      have HTA : Hid ((l.take (k + 1)).all mayB = mayB s) := Lib.hid (by rw [take_all HKS.out, HAL.out]; rfl)
      cases hms : mayB s
      · have hng : ¬ goodB a b c l = true := fun h => by have := (HGI.out.1 h).2 s hmem; rw [hms] at this; cases this
        have HE : Hid (textV a b c l = .tuple #[.string ⟨#[]⟩, .int .i64 1]) := Lib.hid (by rw [HTV.out, if_neg hng])
        rw [hms] at HCK
        have HCX : Hid (∀ W, Below wr.heap.size wr W → Calls Tryd.prog 28 #[.agg M.toArray] W fun e w' => e = .returned (.int .i64 1) ∧ Below W.heap.size W w') := Lib.hid HCK.out
        clear hms hng HCK
        go_wp2_with (first
          | ((with_reducible refine wpList_load_midg (op := ⟨some 36, _, _, _, _, _⟩) ?_ 44 (.tmp 35) rfl b1 (o1 + k * 19) ?_ M _ HR.out Tryd.underlying44 rfl HI.out ?_); kernel_rfl; rfl)
          | ((with_reducible refine wpList_store_new (op := ⟨none, _, _, _, _, _⟩) rfl 44 (.tmp 5) (.tmp 36) rfl wr.heap.size _ M.toArray rfl ?_ ?_ HI2.out HZL.out HOL.out ?_); rfl; rfl)
          | ((with_reducible refine wpList_load_midg (op := ⟨some 37, _, _, _, _, _⟩) ?_ 44 (.tmp 5) rfl wr.heap.size 0 ?_ M _ HR2.out Tryd.underlying44 rfl HI.out ?_); kernel_rfl; rfl)
          | (go_at_call 28; (with_reducible refine (HCX.out _ HBA.out).mono ?_); rintro e w6 ⟨rfl, hb6⟩; have HS6 := Lib.hid (HSA.out _ _ HSR.out (HBA.out.trans (hb6.mono HBA.out.size))); clear hb6))
        go_ret2
        exact ⟨by rw [HE.out]; rfl, (HSB.out _ HS6.out).1⟩
      · rw [hms] at HCK HTA
        have HCX : Hid (∀ W, Below wr.heap.size wr W → Calls Tryd.prog 28 #[.agg M.toArray] W fun e w' => e = .returned (.int .i64 0) ∧ Below W.heap.size W w') := Lib.hid HCK.out
        clear hms HCK
        go_wp2_with (first
          | ((with_reducible refine wpList_load_midg (op := ⟨some 36, _, _, _, _, _⟩) ?_ 44 (.tmp 35) rfl b1 (o1 + k * 19) ?_ M _ HR.out Tryd.underlying44 rfl HI.out ?_); kernel_rfl; rfl)
          | ((with_reducible refine wpList_store_new (op := ⟨none, _, _, _, _, _⟩) rfl 44 (.tmp 5) (.tmp 36) rfl wr.heap.size _ M.toArray rfl ?_ ?_ HI2.out HZL.out HOL.out ?_); rfl; rfl)
          | ((with_reducible refine wpList_load_midg (op := ⟨some 37, _, _, _, _, _⟩) ?_ 44 (.tmp 5) rfl wr.heap.size 0 ?_ M _ HR2.out Tryd.underlying44 rfl HI.out ?_); kernel_rfl; rfl)
          | (go_at_call 28; (with_reducible refine (HCX.out _ HBA.out).mono ?_); rintro e w6 ⟨rfl, hb6⟩; have HS6 := Lib.hid (HSA.out _ _ HSR.out (HBA.out.trans (hb6.mono HBA.out.size))); clear hb6))
        go_roundg (l.length - (k + 1))
        case measure => rw [HK.out]; omega
        case rel => exact ⟨k + 1, by omega, rfl, by go_num, HS6.out, HTA.out⟩
    · obtain rfl : k = l.length := by omega
      have HALL : Hid (∀ s ∈ l, mayB s = true) := Lib.hid (by have := HAL.out; rw [List.take_length, List.all_eq_true] at this; exact this)
      have HTK := Lib.hid (HTKG.out (HGI.out.2 ⟨HHO.out, HALL.out⟩))
      have HE : Hid (textV a b c l = .tuple #[.string (str (textL a b c l)), .int .i64 0]) := Lib.hid (by rw [HTV.out, if_pos (HGI.out.2 ⟨HHO.out, HALL.out⟩)])
      clear HAL HTV HGI HAB HSM HHD hkI
      obtain ⟨wo, rfl⟩ : ∃ wo : World, wo = wr := ⟨_, rfl⟩
      have HBD0 : Hid (Lib.IsBuilder 72 5 wo.heap.size wo.heap.size [] (wo.alloc (.cells #[.pointer none, .slice none 0 0] 72))) := Lib.hid (build_new wo)
      have HLTB : Hid (w.heap.size < wo.heap.size) := Lib.hid (HSB.out _ HSR.out).2
      have HSB1 : Hid (SS (wo.alloc (.cells #[.pointer none, .slice none 0 0] 72))) := Lib.hid (HSA.out _ _ HSR.out ((Below.refl _ _).alloc (Nat.le_refl _) _))
      have HSZB : Hid (wo.heap.size ≤ (wo.alloc (.cells #[.pointer none, .slice none 0 0] 72)).heap.size) := Lib.hid (by simp)
      have HR4 := Lib.hid (HF.out _ HSB1.out).2.2.2.2
      have HX1 : Hid (str (headL a b c) ++ (⟨#[10]⟩ : ByteArray) = str (textL a b c [])) := Lib.hid (by have := HT0.out; rw [List.take_zero] at this; rw [this]; exact str_append _ [10])
      have hx1 := HX1.out
      have hx2 : (str (headL a b c)).size + 1 ≤ 9223372036854775807 := by have := HHL.out; rw [str_size]; omega
      have hx3 : ¬ 9223372036854775807 < (str (headL a b c)).size + 1 := by omega
      have HTK0 := Lib.hid ((by have := HTK.out 0; rwa [List.take_zero] at this : (textL a b c []).length ≤ 1000000))
      generalize headL a b c = hd at *
      clear HX1
      go_wp2_with (first
        | ((with_reducible refine wpList_load_midg (op := ⟨some 43, _, _, _, _, _⟩) ?_ 26 (.tmp 1) rfl w.heap.size 0 ?_ SL _ HR4.out Tryd.underlying26 rfl HISL.out ?_); kernel_rfl; rfl)
        | (go_at_call 30; (with_reducible refine (HHH.out _).mono ?_); rintro e w7 ⟨rfl, hb7⟩; have HB7 := Lib.hid hb7; clear hb7))
      have HBD7 : Hid (Lib.IsBuilder 72 5 wo.heap.size wo.heap.size [] w7) := Lib.hid (builder_below HBD0.out HB7.out)
      have HS7 : Hid (SS w7) := Lib.hid (HSA.out _ _ HSB1.out HB7.out)
      have HSZ7 : Hid (wo.heap.size ≤ w7.heap.size) := Lib.hid (Nat.le_trans HSZB.out HB7.out.size)
      have HW1 : Hid (Calls Tryd.prog 29 #[.pointer (some ⟨wo.heap.size, 0, none⟩), .string (str (textL a b c []))] w7 fun e w' => (∃ v, e = .returned v) ∧ Lib.IsBuilder 72 5 wo.heap.size wo.heap.size (bytesV (textL a b c [])) w' ∧ Below wo.heap.size w7 w') := Lib.hid (by
        refine (Tryd.Builder_WriteString wo.heap.size wo.heap.size [] (str (textL a b c [])) w7 HBD7.out (by rw [str_size]; have := HTK0.out; simp; omega) HSZ7.out).mono ?_
        rintro e w' ⟨he, h1, h2⟩
        rw [str_cells] at h1
        exact ⟨⟨_, he⟩, .inr h1, h2⟩)
      refine Calls.mono HW1.out ?_
      rintro e w8 ⟨⟨v8, rfl⟩, hbd8, hb8⟩
      have HBD8 := Lib.hid hbd8
      have HS8 : Hid (SS w8) := Lib.hid (HSX.out _ _ _ HS7.out HLTB.out hb8)
      have HSZ8 : Hid (wo.heap.size ≤ w8.heap.size) := Lib.hid (Nat.le_trans HSZ7.out hb8.size)
      obtain ⟨_, _, q15, _⟩ := HF.out _ HS8.out
      clear hbd8 hb8 hx1 hx2 hx3 HW1
      go_wp2_with fail
      clear q15
      go_loopg [50] l.length (fun gk i wr => ∃ k : Nat, k ≤ l.length ∧ gk = l.length - k ∧ i = .int .i64 k ∧ SS wr ∧ Lib.IsBuilder 72 5 wo.heap.size wo.heap.size (bytesV (textL a b c (l.take k))) wr ∧ wo.heap.size ≤ wr.heap.size)
      case atStart => exact ⟨0, Nat.zero_le _, rfl, rfl, HS8.out, by rw [List.take_zero]; exact HBD8.out, HSZ8.out⟩
      case round =>
        obtain ⟨k, hk, hgk, rfl, hss, hbd, hsz⟩ := hrel
        have HK := Lib.hid hgk
        have HSR2 := Lib.hid hss
        have HBDR := Lib.hid hbd
        have HSZR := Lib.hid hsz
        have hkI : (k : Int) ≤ 1000 := by omega
        clear hgk hss hbd hsz
        by_cases hlt : k < l.length
        · obtain ⟨b1, o1, s, B, cap, rfl, hks, hmem, hr, hkp⟩ := (HST.out.below (HSB.out _ HSR2.out).1).at hlt
          have hms := HALL.out s hmem
          have hjk := just_k (may_just hms).1
          have HLN : Hid (∀ W, Below wr.heap.size wr W → Calls Tryd.prog 31 #[.agg (s.L (.slice B s.kp.length cap)).toArray] W fun e w' => e = .returned (.string (str (lineL s))) ∧ Below W.heap.size W w') := Lib.hid (fun W hb => line22 s B cap W (hkp.below hb) (HFT.out s hmem) hjk (fun _ => ⟨(may_just hms).2.1.1, by have := (may_just hms).2.1.2; omega⟩) (fun _ => (may_just hms).2.2))
          have HI : Hid ((Tryd.prog.info? 44).map (·.size) = some (s.L (.slice B s.kp.length cap)).length) := Lib.hid info30
          have HI2 : Hid ((Tryd.prog.info? 44).map (·.size) = some (s.L (.slice B s.kp.length cap)).toArray.size) := Lib.hid info30
          have HZL : Hid ((#[.int .i64 0, .int .i64 0, .string ⟨#[]⟩, .string ⟨#[]⟩, .int .i64 0, .slice none 0 0, .int .i64 0, .int .i64 0, .int .i64 0, .int .i64 0, .int .i64 0, .int .i64 0, .int .i64 0, .int .i64 0, .int .i64 0, .int .i64 0, .int .i64 0, .int .i64 0, .int .i64 0] : Array Value).size = (s.L (.slice B s.kp.length cap)).toArray.size) := Lib.hid rfl
          have HOL : Hid ((s.L (.slice B s.kp.length cap)).toArray.all (·.oneCell') = true) := Lib.hid (stL_one _ _ _ _ _ _ _ _ _)
          have HR := Lib.hid hr
          have HTK1 : Hid (textL a b c (l.take (k + 1)) = textL a b c (l.take k) ++ (lineL s ++ [10])) := Lib.hid (HTS.out k s hks)
          have HTKL := Lib.hid (HTK.out (k + 1))
          have HLL : Hid ((lineL s).length ≤ 100000) := Lib.hid (by
            have h := hms
            simp only [mayB, Bool.and_eq_true, decide_eq_true_eq] at h
            have := h.2
            omega)
          generalize s.L (.slice B s.kp.length cap) = M at *
          clear hr hkp hks hms hjk
          have hk0 : (0 : Int) ≤ (k : Int) := by omega
          have hk1 : (k : Int) < (l.length : Int) := by omega
          have HR2 : Hid ((wr.alloc (.cells M.toArray 44)).rangeAt wr.heap.size 0 M) := Lib.hid (range_of_row (heap_alloc_new wr _))
          have HBA : Hid (Below wr.heap.size wr (wr.alloc (.cells M.toArray 44))) := Lib.hid ((Below.refl _ _).alloc (Nat.le_refl _) _)
          have hx1 : str (lineL s) ++ (⟨#[10]⟩ : ByteArray) = str (lineL s ++ [10]) := str_append _ [10]
          have hx2 : (str (lineL s)).size + 1 ≤ 9223372036854775807 := by have := HLL.out; rw [str_size]; omega
          have hx3 : ¬ 9223372036854775807 < (str (lineL s)).size + 1 := by omega
          have HWR : Hid (∀ W, Below wr.heap.size wr W → Calls Tryd.prog 29 #[.pointer (some ⟨wo.heap.size, 0, none⟩), .string (str (lineL s ++ [10]))] W fun e w' => (∃ v, e = .returned v) ∧ Lib.IsBuilder 72 5 wo.heap.size wo.heap.size (bytesV (textL a b c (l.take (k + 1)))) w' ∧ SS w' ∧ wo.heap.size ≤ w'.heap.size) := Lib.hid (fun W hb => by
            have hz : wo.heap.size ≤ W.heap.size := Nat.le_trans HSZR.out hb.size
            refine (Tryd.Builder_WriteString wo.heap.size wo.heap.size (bytesV (textL a b c (l.take k))) (str (lineL s ++ [10])) W (builder_below HBDR.out hb) (by rw [bytesV_len, str_size]; have := HTKL.out; rw [HTK1.out] at this; simp at this ⊢; omega) hz).mono ?_
            rintro e w' ⟨he, h1, h2⟩
            rw [str_cells, ← bytesV_append, ← HTK1.out] at h1
            exact ⟨⟨_, he⟩, .inr h1, HSX.out _ _ _ (HSA.out _ _ HSR2.out hb) HLTB.out h2, Nat.le_trans hz h2.size⟩)
          go_wp2_with (first
            | ((with_reducible refine wpList_load_midg (op := ⟨some 53, _, _, _, _, _⟩) ?_ 44 (.tmp 52) rfl b1 (o1 + k * 19) ?_ M _ HR.out Tryd.underlying44 rfl HI.out ?_); kernel_rfl; rfl)
            | ((with_reducible refine wpList_store_new (op := ⟨none, _, _, _, _, _⟩) rfl 44 (.tmp 9) (.tmp 53) rfl wr.heap.size _ M.toArray rfl ?_ ?_ HI2.out HZL.out HOL.out ?_); rfl; rfl)
            | ((with_reducible refine wpList_load_midg (op := ⟨some 54, _, _, _, _, _⟩) ?_ 44 (.tmp 9) rfl wr.heap.size 0 ?_ M _ HR2.out Tryd.underlying44 rfl HI.out ?_); kernel_rfl; rfl)
            | (go_at_call 31; (with_reducible refine (HLN.out _ HBA.out).mono ?_); rintro e w6 ⟨rfl, hb6⟩; have HB6 : Hid (Below wr.heap.size wr w6) := Lib.hid (HBA.out.trans (hb6.mono HBA.out.size)); clear hb6))
          refine Calls.mono (HWR.out _ HB6.out) ?_
          rintro e w9 ⟨⟨v9, rfl⟩, hbd9, hs9, hz9⟩
          have HBD9 := Lib.hid hbd9
          have HS9 := Lib.hid hs9
          have HZ9 := Lib.hid hz9
          have HLEN : Hid (Calls Tryd.prog 32 #[.pointer (some ⟨wo.heap.size, 0, none⟩)] w9 fun e w' => e = .returned (.int .i64 ((textL a b c (l.take (k + 1))).length : Int)) ∧ w' = w9) := Lib.hid (by
            have := Tryd.Builder_Len wo.heap.size wo.heap.size _ w9 hbd9
            rwa [bytesV_len] at this)
          have hd9 : decide ((1048576 : Int) < ((textL a b c (l.take (k + 1))).length : Int)) = false := by have := HTKL.out; simp; omega
          clear hbd9 hs9 hz9 hx1 hx2 hx3
          generalize (textL a b c (l.take (k + 1))).length = tn at *
          go_wp2_with fail
          refine Calls.mono HLEN.out ?_
          rintro e w10 ⟨rfl, rfl⟩
          go_wp2_with fail
          go_roundg (l.length - (k + 1))
          case measure => rw [HK.out]; omega
          case rel => exact ⟨k + 1, by omega, rfl, by go_num, HS9.out, HBD9.out, HZ9.out⟩
        · obtain rfl : k = l.length := by omega
          have HSTR : Hid (Calls Tryd.prog 33 #[.pointer (some ⟨wo.heap.size, 0, none⟩)] wr fun e w' => e = .returned (.string (str (textL a b c l))) ∧ SS w') := Lib.hid (by
            have hbd := HBDR.out
            rw [HTN.out] at hbd
            refine (Tryd.Builder_String_any wo.heap.size wo.heap.size (textL a b c l) wr hbd HSZR.out).mono ?_
            rintro e w' ⟨he, h2⟩
            exact ⟨he, HSX.out _ _ _ HSR2.out HLTB.out h2⟩)
          go_wp2_with fail
          refine Calls.mono HSTR.out ?_
          rintro e w11 ⟨rfl, hs11⟩
          have HS11 := Lib.hid hs11
          clear hs11
          go_wp2_with fail
          go_ret2
          exact ⟨by rw [HE.out]; rfl, (HSB.out _ HS11.out).1⟩
end Go.Proofs.YtjakkmioofbcaaaDoor
namespace Go.Proofs.YtjakkmioofbcaaaDoor
open Go.RowKit

/-- The slice value owns the bytes; no cell of its row is frozen. -/
def OwnB (w : World) (base : Nat) (e : TypeId) (v : Value) (l : List UInt8) : Prop :=
  ∃ g cap cur fz, v = .slice (some ⟨g, 0, none⟩) l.length cap ∧ base ≤ g ∧ w.heap[g]? = some (.cells cur e fz) ∧ cap ≤ fz.1 ∧ l.length ≤ cap ∧ cap ≤ maxLen ∧ cur.size = cap ∧ cur.toList.take l.length = bytesV l


theorem OwnB.lt {w : World} {base : Nat} {e : TypeId} {v : Value} {l : List UInt8} (h : OwnB w base e v l) : ∀ k, v.ownBlock = some k → base ≤ k ∧ k < w.heap.size := by
  obtain ⟨g, cap, cur, fz, rfl, hb, hg, _⟩ := h
  intro k hk
  simp [Value.ownBlock] at hk
  subst hk
  exact ⟨hb, (Array.getElem?_eq_some_iff.1 hg).1⟩

theorem OwnB.below {w w' : World} {base : Nat} {e : TypeId} {v : Value} {l : List UInt8} (h : OwnB w base e v l) (hb : Below w.heap.size w w') : OwnB w' base e v l := by
  obtain ⟨g, cap, cur, fz, h1, h2, h3, rest⟩ := h
  exact ⟨g, cap, cur, fz, h1, h2, (hb.block _ (Array.getElem?_eq_some_iff.1 h3).1).trans h3, rest⟩

theorem OwnB.cells {w : World} {base : Nat} {e : TypeId} {l : List UInt8} {g cap : Nat} (h : OwnB w base e (.slice (some ⟨g, 0, none⟩) l.length cap) l) : ∀ j u, (bytesV l)[j]? = some u → w.cell? ((⟨g, 0, none⟩ : Addr).add j) = some u := by
  obtain ⟨g', cap', cur, fz, he, _, hg, _, _, _, _, htake⟩ := h
  injection he with h1 _ h3
  injection h1 with h1
  injection h1 with h1 _ _
  subst h1
  intro j u hu
  have hadd : (⟨g, 0, none⟩ : Addr).add j = ⟨g, j, none⟩ := by unfold Addr.add; split <;> simp_all
  rw [hadd, cell_of_row w g j cur e fz hg]
  rw [← htake, List.getElem?_take] at hu
  split at hu
  · simpa using hu
  · cases hu

theorem run_storeCells_atE (P : Program) (g o : Nat) (t : TypeId) (fz : Nat × Nat) : ∀ (vs : List Value) (i : Nat) (cur : Array Value) (w : World), w.heap[g]? = some (.cells cur t fz) → cur.size ≤ fz.1 → o + i + vs.length ≤ cur.size → (∀ v ∈ vs, v.oneCell' = true) →
    (storeCells ⟨g, o, none⟩ vs i).run P w = .ok () (w.setRow g (cur.toList.take (o + i) ++ vs ++ cur.toList.drop (o + i + vs.length)).toArray)
  | [], i, cur, w, hg, _, _, _ => by
    simp only [storeCells, List.append_nil, List.length_nil, Nat.add_zero, List.take_append_drop, Array.toArray_toList]
    rw [setRow_self w g cur t fz hg]
    rfl
  | v :: rest, i, cur, w, hg, hfz, hl, h1 => by
    have hi : o + i < cur.size := by simp at hl; omega
    have hadd : (⟨g, o, none⟩ : Addr).add i = ⟨g, o + i, none⟩ := by unfold Addr.add; split <;> simp_all
    have hcell : w.cell? ⟨g, o + i, none⟩ = some cur[o + i] := by simp [World.cell?, hg, hi]
    have hfro : w.frozen? ⟨g, o + i, none⟩ = false := by
      obtain ⟨lo, hi'⟩ := fz
      simp only [World.frozen?, hg, Bool.and_eq_false_iff, decide_eq_false_iff_not]
      left
      simp only at hfz
      omega
    have hst : (store ((⟨g, o, none⟩ : Addr).add i) v).run P w = .ok () (w.setRow g (cur.setIfInBounds (o + i) v)) := by
      rw [hadd, run_store P w _ v _ (h1 v (by simp)), hcell]
      simp [hfro, setCell_eq_setRow w g (o + i) cur t fz v hg]
    have ih := run_storeCells_atE P g o t fz rest (i + 1) (cur.setIfInBounds (o + i) v) (w.setRow g (cur.setIfInBounds (o + i) v)) (setRow_heap w g cur _ t _ hg) (by simpa using hfz) (by simp at hl ⊢; omega) (fun x hx => h1 x (by simp [hx]))
    simp only [storeCells, Sem.run_bind, hst, Result.andThen_ok, ih, setRow_setRow]
    congr 3
    have e := list_seg_step cur.toList (o + i) v rest (by simp at hl ⊢; omega)
    simpa [Array.toList_setIfInBounds, Nat.add_assoc] using e

section
variable {P : Program} (w : World)

theorem OwnB.conv {w : World} {base : Nat} (src dst e : TypeId) (l : List UInt8) (hs : P.underlying src = some .string) (hd : P.underlying dst = some (.slice e)) (he : P.underlying e = some (.int .u8)) (hb : base ≤ w.heap.size) (hl : l.length ≤ maxLen) :
    ∃ v w', (convert src dst (.string (str l))).run P w = .ok v w' ∧ OwnB w' base e v l ∧ Below w.heap.size w w' := by
  have hr := run_bytes_of_string (P := P) w src dst e (str l) hs hd he
  have hsz : (str l).size = l.length := by simp [str, ByteArray.size]
  rw [hsz] at hr
  have hge := grownCap_ge w l.length 0 e
  have hrow : (bytesRow (str l) (grownCap w l.length 0 e)).size = grownCap w l.length 0 e := by
    simp only [bytesRow, Array.size_append, Array.size_map, Array.size_replicate]
    rw [hsz]
    simp only [str, List.size_toArray]
    omega
  refine ⟨_, _, hr, ⟨w.heap.size, _, _, _, rfl, hb, heap_alloc_new w.drew _, ?_, hge, grownCap_le_maxLen w l.length 0 e hl, hrow, ?_⟩, ?_⟩
  · rw [hrow]
    exact Nat.le_refl _
  · rw [bytesRow, Array.toList_append]
    have : (Array.map (fun b => Value.int IntKind.u8 ↑b.toNat) (str l).data).toList = bytesV l := by simp [bytesV, str]
    rw [this, List.take_append_of_le_length (by rw [bytesV_len]; exact Nat.le_refl _), List.take_of_length_le (by rw [bytesV_len]; exact Nat.le_refl _)]
  · exact ((Below.refl _ w).drew).alloc (Nat.le_refl _) _

theorem strC (l : List UInt8) : Lib.strCells (str l) = bytesV l := str_cells l
theorem bytesV_app (l m : List UInt8) : bytesV (l ++ m) = bytesV l ++ bytesV m := by simp [bytesV]

/-- Bytes laid behind an owned row of bytes, whatever they come from. -/
theorem OwnB.add_room {w : World} {base g cap : Nat} {e : TypeId} {cur : Array Value} {fz : Nat × Nat} {l : List UInt8} (m : List UInt8) (hb : base ≤ g) (hg : w.heap[g]? = some (.cells cur e fz)) (h1 : cap ≤ fz.1) (hcm : cap ≤ maxLen) (hcs : cur.size = cap) (htake : cur.toList.take l.length = bytesV l) (hroom : l.length + m.length ≤ cap) :
    OwnB (w.setRow g (cur.toList.take l.length ++ bytesV m ++ cur.toList.drop (l.length + m.length)).toArray) base e (.slice (some ⟨g, 0, none⟩) (l.length + m.length) cap) (l ++ m) ∧ w.grownBy (w.setRow g (cur.toList.take l.length ++ bytesV m ++ cur.toList.drop (l.length + m.length)).toArray) (some g) := by
  refine ⟨⟨g, cap, _, fz, by rw [List.length_append], hb, setRow_heap w g cur _ e _ hg, h1, by rw [List.length_append]; exact hroom, hcm, ?_, ?_⟩, ⟨rfl, rfl, rfl, by simp, fun k _ hk => setRow_other w g k _ (fun e => hk (by simp [e]))⟩⟩
  · simp only [List.size_toArray, List.length_append, List.length_take, List.length_drop, Array.length_toList, bytesV_len]
    omega
  · rw [htake, bytesV_app, ← bytesV_app, List.take_append_of_le_length (by rw [bytesV_len]; exact Nat.le_refl _), List.take_of_length_le (by rw [bytesV_len]; exact Nat.le_refl _)]

theorem OwnB.add_grow {w : World} {base : Nat} {e : TypeId} {l : List UInt8} (m : List UInt8) (cap : Nat) (hb : base ≤ w.heap.size) (h63 : l.length + m.length ≤ maxLen) (row : Option Nat) :
    (w.drew.alloc (.cells ((bytesV l).toArray ++ (bytesV m).toArray ++ Builtin.zeroCells (Value.int .u8 0).cells (grownCap w (l.length + m.length) cap e - (l.length + m.length))) e)).ownsRow base e 1 (.slice (some ⟨w.heap.size, 0, none⟩) (l.length + m.length) (grownCap w (l.length + m.length) cap e)) (l.length + m.length) (bytesV (l ++ m)) ∧ w.grownBy (w.drew.alloc (.cells ((bytesV l).toArray ++ (bytesV m).toArray ++ Builtin.zeroCells (Value.int .u8 0).cells (grownCap w (l.length + m.length) cap e - (l.length + m.length))) e)) row := by
  have hge := grownCap_ge w (l.length + m.length) cap e
  have hcm := grownCap_le_maxLen w (l.length + m.length) cap e h63
  refine ⟨⟨by rw [bytesV_len, List.length_append, Nat.mul_one], .inr ⟨w.heap.size, _, _, rfl, hb, heap_alloc_new w.drew _, hge, hcm, ?_, ?_⟩⟩, ⟨rfl, rfl, rfl, by simp, fun k hk _ => by first | exact Go.heap_alloc_old w.drew _ hk | exact Go.heap_alloc_old _ _ hk⟩⟩
  · have hz1 : (Value.int IntKind.u8 0).cells.size = 1 := rfl
    simp only [Array.size_append, List.size_toArray, size_zeroCells, hz1, bytesV_len]
    omega
  · simp only [Array.toList_append]
    rw [← bytesV_app, Nat.mul_one, List.take_append_of_le_length (by rw [bytesV_len, List.length_append]; exact Nat.le_refl _), List.take_of_length_le (by rw [bytesV_len, List.length_append]; exact Nat.le_refl _)]

/-- Owned bytes: a row with its mark behind the end, or a plain one. -/
def OwnT (w : World) (base : Nat) (e : TypeId) (v : Value) (l : List UInt8) : Prop := OwnB w base e v l ∨ w.ownsRow base e 1 v l.length (bytesV l)

theorem OwnT.lt {w : World} {base : Nat} {e : TypeId} {v : Value} {l : List UInt8} (h : OwnT w base e v l) : ∀ k, v.ownBlock = some k → base ≤ k ∧ k < w.heap.size := h.elim (fun h => h.lt) (fun h => h.lt)
theorem OwnT.below {w w' : World} {base : Nat} {e : TypeId} {v : Value} {l : List UInt8} (h : OwnT w base e v l) (hb : Below w.heap.size w w') : OwnT w' base e v l := h.elim (fun h => .inl (h.below hb)) (fun h => .inr (own_below h hb))

theorem oneB (l : List UInt8) : ∀ u ∈ bytesV l, u.oneCell' = true := by
  intro u hu
  simp only [bytesV, List.mem_map] at hu
  obtain ⟨b, _, rfl⟩ := hu
  rfl

theorem OwnT.append_string {w : World} {base : Nat} (t u ty e : TypeId) (i : TypeInfo) (ht : P.underlying t = some (.slice e)) (hu : P.underlying u = some .string) (hi : P.info? e = some i) (hz : i.zero = some (.int .u8 0)) (hsize : i.size = 1) (hby : i.bytes = 1)
    (v : Value) (l m : List UInt8) (hown : OwnT w base e v l) (h63 : l.length + m.length ≤ 140737488355328) (hbase : base ≤ w.heap.size) :
    ∃ v' w', (Builtin.append_ #[t, u] ty #[v, .string (str m)]).run P w = .ok v' w' ∧ OwnT w' base e v' (l ++ m) ∧ w.grownBy w' v.ownBlock := by
  have h63' : l.length + m.length ≤ maxLen := by unfold maxLen; omega
  rcases hown with hown | hown
  · obtain ⟨g, cap, cur, fz, rfl, hbg, hg, hfz, hnc, hcm, hcs, htake⟩ := id hown
    by_cases hroom : l.length + m.length ≤ cap
    · obtain ⟨r1, r2⟩ := OwnB.add_room m hbg hg hfz hcm hcs htake hroom
      have hf := Lib.run_firstCells_string (P := P) w 1 (str m)
      have hst := run_storeCells_atE P g l.length e fz (bytesV m) 0 cur w hg (by omega) (by rw [bytesV_len]; omega) (oneB m)
      rw [strC, str_size] at hf
      rw [Nat.add_zero, bytesV_len] at hst
      refine ⟨_, _, ?_, .inl r1, r2⟩
      simp [Builtin.append_, run_underlying ht, run_underlying hu, sizeOf, typeInfo, hi, hsize, Builtin.lenOf, str_size, hroom, hf, Addr.add_lit, hst]
    · have hr := Lib.run_append_grow_string (P := P) w t u ty e i (.int .u8 0) ht hu hi hz ⟨g, 0, none⟩ l.length cap (bytesV l) (by rw [hsize, bytesV_len, Nat.mul_one]) hown.cells (str m) (by rw [str_size]; omega) (by rw [str_size]; omega) (by rw [hby, str_size]; exact growslice_fits (by omega) (by omega))
      rw [str_size, strC] at hr
      obtain ⟨r1, r2⟩ := OwnB.add_grow (w := w) (e := e) (l := l) m cap hbase h63' (some g)
      exact ⟨_, _, hr, .inr (by rw [List.length_append]; exact r1), r2⟩
  · obtain ⟨v', w', h1, h2, h3, _⟩ := Lib.run_append_own_string (P := P) w base t u ty e i ht hu hi hz hsize hby v l.length (bytesV l) hown (str m) (by rw [str_size]; exact h63') (by rw [str_size]; exact h63) hbase
    rw [str_size, strC, ← bytesV_app, ← List.length_append] at h2
    exact ⟨v', w', h1, .inr h2, h3⟩

theorem OwnT.append_cells {w : World} {base : Nat} (t ty e : TypeId) (i : TypeInfo) (ht : P.underlying t = some (.slice e)) (hi : P.info? e = some i) (hz : i.zero = some (.int .u8 0)) (hsize : i.size = 1) (hby : i.bytes = 1)
    (v : Value) (l m : List UInt8) (hown : OwnT w base e v l) (a : Addr) (c : Nat) (hnews : ∀ j u, (bytesV m)[j]? = some u → w.cell? (a.add j) = some u) (h63 : l.length + m.length ≤ 140737488355328) (hbase : base ≤ w.heap.size) :
    ∃ v' w', (Builtin.append_ #[t, t] ty #[v, .slice (some a) m.length c]).run P w = .ok v' w' ∧ OwnT w' base e v' (l ++ m) ∧ w.grownBy w' v.ownBlock := by
  have h63' : l.length + m.length ≤ maxLen := by unfold maxLen; omega
  rcases hown with hown | hown
  · obtain ⟨g, cap, cur, fz, rfl, hbg, hg, hfz, hnc, hcm, hcs, htake⟩ := id hown
    by_cases hroom : l.length + m.length ≤ cap
    · obtain ⟨r1, r2⟩ := OwnB.add_room m hbg hg hfz hcm hcs htake hroom
      have hf := run_firstCells_some (P := P) w 1 m.length a m.length c (bytesV m) (by rw [bytesV_len, Nat.mul_one]) hnews
      have hst := run_storeCells_atE P g l.length e fz (bytesV m) 0 cur w hg (by omega) (by rw [bytesV_len]; omega) (oneB m)
      rw [Nat.add_zero, bytesV_len] at hst
      refine ⟨_, _, ?_, .inl r1, r2⟩
      simp [Builtin.append_, run_underlying ht, sizeOf, typeInfo, hi, hsize, Builtin.lenOf, hroom, hf, Addr.add_lit, hst]
    · have hr := run_append_grow (P := P) w t ty e i (.int .u8 0) ht hi hz ⟨g, 0, none⟩ l.length cap (bytesV l) (by rw [hsize, bytesV_len, Nat.mul_one]) hown.cells a m.length c (bytesV m) (by rw [bytesV_len, hsize, Nat.mul_one]) hnews (by omega) (by omega) (growslice_fits (by omega) (by rw [hby]; omega))
      obtain ⟨r1, r2⟩ := OwnB.add_grow (w := w) (e := e) (l := l) m cap hbase h63' (some g)
      exact ⟨_, _, hr, .inr (by rw [List.length_append]; exact r1), r2⟩
  · obtain ⟨v', w', h1, h2, h3, _⟩ := run_append_own (P := P) w base t ty e i (.int .u8 0) 1 1 ht hi hz hsize hby rfl (by decide) v l.length (bytesV l) hown a m.length c (bytesV m) (by rw [bytesV_len, Nat.mul_one]) hnews (oneB m) h63' (by omega) hbase
    rw [← bytesV_app, ← List.length_append] at h2
    exact ⟨v', w', h1, .inr h2, h3⟩

theorem wpList_append_string {ops : Array Oper} {rest : List Oper} {o : Oper} {a : Act} {Q : Exit → Act → World → Prop} (hgd : o.guard = none) (sl x : Operand) (t u : TypeId)
    (ho : o.op = .call { callee := .builtin .append, args := #[sl, x], argTypes := #[t, u] })
    (base : Nat) (e : TypeId) (i : TypeInfo) (ht : P.underlying t = some (.slice e)) (hu : P.underlying u = some .string) (hi : P.info? e = some i) (hz : i.zero = some (.int .u8 0)) (hsize : i.size = 1) (hby : i.bytes = 1)
    (v : Value) (l m : List UInt8) (hs : a.eval sl = v) (hown : OwnT w base e v l) (hx : a.eval x = .string (str m)) (h63 : l.length + m.length ≤ 140737488355328) (hbase : base ≤ w.heap.size)
    (h : ∀ v' w', OwnT w' base e v' (l ++ m) → w.grownBy w' v.ownBlock → wpList P ops Q rest (a.put o.dst v') w') : wpList P ops Q (o :: rest) a w := by
  refine wpList_plain hgd fun K hK => ?_
  obtain ⟨v', w', hr, h2, h3⟩ := OwnT.append_string (P := P) t u o.type e i ht hu hi hz hsize hby v l m hown h63 hbase
  unfold Oper.wp execOp
  simp only [ho, resolve, invoke, builtin, Sem.run_bind, Sem.run_pure, Result.andThen_ok, List.map_toArray, List.map_cons, List.map_nil, hs, hx, hr]
  exact hK _ _ (h v' w' h2 h3)

theorem wpList_append_cells {ops : Array Oper} {rest : List Oper} {o : Oper} {a : Act} {Q : Exit → Act → World → Prop} (hgd : o.guard = none) (sl x : Operand) (t : TypeId)
    (ho : o.op = .call { callee := .builtin .append, args := #[sl, x], argTypes := #[t, t] })
    (base : Nat) (e : TypeId) (i : TypeInfo) (ht : P.underlying t = some (.slice e)) (hi : P.info? e = some i) (hz : i.zero = some (.int .u8 0)) (hsize : i.size = 1) (hby : i.bytes = 1)
    (v : Value) (l m : List UInt8) (hs : a.eval sl = v) (hown : OwnT w base e v l) (ad : Addr) (c : Nat) (hx : a.eval x = .slice (some ad) m.length c) (hnews : ∀ j u, (bytesV m)[j]? = some u → w.cell? (ad.add j) = some u) (h63 : l.length + m.length ≤ 140737488355328) (hbase : base ≤ w.heap.size)
    (h : ∀ v' w', OwnT w' base e v' (l ++ m) → w.grownBy w' v.ownBlock → wpList P ops Q rest (a.put o.dst v') w') : wpList P ops Q (o :: rest) a w := by
  refine wpList_plain hgd fun K hK => ?_
  obtain ⟨v', w', hr, h2, h3⟩ := OwnT.append_cells (P := P) t o.type e i ht hi hz hsize hby v l m hown ad c hnews h63 hbase
  unfold Oper.wp execOp
  simp only [ho, resolve, invoke, builtin, Sem.run_bind, Sem.run_pure, Result.andThen_ok, List.map_toArray, List.map_cons, List.map_nil, hs, hx, hr]
  exact hK _ _ (h v' w' h2 h3)
end
end Go.Proofs.YtjakkmioofbcaaaDoor
namespace Go.Proofs.YtjakkmioofbcaaaDoor
open Go.RowKit
theorem OwnT.slice {w : World} {base : Nat} {e : TypeId} {v : Value} {l : List UInt8} (h : OwnT w base e v l) : ∃ A cp, v = .slice A l.length cp := by
  rcases h with ⟨g, cap, cur, fz, rfl, _⟩ | h
  · exact ⟨_, _, rfl⟩
  · exact own_slice h
theorem OwnT.back {w : World} {base : Nat} {v : Value} {l : List UInt8} (h : OwnT w base 5 v l) : (convert 70 9 v).run Tryd.prog w = .ok (.string (str l)) w := by
  rcases h with h | h
  · obtain ⟨g, cap, cur, fz, rfl, hb, hg, _⟩ := id h
    rw [← strOf l]
    refine run_convert_bytes_arg (P := Tryd.prog) w 70 5 Tryd.underlying70 Tryd.underlying5 g 0 l.length cap _ (by simp) (fun i hi => ?_) 9 Tryd.underlying9
    have h1 := h.cells i (.int .u8 ((l[i]'hi).toNat : Int)) (by simp [bytesV, hi])
    have hadd : (⟨g, 0, none⟩ : Addr).add i = ⟨g, 0 + i, none⟩ := by unfold Addr.add; split <;> simp_all
    rw [hadd] at h1
    rw [h1]
    simp [List.getD, hi]
  · exact conv_own h
set_option maxRecDepth 100000 in
set_option maxHeartbeats 8000000 in
theorem rtext15 (a b : Int) (c : Fin 13 → Int) (V : Value) (l : List St) (w : World) (hs : Sts w V l) (hf : ∀ s ∈ l, Fits s) (hl : l.length ≤ 1000) (ht : (textL a b c l).length ≤ 1000000) (hg : goodB a b c l = true) :
    Calls Tryd.prog 15 #[.agg (scL a b c V).toArray] w fun e w' => e = .returned (.string (str (textL a b c l))) ∧ Below w.heap.size w w' := by
  obtain ⟨A, cp, rfl⟩ := hs.1
  obtain ⟨hho, hall⟩ := (good_iff a b c l).1 hg
  have HALL := Lib.hid hall
  have HST := Lib.hid hs
  have HFT := Lib.hid hf
  have HTK : Hid (∀ k, (textL a b c (l.take k)).length ≤ 1000000) := Lib.hid (fun k => Nat.le_trans (text_le a b c l k) ht)
  have HT0 : Hid (textL a b c (l.take 0) = headL a b c ++ [10]) := Lib.hid (by simp [textL])
  have HTS := Lib.hid (text_snoc a b c l)
  have HTN : Hid (textL a b c (l.take l.length) = textL a b c l) := Lib.hid (by rw [List.take_length])
  have HHH : Hid (∀ W, Calls Tryd.prog 23 #[.agg (scL a b c (.slice A l.length cp)).toArray] W fun e w' => e = .returned (.string (str (headL a b c))) ∧ Below W.heap.size W w') := Lib.hid (fun W => rhead23 a b c _ W hho)
  obtain ⟨SS, hSS⟩ : ∃ SS, BoxS w 30 (scL a b c (.slice A l.length cp)) = SS := ⟨_, rfl⟩
  have HF : Hid (∀ W, SS W → W.cell? ⟨w.heap.size, 0, none⟩ = some (.int .i64 a) ∧ W.cell? ⟨w.heap.size, 1, none⟩ = some (.int .i64 b) ∧ W.cell? ⟨w.heap.size, 15, none⟩ = some (.slice A l.length cp) ∧ W.rangeAt w.heap.size 2 (cfL c) ∧ W.rangeAt w.heap.size 0 (scL a b c (.slice A l.length cp))) := Lib.hid (fun W hW => by rw [← hSS] at hW; exact hW.facts)
  have HSA : Hid (∀ W W', SS W → Below W.heap.size W W' → SS W') := Lib.hid (fun W W' hW hb => by rw [← hSS] at hW ⊢; exact hW.below hb)
  have HSB : Hid (∀ W, SS W → Below w.heap.size w W ∧ w.heap.size < W.heap.size) := Lib.hid (fun W hW => by rw [← hSS] at hW; exact ⟨hW.base, hW.size⟩)
  have HS0 : Hid (SS (w.alloc (.cells (scL a b c (.slice A l.length cp)).toArray 30))) := Lib.hid (by rw [← hSS]; exact BoxS.first)
  have HSX : Hid (∀ W B W', SS W → w.heap.size < B → Below B W W' → SS W') := Lib.hid (fun W B W' hW hB hb => by rw [← hSS] at hW ⊢; exact ⟨hW.bw.trans (hb.mono hB)⟩)
  have HISL : Hid ((Tryd.prog.info? 30).map (·.size) = some (scL a b c (.slice A l.length cp)).length) := Lib.hid infoR
  have HR4 := Lib.hid (HF.out _ HS0.out).2.2.2.2
  have HHL : Hid ((headL a b c ++ [10]).length ≤ 1000000) := Lib.hid (by rw [← HT0.out]; exact HTK.out 0)
  have HX1 : Hid (str (headL a b c) ++ (⟨#[10]⟩ : ByteArray) = str (textL a b c (l.take 0))) := Lib.hid (by rw [HT0.out]; exact str_append _ [10])
  have hx1 := HX1.out
  have hx2 : (str (headL a b c)).size + 1 ≤ 9223372036854775807 := by have := HHL.out; rw [str_size]; simp at this; omega
  have hx3 : ¬ 9223372036854775807 < (str (headL a b c)).size + 1 := by omega
  have HTK0 := Lib.hid (HTK.out 0)
  obtain ⟨i0, hi, hz0, hz1, hz2⟩ := info_parts info5
  have I0 := Lib.hid hi
  have Z0 := Lib.hid hz0
  have S0 := Lib.hid hz1
  have Y0 := Lib.hid hz2
  clear hSS hs hf hho hall hg ht hi hz0 hz1 hz2
  generalize scL a b c (.slice A l.length cp) = SL at *
  obtain ⟨T0, hT0⟩ : ∃ T0, textL a b c (l.take 0) = T0 := ⟨_, rfl⟩
  rw [hT0] at hx1 HTK0
  have HT00 := Lib.hid hT0
  generalize headL a b c = hd at *
  clear HX1 HT0 HHL hT0
  go_enter Tryd.func15, Tryd.ntmps15
  go_wp2_with (first
    | ((with_reducible refine wpList_load_midg (op := ⟨some 5, _, _, _, _, _⟩) ?_ 30 (.tmp 1) rfl w.heap.size 0 ?_ SL _ HR4.out Tryd.underlying30 rfl HISL.out ?_); kernel_rfl; rfl))
  refine Calls.mono (HHH.out _) ?_
  rintro e w1 ⟨rfl, hb1⟩
  have HS1 : Hid (SS w1) := Lib.hid (HSA.out _ _ HS0.out hb1)
  obtain ⟨v0, w2, hcv, hown, hb2⟩ := OwnB.conv (P := Tryd.prog) (w := w1) (base := w1.heap.size) 9 70 5 T0 Tryd.underlying9 Tryd.underlying70 Tryd.underlying5 (Nat.le_refl _) (by have := HTK0.out; unfold maxLen; omega)
  have HLT : Hid (w.heap.size < w1.heap.size) := Lib.hid (HSB.out _ HS1.out).2
  have HOW : Hid (OwnT w2 w1.heap.size 5 v0 T0) := Lib.hid (.inl hown)
  have HS2 : Hid (SS w2) := Lib.hid (HSA.out _ _ HS1.out hb2)
  have HSZ2 : Hid (w1.heap.size ≤ w2.heap.size) := Lib.hid hb2.size
  clear hb1 hown hb2
  go_wp2_with fail
  clear hcv hx1 hx2 hx3
  go_loopg [3, 4] l.length (fun gk v i wr => ∃ k : Nat, k ≤ l.length ∧ gk = l.length - k ∧ i = .int .i64 k ∧ SS wr ∧ OwnT wr w1.heap.size 5 v (textL a b c (l.take k)) ∧ w1.heap.size ≤ wr.heap.size)
  case atStart => exact ⟨0, Nat.zero_le _, rfl, rfl, HS2.out, by rw [HT00.out]; exact HOW.out, HSZ2.out⟩
  case round =>
    obtain ⟨k, hk, hgk, rfl, hss, hown, hsz⟩ := hrel
    have HK := Lib.hid hgk
    have HSR := Lib.hid hss
    have HOR := Lib.hid hown
    have HSZR := Lib.hid hsz
    obtain ⟨_, _, q15, _⟩ := HF.out _ HSR.out
    obtain ⟨VA, VC, rfl⟩ := hown.slice
    have hkI : (k : Int) ≤ 1000 := by omega
    have hcv := HOR.out.back
    clear hgk hss hown hsz
    by_cases hlt : k < l.length
    · clear hcv
      obtain ⟨b1, o1, s, B, cap, rfl, hks, hmem, hr, hkp⟩ := (HST.out.below (HSB.out _ HSR.out).1).at hlt
      have hms := HALL.out s hmem
      have hjk := just_k (may_just hms).1
      have HLN : Hid (∀ W, Below wr.heap.size wr W → Calls Tryd.prog 37 #[.agg (s.L (.slice B s.kp.length cap)).toArray] W fun e w' => e = .returned (.string (str (lineL s))) ∧ Below W.heap.size W w') := Lib.hid (fun W hb => by
        have h := rline21 s B cap W (hkp.below hb) (HFT.out s hmem) hjk (fun _ => ⟨(may_just hms).2.1.1, by have := (may_just hms).2.1.2; omega⟩) (fun _ => (may_just hms).2.2)
        simp only [St.A, stA_eq] at h
        exact h)
      have HI : Hid ((Tryd.prog.info? 44).map (·.size) = some (s.L (.slice B s.kp.length cap)).length) := Lib.hid info30
      have HR := Lib.hid hr
      have HTK1 : Hid (textL a b c (l.take (k + 1)) = textL a b c (l.take k) ++ lineL s ++ [10]) := Lib.hid (by rw [HTS.out k s hks, List.append_assoc])
      have HTKL := Lib.hid (HTK.out (k + 1))
      have HBN : Hid ((textL a b c (l.take k)).length + (lineL s).length + 1 ≤ 1000000) := Lib.hid (by have := HTKL.out; rw [HTK1.out] at this; simpa [Nat.add_assoc] using this)
      generalize s.L (.slice B s.kp.length cap) = M at *
      clear hr hkp hks hms hjk
      have hk0 : (0 : Int) ≤ (k : Int) := by omega
      have hk1 : (k : Int) < (l.length : Int) := by omega
      generalize textL a b c (l.take k) = T at *
      generalize lineL s = LS at *
      go_wp2_with (first
        | ((with_reducible refine wpList_load_midg (op := ⟨some 21, _, _, _, _, _⟩) ?_ 44 (.tmp 20) rfl b1 (o1 + k * 19) ?_ M _ HR.out Tryd.underlying44 rfl HI.out ?_); kernel_rfl; rfl)
        | (go_at_call 37; (with_reducible refine (HLN.out _ (Below.refl _ _)).mono ?_); rintro e w6 ⟨rfl, hb6⟩; have HB6 := Lib.hid hb6; clear hb6)
        | (at_builtin; refine wpList_append_string _ rfl (.tmp 16) (.tmp 22) _ _ rfl w1.heap.size 5 i0 Tryd.underlying70 Tryd.underlying9 I0.out Z0.out S0.out Y0.out _ T LS rfl (HOR.out.below HB6.out) rfl (by have := HBN.out; omega) (Nat.le_trans HSZR.out HB6.out.size) ?_))
      intro v7 w7 hown7 hg7
      obtain ⟨V7, C7, rfl⟩ := hown7.slice
      have HO7 := Lib.hid hown7
      have HB7 : Hid (Below w1.heap.size wr w7) := Lib.hid ((HB6.out.mono HSZR.out).grown hg7 (Nat.le_trans HSZR.out HB6.out.size) (fun j e => (HOR.out.lt j e).1))
      have HZ7 : Hid (w1.heap.size ≤ w7.heap.size) := Lib.hid (Nat.le_trans HSZR.out HB7.out.size)
      clear hown7 hg7
      go_wp2_with (first
        | (at_builtin; refine wpList_append_cells _ rfl (.tmp 24) (.tmp 25) _ rfl w1.heap.size 5 i0 Tryd.underlying70 I0.out Z0.out S0.out Y0.out _ (T ++ LS) [10] rfl (HO7.out.below ((Below.refl _ _).alloc (Nat.le_refl _) _)) _ 1 rfl (new1 _ _ _ _ rfl) (by have := HBN.out; simp; omega) (by have := HZ7.out; simp; omega) ?_))
      intro v8 w8 hown8 hg8
      obtain ⟨V8, C8, rfl⟩ := hown8.slice
      have HO8 := Lib.hid hown8
      have HB8 : Hid (Below w1.heap.size wr w8) := Lib.hid ((HB7.out.alloc HZ7.out _).grown hg8 (by have := HZ7.out; simp; omega) (fun j e => (HO7.out.lt j (by rw [List.length_append]; exact e)).1))
      have HZ8 : Hid (w1.heap.size ≤ w8.heap.size) := Lib.hid (Nat.le_trans HSZR.out HB8.out.size)
      have HS8 : Hid (SS w8) := Lib.hid (HSX.out _ _ _ HSR.out HLT.out HB8.out)
      clear hown8 hg8
      go_wp2_with fail
      go_roundg (l.length - (k + 1))
      case measure => rw [HK.out]; omega
      case rel => exact ⟨k + 1, by omega, rfl, by go_num, HS8.out, by rw [HTK1.out]; have h9 := HO8.out; simp only [List.append_assoc] at h9 ⊢; exact h9, HZ8.out⟩
    · obtain rfl : k = l.length := by omega
      rw [HTN.out] at hcv
      go_wp2_with fail
      go_ret
      exact ⟨rfl, (HSB.out _ HSR.out).1⟩
end Go.Proofs.YtjakkmioofbcaaaDoor
namespace Go.Proofs.YtjakkmioofbcaaaDoor
open Go.RowKit
abbrev CallT := Int × List UInt8 × List UInt8
def cvL (c : CallT) : List Value := [.int .i64 c.1, .string (str c.2.1), .string (str c.2.2)]
def flatC (cs : List CallT) : List Value := cs.flatMap cvL
def callOf (s : St) : CallT := (s.op, s.nm, s.dt)
def callsOf (l : List St) : List CallT := (l.filter fun s => decide (s.k = 1)).map callOf
theorem flatC_len (cs : List CallT) : (flatC cs).length = cs.length * 3 := by
  induction cs with
  | nil => rfl
  | cons p r ih => rw [flatC, List.flatMap_cons, List.length_append]; rw [flatC] at ih; rw [ih]; simp [cvL]; omega
theorem flatC_snoc (cs : List CallT) (c : CallT) : flatC (cs ++ [c]) = flatC cs ++ cvL c := by simp [flatC]
theorem flatC_get : ∀ (cs : List CallT) (i j : Nat) (c : CallT) (v : Value), cs[i]? = some c → (cvL c)[j]? = some v → (flatC cs)[i * 3 + j]? = some v
  | [], i, j, c, v, h, _ => by simp at h
  | q :: r, 0, j, c, v, h, hj => by
    simp at h
    subst h
    have hl : j < (cvL q).length := (List.getElem?_eq_some_iff.1 hj).1
    rw [flatC, List.flatMap_cons, Nat.zero_mul, Nat.zero_add, List.getElem?_append_left hl]
    exact hj
  | q :: r, i + 1, j, c, v, h, hj => by
    simp at h
    have h3 : (cvL q).length = 3 := rfl
    rw [flatC, List.flatMap_cons, List.getElem?_append_right (by rw [h3]; omega), h3, show (i + 1) * 3 + j - 3 = i * 3 + j by omega]
    exact flatC_get r i j c v h hj
theorem calls_take {l : List St} {k : Nat} {s : St} (h : l[k]? = some s) : callsOf (l.take (k + 1)) = if s.k = 1 then callsOf (l.take k) ++ [callOf s] else callsOf (l.take k) := by
  rw [List.take_add_one, h]
  by_cases hk : s.k = 1 <;> simp [callsOf, hk]
theorem calls_le (l : List St) : (callsOf l).length ≤ l.length := by
  unfold callsOf
  rw [List.length_map]
  exact List.length_filter_le _ _
theorem info41c : (Tryd.prog.info? 41).map (fun i => (i.zero, i.size, i.bytes)) = some (some (.agg (cvL (0, [], [])).toArray), 3, 40) := by kernel_rfl
theorem info41n : (Tryd.prog.info? 41).map (·.size) = some 3 := by kernel_rfl
set_option maxRecDepth 100000 in
set_option maxHeartbeats 8000000 in
theorem calls11 (V : Value) (l : List St) (w : World) (hs : Sts w V l) (hl : l.length ≤ 1000) :
    Calls Tryd.prog 11 #[V] w fun e w' => ∃ U, e = .returned U ∧ w'.ownsRow w.heap.size 41 3 U (callsOf l).length (flatC (callsOf l)) ∧ Below w.heap.size w w' := by
  obtain ⟨A, cp, rfl⟩ := hs.1
  have HST := Lib.hid hs
  have HCT : Hid (∀ k s, l[k]? = some s → callsOf (l.take (k + 1)) = if s.k = 1 then callsOf (l.take k) ++ [callOf s] else callsOf (l.take k)) := Lib.hid (fun k s h => calls_take h)
  have HCL : Hid (∀ k, (callsOf (l.take k)).length ≤ 1000) := Lib.hid (fun k => Nat.le_trans (calls_le _) (by rw [List.length_take]; omega))
  have HCN : Hid (callsOf (l.take l.length) = callsOf l) := Lib.hid (by rw [List.take_length])
  obtain ⟨i0, hi, hz0, hz1, hz2⟩ := info_parts info41c
  have I0 := Lib.hid hi
  have Z0 := Lib.hid hz0
  have S0 := Lib.hid hz1
  have Y0 := Lib.hid hz2
  clear hs hi hz0 hz1 hz2
  go_enter Tryd.func11, Tryd.ntmps11
  go_wp2_with fail
  go_loopg [3, 8] l.length (fun gk v i wr => ∃ k : Nat, k ≤ l.length ∧ gk = l.length - k ∧ i = .int .i64 k ∧ wr.ownsRow w.heap.size 41 3 v (callsOf (l.take k)).length (flatC (callsOf (l.take k))) ∧ Below w.heap.size w wr)
  case atStart => exact ⟨0, Nat.zero_le _, rfl, rfl, World.ownsRow_nil _ _ _ _, Below.refl _ _⟩
  case round =>
    obtain ⟨k, hk, hgk, rfl, hown, hb⟩ := hrel
    obtain ⟨VA, VC, rfl⟩ := own_slice hown
    have HK := Lib.hid hgk
    have HO := Lib.hid hown
    have HB := Lib.hid hb
    have hkI : (k : Int) ≤ 1000 := by omega
    clear hgk hown hb
    by_cases hlt : k < l.length
    · obtain ⟨b1, o1, s, B, cap, rfl, hks, hmem, hr, hkp⟩ := (HST.out.below HB.out).at hlt
      have HI : Hid ((Tryd.prog.info? 44).map (·.size) = some (s.L (.slice B s.kp.length cap)).length) := Lib.hid info30
      have HI2 : Hid ((Tryd.prog.info? 44).map (·.size) = some (s.L (.slice B s.kp.length cap)).toArray.size) := Lib.hid info30
      have HZL : Hid ((#[.int .i64 0, .int .i64 0, .string ⟨#[]⟩, .string ⟨#[]⟩, .int .i64 0, .slice none 0 0, .int .i64 0, .int .i64 0, .int .i64 0, .int .i64 0, .int .i64 0, .int .i64 0, .int .i64 0, .int .i64 0, .int .i64 0, .int .i64 0, .int .i64 0, .int .i64 0, .int .i64 0] : Array Value).size = (s.L (.slice B s.kp.length cap)).toArray.size) := Lib.hid rfl
      have HOL : Hid ((s.L (.slice B s.kp.length cap)).toArray.all (·.oneCell') = true) := Lib.hid (stL_one _ _ _ _ _ _ _ _ _)
      have HR := Lib.hid hr
      have hc0 : (wr.alloc (.cells (s.L (.slice B s.kp.length cap)).toArray 44)).cell? ⟨wr.heap.size, 0, none⟩ = some (.int .i64 s.k) := cell_of_row _ _ 0 _ 44 _ (heap_alloc_new wr _)
      have HC1 : Hid ((wr.alloc (.cells (s.L (.slice B s.kp.length cap)).toArray 44)).rangeAt wr.heap.size 1 (cvL (callOf s))) := Lib.hid (fun j v hj => by
        rw [cell_of_row _ _ (1 + j) _ 44 _ (heap_alloc_new wr _)]
        match j, hj with
        | 0, hj => exact hj
        | 1, hj => exact hj
        | 2, hj => exact hj)
      have HT := Lib.hid (HCT.out k s hks)
      have HCB := Lib.hid (HCL.out k)
      have HCE : Hid ((Tryd.prog.info? 41).map (·.size) = some (cvL (callOf s)).length) := Lib.hid info41n
      have HC3 : Hid ((cvL (callOf s)).length = 3) := Lib.hid rfl
      have HCO : Hid (∀ u ∈ cvL (callOf s), u.oneCell' = true) := Lib.hid (by simp [cvL, Value.oneCell'])
      generalize s.L (.slice B s.kp.length cap) = M at *
      clear hr hkp hks hmem
      have hk0 : (0 : Int) ≤ (k : Int) := by omega
      have hk1 : (k : Int) < (l.length : Int) := by omega
      obtain ⟨n, hn⟩ : ∃ n, (callsOf (l.take k)).length = n := ⟨_, rfl⟩
      have HN := Lib.hid hn
      have HO1 : Hid ((wr.alloc (.cells M.toArray 44)).ownsRow w.heap.size 41 3 (.slice VA n VC) n (flatC (callsOf (l.take k)))) := Lib.hid (by rw [← hn]; exact own_below HO.out ((Below.refl _ _).alloc (Nat.le_refl _) _))
      have HB1 : Hid (Below w.heap.size w (wr.alloc (.cells M.toArray 44))) := Lib.hid (HB.out.alloc HB.out.size _)
      rw [hn]
      clear hn
      by_cases hq : s.k = 1
      · have hd : (s.k == 1) = true := by simpa using hq
        have HT1 : Hid (callsOf (l.take (k + 1)) = callsOf (l.take k) ++ [callOf s]) := Lib.hid (by rw [HT.out, if_pos hq])
        generalize s.k = sk at *
        clear hq
        obtain ⟨CV, hCV⟩ : ∃ x, cvL (callOf s) = x := ⟨_, rfl⟩
        have HCV := Lib.hid hCV
        rw [hCV] at HC1 HCE HC3 HCO
        clear hCV
        have HNW : Hid (∀ j u, CV[j]? = some u → ((wr.alloc (.cells M.toArray 44)).alloc (.cells CV.toArray 41)).cell? ((⟨(wr.alloc (.cells M.toArray 44)).heap.size, 0, none⟩ : Addr).add j) = some u) := Lib.hid (fun j u hj => by
          have hadd : (⟨(wr.alloc (.cells M.toArray 44)).heap.size, 0, none⟩ : Addr).add j = ⟨(wr.alloc (.cells M.toArray 44)).heap.size, j, none⟩ := by unfold Addr.add; split <;> simp_all
          rw [hadd, cell_of_row _ _ j _ 41 _ (heap_alloc_new (wr.alloc (.cells M.toArray 44)) _)]
          simpa using hj)
        go_wp2_with (first
          | ((with_reducible refine wpList_load_midg (op := ⟨some 11, _, _, _, _, _⟩) ?_ 44 (.tmp 10) rfl b1 (o1 + k * 19) ?_ M _ HR.out Tryd.underlying44 rfl HI.out ?_); kernel_rfl; rfl)
          | ((with_reducible refine wpList_store_new (op := ⟨none, _, _, _, _, _⟩) rfl 44 (.tmp 5) (.tmp 11) rfl wr.heap.size _ M.toArray rfl ?_ ?_ HI2.out HZL.out HOL.out ?_); rfl; rfl)
          | ((with_reducible refine wpList_load_midg (op := ⟨some 17, _, _, _, _, _⟩) ?_ 41 (.tmp 16) rfl wr.heap.size 1 ?_ CV _ HC1.out Tryd.underlying41 rfl HCE.out ?_); kernel_rfl; rfl)
          | ((with_reducible refine wpList_build_one (op := ⟨some 18, _, _, _, _, _⟩) rfl 37 (.tmp 17) ?_ 41 3 _ CV ?_ Tryd.underlying37 Tryd.sizeOf41 Tryd.zeroValue41 ?_ ?_ HC3.out ?_); rfl; rfl; decide; decide)
          | (at_builtin; go_loud (refine wpList_append_own _ rfl (.tmp 15) (.tmp 18) _ rfl w.heap.size 41 i0 _ 3 40 Tryd.underlying37 I0.out Z0.out S0.out Y0.out rfl (by decide) _ n _ rfl (own_below HO1.out ((Below.refl _ _).alloc (Nat.le_refl _) _)) _ 1 1 CV rfl HC3.out HNW.out HCO.out (by have := HCB.out; have := HN.out; unfold maxLen; omega) (by have := HCB.out; have := HN.out; omega) (by have := HB1.out.size; simp at this ⊢; omega) ?_)))
        intro v8 w8 hown8 hg8 _
        obtain ⟨V8, C8, rfl⟩ := own_slice hown8
        have HO8 := Lib.hid hown8
        have HB8 : Hid (Below w.heap.size w w8) := Lib.hid ((HB1.out.alloc HB1.out.size _).grown hg8 (by have := HB1.out.size; simp at this ⊢; omega) (fun j e => (HO1.out.lt j e).1))
        clear hown8 hg8
        go_wp2_with fail
        go_roundg (l.length - (k + 1))
        case measure => rw [HK.out]; omega
        case rel => exact ⟨k + 1, by omega, rfl, by go_num, by rw [HT1.out, flatC_snoc, List.length_append, HN.out, HCV.out]; exact HO8.out, HB8.out⟩
      · have hd : (s.k == 1) = false := by simpa using hq
        have HT1 : Hid (callsOf (l.take (k + 1)) = callsOf (l.take k)) := Lib.hid (by rw [HT.out, if_neg hq])
        generalize s.k = sk at *
        clear hq
        go_wp2_with (first
          | ((with_reducible refine wpList_load_midg (op := ⟨some 11, _, _, _, _, _⟩) ?_ 44 (.tmp 10) rfl b1 (o1 + k * 19) ?_ M _ HR.out Tryd.underlying44 rfl HI.out ?_); kernel_rfl; rfl)
          | ((with_reducible refine wpList_store_new (op := ⟨none, _, _, _, _, _⟩) rfl 44 (.tmp 5) (.tmp 11) rfl wr.heap.size _ M.toArray rfl ?_ ?_ HI2.out HZL.out HOL.out ?_); rfl; rfl))
        go_roundg (l.length - (k + 1))
        case measure => rw [HK.out]; omega
        case rel => exact ⟨k + 1, by omega, rfl, by go_num, by rw [HT1.out, HN.out]; exact HO1.out, HB1.out⟩
    · obtain rfl : k = l.length := by omega
      go_wp2_with fail
      go_ret
      exact ⟨_, rfl, by rw [← HCN.out]; exact HO.out, HB.out⟩
end Go.Proofs.YtjakkmioofbcaaaDoor
namespace Go.Proofs.YtjakkmioofbcaaaDoor
open Go.RowKit
theorem digs_no10 (n : Nat) : (10 : UInt8) ∉ digs n := fun h => by
  have := digs_byte n 10 h
  have e : (10 : UInt8).toNat = 10 := rfl
  omega
theorem hexd_no10 : ∀ n : Fin 16, hexd n.1 ≠ 10 := by decide +kernel
theorem dig_no10 (t : List UInt8) : (10 : UInt8) ∉ dig t := by
  unfold dig
  split
  · decide
  · intro h
    unfold digGo at h
    rw [List.mem_flatMap] at h
    obtain ⟨c, _, hc⟩ := h
    have hb := c.toNat_lt
    simp only [List.mem_cons, List.not_mem_nil, or_false] at hc
    rcases hc with hc | hc
    · exact hexd_no10 ⟨c.toNat / 16, by omega⟩ hc.symm
    · exact hexd_no10 ⟨c.toNat % 16, by omega⟩ hc.symm
theorem tru_no10 (l : List Bool) : (10 : UInt8) ∉ tru l := by
  unfold tru
  split
  · decide
  · intro h
    unfold truGo at h
    rw [List.mem_map] at h
    obtain ⟨x, _, hx⟩ := h
    cases x <;> simp at hx
theorem word_no10 (op : Int) : (10 : UInt8) ∉ wordL op := by
  unfold wordL
  repeat' split
  all_goals decide
theorem words_no10 (s : St) : ∀ x ∈ wordsOf s, (10 : UInt8) ∉ x := by
  intro x hx
  unfold wordsOf at hx
  split at hx
  · rcases List.mem_cons.1 hx with rfl | hx
    · exact word_no10 _
    · split at hx
      · rw [List.mem_singleton] at hx; subst hx; exact dig_no10 _
      · split at hx
        · rw [List.mem_singleton] at hx; subst hx; exact dig_no10 _
        · cases hx
  · split at hx
    · simp only [List.mem_cons, List.not_mem_nil, or_false] at hx
      rcases hx with rfl | rfl
      · decide
      · exact digs_no10 _
    · split at hx
      · simp only [List.mem_cons, List.not_mem_nil, or_false] at hx
        rcases hx with rfl | rfl
        · decide
        · exact tru_no10 _
      · rcases List.mem_cons.1 hx with rfl | hx
        · decide
        · unfold setL at hx
          obtain ⟨i, _, rfl⟩ := List.mem_map.1 hx
          exact digs_no10 _
theorem head_no10w (a b : Int) (c : Fin 13 → Int) : ∀ x ∈ headW a b c, (10 : UInt8) ∉ x := by
  intro x hx
  rcases List.mem_cons.1 hx with rfl | hx
  · decide
  · rcases List.mem_cons.1 hx with rfl | hx
    · exact digs_no10 _
    · rcases List.mem_cons.1 hx with rfl | hx
      · exact digs_no10 _
      · unfold setL at hx
        obtain ⟨i, _, rfl⟩ := List.mem_map.1 hx
        exact digs_no10 _
theorem join_no10 : ∀ (ws : List (List UInt8)), (∀ x ∈ ws, (10 : UInt8) ∉ x) → (10 : UInt8) ∉ joinL ws
  | [], _ => by simp [joinL, List.intercalate]
  | [a], h => by rw [joinL_one]; exact h a (by simp)
  | a :: b :: r, h => by
    rw [joinL_cons _ _ (by simp)]
    intro hx
    rcases List.mem_append.1 hx with hx | hx
    · exact h a (by simp) hx
    · rcases List.mem_cons.1 hx with hx | hx
      · exact absurd hx (by decide)
      · exact join_no10 (b :: r) (fun x hx => h x (by simp [hx])) hx
theorem line_no10 (s : St) : (10 : UInt8) ∉ lineL s := by
  rw [← join_words]
  exact join_no10 _ (words_no10 s)
theorem head_no10 (a b : Int) (c : Fin 13 → Int) : (10 : UInt8) ∉ headL a b c := by
  rw [← head_join]
  exact join_no10 _ (head_no10w a b c)
theorem split_lines : ∀ (ls : List (List UInt8)), ls ≠ [] → (∀ x ∈ ls, (10 : UInt8) ∉ x) → ∃ Y, ls.flatMap (· ++ [10]) = Y ++ [10] ∧ splitL 10 Y = ls
  | [], h, _ => absurd rfl h
  | [a], _, h => ⟨a, by simp, splitL_noSep (h a (by simp))⟩
  | a :: b :: r, _, h => by
    obtain ⟨Y, h1, h2⟩ := split_lines (b :: r) (by simp) (fun x hx => h x (by simp [hx]))
    refine ⟨a ++ 10 :: Y, ?_, ?_⟩
    · rw [List.flatMap_cons, h1]
      simp
    · rw [splitL_app (h a (by simp)), h2]
theorem text_lines (a b : Int) (c : Fin 13 → Int) (l : List St) : textL a b c l = (headL a b c :: l.map lineL).flatMap (· ++ [10]) := by
  rw [List.flatMap_cons, List.flatMap_map]
  rfl
theorem may_line {s : St} (h : mayB s = true) : (lineL s).length ≤ 65536 := by
  simp only [mayB, Bool.and_eq_true, decide_eq_true_eq] at h
  exact h.2
theorem readGo_lines : ∀ (l : List St) (acc : List St) (i : Nat), (∀ s ∈ l, mayB s = true) → readGo (l.map lineL) acc i = (some (acc ++ l), i + l.length, 0)
  | [], acc, i, _ => by simp [readGo]
  | s :: r, acc, i, h => by
    have hm := h s (by simp)
    have h1 : ¬ 65536 < (lineL s).length := by have := may_line hm; omega
    have he : parseE (lineL s) = 0 := by unfold parseE; rw [if_neg h1, line_parse hm]
    have hp : parseS (lineL s) = s := by unfold parseS; rw [if_neg h1, line_parse hm]; rfl
    rw [List.map_cons, readGo, if_pos he, hp, readGo_lines r _ _ (fun x hx => h x (by simp [hx]))]
    simp [List.append_assoc, Nat.add_assoc, Nat.add_comm 1]
theorem head_le {a b : Int} {c : Fin 13 → Int} (h : HeadOk a b c) : (headL a b c).length ≤ 171 := by
  obtain ⟨g1, g2, g3⟩ := h
  have k1 := digs_len10 a.toNat (by omega)
  have k2 := digs_len10 b.toNat (by omega)
  have k3 := setL_small c g3
  simp [headL, storeW]
  omega
theorem read_text {a b : Int} {c : Fin 13 → Int} {l : List St} (hg : goodB a b c l = true) : readP (textL a b c l) = (some (a, b, c, l), l.length + 1, 0) := by
  obtain ⟨hho, hall⟩ := (good_iff a b c l).1 hg
  obtain ⟨Y, h1, h2⟩ := split_lines (headL a b c :: l.map lineL) (by simp) (fun x hx => by
    rcases List.mem_cons.1 hx with rfl | hx
    · exact head_no10 a b c
    · obtain ⟨s, _, rfl⟩ := List.mem_map.1 hx
      exact line_no10 s)
  unfold readP
  rw [text_lines, h1, trim_end, h2]
  unfold readLs
  have hg0 : (headL a b c :: l.map lineL).getD 0 [] = headL a b c := rfl
  rw [hg0, if_neg (by have := head_le hho; omega), head_split, head_words hho, List.tail_cons, readGo_lines l [] 0 hall]
  simp
  rfl
theorem word_le (op : Int) : (wordL op).length ≤ 7 := by
  unfold wordL
  repeat' split
  all_goals decide
theorem line_le {s : St} (h : mayB s = true) (h1 : s.nm.length ≤ 5000) (h2 : s.dt.length ≤ 5000) (h3 : s.kp.length ≤ 5000) : (lineL s).length ≤ 10010 := by
  obtain ⟨_, hn, hc⟩ := may_just h
  have k1 := dig_len s.nm
  have k2 := dig_len s.dt
  have k3 := tru_len s.kp
  have k4 := digs_len10 s.n.toNat (by omega)
  have k5 := setL_small s.c hc
  have k6 := word_le s.op
  unfold lineL callL
  split
  · split
    · simp; omega
    · split
      · simp; omega
      · simp; omega
  · split
    · simp [fuseW]; omega
    · split
      · simp [powerW]; omega
      · simp [confW]; omega
theorem flat_le : ∀ (l : List St), (∀ s ∈ l, (lineL s).length ≤ 10010) → (l.flatMap fun s => lineL s ++ [10]).length ≤ l.length * 10011
  | [], _ => by simp
  | s :: r, h => by
    have h1 := h s (by simp)
    have h2 := flat_le r (fun x hx => h x (by simp [hx]))
    rw [List.flatMap_cons, List.length_append, List.length_append, List.length_cons]
    simp only [List.length_cons, List.length_nil]
    omega
theorem text_bound {a b : Int} {c : Fin 13 → Int} {l : List St} (hg : goodB a b c l = true) (hl : l.length ≤ 40) (hb : ∀ s ∈ l, s.nm.length ≤ 5000 ∧ s.dt.length ≤ 5000 ∧ s.kp.length ≤ 5000) : (textL a b c l).length ≤ 1000000 := by
  obtain ⟨hho, hall⟩ := (good_iff a b c l).1 hg
  have h1 := flat_le l (fun s hs => line_le (hall s hs) (hb s hs).1 (hb s hs).2.1 (hb s hs).2.2)
  have h2 := head_le hho
  unfold textL
  rw [List.length_append, List.length_append]
  simp only [List.length_cons, List.length_nil]
  omega
end Go.Proofs.YtjakkmioofbcaaaDoor
namespace Go.Proofs.YtjakkmioofbcaaaDoor
open Go.RowKit
def GiveFewA (A : Option Addr) (s : St) (e : Ending) (w' : World) : Prop := ∃ (cap : Nat), Kp w' (.slice A s.kp.length cap) s.kp ∧ e = .returned (.agg (s.L (.slice A s.kp.length cap)).toArray)
theorem giveFewA_mk {k op : Int} {nm dt : List UInt8} {n : Int} {kp : List Bool} {c : Fin 13 → Int} {A : Option Addr} {cap m : Nat} {w : World} (hm : kp.length = m) (hk : Kp w (.slice A m cap) kp) : GiveFewA A ⟨k, op, nm, dt, n, kp, c⟩ (.returned (.agg (stL k op nm dt n (.slice A m cap) c).toArray)) w := by
  subst hm
  exact ⟨cap, hk, rfl⟩
set_option maxRecDepth 100000 in
set_option maxHeartbeats 2000000 in
theorem few10A (s : St) (A : Option Addr) (cap : Nat) (w : World) (hk : Kp w (.slice A s.kp.length cap) s.kp) (hcap : s.kp.length ≤ cap) (hm : cap ≤ maxLen) (hm2 : s.nm.length ≤ maxLen) (hm3 : s.dt.length ≤ maxLen) :
    Calls Tryd.prog 10 #[.agg (s.A (.slice A s.kp.length cap))] w fun e w' => GiveFewA A (fewS s) e w' ∧ Below w.heap.size w w' := by
  obtain ⟨k, op, nm, dt, n, kp, c⟩ := s
  simp only [St.A, fewS] at *
  rw [stA_eq]
  unfold maxLen at hm hm2 hm3
  have HKP := Lib.hid hk
  have HCAP := Lib.hid hcap
  clear hk hcap
  have HW : Hid (∃ W, (w.alloc (.cells (stL k op nm dt n (.slice A kp.length cap) c).toArray 44)).alloc (.cells #[.int .i64 0, .int .i64 0, .string ⟨#[]⟩, .string ⟨#[]⟩, .int .i64 0, .slice none 0 0, .int .i64 0, .int .i64 0, .int .i64 0, .int .i64 0, .int .i64 0, .int .i64 0, .int .i64 0, .int .i64 0, .int .i64 0, .int .i64 0, .int .i64 0, .int .i64 0, .int .i64 0] 44) = W) := Lib.hid ⟨_, rfl⟩
  obtain ⟨W, hW⟩ := HW.out
  have hH : W.heap[w.heap.size]? = some (.cells (stL k op nm dt n (.slice A kp.length cap) c).toArray 44 (0, 0)) := by rw [← hW]; exact (Below.heap_alloc _ _ _ (by simp)).trans (heap_alloc_new w _)
  have hZ : W.heap[w.heap.size + 1]? = some (.cells (stL 0 0 [] [] 0 (.slice none 0 0) c0).toArray 44 (0, 0)) := by
    rw [← hW]
    have := heap_alloc_new (w.alloc (.cells (stL k op nm dt n (.slice A kp.length cap) c).toArray 44)) (.cells #[.int .i64 0, .int .i64 0, .string ⟨#[]⟩, .string ⟨#[]⟩, .int .i64 0, .slice none 0 0, .int .i64 0, .int .i64 0, .int .i64 0, .int .i64 0, .int .i64 0, .int .i64 0, .int .i64 0, .int .i64 0, .int .i64 0, .int .i64 0, .int .i64 0, .int .i64 0, .int .i64 0] 44)
    rw [World.size_alloc] at this
    exact this
  have hB : Below w.heap.size w W := by rw [← hW]; exact ((Below.refl _ _).alloc (Nat.le_refl _) _).alloc (by simp) _
  have HWW := Lib.hid hW
  have HH := Lib.hid hH
  have HZ := Lib.hid hZ
  have HB := Lib.hid hB
  clear hW HW hH hZ hB
  have hns : (str nm).size = nm.length := str_size _
  have hds : (str dt).size = dt.length := str_size _
  have p2 : W.cell? ⟨w.heap.size, 2, none⟩ = some (.string (str nm)) := cell_of_row W _ 2 _ 44 (0, 0) HH.out
  have p3 : W.cell? ⟨w.heap.size, 3, none⟩ = some (.string (str dt)) := cell_of_row W _ 3 _ 44 (0, 0) HH.out
  have p5 : W.cell? ⟨w.heap.size, 5, none⟩ = some (.slice A kp.length cap) := cell_of_row W _ 5 _ 44 (0, 0) HH.out
  have hfz : ∀ j, W.frozen? ⟨w.heap.size, j, none⟩ = false := fun j => by simp [World.frozen?, HH.out]
  by_cases h1 : 70000 < nm.length
  all_goals by_cases h2 : 70000 < dt.length
  all_goals by_cases h3 : 70000 < kp.length
  · have hx1 : (str nm).extract 0 70000 = str (nm.take 70000) := by rw [str_extract]; rfl
    have hx2 : (str dt).extract 0 70000 = str (dt.take 70000) := by rw [str_extract]; rfl
    have HKL : Hid ((kp.take 70000).length = 70000) := Lib.hid (by simp; omega)
    have HKP2 : Hid (Kp w (.slice A 70000 cap) (kp.take 70000)) := Lib.hid (HKP.out.take (by omega))
    have hc7 : (70000 : Int) ≤ (cap : Int) := by have := HCAP.out; omega
    have HF : Hid ((((W.setCell ⟨w.heap.size, 2, none⟩ (.string (str (nm.take 70000)))).setCell ⟨w.heap.size, 3, none⟩ (.string (str (dt.take 70000)))).setCell ⟨w.heap.size, 5, none⟩ (.slice A 70000 cap)).heap[w.heap.size]? = some (.cells (stL k op (nm.take 70000) (dt.take 70000) n (.slice A 70000 cap) c).toArray 44 (0, 0))) := Lib.hid (set5 (set3 (set2 HH.out (nm.take 70000)) (dt.take 70000)) (.slice A 70000 cap))
    have HZF : Hid ((((W.setCell ⟨w.heap.size, 2, none⟩ (.string (str (nm.take 70000)))).setCell ⟨w.heap.size, 3, none⟩ (.string (str (dt.take 70000)))).setCell ⟨w.heap.size, 5, none⟩ (.slice A 70000 cap)).heap[w.heap.size + 1]? = some (.cells (stL 0 0 [] [] 0 (.slice none 0 0) c0).toArray 44 (0, 0))) := Lib.hid ((heap_setCell_other _ _ _ _ (by simp)).trans ((heap_setCell_other _ _ _ _ (by simp)).trans ((heap_setCell_other _ _ _ _ (by simp)).trans HZ.out)))
    have HBF : Hid (Below w.heap.size w (((W.setCell ⟨w.heap.size, 2, none⟩ (.string (str (nm.take 70000)))).setCell ⟨w.heap.size, 3, none⟩ (.string (str (dt.take 70000)))).setCell ⟨w.heap.size, 5, none⟩ (.slice A 70000 cap))) := Lib.hid (((HB.out.setCell (by simp) _).setCell (by simp) _).setCell (by simp) _)
    have HI : Hid ((Tryd.prog.info? 44).map (·.size) = some (stL k op (nm.take 70000) (dt.take 70000) n (.slice A 70000 cap) c).length) := Lib.hid info30
    have HI2 : Hid ((Tryd.prog.info? 44).map (·.size) = some (stL k op (nm.take 70000) (dt.take 70000) n (.slice A 70000 cap) c).toArray.size) := Lib.hid info30
    have HO : Hid ((stL k op (nm.take 70000) (dt.take 70000) n (.slice A 70000 cap) c).toArray.all (·.oneCell') = true) := Lib.hid (stL_one _ _ _ _ _ _ _ _ _)
    obtain ⟨L, hL⟩ : ∃ L, stL k op (nm.take 70000) (dt.take 70000) n (.slice A 70000 cap) c = L := ⟨_, rfl⟩
    have HLE := Lib.hid hL
    have HOS : Hid ((stL 0 0 [] [] 0 (.slice none 0 0) c0).toArray.size = L.toArray.size) := Lib.hid (by rw [← hL]; rfl)
    rw [hL] at HF HI HI2 HO
    clear hL
    go_enter Tryd.func10, Tryd.ntmps10
    go_upto_region 1 with fail
    rw [HWW.out]
    go_wp2_with (first
      | ((with_reducible refine wpList_load_midg (op := ⟨some 33, _, _, _, _, _⟩) ?_ 44 (.tmp 1) rfl w.heap.size 0 ?_ L _ (range_of_row HF.out) Tryd.underlying44 rfl HI.out ?_); kernel_rfl; rfl)
      | ((with_reducible refine wpList_store_row (o := ⟨none, _, _, _, _, _⟩) rfl 44 (.tmp 2) (.tmp 33) rfl (w.heap.size + 1) L.toArray ?_ ?_ 44 _ HZF.out HI2.out HOS.out HO.out ?_); rfl; rfl))
    refine bodyPost_ret (results_cell_row rfl _ _ (w.heap.size + 1) 44 L.toArray (0, 0) _ rfl (setRow_heap _ _ _ _ _ _ HZF.out) Tryd.underlying44 rfl HI2.out) rfl ?_
    rw [← HLE.out]
    have hbz := below_setRow HBF.out (Nat.le_succ _) L.toArray
    rw [← HLE.out] at hbz
    exact ⟨giveFewA_mk HKL.out (HKP2.out.below hbz), hbz⟩
  · have hx1 : (str nm).extract 0 70000 = str (nm.take 70000) := by rw [str_extract]; rfl
    have hx2 : (str dt).extract 0 70000 = str (dt.take 70000) := by rw [str_extract]; rfl
    rw [show kp.take 70000 = kp from List.take_of_length_le (by omega)]
    have HKP2 := HKP
    have HF : Hid (((W.setCell ⟨w.heap.size, 2, none⟩ (.string (str (nm.take 70000)))).setCell ⟨w.heap.size, 3, none⟩ (.string (str (dt.take 70000)))).heap[w.heap.size]? = some (.cells (stL k op (nm.take 70000) (dt.take 70000) n (.slice A kp.length cap) c).toArray 44 (0, 0))) := Lib.hid (set3 (set2 HH.out (nm.take 70000)) (dt.take 70000))
    have HZF : Hid (((W.setCell ⟨w.heap.size, 2, none⟩ (.string (str (nm.take 70000)))).setCell ⟨w.heap.size, 3, none⟩ (.string (str (dt.take 70000)))).heap[w.heap.size + 1]? = some (.cells (stL 0 0 [] [] 0 (.slice none 0 0) c0).toArray 44 (0, 0))) := Lib.hid ((heap_setCell_other _ _ _ _ (by simp)).trans ((heap_setCell_other _ _ _ _ (by simp)).trans HZ.out))
    have HBF : Hid (Below w.heap.size w ((W.setCell ⟨w.heap.size, 2, none⟩ (.string (str (nm.take 70000)))).setCell ⟨w.heap.size, 3, none⟩ (.string (str (dt.take 70000))))) := Lib.hid ((HB.out.setCell (by simp) _).setCell (by simp) _)
    have HI : Hid ((Tryd.prog.info? 44).map (·.size) = some (stL k op (nm.take 70000) (dt.take 70000) n (.slice A kp.length cap) c).length) := Lib.hid info30
    have HI2 : Hid ((Tryd.prog.info? 44).map (·.size) = some (stL k op (nm.take 70000) (dt.take 70000) n (.slice A kp.length cap) c).toArray.size) := Lib.hid info30
    have HO : Hid ((stL k op (nm.take 70000) (dt.take 70000) n (.slice A kp.length cap) c).toArray.all (·.oneCell') = true) := Lib.hid (stL_one _ _ _ _ _ _ _ _ _)
    obtain ⟨L, hL⟩ : ∃ L, stL k op (nm.take 70000) (dt.take 70000) n (.slice A kp.length cap) c = L := ⟨_, rfl⟩
    have HLE := Lib.hid hL
    have HOS : Hid ((stL 0 0 [] [] 0 (.slice none 0 0) c0).toArray.size = L.toArray.size) := Lib.hid (by rw [← hL]; rfl)
    rw [hL] at HF HI HI2 HO
    clear hL
    go_enter Tryd.func10, Tryd.ntmps10
    go_upto_region 1 with fail
    rw [HWW.out]
    go_wp2_with (first
      | ((with_reducible refine wpList_load_midg (op := ⟨some 33, _, _, _, _, _⟩) ?_ 44 (.tmp 1) rfl w.heap.size 0 ?_ L _ (range_of_row HF.out) Tryd.underlying44 rfl HI.out ?_); kernel_rfl; rfl)
      | ((with_reducible refine wpList_store_row (o := ⟨none, _, _, _, _, _⟩) rfl 44 (.tmp 2) (.tmp 33) rfl (w.heap.size + 1) L.toArray ?_ ?_ 44 _ HZF.out HI2.out HOS.out HO.out ?_); rfl; rfl))
    refine bodyPost_ret (results_cell_row rfl _ _ (w.heap.size + 1) 44 L.toArray (0, 0) _ rfl (setRow_heap _ _ _ _ _ _ HZF.out) Tryd.underlying44 rfl HI2.out) rfl ?_
    rw [← HLE.out]
    have hbz := below_setRow HBF.out (Nat.le_succ _) L.toArray
    rw [← HLE.out] at hbz
    exact ⟨giveFewA_mk rfl (HKP2.out.below hbz), hbz⟩
  · have hx1 : (str nm).extract 0 70000 = str (nm.take 70000) := by rw [str_extract]; rfl
    rw [show dt.take 70000 = dt from List.take_of_length_le (by omega)]
    have HKL : Hid ((kp.take 70000).length = 70000) := Lib.hid (by simp; omega)
    have HKP2 : Hid (Kp w (.slice A 70000 cap) (kp.take 70000)) := Lib.hid (HKP.out.take (by omega))
    have hc7 : (70000 : Int) ≤ (cap : Int) := by have := HCAP.out; omega
    have HF : Hid (((W.setCell ⟨w.heap.size, 2, none⟩ (.string (str (nm.take 70000)))).setCell ⟨w.heap.size, 5, none⟩ (.slice A 70000 cap)).heap[w.heap.size]? = some (.cells (stL k op (nm.take 70000) (dt) n (.slice A 70000 cap) c).toArray 44 (0, 0))) := Lib.hid (set5 (set2 HH.out (nm.take 70000)) (.slice A 70000 cap))
    have HZF : Hid (((W.setCell ⟨w.heap.size, 2, none⟩ (.string (str (nm.take 70000)))).setCell ⟨w.heap.size, 5, none⟩ (.slice A 70000 cap)).heap[w.heap.size + 1]? = some (.cells (stL 0 0 [] [] 0 (.slice none 0 0) c0).toArray 44 (0, 0))) := Lib.hid ((heap_setCell_other _ _ _ _ (by simp)).trans ((heap_setCell_other _ _ _ _ (by simp)).trans HZ.out))
    have HBF : Hid (Below w.heap.size w ((W.setCell ⟨w.heap.size, 2, none⟩ (.string (str (nm.take 70000)))).setCell ⟨w.heap.size, 5, none⟩ (.slice A 70000 cap))) := Lib.hid ((HB.out.setCell (by simp) _).setCell (by simp) _)
    have HI : Hid ((Tryd.prog.info? 44).map (·.size) = some (stL k op (nm.take 70000) (dt) n (.slice A 70000 cap) c).length) := Lib.hid info30
    have HI2 : Hid ((Tryd.prog.info? 44).map (·.size) = some (stL k op (nm.take 70000) (dt) n (.slice A 70000 cap) c).toArray.size) := Lib.hid info30
    have HO : Hid ((stL k op (nm.take 70000) (dt) n (.slice A 70000 cap) c).toArray.all (·.oneCell') = true) := Lib.hid (stL_one _ _ _ _ _ _ _ _ _)
    obtain ⟨L, hL⟩ : ∃ L, stL k op (nm.take 70000) (dt) n (.slice A 70000 cap) c = L := ⟨_, rfl⟩
    have HLE := Lib.hid hL
    have HOS : Hid ((stL 0 0 [] [] 0 (.slice none 0 0) c0).toArray.size = L.toArray.size) := Lib.hid (by rw [← hL]; rfl)
    rw [hL] at HF HI HI2 HO
    clear hL
    go_enter Tryd.func10, Tryd.ntmps10
    go_upto_region 1 with fail
    rw [HWW.out]
    go_wp2_with (first
      | ((with_reducible refine wpList_load_midg (op := ⟨some 33, _, _, _, _, _⟩) ?_ 44 (.tmp 1) rfl w.heap.size 0 ?_ L _ (range_of_row HF.out) Tryd.underlying44 rfl HI.out ?_); kernel_rfl; rfl)
      | ((with_reducible refine wpList_store_row (o := ⟨none, _, _, _, _, _⟩) rfl 44 (.tmp 2) (.tmp 33) rfl (w.heap.size + 1) L.toArray ?_ ?_ 44 _ HZF.out HI2.out HOS.out HO.out ?_); rfl; rfl))
    refine bodyPost_ret (results_cell_row rfl _ _ (w.heap.size + 1) 44 L.toArray (0, 0) _ rfl (setRow_heap _ _ _ _ _ _ HZF.out) Tryd.underlying44 rfl HI2.out) rfl ?_
    rw [← HLE.out]
    have hbz := below_setRow HBF.out (Nat.le_succ _) L.toArray
    rw [← HLE.out] at hbz
    exact ⟨giveFewA_mk HKL.out (HKP2.out.below hbz), hbz⟩
  · have hx1 : (str nm).extract 0 70000 = str (nm.take 70000) := by rw [str_extract]; rfl
    rw [show dt.take 70000 = dt from List.take_of_length_le (by omega)]
    rw [show kp.take 70000 = kp from List.take_of_length_le (by omega)]
    have HKP2 := HKP
    have HF : Hid ((W.setCell ⟨w.heap.size, 2, none⟩ (.string (str (nm.take 70000)))).heap[w.heap.size]? = some (.cells (stL k op (nm.take 70000) (dt) n (.slice A kp.length cap) c).toArray 44 (0, 0))) := Lib.hid (set2 HH.out (nm.take 70000))
    have HZF : Hid ((W.setCell ⟨w.heap.size, 2, none⟩ (.string (str (nm.take 70000)))).heap[w.heap.size + 1]? = some (.cells (stL 0 0 [] [] 0 (.slice none 0 0) c0).toArray 44 (0, 0))) := Lib.hid ((heap_setCell_other _ _ _ _ (by simp)).trans HZ.out)
    have HBF : Hid (Below w.heap.size w (W.setCell ⟨w.heap.size, 2, none⟩ (.string (str (nm.take 70000))))) := Lib.hid (HB.out.setCell (by simp) _)
    have HI : Hid ((Tryd.prog.info? 44).map (·.size) = some (stL k op (nm.take 70000) (dt) n (.slice A kp.length cap) c).length) := Lib.hid info30
    have HI2 : Hid ((Tryd.prog.info? 44).map (·.size) = some (stL k op (nm.take 70000) (dt) n (.slice A kp.length cap) c).toArray.size) := Lib.hid info30
    have HO : Hid ((stL k op (nm.take 70000) (dt) n (.slice A kp.length cap) c).toArray.all (·.oneCell') = true) := Lib.hid (stL_one _ _ _ _ _ _ _ _ _)
    obtain ⟨L, hL⟩ : ∃ L, stL k op (nm.take 70000) (dt) n (.slice A kp.length cap) c = L := ⟨_, rfl⟩
    have HLE := Lib.hid hL
    have HOS : Hid ((stL 0 0 [] [] 0 (.slice none 0 0) c0).toArray.size = L.toArray.size) := Lib.hid (by rw [← hL]; rfl)
    rw [hL] at HF HI HI2 HO
    clear hL
    go_enter Tryd.func10, Tryd.ntmps10
    go_upto_region 1 with fail
    rw [HWW.out]
    go_wp2_with (first
      | ((with_reducible refine wpList_load_midg (op := ⟨some 33, _, _, _, _, _⟩) ?_ 44 (.tmp 1) rfl w.heap.size 0 ?_ L _ (range_of_row HF.out) Tryd.underlying44 rfl HI.out ?_); kernel_rfl; rfl)
      | ((with_reducible refine wpList_store_row (o := ⟨none, _, _, _, _, _⟩) rfl 44 (.tmp 2) (.tmp 33) rfl (w.heap.size + 1) L.toArray ?_ ?_ 44 _ HZF.out HI2.out HOS.out HO.out ?_); rfl; rfl))
    refine bodyPost_ret (results_cell_row rfl _ _ (w.heap.size + 1) 44 L.toArray (0, 0) _ rfl (setRow_heap _ _ _ _ _ _ HZF.out) Tryd.underlying44 rfl HI2.out) rfl ?_
    rw [← HLE.out]
    have hbz := below_setRow HBF.out (Nat.le_succ _) L.toArray
    rw [← HLE.out] at hbz
    exact ⟨giveFewA_mk rfl (HKP2.out.below hbz), hbz⟩
  · rw [show nm.take 70000 = nm from List.take_of_length_le (by omega)]
    have hx2 : (str dt).extract 0 70000 = str (dt.take 70000) := by rw [str_extract]; rfl
    have HKL : Hid ((kp.take 70000).length = 70000) := Lib.hid (by simp; omega)
    have HKP2 : Hid (Kp w (.slice A 70000 cap) (kp.take 70000)) := Lib.hid (HKP.out.take (by omega))
    have hc7 : (70000 : Int) ≤ (cap : Int) := by have := HCAP.out; omega
    have HF : Hid (((W.setCell ⟨w.heap.size, 3, none⟩ (.string (str (dt.take 70000)))).setCell ⟨w.heap.size, 5, none⟩ (.slice A 70000 cap)).heap[w.heap.size]? = some (.cells (stL k op (nm) (dt.take 70000) n (.slice A 70000 cap) c).toArray 44 (0, 0))) := Lib.hid (set5 (set3 HH.out (dt.take 70000)) (.slice A 70000 cap))
    have HZF : Hid (((W.setCell ⟨w.heap.size, 3, none⟩ (.string (str (dt.take 70000)))).setCell ⟨w.heap.size, 5, none⟩ (.slice A 70000 cap)).heap[w.heap.size + 1]? = some (.cells (stL 0 0 [] [] 0 (.slice none 0 0) c0).toArray 44 (0, 0))) := Lib.hid ((heap_setCell_other _ _ _ _ (by simp)).trans ((heap_setCell_other _ _ _ _ (by simp)).trans HZ.out))
    have HBF : Hid (Below w.heap.size w ((W.setCell ⟨w.heap.size, 3, none⟩ (.string (str (dt.take 70000)))).setCell ⟨w.heap.size, 5, none⟩ (.slice A 70000 cap))) := Lib.hid ((HB.out.setCell (by simp) _).setCell (by simp) _)
    have HI : Hid ((Tryd.prog.info? 44).map (·.size) = some (stL k op (nm) (dt.take 70000) n (.slice A 70000 cap) c).length) := Lib.hid info30
    have HI2 : Hid ((Tryd.prog.info? 44).map (·.size) = some (stL k op (nm) (dt.take 70000) n (.slice A 70000 cap) c).toArray.size) := Lib.hid info30
    have HO : Hid ((stL k op (nm) (dt.take 70000) n (.slice A 70000 cap) c).toArray.all (·.oneCell') = true) := Lib.hid (stL_one _ _ _ _ _ _ _ _ _)
    obtain ⟨L, hL⟩ : ∃ L, stL k op (nm) (dt.take 70000) n (.slice A 70000 cap) c = L := ⟨_, rfl⟩
    have HLE := Lib.hid hL
    have HOS : Hid ((stL 0 0 [] [] 0 (.slice none 0 0) c0).toArray.size = L.toArray.size) := Lib.hid (by rw [← hL]; rfl)
    rw [hL] at HF HI HI2 HO
    clear hL
    go_enter Tryd.func10, Tryd.ntmps10
    go_upto_region 1 with fail
    rw [HWW.out]
    go_wp2_with (first
      | ((with_reducible refine wpList_load_midg (op := ⟨some 33, _, _, _, _, _⟩) ?_ 44 (.tmp 1) rfl w.heap.size 0 ?_ L _ (range_of_row HF.out) Tryd.underlying44 rfl HI.out ?_); kernel_rfl; rfl)
      | ((with_reducible refine wpList_store_row (o := ⟨none, _, _, _, _, _⟩) rfl 44 (.tmp 2) (.tmp 33) rfl (w.heap.size + 1) L.toArray ?_ ?_ 44 _ HZF.out HI2.out HOS.out HO.out ?_); rfl; rfl))
    refine bodyPost_ret (results_cell_row rfl _ _ (w.heap.size + 1) 44 L.toArray (0, 0) _ rfl (setRow_heap _ _ _ _ _ _ HZF.out) Tryd.underlying44 rfl HI2.out) rfl ?_
    rw [← HLE.out]
    have hbz := below_setRow HBF.out (Nat.le_succ _) L.toArray
    rw [← HLE.out] at hbz
    exact ⟨giveFewA_mk HKL.out (HKP2.out.below hbz), hbz⟩
  · rw [show nm.take 70000 = nm from List.take_of_length_le (by omega)]
    have hx2 : (str dt).extract 0 70000 = str (dt.take 70000) := by rw [str_extract]; rfl
    rw [show kp.take 70000 = kp from List.take_of_length_le (by omega)]
    have HKP2 := HKP
    have HF : Hid ((W.setCell ⟨w.heap.size, 3, none⟩ (.string (str (dt.take 70000)))).heap[w.heap.size]? = some (.cells (stL k op (nm) (dt.take 70000) n (.slice A kp.length cap) c).toArray 44 (0, 0))) := Lib.hid (set3 HH.out (dt.take 70000))
    have HZF : Hid ((W.setCell ⟨w.heap.size, 3, none⟩ (.string (str (dt.take 70000)))).heap[w.heap.size + 1]? = some (.cells (stL 0 0 [] [] 0 (.slice none 0 0) c0).toArray 44 (0, 0))) := Lib.hid ((heap_setCell_other _ _ _ _ (by simp)).trans HZ.out)
    have HBF : Hid (Below w.heap.size w (W.setCell ⟨w.heap.size, 3, none⟩ (.string (str (dt.take 70000))))) := Lib.hid (HB.out.setCell (by simp) _)
    have HI : Hid ((Tryd.prog.info? 44).map (·.size) = some (stL k op (nm) (dt.take 70000) n (.slice A kp.length cap) c).length) := Lib.hid info30
    have HI2 : Hid ((Tryd.prog.info? 44).map (·.size) = some (stL k op (nm) (dt.take 70000) n (.slice A kp.length cap) c).toArray.size) := Lib.hid info30
    have HO : Hid ((stL k op (nm) (dt.take 70000) n (.slice A kp.length cap) c).toArray.all (·.oneCell') = true) := Lib.hid (stL_one _ _ _ _ _ _ _ _ _)
    obtain ⟨L, hL⟩ : ∃ L, stL k op (nm) (dt.take 70000) n (.slice A kp.length cap) c = L := ⟨_, rfl⟩
    have HLE := Lib.hid hL
    have HOS : Hid ((stL 0 0 [] [] 0 (.slice none 0 0) c0).toArray.size = L.toArray.size) := Lib.hid (by rw [← hL]; rfl)
    rw [hL] at HF HI HI2 HO
    clear hL
    go_enter Tryd.func10, Tryd.ntmps10
    go_upto_region 1 with fail
    rw [HWW.out]
    go_wp2_with (first
      | ((with_reducible refine wpList_load_midg (op := ⟨some 33, _, _, _, _, _⟩) ?_ 44 (.tmp 1) rfl w.heap.size 0 ?_ L _ (range_of_row HF.out) Tryd.underlying44 rfl HI.out ?_); kernel_rfl; rfl)
      | ((with_reducible refine wpList_store_row (o := ⟨none, _, _, _, _, _⟩) rfl 44 (.tmp 2) (.tmp 33) rfl (w.heap.size + 1) L.toArray ?_ ?_ 44 _ HZF.out HI2.out HOS.out HO.out ?_); rfl; rfl))
    refine bodyPost_ret (results_cell_row rfl _ _ (w.heap.size + 1) 44 L.toArray (0, 0) _ rfl (setRow_heap _ _ _ _ _ _ HZF.out) Tryd.underlying44 rfl HI2.out) rfl ?_
    rw [← HLE.out]
    have hbz := below_setRow HBF.out (Nat.le_succ _) L.toArray
    rw [← HLE.out] at hbz
    exact ⟨giveFewA_mk rfl (HKP2.out.below hbz), hbz⟩
  · rw [show nm.take 70000 = nm from List.take_of_length_le (by omega)]
    rw [show dt.take 70000 = dt from List.take_of_length_le (by omega)]
    have HKL : Hid ((kp.take 70000).length = 70000) := Lib.hid (by simp; omega)
    have HKP2 : Hid (Kp w (.slice A 70000 cap) (kp.take 70000)) := Lib.hid (HKP.out.take (by omega))
    have hc7 : (70000 : Int) ≤ (cap : Int) := by have := HCAP.out; omega
    have HF : Hid ((W.setCell ⟨w.heap.size, 5, none⟩ (.slice A 70000 cap)).heap[w.heap.size]? = some (.cells (stL k op (nm) (dt) n (.slice A 70000 cap) c).toArray 44 (0, 0))) := Lib.hid (set5 HH.out (.slice A 70000 cap))
    have HZF : Hid ((W.setCell ⟨w.heap.size, 5, none⟩ (.slice A 70000 cap)).heap[w.heap.size + 1]? = some (.cells (stL 0 0 [] [] 0 (.slice none 0 0) c0).toArray 44 (0, 0))) := Lib.hid ((heap_setCell_other _ _ _ _ (by simp)).trans HZ.out)
    have HBF : Hid (Below w.heap.size w (W.setCell ⟨w.heap.size, 5, none⟩ (.slice A 70000 cap))) := Lib.hid (HB.out.setCell (by simp) _)
    have HI : Hid ((Tryd.prog.info? 44).map (·.size) = some (stL k op (nm) (dt) n (.slice A 70000 cap) c).length) := Lib.hid info30
    have HI2 : Hid ((Tryd.prog.info? 44).map (·.size) = some (stL k op (nm) (dt) n (.slice A 70000 cap) c).toArray.size) := Lib.hid info30
    have HO : Hid ((stL k op (nm) (dt) n (.slice A 70000 cap) c).toArray.all (·.oneCell') = true) := Lib.hid (stL_one _ _ _ _ _ _ _ _ _)
    obtain ⟨L, hL⟩ : ∃ L, stL k op (nm) (dt) n (.slice A 70000 cap) c = L := ⟨_, rfl⟩
    have HLE := Lib.hid hL
    have HOS : Hid ((stL 0 0 [] [] 0 (.slice none 0 0) c0).toArray.size = L.toArray.size) := Lib.hid (by rw [← hL]; rfl)
    rw [hL] at HF HI HI2 HO
    clear hL
    go_enter Tryd.func10, Tryd.ntmps10
    go_upto_region 1 with fail
    rw [HWW.out]
    go_wp2_with (first
      | ((with_reducible refine wpList_load_midg (op := ⟨some 33, _, _, _, _, _⟩) ?_ 44 (.tmp 1) rfl w.heap.size 0 ?_ L _ (range_of_row HF.out) Tryd.underlying44 rfl HI.out ?_); kernel_rfl; rfl)
      | ((with_reducible refine wpList_store_row (o := ⟨none, _, _, _, _, _⟩) rfl 44 (.tmp 2) (.tmp 33) rfl (w.heap.size + 1) L.toArray ?_ ?_ 44 _ HZF.out HI2.out HOS.out HO.out ?_); rfl; rfl))
    refine bodyPost_ret (results_cell_row rfl _ _ (w.heap.size + 1) 44 L.toArray (0, 0) _ rfl (setRow_heap _ _ _ _ _ _ HZF.out) Tryd.underlying44 rfl HI2.out) rfl ?_
    rw [← HLE.out]
    have hbz := below_setRow HBF.out (Nat.le_succ _) L.toArray
    rw [← HLE.out] at hbz
    exact ⟨giveFewA_mk HKL.out (HKP2.out.below hbz), hbz⟩
  · rw [show nm.take 70000 = nm from List.take_of_length_le (by omega)]
    rw [show dt.take 70000 = dt from List.take_of_length_le (by omega)]
    rw [show kp.take 70000 = kp from List.take_of_length_le (by omega)]
    have HKP2 := HKP
    have HF : Hid (W.heap[w.heap.size]? = some (.cells (stL k op (nm) (dt) n (.slice A kp.length cap) c).toArray 44 (0, 0))) := Lib.hid HH.out
    have HZF : Hid (W.heap[w.heap.size + 1]? = some (.cells (stL 0 0 [] [] 0 (.slice none 0 0) c0).toArray 44 (0, 0))) := Lib.hid HZ.out
    have HBF : Hid (Below w.heap.size w W) := Lib.hid HB.out
    have HI : Hid ((Tryd.prog.info? 44).map (·.size) = some (stL k op (nm) (dt) n (.slice A kp.length cap) c).length) := Lib.hid info30
    have HI2 : Hid ((Tryd.prog.info? 44).map (·.size) = some (stL k op (nm) (dt) n (.slice A kp.length cap) c).toArray.size) := Lib.hid info30
    have HO : Hid ((stL k op (nm) (dt) n (.slice A kp.length cap) c).toArray.all (·.oneCell') = true) := Lib.hid (stL_one _ _ _ _ _ _ _ _ _)
    obtain ⟨L, hL⟩ : ∃ L, stL k op (nm) (dt) n (.slice A kp.length cap) c = L := ⟨_, rfl⟩
    have HLE := Lib.hid hL
    have HOS : Hid ((stL 0 0 [] [] 0 (.slice none 0 0) c0).toArray.size = L.toArray.size) := Lib.hid (by rw [← hL]; rfl)
    rw [hL] at HF HI HI2 HO
    clear hL
    go_enter Tryd.func10, Tryd.ntmps10
    go_upto_region 1 with fail
    rw [HWW.out]
    go_wp2_with (first
      | ((with_reducible refine wpList_load_midg (op := ⟨some 33, _, _, _, _, _⟩) ?_ 44 (.tmp 1) rfl w.heap.size 0 ?_ L _ (range_of_row HF.out) Tryd.underlying44 rfl HI.out ?_); kernel_rfl; rfl)
      | ((with_reducible refine wpList_store_row (o := ⟨none, _, _, _, _, _⟩) rfl 44 (.tmp 2) (.tmp 33) rfl (w.heap.size + 1) L.toArray ?_ ?_ 44 _ HZF.out HI2.out HOS.out HO.out ?_); rfl; rfl))
    refine bodyPost_ret (results_cell_row rfl _ _ (w.heap.size + 1) 44 L.toArray (0, 0) _ rfl (setRow_heap _ _ _ _ _ _ HZF.out) Tryd.underlying44 rfl HI2.out) rfl ?_
    rw [← HLE.out]
    have hbz := below_setRow HBF.out (Nat.le_succ _) L.toArray
    rw [← HLE.out] at hbz
    exact ⟨giveFewA_mk rfl (HKP2.out.below hbz), hbz⟩
end Go.Proofs.YtjakkmioofbcaaaDoor
namespace Go.Proofs.YtjakkmioofbcaaaDoor
open Go.RowKit
/-- a script's steps as they are handed in -/
def Prm (w : World) (V : Value) (l : List St) : Prop :=
  (∃ A c, V = .slice A l.length c) ∧ l.length ≤ maxLen ∧ (l ≠ [] → ∃ b o c, V = .slice (some ⟨b, o, none⟩) l.length c ∧ b < w.heap.size ∧
    ∀ i s, l[i]? = some s → ∃ (A : Option Addr) (cap : Nat), w.rangeAt b (o + i * 19) (s.L (.slice A s.kp.length cap)) ∧ Kp w (.slice A s.kp.length cap) s.kp ∧ s.kp.length ≤ cap ∧ cap ≤ maxLen ∧ s.nm.length ≤ maxLen ∧ s.dt.length ≤ maxLen)
theorem Prm.at {w : World} {A : Option Addr} {cp k : Nat} {l : List St} (h : Prm w (.slice A l.length cp) l) (hk : k < l.length) :
    ∃ b o s B cap, A = some ⟨b, o, none⟩ ∧ l[k]? = some s ∧ (∀ W, Below w.heap.size w W → W.rangeAt b (o + k * 19) (s.L (.slice B s.kp.length cap))) ∧ Kp w (.slice B s.kp.length cap) s.kp ∧ s.kp.length ≤ cap ∧ cap ≤ maxLen ∧ s.nm.length ≤ maxLen ∧ s.dt.length ≤ maxLen := by
  obtain ⟨b, o, c, e, hlt, hc⟩ := h.2.2 (by intro e; rw [e] at hk; simp at hk)
  injection e with e1
  subst e1
  obtain ⟨s, hs⟩ : ∃ s, l[k]? = some s := ⟨l[k], List.getElem?_eq_getElem hk⟩
  obtain ⟨B, cap, h1, h2, h3, h4, h5, h6⟩ := hc k s hs
  exact ⟨b, o, s, B, cap, rfl, hs, fun W hb j v hj => (hb.cell (p := ⟨b, o + k * 19 + j, none⟩) hlt).trans (h1 j v hj), h2, h3, h4, h5, h6⟩
theorem own_ne {w : World} {b b' e e' s s' n n' : Nat} {v v' : Value} {xs xs' : List Value} (h : w.ownsRow b e s v n xs) (h' : w.ownsRow b' e' s' v' n' xs') (hne : e ≠ e') : v.ownBlock = none ∨ v.ownBlock ≠ v'.ownBlock := by
  rcases h.2 with ⟨rfl, _⟩ | ⟨g, cap, cur, rfl, _, hg, _⟩
  · exact .inl rfl
  · rcases h'.2 with ⟨rfl, _⟩ | ⟨g', cap', cur', rfl, _, hg', _⟩
    · exact .inr (by simp [Value.ownBlock])
    · refine .inr (fun q => ?_)
      simp only [Value.ownBlock, Option.some.injEq] at q
      subst q
      rw [hg] at hg'
      injection hg' with hg'
      injection hg' with _ hg' _
      exact hne hg'
theorem Kp.cap {w : World} {A : Option Addr} {n c d : Nat} {l : List Bool} (h : Kp w (.slice A n c) l) : Kp w (.slice A n d) l := by
  obtain ⟨⟨A', c', e'⟩, h2⟩ := h
  injection e' with e1 e2 _
  refine ⟨⟨A, d, by rw [e2]⟩, fun hne => ?_⟩
  obtain ⟨b, o, c2, e, hb, hc⟩ := h2 hne
  injection e with e3 e4 _
  exact ⟨b, o, d, by rw [e3, e4], hb, hc⟩
theorem calls_snoc (l : List St) (t : St) : callsOf (l ++ [t]) = if t.k = 1 then callsOf l ++ [callOf t] else callsOf l := by
  by_cases hk : t.k = 1 <;> simp [callsOf, hk]
/-- the two rows that the law makes, and the box -/
structure Lin (w : World) (SL : List Value) (l0 : List St) (k : Nat) (v u : Value) (ps : List (St × Value)) (W : World) : Prop where
  bx : BoxS w 30 SL W
  pl : ps.length = k
  mp : ps.map (·.1) = (l0.take k).map fewS
  so : W.ownsRow (w.heap.size + 1) 44 19 v k (flatP ps)
  ca : W.ownsRow (w.heap.size + 1) 41 3 u (callsOf (ps.map (·.1))).length (flatC (callsOf (ps.map (·.1))))
  ol : ∀ p ∈ ps, ∃ A c, p.2 = .slice A p.1.kp.length c ∧ Kp w p.2 p.1.kp
  sm : ∀ s ∈ ps.map (·.1), s.nm.length ≤ 5000 ∧ s.dt.length ≤ 5000 ∧ s.kp.length ≤ 5000
theorem Lin.sows {w W : World} {SL : List Value} {l0 : List St} {k : Nat} {v u : Value} {ps : List (St × Value)} (h : Lin w SL l0 k v u ps W) {X : World} (hso : X.ownsRow (w.heap.size + 1) 44 19 v k (flatP ps)) (hb : Below w.heap.size w X) : Sows X (w.heap.size + 1) v ps := by
  refine ⟨by rw [h.pl]; exact hso, fun p hp => ?_⟩
  obtain ⟨A, c, e, hk⟩ := h.ol p hp
  refine ⟨A, c, e, hk.below hb, ?_, fun hne a ha q => ?_⟩
  · have : p.1 ∈ ps.map (·.1) := List.mem_map_of_mem hp
    rw [h.mp] at this
    obtain ⟨s, _, hs⟩ := List.mem_map.1 this
    rw [← hs]
    exact fits_few s
  · obtain ⟨b, o, c', e2, hb2, _⟩ := hk.2 hne
    rw [e] at e2
    injection e2 with e3
    rw [ha] at e3
    injection e3 with e3
    have := (hso.lt a.block q).1
    rw [e3] at this
    have q2 : w.heap.size + 1 ≤ b := this
    omega
theorem few_kp {w : World} {s : St} {B : Option Addr} {cap cap2 : Nat} (h : Kp w (.slice B s.kp.length cap) s.kp) : Kp w (.slice B (fewS s).kp.length cap2) (fewS s).kp := by
  show Kp w (.slice B (s.kp.take 70000).length cap2) (s.kp.take 70000)
  by_cases hl : 70000 ≤ s.kp.length
  · have h1 : (s.kp.take 70000).length = 70000 := by simp; omega
    rw [h1]
    exact (h.take hl).cap
  · rw [List.take_of_length_le (by omega)]
    exact h.cap
theorem row_at {w : World} {b n k cp : Nat} {A : Option Addr} {cs : List CallT} {x : CallT} (h : w.ownsRow b 41 3 (.slice A n cp) n (flatC cs)) (hn : cs.length = n) (hx : cs[k]? = some x) : ∃ g, A = some ⟨g, 0, none⟩ ∧ g < w.heap.size ∧ w.rangeAt g (k * 3) (cvL x) := by
  have hk : k < n := by rw [← hn]; exact (List.getElem?_eq_some_iff.1 hx).1
  rcases h.2 with ⟨e, h0⟩ | ⟨g, cap, cur, e, hb, hh, hc, hm, hs, ht⟩
  · omega
  · injection e with e1
    refine ⟨g, e1, (Array.getElem?_eq_some_iff.1 hh).1, fun j v hj => ?_⟩
    have hf := flatC_get cs k j x v hx hj
    rw [← ht] at hf
    rw [cell_of_row w g _ cur 41 _ hh]
    have hlt := (List.getElem?_eq_some_iff.1 hf).1
    rw [List.length_take] at hlt
    rw [List.getElem?_take_of_lt (by omega)] at hf
    simpa using hf
end Go.Proofs.YtjakkmioofbcaaaDoor
