/- The walk over called. -/
import Derived.Test.YtjakkmioofbcaaaDoorC8
namespace Go.Proofs.YtjakkmioofbcaaaDoor
open Go.RowKit
set_option maxRecDepth 100000 in
set_option maxHeartbeats 2000000 in
theorem called33 (v : Value) (ws : List (List UInt8)) (w : World) (hw : Ws w v ws) (h0 : ws ≠ []) (hx : ∀ x ∈ ws, x.length ≤ 100000) :
    Calls Tryd.prog 69 #[v] w fun e w' => CalledEnd ws e ∧ Below w.heap.size w w' := by
  obtain ⟨b, o, cp, rfl, hlt, hcap, hc⟩ := hw.2 h0
  have HC := Lib.hid hc
  have HX := Lib.hid hx
  have HLT := Lib.hid hlt
  have hlen : 0 < ws.length := List.length_pos_iff.2 h0
  have HB1 : Hid (Below w.heap.size w (w.alloc (.cells #[.int .i64 0, .string ⟨#[]⟩, .string ⟨#[]⟩] 41))) := Lib.hid ((Below.refl _ _).alloc (Nat.le_refl _) _)
  have HG1 : Hid ((w.alloc (.cells #[.int .i64 0, .string ⟨#[]⟩, .string ⟨#[]⟩] 41)).heap[w.heap.size]? = some (.cells #[.int .i64 0, .string ⟨#[]⟩, .string ⟨#[]⟩] 41 (0, 0))) := Lib.hid (heap_alloc_new w _)
  have HSZ1 : Hid ((w.alloc (.cells #[.int .i64 0, .string ⟨#[]⟩, .string ⟨#[]⟩] 41)).heap.size = w.heap.size + 1) := Lib.hid (World.size_alloc _ _)
  have HE : Hid (∃ x, ws.getD 0 [] = x) := Lib.hid ⟨_, rfl⟩
  obtain ⟨x0, hx0⟩ := HE.out
  have HX0 := Lib.hid hx0
  have hcell0 : Hid (w.cell? ⟨b, o, none⟩ = some (.string (str x0))) := Lib.hid (by have := hc 0 hlen; rw [hx0, Nat.add_zero] at this; exact this)
  have HEND : Hid (∀ e, CalledEnd ws e ↔ ∃ op nm dt, (nm.length ≤ 100000 ∧ dt.length ≤ 100000) ∧ ((e = .returned (.tuple #[.agg (callA op nm dt), .bool true]) ∧ calledP ws = some (op, nm, dt)) ∨ (e = .returned (.tuple #[.agg (callA op nm dt), .bool false]) ∧ calledP ws = none))) := Lib.hid (fun e => Iff.rfl)
  clear hc hx hw h0 hx0 HE hlt
  go_enter Tryd.func69, Tryd.ntmps69
  go_wp2_with fail
  generalize hW1 : w.alloc (.cells #[.int .i64 0, .string ⟨#[]⟩, .string ⟨#[]⟩] 41) = w1 at *
  clear hW1
  go_loopg [4] 8 (fun gk i wr => ∃ k : Nat, 1 ≤ k ∧ k ≤ 9 ∧ gk = 9 - k ∧ i = .int .i64 k ∧ (∀ j : Nat, 1 ≤ j → j < k → wordL j ≠ x0) ∧ Below (w.heap.size + 1) w1 wr)
  case atStart => exact ⟨1, by omega, by omega, rfl, rfl, by omega, Below.refl _ _⟩
  case round =>
    obtain ⟨k, hk1, hk9, hgk, rfl, hall, hb⟩ := hrel
    have HK := Lib.hid hgk
    have HALL := Lib.hid hall
    have HB := Lib.hid hb
    have HBW : Hid (Below w.heap.size w wr) := Lib.hid (HB1.out.trans (hb.mono (by omega)))
    have hcell : wr.cell? ⟨b, o, none⟩ = some (.string (str x0)) := by rw [HBW.out.cell (p := ⟨b, o, none⟩) HLT.out]; exact hcell0.out
    have hG : wr.heap[w.heap.size]? = some (.cells #[.int .i64 0, .string ⟨#[]⟩, .string ⟨#[]⟩] 41 (0, 0)) := (hb.block w.heap.size (by omega)).trans HG1.out
    have HG := Lib.hid hG
    have HSO : Hid (w.heap.size + 1 ≤ wr.heap.size) := Lib.hid (by have := hb.size; rw [HSZ1.out] at this; exact this)
    have hlenI : (0 : Int) < (ws.length : Int) := by omega
    clear hgk hall hb hG
    by_cases hk8 : k = 9
    · subst hk8
      have HP : Hid (calledP ws = none) := Lib.hid (by rw [calledP, HX0.out, opOf_none (fun j a b => HALL.out j a (by omega)), if_pos rfl])
      have HOZ : Hid ((callA 0 [] []).all (·.oneCell') = true) := Lib.hid (by simp [callA, Value.oneCell'])
      have HIZ : Hid ((Tryd.prog.info? 41).map (·.size) = some (callA 0 [] []).size) := Lib.hid info25
      go_wp2_with (first
        | ((with_reducible refine wpList_store_row (o := ⟨none, _, _, _, _, _⟩) rfl 41 (.tmp 2) (.tmp 48) rfl w.heap.size (callA 0 [] []) ?_ ?_ 41 _ HG.out HIZ.out rfl HOZ.out ?_); rfl; rfl))
      exact bodyPost_ret (results_row2 rfl _ _ w.heap.size 41 (callA 0 [] []) (0, 0) _ rfl (setRow_heap _ _ _ _ _ _ HG.out) Tryd.underlying41 rfl HIZ.out) rfl ⟨(HEND.out _).2 ⟨0, [], [], ⟨by simp, by simp⟩, .inr ⟨rfl, HP.out⟩⟩, below_setRow HBW.out (Nat.le_refl _) _⟩
    · have hle : (k : Int) ≤ 8 := by omega
      have hdl : decide ((k : Int) ≤ 8) = true := by simpa using hle
      have HW := Lib.hid (word13 (k : Int))
      by_cases hm : wordL k = x0
      case neg =>
        have hne : ((str (wordL k)).toList == (str x0).toList) = false := by rw [str_beq]; simpa using hm
        have HM := Lib.hid hm
        clear hm
        go_wp2_with fail
        go_quiet ((go_at_call 51; refine Calls.quiet_of_same (HW.out _)))
        go_wp2
        go_roundg (9 - (k + 1))
        case measure => rw [HK.out]; omega
        case rel =>
          refine ⟨k + 1, by omega, by omega, rfl, by go_num, ?_, below_drewN HB.out _⟩
          intro j h1 h2
          by_cases e : j = k
          · subst e; exact HM.out
          · exact HALL.out j h1 (by omega)

      have heq : ((str (wordL k)).toList == (str x0).toList) = true := by rw [str_beq]; simpa using hm
      have HOP : Hid (opOf (ws.getD 0 []) = k) := Lib.hid (by rw [HX0.out]; exact opOf_hit hk1 (by omega) hm)
      have hk8' : k ≤ 8 := by omega
      clear hm
      by_cases hnn : k = 1 ∨ k = 5 ∨ k = 6
      · have hn : decide ((k : Int) = 1 ∨ (k : Int) = 5 ∨ (k : Int) = 6) = true := by simp only [decide_eq_true_eq]; omega
        have HN : Hid (∀ w, Calls Tryd.prog 52 #[.int .i64 k] w fun e w' => e = .returned (.bool true) ∧ w' = w) := Lib.hid (fun w => by have := named25 (k : Int) w; rwa [hn] at this)
        have hk2 : ((k : Int) == 2) = false := by simp only [beq_eq_false_iff_ne]; omega
        have hk2' : k ≠ 2 := by omega
        clear hn
        by_cases h2 : ws.length = 2
        case neg =>
          have hl2 : ((ws.length : Int) != 2) = true := by simp only [bne_iff_ne, ne_eq]; omega
          have HP : Hid (calledP ws = none) := Lib.hid (by rw [calledP, HOP.out, if_neg (by omega), if_neg (by omega), if_pos (by omega), if_neg h2])
          clear h2
          go_wp2_with fail
          go_quiet ((go_at_call 51; refine Calls.quiet_of_same (HW.out _)))
          have HBo : Hid (Below (w.heap.size + 1) w1 (wr.drewN nq)) := Lib.hid (below_drewN HB.out _)
          have HSOo : Hid (w.heap.size + 1 ≤ (wr.drewN nq).heap.size) := Lib.hid HSO.out
          generalize wr.drewN nq = wo at *
          have HB4 : Hid (Below (w.heap.size + 1) w1 (wo.alloc (.cells #[.int .i64 k, .string ⟨#[]⟩, .string ⟨#[]⟩] 41))) := Lib.hid (HBo.out.alloc HSOo.out _)
          have HBW4 : Hid (Below w.heap.size w (wo.alloc (.cells #[.int .i64 k, .string ⟨#[]⟩, .string ⟨#[]⟩] 41))) := Lib.hid (HB1.out.trans (HB4.out.mono (by omega)))
          have HG4 : Hid ((wo.alloc (.cells #[.int .i64 k, .string ⟨#[]⟩, .string ⟨#[]⟩] 41)).heap[w.heap.size]? = some (.cells #[.int .i64 0, .string ⟨#[]⟩, .string ⟨#[]⟩] 41 (0, 0))) := Lib.hid ((HB4.out.block w.heap.size (by omega)).trans HG1.out)
          have HOZ : Hid ((callA 0 [] []).all (·.oneCell') = true) := Lib.hid (by simp [callA, Value.oneCell'])
          have HIZ : Hid ((Tryd.prog.info? 41).map (·.size) = some (callA 0 [] []).size) := Lib.hid info25
          go_wp2_with (first
            | (go_at_call 52; refine (HN.out _).mono ?_; rintro e w5 ⟨rfl, rfl⟩)
            | ((with_reducible refine wpList_store_row (o := ⟨none, _, _, _, _, _⟩) rfl 41 (.tmp 2) (.tmp 32) rfl w.heap.size (callA 0 [] []) ?_ ?_ 41 _ HG4.out HIZ.out rfl HOZ.out ?_); rfl; rfl))
          exact bodyPost_ret (results_row2 rfl _ _ w.heap.size 41 (callA 0 [] []) (0, 0) _ rfl (setRow_heap _ _ _ _ _ _ HG4.out) Tryd.underlying41 rfl HIZ.out) rfl ⟨(HEND.out _).2 ⟨0, [], [], ⟨by simp, by simp⟩, .inr ⟨rfl, HP.out⟩⟩, below_setRow HBW4.out (Nat.le_refl _) _⟩
        have hl2 : ((ws.length : Int) != 2) = false := by simp; omega
        have hi1 : (1 : Int) < (ws.length : Int) := by omega
        obtain ⟨x1, hx1⟩ : ∃ x, ws.getD 1 [] = x := ⟨_, rfl⟩
        have hc1 : w.cell? ⟨b, o + 1, none⟩ = some (.string (str x1)) := by have := HC.out 1 (by omega); rw [hx1] at this; exact this
        have HC1 := Lib.hid hc1
        have hxl : x1.length ≤ 100000 := by rw [← hx1]; exact HX.out _ (by simp [List.getD, show 1 < ws.length by omega])
        have HTX := Lib.hid (text52 x1 (by omega))
        have HXL := Lib.hid hxl
        cases ht : txt x1 with
        | none =>
          have HP : Hid (calledP ws = none) := Lib.hid (by rw [calledP, HOP.out, if_neg (by omega), if_neg (by omega), if_pos (by omega), if_pos h2, hx1, ht]; rfl)
          rw [show txtV x1 = .tuple #[.string (str []), .bool false] by rw [txtV, ht]] at HTX
          clear ht h2 hx1 hc1 hxl
          go_wp2_with fail
          go_quiet ((go_at_call 51; refine Calls.quiet_of_same (HW.out _)))
          have HBo : Hid (Below (w.heap.size + 1) w1 (wr.drewN nq)) := Lib.hid (below_drewN HB.out _)
          have HSOo : Hid (w.heap.size + 1 ≤ (wr.drewN nq).heap.size) := Lib.hid HSO.out
          generalize wr.drewN nq = wo at *
          have HB4 : Hid (Below (w.heap.size + 1) w1 (wo.alloc (.cells #[.int .i64 k, .string ⟨#[]⟩, .string ⟨#[]⟩] 41))) := Lib.hid (HBo.out.alloc HSOo.out _)
          have HBW4 : Hid (Below w.heap.size w (wo.alloc (.cells #[.int .i64 k, .string ⟨#[]⟩, .string ⟨#[]⟩] 41))) := Lib.hid (HB1.out.trans (HB4.out.mono (by omega)))
          have HG4 : Hid ((wo.alloc (.cells #[.int .i64 k, .string ⟨#[]⟩, .string ⟨#[]⟩] 41)).heap[w.heap.size]? = some (.cells #[.int .i64 0, .string ⟨#[]⟩, .string ⟨#[]⟩] 41 (0, 0))) := Lib.hid ((HB4.out.block w.heap.size (by omega)).trans HG1.out)
          have hc4 : (wo.alloc (.cells #[.int .i64 k, .string ⟨#[]⟩, .string ⟨#[]⟩] 41)).cell? ⟨b, o + 1, none⟩ = some (.string (str x1)) := by rw [HBW4.out.cell (p := ⟨b, o + 1, none⟩) HLT.out]; exact HC1.out
          have HOZ : Hid ((callA k [] []).all (·.oneCell') = true) := Lib.hid (by simp [callA, Value.oneCell'])
          have HIZ : Hid ((Tryd.prog.info? 41).map (·.size) = some (callA k [] []).size) := Lib.hid info25
          go_wp2_with (first
            | (go_at_call 52; refine (HN.out _).mono ?_; rintro e w5 ⟨rfl, rfl⟩)
            | (go_at_call 81; refine (HTX.out _).mono ?_; rintro e w6 ⟨rfl, hb6⟩; have HB6 : Hid (Below (wo.heap.size + 1) (wo.alloc (.cells #[.int .i64 k, .string ⟨#[]⟩, .string ⟨#[]⟩] 41)) w6) := Lib.hid (hb6.mono (by simp)); have HBW6 : Hid (Below w.heap.size w w6) := Lib.hid (HBW4.out.trans (hb6.mono HBW4.out.size)); have hg6 : w6.heap[wo.heap.size]? = some (.cells #[.int .i64 k, .string ⟨#[]⟩, .string ⟨#[]⟩] 41 (0, 0)) := (hb6.block wo.heap.size (by simp)).trans (heap_alloc_new wo _); have e0 := cell_of_row w6 _ 0 _ 41 _ hg6; have e1 := cell_of_row w6 _ 1 _ 41 _ hg6; have e2 := cell_of_row w6 _ 2 _ 41 _ hg6; have fz := frozen_of_row w6 wo.heap.size 1 _ 41 hg6; simp at e0 e1 e2; have HG6 : Hid ((w6.setCell ⟨wo.heap.size, 1, none⟩ (.string (str []))).heap[w.heap.size]? = some (.cells #[.int .i64 0, .string ⟨#[]⟩, .string ⟨#[]⟩] 41 (0, 0))) := Lib.hid ((heap_setCell_other _ _ _ _ (by show w.heap.size ≠ wo.heap.size; have := HSOo.out; omega)).trans ((hb6.block w.heap.size (by have := HSOo.out; simp; omega)).trans HG4.out)); clear hb6 hg6)
            | ((with_reducible refine wpList_store_row (o := ⟨none, _, _, _, _, _⟩) rfl 41 (.tmp 2) (.tmp 46) rfl w.heap.size (callA k [] []) ?_ ?_ 41 _ HG6.out HIZ.out rfl HOZ.out ?_); rfl; rfl))
          exact bodyPost_ret (results_row2 rfl _ _ w.heap.size 41 (callA k [] []) (0, 0) _ rfl (setRow_heap _ _ _ _ _ _ HG6.out) Tryd.underlying41 rfl HIZ.out) rfl ⟨(HEND.out _).2 ⟨k, [], [], ⟨by simp, by simp⟩, .inr ⟨rfl, HP.out⟩⟩, below_setRow (HBW6.out.setCell (by show w.heap.size ≤ wo.heap.size; have := HSOo.out; omega) _) (Nat.le_refl _) _⟩
        | some t =>
          have HP : Hid (calledP ws = some ((k : Int), t, [])) := Lib.hid (by rw [calledP, HOP.out, if_neg (by omega), if_neg (by omega), if_pos (by omega), if_pos h2, hx1, ht]; rfl)
          have HTL := Lib.hid (Nat.le_trans (txt_len x1 t ht) hxl)
          rw [show txtV x1 = .tuple #[.string (str t), .bool true] by rw [txtV, ht]] at HTX
          clear ht h2 hx1 hc1 hxl
          go_wp2_with fail
          go_quiet ((go_at_call 51; refine Calls.quiet_of_same (HW.out _)))
          have HBo : Hid (Below (w.heap.size + 1) w1 (wr.drewN nq)) := Lib.hid (below_drewN HB.out _)
          have HSOo : Hid (w.heap.size + 1 ≤ (wr.drewN nq).heap.size) := Lib.hid HSO.out
          generalize wr.drewN nq = wo at *
          have HB4 : Hid (Below (w.heap.size + 1) w1 (wo.alloc (.cells #[.int .i64 k, .string ⟨#[]⟩, .string ⟨#[]⟩] 41))) := Lib.hid (HBo.out.alloc HSOo.out _)
          have HBW4 : Hid (Below w.heap.size w (wo.alloc (.cells #[.int .i64 k, .string ⟨#[]⟩, .string ⟨#[]⟩] 41))) := Lib.hid (HB1.out.trans (HB4.out.mono (by omega)))
          have HG4 : Hid ((wo.alloc (.cells #[.int .i64 k, .string ⟨#[]⟩, .string ⟨#[]⟩] 41)).heap[w.heap.size]? = some (.cells #[.int .i64 0, .string ⟨#[]⟩, .string ⟨#[]⟩] 41 (0, 0))) := Lib.hid ((HB4.out.block w.heap.size (by omega)).trans HG1.out)
          have hc4 : (wo.alloc (.cells #[.int .i64 k, .string ⟨#[]⟩, .string ⟨#[]⟩] 41)).cell? ⟨b, o + 1, none⟩ = some (.string (str x1)) := by rw [HBW4.out.cell (p := ⟨b, o + 1, none⟩) HLT.out]; exact HC1.out
          have HOZ : Hid ((callA k t []).all (·.oneCell') = true) := Lib.hid (by simp [callA, Value.oneCell'])
          have HIZ : Hid ((Tryd.prog.info? 41).map (·.size) = some (callA k t []).size) := Lib.hid info25
          go_wp2_with (first
            | (go_at_call 52; refine (HN.out _).mono ?_; rintro e w5 ⟨rfl, rfl⟩)
            | (go_at_call 81; refine (HTX.out _).mono ?_; rintro e w6 ⟨rfl, hb6⟩; have HB6 : Hid (Below (wo.heap.size + 1) (wo.alloc (.cells #[.int .i64 k, .string ⟨#[]⟩, .string ⟨#[]⟩] 41)) w6) := Lib.hid (hb6.mono (by simp)); have HBW6 : Hid (Below w.heap.size w w6) := Lib.hid (HBW4.out.trans (hb6.mono HBW4.out.size)); have hg6 : w6.heap[wo.heap.size]? = some (.cells #[.int .i64 k, .string ⟨#[]⟩, .string ⟨#[]⟩] 41 (0, 0)) := (hb6.block wo.heap.size (by simp)).trans (heap_alloc_new wo _); have e0 := cell_of_row w6 _ 0 _ 41 _ hg6; have e1 := cell_of_row w6 _ 1 _ 41 _ hg6; have e2 := cell_of_row w6 _ 2 _ 41 _ hg6; have fz := frozen_of_row w6 wo.heap.size 1 _ 41 hg6; simp at e0 e1 e2; have HG6 : Hid ((w6.setCell ⟨wo.heap.size, 1, none⟩ (.string (str t))).heap[w.heap.size]? = some (.cells #[.int .i64 0, .string ⟨#[]⟩, .string ⟨#[]⟩] 41 (0, 0))) := Lib.hid ((heap_setCell_other _ _ _ _ (by show w.heap.size ≠ wo.heap.size; have := HSOo.out; omega)).trans ((hb6.block w.heap.size (by have := HSOo.out; simp; omega)).trans HG4.out)); clear hb6 hg6)
            | ((with_reducible refine wpList_store_row (o := ⟨none, _, _, _, _, _⟩) rfl 41 (.tmp 2) (.tmp 46) rfl w.heap.size (callA k t []) ?_ ?_ 41 _ HG6.out HIZ.out rfl HOZ.out ?_); rfl; rfl))
          exact bodyPost_ret (results_row2 rfl _ _ w.heap.size 41 (callA k t []) (0, 0) _ rfl (setRow_heap _ _ _ _ _ _ HG6.out) Tryd.underlying41 rfl HIZ.out) rfl ⟨(HEND.out _).2 ⟨k, t, [], ⟨HTL.out, by simp⟩, .inl ⟨rfl, HP.out⟩⟩, below_setRow (HBW6.out.setCell (by show w.heap.size ≤ wo.heap.size; have := HSOo.out; omega) _) (Nat.le_refl _) _⟩
      · by_cases h22 : k = 2
        · have hn : decide ((k : Int) = 1 ∨ (k : Int) = 5 ∨ (k : Int) = 6) = false := by simp only [decide_eq_false_iff_not]; omega
          have HN : Hid (∀ w, Calls Tryd.prog 52 #[.int .i64 k] w fun e w' => e = .returned (.bool false) ∧ w' = w) := Lib.hid (fun w => by have := named25 (k : Int) w; rwa [hn] at this)
          have hk2 : ((k : Int) == 2) = true := by simp only [beq_iff_eq]; omega
          have H22 := Lib.hid h22
          clear hn hnn h22
          by_cases h2 : ws.length = 2
          case neg =>
            have hl2 : ((ws.length : Int) != 2) = true := by simp only [bne_iff_ne, ne_eq]; omega
            have HP : Hid (calledP ws = none) := Lib.hid (by have := H22.out; rw [calledP, HOP.out, if_neg (by omega), if_pos (by omega), if_neg h2])
            clear h2
            go_wp2_with fail
            go_quiet ((go_at_call 51; refine Calls.quiet_of_same (HW.out _)))
            have HBo : Hid (Below (w.heap.size + 1) w1 (wr.drewN nq)) := Lib.hid (below_drewN HB.out _)
            have HSOo : Hid (w.heap.size + 1 ≤ (wr.drewN nq).heap.size) := Lib.hid HSO.out
            generalize wr.drewN nq = wo at *
            have HB4 : Hid (Below (w.heap.size + 1) w1 (wo.alloc (.cells #[.int .i64 k, .string ⟨#[]⟩, .string ⟨#[]⟩] 41))) := Lib.hid (HBo.out.alloc HSOo.out _)
            have HBW4 : Hid (Below w.heap.size w (wo.alloc (.cells #[.int .i64 k, .string ⟨#[]⟩, .string ⟨#[]⟩] 41))) := Lib.hid (HB1.out.trans (HB4.out.mono (by omega)))
            have HG4 : Hid ((wo.alloc (.cells #[.int .i64 k, .string ⟨#[]⟩, .string ⟨#[]⟩] 41)).heap[w.heap.size]? = some (.cells #[.int .i64 0, .string ⟨#[]⟩, .string ⟨#[]⟩] 41 (0, 0))) := Lib.hid ((HB4.out.block w.heap.size (by omega)).trans HG1.out)
            have HOZ : Hid ((callA 0 [] []).all (·.oneCell') = true) := Lib.hid (by simp [callA, Value.oneCell'])
            have HIZ : Hid ((Tryd.prog.info? 41).map (·.size) = some (callA 0 [] []).size) := Lib.hid info25
            go_wp2_with (first
              | (go_at_call 52; refine (HN.out _).mono ?_; rintro e w5 ⟨rfl, rfl⟩)
              | ((with_reducible refine wpList_store_row (o := ⟨none, _, _, _, _, _⟩) rfl 41 (.tmp 2) (.tmp 32) rfl w.heap.size (callA 0 [] []) ?_ ?_ 41 _ HG4.out HIZ.out rfl HOZ.out ?_); rfl; rfl))
            exact bodyPost_ret (results_row2 rfl _ _ w.heap.size 41 (callA 0 [] []) (0, 0) _ rfl (setRow_heap _ _ _ _ _ _ HG4.out) Tryd.underlying41 rfl HIZ.out) rfl ⟨(HEND.out _).2 ⟨0, [], [], ⟨by simp, by simp⟩, .inr ⟨rfl, HP.out⟩⟩, below_setRow HBW4.out (Nat.le_refl _) _⟩
          have hl2 : ((ws.length : Int) != 2) = false := by simp; omega
          have hi1 : (1 : Int) < (ws.length : Int) := by omega
          obtain ⟨x1, hx1⟩ : ∃ x, ws.getD 1 [] = x := ⟨_, rfl⟩
          have hc1 : w.cell? ⟨b, o + 1, none⟩ = some (.string (str x1)) := by have := HC.out 1 (by omega); rw [hx1] at this; exact this
          have HC1 := Lib.hid hc1
          have hxl : x1.length ≤ 100000 := by rw [← hx1]; exact HX.out _ (by simp [List.getD, show 1 < ws.length by omega])
          have HTX := Lib.hid (text52 x1 (by omega))
          have HXL := Lib.hid hxl
          cases ht : txt x1 with
          | none =>
            have HP : Hid (calledP ws = none) := Lib.hid (by have := H22.out; rw [calledP, HOP.out, if_neg (by omega), if_pos (by omega), if_pos h2, hx1, ht]; first | rfl | (rw [this]; rfl))
            rw [show txtV x1 = .tuple #[.string (str []), .bool false] by rw [txtV, ht]] at HTX
            clear ht h2 hx1 hc1 hxl
            go_wp2_with fail
            go_quiet ((go_at_call 51; refine Calls.quiet_of_same (HW.out _)))
            have HBo : Hid (Below (w.heap.size + 1) w1 (wr.drewN nq)) := Lib.hid (below_drewN HB.out _)
            have HSOo : Hid (w.heap.size + 1 ≤ (wr.drewN nq).heap.size) := Lib.hid HSO.out
            generalize wr.drewN nq = wo at *
            have HB4 : Hid (Below (w.heap.size + 1) w1 (wo.alloc (.cells #[.int .i64 k, .string ⟨#[]⟩, .string ⟨#[]⟩] 41))) := Lib.hid (HBo.out.alloc HSOo.out _)
            have HBW4 : Hid (Below w.heap.size w (wo.alloc (.cells #[.int .i64 k, .string ⟨#[]⟩, .string ⟨#[]⟩] 41))) := Lib.hid (HB1.out.trans (HB4.out.mono (by omega)))
            have HG4 : Hid ((wo.alloc (.cells #[.int .i64 k, .string ⟨#[]⟩, .string ⟨#[]⟩] 41)).heap[w.heap.size]? = some (.cells #[.int .i64 0, .string ⟨#[]⟩, .string ⟨#[]⟩] 41 (0, 0))) := Lib.hid ((HB4.out.block w.heap.size (by omega)).trans HG1.out)
            have hc4 : (wo.alloc (.cells #[.int .i64 k, .string ⟨#[]⟩, .string ⟨#[]⟩] 41)).cell? ⟨b, o + 1, none⟩ = some (.string (str x1)) := by rw [HBW4.out.cell (p := ⟨b, o + 1, none⟩) HLT.out]; exact HC1.out
            have HOZ : Hid ((callA k [] []).all (·.oneCell') = true) := Lib.hid (by simp [callA, Value.oneCell'])
            have HIZ : Hid ((Tryd.prog.info? 41).map (·.size) = some (callA k [] []).size) := Lib.hid info25
            go_wp2_with (first
              | (go_at_call 52; refine (HN.out _).mono ?_; rintro e w5 ⟨rfl, rfl⟩)
              | (go_at_call 81; refine (HTX.out _).mono ?_; rintro e w6 ⟨rfl, hb6⟩; have HB6 : Hid (Below (wo.heap.size + 1) (wo.alloc (.cells #[.int .i64 k, .string ⟨#[]⟩, .string ⟨#[]⟩] 41)) w6) := Lib.hid (hb6.mono (by simp)); have HBW6 : Hid (Below w.heap.size w w6) := Lib.hid (HBW4.out.trans (hb6.mono HBW4.out.size)); have hg6 : w6.heap[wo.heap.size]? = some (.cells #[.int .i64 k, .string ⟨#[]⟩, .string ⟨#[]⟩] 41 (0, 0)) := (hb6.block wo.heap.size (by simp)).trans (heap_alloc_new wo _); have e0 := cell_of_row w6 _ 0 _ 41 _ hg6; have e1 := cell_of_row w6 _ 1 _ 41 _ hg6; have e2 := cell_of_row w6 _ 2 _ 41 _ hg6; have fz := frozen_of_row w6 wo.heap.size 2 _ 41 hg6; simp at e0 e1 e2; have HG6 : Hid ((w6.setCell ⟨wo.heap.size, 2, none⟩ (.string (str []))).heap[w.heap.size]? = some (.cells #[.int .i64 0, .string ⟨#[]⟩, .string ⟨#[]⟩] 41 (0, 0))) := Lib.hid ((heap_setCell_other _ _ _ _ (by show w.heap.size ≠ wo.heap.size; have := HSOo.out; omega)).trans ((hb6.block w.heap.size (by have := HSOo.out; simp; omega)).trans HG4.out)); clear hb6 hg6)
              | ((with_reducible refine wpList_store_row (o := ⟨none, _, _, _, _, _⟩) rfl 41 (.tmp 2) (.tmp 46) rfl w.heap.size (callA k [] []) ?_ ?_ 41 _ HG6.out HIZ.out rfl HOZ.out ?_); rfl; rfl))
            exact bodyPost_ret (results_row2 rfl _ _ w.heap.size 41 (callA k [] []) (0, 0) _ rfl (setRow_heap _ _ _ _ _ _ HG6.out) Tryd.underlying41 rfl HIZ.out) rfl ⟨(HEND.out _).2 ⟨k, [], [], ⟨by simp, by simp⟩, .inr ⟨rfl, HP.out⟩⟩, below_setRow (HBW6.out.setCell (by show w.heap.size ≤ wo.heap.size; have := HSOo.out; omega) _) (Nat.le_refl _) _⟩
          | some t =>
            have HP : Hid (calledP ws = some ((k : Int), [], t)) := Lib.hid (by have := H22.out; rw [calledP, HOP.out, if_neg (by omega), if_pos (by omega), if_pos h2, hx1, ht]; first | rfl | (rw [this]; rfl))
            have HTL := Lib.hid (Nat.le_trans (txt_len x1 t ht) hxl)
            rw [show txtV x1 = .tuple #[.string (str t), .bool true] by rw [txtV, ht]] at HTX
            clear ht h2 hx1 hc1 hxl
            go_wp2_with fail
            go_quiet ((go_at_call 51; refine Calls.quiet_of_same (HW.out _)))
            have HBo : Hid (Below (w.heap.size + 1) w1 (wr.drewN nq)) := Lib.hid (below_drewN HB.out _)
            have HSOo : Hid (w.heap.size + 1 ≤ (wr.drewN nq).heap.size) := Lib.hid HSO.out
            generalize wr.drewN nq = wo at *
            have HB4 : Hid (Below (w.heap.size + 1) w1 (wo.alloc (.cells #[.int .i64 k, .string ⟨#[]⟩, .string ⟨#[]⟩] 41))) := Lib.hid (HBo.out.alloc HSOo.out _)
            have HBW4 : Hid (Below w.heap.size w (wo.alloc (.cells #[.int .i64 k, .string ⟨#[]⟩, .string ⟨#[]⟩] 41))) := Lib.hid (HB1.out.trans (HB4.out.mono (by omega)))
            have HG4 : Hid ((wo.alloc (.cells #[.int .i64 k, .string ⟨#[]⟩, .string ⟨#[]⟩] 41)).heap[w.heap.size]? = some (.cells #[.int .i64 0, .string ⟨#[]⟩, .string ⟨#[]⟩] 41 (0, 0))) := Lib.hid ((HB4.out.block w.heap.size (by omega)).trans HG1.out)
            have hc4 : (wo.alloc (.cells #[.int .i64 k, .string ⟨#[]⟩, .string ⟨#[]⟩] 41)).cell? ⟨b, o + 1, none⟩ = some (.string (str x1)) := by rw [HBW4.out.cell (p := ⟨b, o + 1, none⟩) HLT.out]; exact HC1.out
            have HOZ : Hid ((callA k [] t).all (·.oneCell') = true) := Lib.hid (by simp [callA, Value.oneCell'])
            have HIZ : Hid ((Tryd.prog.info? 41).map (·.size) = some (callA k [] t).size) := Lib.hid info25
            go_wp2_with (first
              | (go_at_call 52; refine (HN.out _).mono ?_; rintro e w5 ⟨rfl, rfl⟩)
              | (go_at_call 81; refine (HTX.out _).mono ?_; rintro e w6 ⟨rfl, hb6⟩; have HB6 : Hid (Below (wo.heap.size + 1) (wo.alloc (.cells #[.int .i64 k, .string ⟨#[]⟩, .string ⟨#[]⟩] 41)) w6) := Lib.hid (hb6.mono (by simp)); have HBW6 : Hid (Below w.heap.size w w6) := Lib.hid (HBW4.out.trans (hb6.mono HBW4.out.size)); have hg6 : w6.heap[wo.heap.size]? = some (.cells #[.int .i64 k, .string ⟨#[]⟩, .string ⟨#[]⟩] 41 (0, 0)) := (hb6.block wo.heap.size (by simp)).trans (heap_alloc_new wo _); have e0 := cell_of_row w6 _ 0 _ 41 _ hg6; have e1 := cell_of_row w6 _ 1 _ 41 _ hg6; have e2 := cell_of_row w6 _ 2 _ 41 _ hg6; have fz := frozen_of_row w6 wo.heap.size 2 _ 41 hg6; simp at e0 e1 e2; have HG6 : Hid ((w6.setCell ⟨wo.heap.size, 2, none⟩ (.string (str t))).heap[w.heap.size]? = some (.cells #[.int .i64 0, .string ⟨#[]⟩, .string ⟨#[]⟩] 41 (0, 0))) := Lib.hid ((heap_setCell_other _ _ _ _ (by show w.heap.size ≠ wo.heap.size; have := HSOo.out; omega)).trans ((hb6.block w.heap.size (by have := HSOo.out; simp; omega)).trans HG4.out)); clear hb6 hg6)
              | ((with_reducible refine wpList_store_row (o := ⟨none, _, _, _, _, _⟩) rfl 41 (.tmp 2) (.tmp 46) rfl w.heap.size (callA k [] t) ?_ ?_ 41 _ HG6.out HIZ.out rfl HOZ.out ?_); rfl; rfl))
            exact bodyPost_ret (results_row2 rfl _ _ w.heap.size 41 (callA k [] t) (0, 0) _ rfl (setRow_heap _ _ _ _ _ _ HG6.out) Tryd.underlying41 rfl HIZ.out) rfl ⟨(HEND.out _).2 ⟨k, [], t, ⟨by simp, HTL.out⟩, .inl ⟨rfl, HP.out⟩⟩, below_setRow (HBW6.out.setCell (by show w.heap.size ≤ wo.heap.size; have := HSOo.out; omega) _) (Nat.le_refl _) _⟩
        · have hn : decide ((k : Int) = 1 ∨ (k : Int) = 5 ∨ (k : Int) = 6) = false := by simp only [decide_eq_false_iff_not]; omega
          have HN : Hid (∀ w, Calls Tryd.prog 52 #[.int .i64 k] w fun e w' => e = .returned (.bool false) ∧ w' = w) := Lib.hid (fun w => by have := named25 (k : Int) w; rwa [hn] at this)
          have hk2 : ((k : Int) == 2) = false := by simp only [beq_eq_false_iff_ne]; omega
          clear hn
          by_cases h1 : ws.length = 1
          · have hl1 : ((ws.length : Int) == 1) = true := by simp ; omega
            have HP : Hid (calledP ws = some ((k : Int), [], [])) := Lib.hid (by rw [calledP, HOP.out, if_neg (by omega), if_neg (by omega), if_neg (by omega), if_pos h1])
            clear h1 hnn h22
            go_wp2_with fail
            go_quiet ((go_at_call 51; refine Calls.quiet_of_same (HW.out _)))
            have HBo : Hid (Below (w.heap.size + 1) w1 (wr.drewN nq)) := Lib.hid (below_drewN HB.out _)
            have HSOo : Hid (w.heap.size + 1 ≤ (wr.drewN nq).heap.size) := Lib.hid HSO.out
            generalize wr.drewN nq = wo at *
            have HB4 : Hid (Below (w.heap.size + 1) w1 (wo.alloc (.cells #[.int .i64 k, .string ⟨#[]⟩, .string ⟨#[]⟩] 41))) := Lib.hid (HBo.out.alloc HSOo.out _)
            have HBW4 : Hid (Below w.heap.size w (wo.alloc (.cells #[.int .i64 k, .string ⟨#[]⟩, .string ⟨#[]⟩] 41))) := Lib.hid (HB1.out.trans (HB4.out.mono (by omega)))
            have HG4 : Hid ((wo.alloc (.cells #[.int .i64 k, .string ⟨#[]⟩, .string ⟨#[]⟩] 41)).heap[w.heap.size]? = some (.cells #[.int .i64 0, .string ⟨#[]⟩, .string ⟨#[]⟩] 41 (0, 0))) := Lib.hid ((HB4.out.block w.heap.size (by omega)).trans HG1.out)
            have HOZ : Hid ((callA k [] []).all (·.oneCell') = true) := Lib.hid (by simp [callA, Value.oneCell'])
            have HIZ : Hid ((Tryd.prog.info? 41).map (·.size) = some (callA k [] []).size) := Lib.hid info25
            go_wp2_with (first
              | (go_at_call 52; refine (HN.out _).mono ?_; rintro e w5 ⟨rfl, rfl⟩)
              | ((with_reducible refine wpList_store_row (o := ⟨none, _, _, _, _, _⟩) rfl 41 (.tmp 2) (.tmp 46) rfl w.heap.size (callA k [] []) ?_ ?_ 41 _ HG4.out HIZ.out rfl HOZ.out ?_); rfl; rfl))
            exact bodyPost_ret (results_row2 rfl _ _ w.heap.size 41 (callA k [] []) (0, 0) _ rfl (setRow_heap _ _ _ _ _ _ HG4.out) Tryd.underlying41 rfl HIZ.out) rfl ⟨(HEND.out _).2 ⟨k, [], [], ⟨by simp, by simp⟩, .inl ⟨rfl, HP.out⟩⟩, below_setRow HBW4.out (Nat.le_refl _) _⟩
          · have hl1 : ((ws.length : Int) == 1) = false := by simp only [beq_eq_false_iff_ne]; omega
            have HP : Hid (calledP ws = none) := Lib.hid (by rw [calledP, HOP.out, if_neg (by omega), if_neg (by omega), if_neg (by omega), if_neg h1])
            clear h1 hnn h22
            go_wp2_with fail
            go_quiet ((go_at_call 51; refine Calls.quiet_of_same (HW.out _)))
            have HBo : Hid (Below (w.heap.size + 1) w1 (wr.drewN nq)) := Lib.hid (below_drewN HB.out _)
            have HSOo : Hid (w.heap.size + 1 ≤ (wr.drewN nq).heap.size) := Lib.hid HSO.out
            generalize wr.drewN nq = wo at *
            have HB4 : Hid (Below (w.heap.size + 1) w1 (wo.alloc (.cells #[.int .i64 k, .string ⟨#[]⟩, .string ⟨#[]⟩] 41))) := Lib.hid (HBo.out.alloc HSOo.out _)
            have HBW4 : Hid (Below w.heap.size w (wo.alloc (.cells #[.int .i64 k, .string ⟨#[]⟩, .string ⟨#[]⟩] 41))) := Lib.hid (HB1.out.trans (HB4.out.mono (by omega)))
            have HG4 : Hid ((wo.alloc (.cells #[.int .i64 k, .string ⟨#[]⟩, .string ⟨#[]⟩] 41)).heap[w.heap.size]? = some (.cells #[.int .i64 0, .string ⟨#[]⟩, .string ⟨#[]⟩] 41 (0, 0))) := Lib.hid ((HB4.out.block w.heap.size (by omega)).trans HG1.out)
            have HOZ : Hid ((callA k [] []).all (·.oneCell') = true) := Lib.hid (by simp [callA, Value.oneCell'])
            have HIZ : Hid ((Tryd.prog.info? 41).map (·.size) = some (callA k [] []).size) := Lib.hid info25
            go_wp2_with (first
              | (go_at_call 52; refine (HN.out _).mono ?_; rintro e w5 ⟨rfl, rfl⟩)
              | ((with_reducible refine wpList_store_row (o := ⟨none, _, _, _, _, _⟩) rfl 41 (.tmp 2) (.tmp 46) rfl w.heap.size (callA k [] []) ?_ ?_ 41 _ HG4.out HIZ.out rfl HOZ.out ?_); rfl; rfl))
            exact bodyPost_ret (results_row2 rfl _ _ w.heap.size 41 (callA k [] []) (0, 0) _ rfl (setRow_heap _ _ _ _ _ _ HG4.out) Tryd.underlying41 rfl HIZ.out) rfl ⟨(HEND.out _).2 ⟨k, [], [], ⟨by simp, by simp⟩, .inr ⟨rfl, HP.out⟩⟩, below_setRow HBW4.out (Nat.le_refl _) _⟩
end Go.Proofs.YtjakkmioofbcaaaDoor
