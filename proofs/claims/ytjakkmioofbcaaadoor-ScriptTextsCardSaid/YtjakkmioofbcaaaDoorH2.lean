/- The walk over few: a step of which not more is looked at. -/
import Derived.Test.YtjakkmioofbcaaaDoorH1
import Derived.Deep.Cut
namespace Go.Proofs.YtjakkmioofbcaaaDoor
open Go.RowKit
theorem set2 {W : World} {g : Nat} {k op : Int} {nm dt : List UInt8} {n : Int} {K : Value} {c : Fin 13 → Int} (h : W.heap[g]? = some (.cells (stL k op nm dt n K c).toArray 44 (0, 0))) (x : List UInt8) : (W.setCell ⟨g, 2, none⟩ (.string (str x))).heap[g]? = some (.cells (stL k op x dt n K c).toArray 44 (0, 0)) := by
  rw [Go.heap_setCell_same _ _ _ _ _ _ h]; rfl
theorem set3 {W : World} {g : Nat} {k op : Int} {nm dt : List UInt8} {n : Int} {K : Value} {c : Fin 13 → Int} (h : W.heap[g]? = some (.cells (stL k op nm dt n K c).toArray 44 (0, 0))) (x : List UInt8) : (W.setCell ⟨g, 3, none⟩ (.string (str x))).heap[g]? = some (.cells (stL k op nm x n K c).toArray 44 (0, 0)) := by
  rw [Go.heap_setCell_same _ _ _ _ _ _ h]; rfl
theorem set5 {W : World} {g : Nat} {k op : Int} {nm dt : List UInt8} {n : Int} {K : Value} {c : Fin 13 → Int} (h : W.heap[g]? = some (.cells (stL k op nm dt n K c).toArray 44 (0, 0))) (K' : Value) : (W.setCell ⟨g, 5, none⟩ K').heap[g]? = some (.cells (stL k op nm dt n K' c).toArray 44 (0, 0)) := by
  rw [Go.heap_setCell_same _ _ _ _ _ _ h]; rfl
def fewS (s : St) : St := { s with nm := s.nm.take 70000, dt := s.dt.take 70000, kp := s.kp.take 70000 }
theorem fits_few (s : St) : Fits (fewS s) := ⟨by simp [fewS]; omega, by simp [fewS]; omega, by simp [fewS]; omega⟩
def GiveFew (s : St) (e : Ending) (w' : World) : Prop := ∃ (A : Option Addr) (cap : Nat), Kp w' (.slice A s.kp.length cap) s.kp ∧ e = .returned (.agg (s.L (.slice A s.kp.length cap)).toArray)
theorem giveFew_mk {k op : Int} {nm dt : List UInt8} {n : Int} {kp : List Bool} {c : Fin 13 → Int} {A : Option Addr} {cap m : Nat} {w : World} (hm : kp.length = m) (hk : Kp w (.slice A m cap) kp) : GiveFew ⟨k, op, nm, dt, n, kp, c⟩ (.returned (.agg (stL k op nm dt n (.slice A m cap) c).toArray)) w := by
  subst hm
  exact ⟨A, cap, hk, rfl⟩
theorem Kp.take {w : World} {A : Option Addr} {n cap : Nat} {l : List Bool} (h : Kp w (.slice A l.length cap) l) (hn : n ≤ l.length) : Kp w (.slice A n cap) (l.take n) := by
  have hl : (l.take n).length = n := by simp; omega
  refine ⟨⟨A, cap, by rw [hl]⟩, fun hne => ?_⟩
  obtain ⟨b, o, c, e, hb, hc⟩ := h.2 (by intro e; subst e; simp at hne)
  injection e with e1 _ e3
  subst e1 e3
  refine ⟨b, o, cap, by rw [hl], hb, fun i hi => ?_⟩
  rw [hl] at hi
  rw [hc i (by omega)]
  simp [List.getD, List.getElem?_take_of_lt hi]
theorem zero_nb {w : World} {g : Nat} {k op : Int} {nm dt : List UInt8} {n : Int} {A : Option Addr} {l c : Nat} {cc : Fin 13 → Int} {fr : Nat × Nat} (h : w.heap[g]? = some (.cells (stL k op nm dt n (.slice A l c) cc).toArray 44 fr)) : ∀ j x, w.cell? ⟨g, j, none⟩ ≠ some (.bool x) := by
  intro j x hx
  rw [cell_of_row w g j _ _ _ h] at hx
  exact stL_nobool _ _ _ _ _ _ _ _ _ x j (by simpa using hx)

set_option maxRecDepth 100000 in
set_option maxHeartbeats 2000000 in
theorem few10 (s : St) (A : Option Addr) (cap : Nat) (w : World) (hk : Kp w (.slice A s.kp.length cap) s.kp) (hcap : s.kp.length ≤ cap) (hm : cap ≤ maxLen) (hm2 : s.nm.length ≤ maxLen) (hm3 : s.dt.length ≤ maxLen) :
    Calls Tryd.prog 10 #[.agg (s.A (.slice A s.kp.length cap))] w fun e w' => GiveFew (fewS s) e w' ∧ Below w.heap.size w w' := by
  obtain ⟨k, op, nm, dt, n, kp, c⟩ := s
  simp only [St.A, fewS] at *
  rw [stA_eq]
  unfold maxLen at hm hm2 hm3
  have HKP := Lib.hid hk
  have HCAP := Lib.hid hcap
  clear hk hcap
  have HW : Hid (∃ W, (w.alloc (.cells (stL k op nm dt n (.slice A kp.length cap) c).toArray 44)).alloc (.cells #[.int .i64 0, .int .i64 0, .string ⟨#[]⟩, .string ⟨#[]⟩, .int .i64 0, .slice none 0 0, .int .i64 0, .int .i64 0, .int .i64 0, .int .i64 0, .int .i64 0, .int .i64 0, .int .i64 0, .int .i64 0, .int .i64 0, .int .i64 0, .int .i64 0, .int .i64 0, .int .i64 0] 44) = W) := Lib.hid ⟨_, rfl⟩
  obtain ⟨W, hW⟩ := HW.out
  have hH : W.heap[w.heap.size]? = some (.cells (stL k op nm dt n (.slice A kp.length cap) c).toArray 44 (0, 0)) := by rw [← hW]; exact (Below.heap_alloc _ _ _ (by simp)).trans (heap_alloc_new w _)
  have hZ : W.heap[w.heap.size + 1]? = some (.cells (stL 0 0 [] [] 0 (.slice none 0 0) c0).toArray 44 (0, 0)) := by
    rw [← hW]
    have := heap_alloc_new (w.alloc (.cells (stL k op nm dt n (.slice A kp.length cap) c).toArray 44)) (.cells #[.int .i64 0, .int .i64 0, .string ⟨#[]⟩, .string ⟨#[]⟩, .int .i64 0, .slice none 0 0, .int .i64 0, .int .i64 0, .int .i64 0, .int .i64 0, .int .i64 0, .int .i64 0, .int .i64 0, .int .i64 0, .int .i64 0, .int .i64 0, .int .i64 0, .int .i64 0, .int .i64 0] 44)
    rw [World.size_alloc] at this
    exact this
  have hB : Below w.heap.size w W := by rw [← hW]; exact ((Below.refl _ _).alloc (Nat.le_refl _) _).alloc (by simp) _
  have HWW := Lib.hid hW
  have HH := Lib.hid hH
  have HZ := Lib.hid hZ
  have HB := Lib.hid hB
  clear hW HW hH hZ hB
  have hns : (str nm).size = nm.length := str_size _
  have hds : (str dt).size = dt.length := str_size _
  have p2 : W.cell? ⟨w.heap.size, 2, none⟩ = some (.string (str nm)) := cell_of_row W _ 2 _ 44 (0, 0) HH.out
  have p3 : W.cell? ⟨w.heap.size, 3, none⟩ = some (.string (str dt)) := cell_of_row W _ 3 _ 44 (0, 0) HH.out
  have p5 : W.cell? ⟨w.heap.size, 5, none⟩ = some (.slice A kp.length cap) := cell_of_row W _ 5 _ 44 (0, 0) HH.out
  have hfz : ∀ j, W.frozen? ⟨w.heap.size, j, none⟩ = false := fun j => by simp [World.frozen?, HH.out]
  by_cases h1 : 70000 < nm.length
  all_goals by_cases h2 : 70000 < dt.length
  all_goals by_cases h3 : 70000 < kp.length
  · have hx1 : (str nm).extract 0 70000 = str (nm.take 70000) := by rw [str_extract]; rfl
    have hx2 : (str dt).extract 0 70000 = str (dt.take 70000) := by rw [str_extract]; rfl
    have HKL : Hid ((kp.take 70000).length = 70000) := Lib.hid (by simp; omega)
    have HKP2 : Hid (Kp w (.slice A 70000 cap) (kp.take 70000)) := Lib.hid (HKP.out.take (by omega))
    have hc7 : (70000 : Int) ≤ (cap : Int) := by have := HCAP.out; omega
    have HF : Hid ((((W.setCell ⟨w.heap.size, 2, none⟩ (.string (str (nm.take 70000)))).setCell ⟨w.heap.size, 3, none⟩ (.string (str (dt.take 70000)))).setCell ⟨w.heap.size, 5, none⟩ (.slice A 70000 cap)).heap[w.heap.size]? = some (.cells (stL k op (nm.take 70000) (dt.take 70000) n (.slice A 70000 cap) c).toArray 44 (0, 0))) := Lib.hid (set5 (set3 (set2 HH.out (nm.take 70000)) (dt.take 70000)) (.slice A 70000 cap))
    have HZF : Hid ((((W.setCell ⟨w.heap.size, 2, none⟩ (.string (str (nm.take 70000)))).setCell ⟨w.heap.size, 3, none⟩ (.string (str (dt.take 70000)))).setCell ⟨w.heap.size, 5, none⟩ (.slice A 70000 cap)).heap[w.heap.size + 1]? = some (.cells (stL 0 0 [] [] 0 (.slice none 0 0) c0).toArray 44 (0, 0))) := Lib.hid ((heap_setCell_other _ _ _ _ (by simp)).trans ((heap_setCell_other _ _ _ _ (by simp)).trans ((heap_setCell_other _ _ _ _ (by simp)).trans HZ.out)))
    have HBF : Hid (Below w.heap.size w (((W.setCell ⟨w.heap.size, 2, none⟩ (.string (str (nm.take 70000)))).setCell ⟨w.heap.size, 3, none⟩ (.string (str (dt.take 70000)))).setCell ⟨w.heap.size, 5, none⟩ (.slice A 70000 cap))) := Lib.hid (((HB.out.setCell (by simp) _).setCell (by simp) _).setCell (by simp) _)
    have HI : Hid ((Tryd.prog.info? 44).map (·.size) = some (stL k op (nm.take 70000) (dt.take 70000) n (.slice A 70000 cap) c).length) := Lib.hid info30
    have HI2 : Hid ((Tryd.prog.info? 44).map (·.size) = some (stL k op (nm.take 70000) (dt.take 70000) n (.slice A 70000 cap) c).toArray.size) := Lib.hid info30
    have HO : Hid ((stL k op (nm.take 70000) (dt.take 70000) n (.slice A 70000 cap) c).toArray.all (·.oneCell') = true) := Lib.hid (stL_one _ _ _ _ _ _ _ _ _)
    obtain ⟨L, hL⟩ : ∃ L, stL k op (nm.take 70000) (dt.take 70000) n (.slice A 70000 cap) c = L := ⟨_, rfl⟩
    have HLE := Lib.hid hL
    have HOS : Hid ((stL 0 0 [] [] 0 (.slice none 0 0) c0).toArray.size = L.toArray.size) := Lib.hid (by rw [← hL]; rfl)
    rw [hL] at HF HI HI2 HO
    clear hL
    go_enter Tryd.func10, Tryd.ntmps10
    go_upto_region 1 with fail
    rw [HWW.out]
    go_wp2_with (first
      | ((with_reducible refine wpList_load_midg (op := ⟨some 33, _, _, _, _, _⟩) ?_ 44 (.tmp 1) rfl w.heap.size 0 ?_ L _ (range_of_row HF.out) Tryd.underlying44 rfl HI.out ?_); kernel_rfl; rfl)
      | ((with_reducible refine wpList_store_row (o := ⟨none, _, _, _, _, _⟩) rfl 44 (.tmp 2) (.tmp 33) rfl (w.heap.size + 1) L.toArray ?_ ?_ 44 _ HZF.out HI2.out HOS.out HO.out ?_); rfl; rfl))
    refine bodyPost_ret (results_cell_row rfl _ _ (w.heap.size + 1) 44 L.toArray (0, 0) _ rfl (setRow_heap _ _ _ _ _ _ HZF.out) Tryd.underlying44 rfl HI2.out) rfl ?_
    rw [← HLE.out]
    have hbz := below_setRow HBF.out (Nat.le_succ _) L.toArray
    rw [← HLE.out] at hbz
    exact ⟨giveFew_mk HKL.out (HKP2.out.below hbz), hbz⟩
  · have hx1 : (str nm).extract 0 70000 = str (nm.take 70000) := by rw [str_extract]; rfl
    have hx2 : (str dt).extract 0 70000 = str (dt.take 70000) := by rw [str_extract]; rfl
    rw [show kp.take 70000 = kp from List.take_of_length_le (by omega)]
    have HKP2 := HKP
    have HF : Hid (((W.setCell ⟨w.heap.size, 2, none⟩ (.string (str (nm.take 70000)))).setCell ⟨w.heap.size, 3, none⟩ (.string (str (dt.take 70000)))).heap[w.heap.size]? = some (.cells (stL k op (nm.take 70000) (dt.take 70000) n (.slice A kp.length cap) c).toArray 44 (0, 0))) := Lib.hid (set3 (set2 HH.out (nm.take 70000)) (dt.take 70000))
    have HZF : Hid (((W.setCell ⟨w.heap.size, 2, none⟩ (.string (str (nm.take 70000)))).setCell ⟨w.heap.size, 3, none⟩ (.string (str (dt.take 70000)))).heap[w.heap.size + 1]? = some (.cells (stL 0 0 [] [] 0 (.slice none 0 0) c0).toArray 44 (0, 0))) := Lib.hid ((heap_setCell_other _ _ _ _ (by simp)).trans ((heap_setCell_other _ _ _ _ (by simp)).trans HZ.out))
    have HBF : Hid (Below w.heap.size w ((W.setCell ⟨w.heap.size, 2, none⟩ (.string (str (nm.take 70000)))).setCell ⟨w.heap.size, 3, none⟩ (.string (str (dt.take 70000))))) := Lib.hid ((HB.out.setCell (by simp) _).setCell (by simp) _)
    have HI : Hid ((Tryd.prog.info? 44).map (·.size) = some (stL k op (nm.take 70000) (dt.take 70000) n (.slice A kp.length cap) c).length) := Lib.hid info30
    have HI2 : Hid ((Tryd.prog.info? 44).map (·.size) = some (stL k op (nm.take 70000) (dt.take 70000) n (.slice A kp.length cap) c).toArray.size) := Lib.hid info30
    have HO : Hid ((stL k op (nm.take 70000) (dt.take 70000) n (.slice A kp.length cap) c).toArray.all (·.oneCell') = true) := Lib.hid (stL_one _ _ _ _ _ _ _ _ _)
    obtain ⟨L, hL⟩ : ∃ L, stL k op (nm.take 70000) (dt.take 70000) n (.slice A kp.length cap) c = L := ⟨_, rfl⟩
    have HLE := Lib.hid hL
    have HOS : Hid ((stL 0 0 [] [] 0 (.slice none 0 0) c0).toArray.size = L.toArray.size) := Lib.hid (by rw [← hL]; rfl)
    rw [hL] at HF HI HI2 HO
    clear hL
    go_enter Tryd.func10, Tryd.ntmps10
    go_upto_region 1 with fail
    rw [HWW.out]
    go_wp2_with (first
      | ((with_reducible refine wpList_load_midg (op := ⟨some 33, _, _, _, _, _⟩) ?_ 44 (.tmp 1) rfl w.heap.size 0 ?_ L _ (range_of_row HF.out) Tryd.underlying44 rfl HI.out ?_); kernel_rfl; rfl)
      | ((with_reducible refine wpList_store_row (o := ⟨none, _, _, _, _, _⟩) rfl 44 (.tmp 2) (.tmp 33) rfl (w.heap.size + 1) L.toArray ?_ ?_ 44 _ HZF.out HI2.out HOS.out HO.out ?_); rfl; rfl))
    refine bodyPost_ret (results_cell_row rfl _ _ (w.heap.size + 1) 44 L.toArray (0, 0) _ rfl (setRow_heap _ _ _ _ _ _ HZF.out) Tryd.underlying44 rfl HI2.out) rfl ?_
    rw [← HLE.out]
    have hbz := below_setRow HBF.out (Nat.le_succ _) L.toArray
    rw [← HLE.out] at hbz
    exact ⟨giveFew_mk rfl (HKP2.out.below hbz), hbz⟩
  · have hx1 : (str nm).extract 0 70000 = str (nm.take 70000) := by rw [str_extract]; rfl
    rw [show dt.take 70000 = dt from List.take_of_length_le (by omega)]
    have HKL : Hid ((kp.take 70000).length = 70000) := Lib.hid (by simp; omega)
    have HKP2 : Hid (Kp w (.slice A 70000 cap) (kp.take 70000)) := Lib.hid (HKP.out.take (by omega))
    have hc7 : (70000 : Int) ≤ (cap : Int) := by have := HCAP.out; omega
    have HF : Hid (((W.setCell ⟨w.heap.size, 2, none⟩ (.string (str (nm.take 70000)))).setCell ⟨w.heap.size, 5, none⟩ (.slice A 70000 cap)).heap[w.heap.size]? = some (.cells (stL k op (nm.take 70000) (dt) n (.slice A 70000 cap) c).toArray 44 (0, 0))) := Lib.hid (set5 (set2 HH.out (nm.take 70000)) (.slice A 70000 cap))
    have HZF : Hid (((W.setCell ⟨w.heap.size, 2, none⟩ (.string (str (nm.take 70000)))).setCell ⟨w.heap.size, 5, none⟩ (.slice A 70000 cap)).heap[w.heap.size + 1]? = some (.cells (stL 0 0 [] [] 0 (.slice none 0 0) c0).toArray 44 (0, 0))) := Lib.hid ((heap_setCell_other _ _ _ _ (by simp)).trans ((heap_setCell_other _ _ _ _ (by simp)).trans HZ.out))
    have HBF : Hid (Below w.heap.size w ((W.setCell ⟨w.heap.size, 2, none⟩ (.string (str (nm.take 70000)))).setCell ⟨w.heap.size, 5, none⟩ (.slice A 70000 cap))) := Lib.hid ((HB.out.setCell (by simp) _).setCell (by simp) _)
    have HI : Hid ((Tryd.prog.info? 44).map (·.size) = some (stL k op (nm.take 70000) (dt) n (.slice A 70000 cap) c).length) := Lib.hid info30
    have HI2 : Hid ((Tryd.prog.info? 44).map (·.size) = some (stL k op (nm.take 70000) (dt) n (.slice A 70000 cap) c).toArray.size) := Lib.hid info30
    have HO : Hid ((stL k op (nm.take 70000) (dt) n (.slice A 70000 cap) c).toArray.all (·.oneCell') = true) := Lib.hid (stL_one _ _ _ _ _ _ _ _ _)
    obtain ⟨L, hL⟩ : ∃ L, stL k op (nm.take 70000) (dt) n (.slice A 70000 cap) c = L := ⟨_, rfl⟩
    have HLE := Lib.hid hL
    have HOS : Hid ((stL 0 0 [] [] 0 (.slice none 0 0) c0).toArray.size = L.toArray.size) := Lib.hid (by rw [← hL]; rfl)
    rw [hL] at HF HI HI2 HO
    clear hL
    go_enter Tryd.func10, Tryd.ntmps10
    go_upto_region 1 with fail
    rw [HWW.out]
    go_wp2_with (first
      | ((with_reducible refine wpList_load_midg (op := ⟨some 33, _, _, _, _, _⟩) ?_ 44 (.tmp 1) rfl w.heap.size 0 ?_ L _ (range_of_row HF.out) Tryd.underlying44 rfl HI.out ?_); kernel_rfl; rfl)
      | ((with_reducible refine wpList_store_row (o := ⟨none, _, _, _, _, _⟩) rfl 44 (.tmp 2) (.tmp 33) rfl (w.heap.size + 1) L.toArray ?_ ?_ 44 _ HZF.out HI2.out HOS.out HO.out ?_); rfl; rfl))
    refine bodyPost_ret (results_cell_row rfl _ _ (w.heap.size + 1) 44 L.toArray (0, 0) _ rfl (setRow_heap _ _ _ _ _ _ HZF.out) Tryd.underlying44 rfl HI2.out) rfl ?_
    rw [← HLE.out]
    have hbz := below_setRow HBF.out (Nat.le_succ _) L.toArray
    rw [← HLE.out] at hbz
    exact ⟨giveFew_mk HKL.out (HKP2.out.below hbz), hbz⟩
  · have hx1 : (str nm).extract 0 70000 = str (nm.take 70000) := by rw [str_extract]; rfl
    rw [show dt.take 70000 = dt from List.take_of_length_le (by omega)]
    rw [show kp.take 70000 = kp from List.take_of_length_le (by omega)]
    have HKP2 := HKP
    have HF : Hid ((W.setCell ⟨w.heap.size, 2, none⟩ (.string (str (nm.take 70000)))).heap[w.heap.size]? = some (.cells (stL k op (nm.take 70000) (dt) n (.slice A kp.length cap) c).toArray 44 (0, 0))) := Lib.hid (set2 HH.out (nm.take 70000))
    have HZF : Hid ((W.setCell ⟨w.heap.size, 2, none⟩ (.string (str (nm.take 70000)))).heap[w.heap.size + 1]? = some (.cells (stL 0 0 [] [] 0 (.slice none 0 0) c0).toArray 44 (0, 0))) := Lib.hid ((heap_setCell_other _ _ _ _ (by simp)).trans HZ.out)
    have HBF : Hid (Below w.heap.size w (W.setCell ⟨w.heap.size, 2, none⟩ (.string (str (nm.take 70000))))) := Lib.hid (HB.out.setCell (by simp) _)
    have HI : Hid ((Tryd.prog.info? 44).map (·.size) = some (stL k op (nm.take 70000) (dt) n (.slice A kp.length cap) c).length) := Lib.hid info30
    have HI2 : Hid ((Tryd.prog.info? 44).map (·.size) = some (stL k op (nm.take 70000) (dt) n (.slice A kp.length cap) c).toArray.size) := Lib.hid info30
    have HO : Hid ((stL k op (nm.take 70000) (dt) n (.slice A kp.length cap) c).toArray.all (·.oneCell') = true) := Lib.hid (stL_one _ _ _ _ _ _ _ _ _)
    obtain ⟨L, hL⟩ : ∃ L, stL k op (nm.take 70000) (dt) n (.slice A kp.length cap) c = L := ⟨_, rfl⟩
    have HLE := Lib.hid hL
    have HOS : Hid ((stL 0 0 [] [] 0 (.slice none 0 0) c0).toArray.size = L.toArray.size) := Lib.hid (by rw [← hL]; rfl)
    rw [hL] at HF HI HI2 HO
    clear hL
    go_enter Tryd.func10, Tryd.ntmps10
    go_upto_region 1 with fail
    rw [HWW.out]
    go_wp2_with (first
      | ((with_reducible refine wpList_load_midg (op := ⟨some 33, _, _, _, _, _⟩) ?_ 44 (.tmp 1) rfl w.heap.size 0 ?_ L _ (range_of_row HF.out) Tryd.underlying44 rfl HI.out ?_); kernel_rfl; rfl)
      | ((with_reducible refine wpList_store_row (o := ⟨none, _, _, _, _, _⟩) rfl 44 (.tmp 2) (.tmp 33) rfl (w.heap.size + 1) L.toArray ?_ ?_ 44 _ HZF.out HI2.out HOS.out HO.out ?_); rfl; rfl))
    refine bodyPost_ret (results_cell_row rfl _ _ (w.heap.size + 1) 44 L.toArray (0, 0) _ rfl (setRow_heap _ _ _ _ _ _ HZF.out) Tryd.underlying44 rfl HI2.out) rfl ?_
    rw [← HLE.out]
    have hbz := below_setRow HBF.out (Nat.le_succ _) L.toArray
    rw [← HLE.out] at hbz
    exact ⟨giveFew_mk rfl (HKP2.out.below hbz), hbz⟩
  · rw [show nm.take 70000 = nm from List.take_of_length_le (by omega)]
    have hx2 : (str dt).extract 0 70000 = str (dt.take 70000) := by rw [str_extract]; rfl
    have HKL : Hid ((kp.take 70000).length = 70000) := Lib.hid (by simp; omega)
    have HKP2 : Hid (Kp w (.slice A 70000 cap) (kp.take 70000)) := Lib.hid (HKP.out.take (by omega))
    have hc7 : (70000 : Int) ≤ (cap : Int) := by have := HCAP.out; omega
    have HF : Hid (((W.setCell ⟨w.heap.size, 3, none⟩ (.string (str (dt.take 70000)))).setCell ⟨w.heap.size, 5, none⟩ (.slice A 70000 cap)).heap[w.heap.size]? = some (.cells (stL k op (nm) (dt.take 70000) n (.slice A 70000 cap) c).toArray 44 (0, 0))) := Lib.hid (set5 (set3 HH.out (dt.take 70000)) (.slice A 70000 cap))
    have HZF : Hid (((W.setCell ⟨w.heap.size, 3, none⟩ (.string (str (dt.take 70000)))).setCell ⟨w.heap.size, 5, none⟩ (.slice A 70000 cap)).heap[w.heap.size + 1]? = some (.cells (stL 0 0 [] [] 0 (.slice none 0 0) c0).toArray 44 (0, 0))) := Lib.hid ((heap_setCell_other _ _ _ _ (by simp)).trans ((heap_setCell_other _ _ _ _ (by simp)).trans HZ.out))
    have HBF : Hid (Below w.heap.size w ((W.setCell ⟨w.heap.size, 3, none⟩ (.string (str (dt.take 70000)))).setCell ⟨w.heap.size, 5, none⟩ (.slice A 70000 cap))) := Lib.hid ((HB.out.setCell (by simp) _).setCell (by simp) _)
    have HI : Hid ((Tryd.prog.info? 44).map (·.size) = some (stL k op (nm) (dt.take 70000) n (.slice A 70000 cap) c).length) := Lib.hid info30
    have HI2 : Hid ((Tryd.prog.info? 44).map (·.size) = some (stL k op (nm) (dt.take 70000) n (.slice A 70000 cap) c).toArray.size) := Lib.hid info30
    have HO : Hid ((stL k op (nm) (dt.take 70000) n (.slice A 70000 cap) c).toArray.all (·.oneCell') = true) := Lib.hid (stL_one _ _ _ _ _ _ _ _ _)
    obtain ⟨L, hL⟩ : ∃ L, stL k op (nm) (dt.take 70000) n (.slice A 70000 cap) c = L := ⟨_, rfl⟩
    have HLE := Lib.hid hL
    have HOS : Hid ((stL 0 0 [] [] 0 (.slice none 0 0) c0).toArray.size = L.toArray.size) := Lib.hid (by rw [← hL]; rfl)
    rw [hL] at HF HI HI2 HO
    clear hL
    go_enter Tryd.func10, Tryd.ntmps10
    go_upto_region 1 with fail
    rw [HWW.out]
    go_wp2_with (first
      | ((with_reducible refine wpList_load_midg (op := ⟨some 33, _, _, _, _, _⟩) ?_ 44 (.tmp 1) rfl w.heap.size 0 ?_ L _ (range_of_row HF.out) Tryd.underlying44 rfl HI.out ?_); kernel_rfl; rfl)
      | ((with_reducible refine wpList_store_row (o := ⟨none, _, _, _, _, _⟩) rfl 44 (.tmp 2) (.tmp 33) rfl (w.heap.size + 1) L.toArray ?_ ?_ 44 _ HZF.out HI2.out HOS.out HO.out ?_); rfl; rfl))
    refine bodyPost_ret (results_cell_row rfl _ _ (w.heap.size + 1) 44 L.toArray (0, 0) _ rfl (setRow_heap _ _ _ _ _ _ HZF.out) Tryd.underlying44 rfl HI2.out) rfl ?_
    rw [← HLE.out]
    have hbz := below_setRow HBF.out (Nat.le_succ _) L.toArray
    rw [← HLE.out] at hbz
    exact ⟨giveFew_mk HKL.out (HKP2.out.below hbz), hbz⟩
  · rw [show nm.take 70000 = nm from List.take_of_length_le (by omega)]
    have hx2 : (str dt).extract 0 70000 = str (dt.take 70000) := by rw [str_extract]; rfl
    rw [show kp.take 70000 = kp from List.take_of_length_le (by omega)]
    have HKP2 := HKP
    have HF : Hid ((W.setCell ⟨w.heap.size, 3, none⟩ (.string (str (dt.take 70000)))).heap[w.heap.size]? = some (.cells (stL k op (nm) (dt.take 70000) n (.slice A kp.length cap) c).toArray 44 (0, 0))) := Lib.hid (set3 HH.out (dt.take 70000))
    have HZF : Hid ((W.setCell ⟨w.heap.size, 3, none⟩ (.string (str (dt.take 70000)))).heap[w.heap.size + 1]? = some (.cells (stL 0 0 [] [] 0 (.slice none 0 0) c0).toArray 44 (0, 0))) := Lib.hid ((heap_setCell_other _ _ _ _ (by simp)).trans HZ.out)
    have HBF : Hid (Below w.heap.size w (W.setCell ⟨w.heap.size, 3, none⟩ (.string (str (dt.take 70000))))) := Lib.hid (HB.out.setCell (by simp) _)
    have HI : Hid ((Tryd.prog.info? 44).map (·.size) = some (stL k op (nm) (dt.take 70000) n (.slice A kp.length cap) c).length) := Lib.hid info30
    have HI2 : Hid ((Tryd.prog.info? 44).map (·.size) = some (stL k op (nm) (dt.take 70000) n (.slice A kp.length cap) c).toArray.size) := Lib.hid info30
    have HO : Hid ((stL k op (nm) (dt.take 70000) n (.slice A kp.length cap) c).toArray.all (·.oneCell') = true) := Lib.hid (stL_one _ _ _ _ _ _ _ _ _)
    obtain ⟨L, hL⟩ : ∃ L, stL k op (nm) (dt.take 70000) n (.slice A kp.length cap) c = L := ⟨_, rfl⟩
    have HLE := Lib.hid hL
    have HOS : Hid ((stL 0 0 [] [] 0 (.slice none 0 0) c0).toArray.size = L.toArray.size) := Lib.hid (by rw [← hL]; rfl)
    rw [hL] at HF HI HI2 HO
    clear hL
    go_enter Tryd.func10, Tryd.ntmps10
    go_upto_region 1 with fail
    rw [HWW.out]
    go_wp2_with (first
      | ((with_reducible refine wpList_load_midg (op := ⟨some 33, _, _, _, _, _⟩) ?_ 44 (.tmp 1) rfl w.heap.size 0 ?_ L _ (range_of_row HF.out) Tryd.underlying44 rfl HI.out ?_); kernel_rfl; rfl)
      | ((with_reducible refine wpList_store_row (o := ⟨none, _, _, _, _, _⟩) rfl 44 (.tmp 2) (.tmp 33) rfl (w.heap.size + 1) L.toArray ?_ ?_ 44 _ HZF.out HI2.out HOS.out HO.out ?_); rfl; rfl))
    refine bodyPost_ret (results_cell_row rfl _ _ (w.heap.size + 1) 44 L.toArray (0, 0) _ rfl (setRow_heap _ _ _ _ _ _ HZF.out) Tryd.underlying44 rfl HI2.out) rfl ?_
    rw [← HLE.out]
    have hbz := below_setRow HBF.out (Nat.le_succ _) L.toArray
    rw [← HLE.out] at hbz
    exact ⟨giveFew_mk rfl (HKP2.out.below hbz), hbz⟩
  · rw [show nm.take 70000 = nm from List.take_of_length_le (by omega)]
    rw [show dt.take 70000 = dt from List.take_of_length_le (by omega)]
    have HKL : Hid ((kp.take 70000).length = 70000) := Lib.hid (by simp; omega)
    have HKP2 : Hid (Kp w (.slice A 70000 cap) (kp.take 70000)) := Lib.hid (HKP.out.take (by omega))
    have hc7 : (70000 : Int) ≤ (cap : Int) := by have := HCAP.out; omega
    have HF : Hid ((W.setCell ⟨w.heap.size, 5, none⟩ (.slice A 70000 cap)).heap[w.heap.size]? = some (.cells (stL k op (nm) (dt) n (.slice A 70000 cap) c).toArray 44 (0, 0))) := Lib.hid (set5 HH.out (.slice A 70000 cap))
    have HZF : Hid ((W.setCell ⟨w.heap.size, 5, none⟩ (.slice A 70000 cap)).heap[w.heap.size + 1]? = some (.cells (stL 0 0 [] [] 0 (.slice none 0 0) c0).toArray 44 (0, 0))) := Lib.hid ((heap_setCell_other _ _ _ _ (by simp)).trans HZ.out)
    have HBF : Hid (Below w.heap.size w (W.setCell ⟨w.heap.size, 5, none⟩ (.slice A 70000 cap))) := Lib.hid (HB.out.setCell (by simp) _)
    have HI : Hid ((Tryd.prog.info? 44).map (·.size) = some (stL k op (nm) (dt) n (.slice A 70000 cap) c).length) := Lib.hid info30
    have HI2 : Hid ((Tryd.prog.info? 44).map (·.size) = some (stL k op (nm) (dt) n (.slice A 70000 cap) c).toArray.size) := Lib.hid info30
    have HO : Hid ((stL k op (nm) (dt) n (.slice A 70000 cap) c).toArray.all (·.oneCell') = true) := Lib.hid (stL_one _ _ _ _ _ _ _ _ _)
    obtain ⟨L, hL⟩ : ∃ L, stL k op (nm) (dt) n (.slice A 70000 cap) c = L := ⟨_, rfl⟩
    have HLE := Lib.hid hL
    have HOS : Hid ((stL 0 0 [] [] 0 (.slice none 0 0) c0).toArray.size = L.toArray.size) := Lib.hid (by rw [← hL]; rfl)
    rw [hL] at HF HI HI2 HO
    clear hL
    go_enter Tryd.func10, Tryd.ntmps10
    go_upto_region 1 with fail
    rw [HWW.out]
    go_wp2_with (first
      | ((with_reducible refine wpList_load_midg (op := ⟨some 33, _, _, _, _, _⟩) ?_ 44 (.tmp 1) rfl w.heap.size 0 ?_ L _ (range_of_row HF.out) Tryd.underlying44 rfl HI.out ?_); kernel_rfl; rfl)
      | ((with_reducible refine wpList_store_row (o := ⟨none, _, _, _, _, _⟩) rfl 44 (.tmp 2) (.tmp 33) rfl (w.heap.size + 1) L.toArray ?_ ?_ 44 _ HZF.out HI2.out HOS.out HO.out ?_); rfl; rfl))
    refine bodyPost_ret (results_cell_row rfl _ _ (w.heap.size + 1) 44 L.toArray (0, 0) _ rfl (setRow_heap _ _ _ _ _ _ HZF.out) Tryd.underlying44 rfl HI2.out) rfl ?_
    rw [← HLE.out]
    have hbz := below_setRow HBF.out (Nat.le_succ _) L.toArray
    rw [← HLE.out] at hbz
    exact ⟨giveFew_mk HKL.out (HKP2.out.below hbz), hbz⟩
  · rw [show nm.take 70000 = nm from List.take_of_length_le (by omega)]
    rw [show dt.take 70000 = dt from List.take_of_length_le (by omega)]
    rw [show kp.take 70000 = kp from List.take_of_length_le (by omega)]
    have HKP2 := HKP
    have HF : Hid (W.heap[w.heap.size]? = some (.cells (stL k op (nm) (dt) n (.slice A kp.length cap) c).toArray 44 (0, 0))) := Lib.hid HH.out
    have HZF : Hid (W.heap[w.heap.size + 1]? = some (.cells (stL 0 0 [] [] 0 (.slice none 0 0) c0).toArray 44 (0, 0))) := Lib.hid HZ.out
    have HBF : Hid (Below w.heap.size w W) := Lib.hid HB.out
    have HI : Hid ((Tryd.prog.info? 44).map (·.size) = some (stL k op (nm) (dt) n (.slice A kp.length cap) c).length) := Lib.hid info30
    have HI2 : Hid ((Tryd.prog.info? 44).map (·.size) = some (stL k op (nm) (dt) n (.slice A kp.length cap) c).toArray.size) := Lib.hid info30
    have HO : Hid ((stL k op (nm) (dt) n (.slice A kp.length cap) c).toArray.all (·.oneCell') = true) := Lib.hid (stL_one _ _ _ _ _ _ _ _ _)
    obtain ⟨L, hL⟩ : ∃ L, stL k op (nm) (dt) n (.slice A kp.length cap) c = L := ⟨_, rfl⟩
    have HLE := Lib.hid hL
    have HOS : Hid ((stL 0 0 [] [] 0 (.slice none 0 0) c0).toArray.size = L.toArray.size) := Lib.hid (by rw [← hL]; rfl)
    rw [hL] at HF HI HI2 HO
    clear hL
    go_enter Tryd.func10, Tryd.ntmps10
    go_upto_region 1 with fail
    rw [HWW.out]
    go_wp2_with (first
      | ((with_reducible refine wpList_load_midg (op := ⟨some 33, _, _, _, _, _⟩) ?_ 44 (.tmp 1) rfl w.heap.size 0 ?_ L _ (range_of_row HF.out) Tryd.underlying44 rfl HI.out ?_); kernel_rfl; rfl)
      | ((with_reducible refine wpList_store_row (o := ⟨none, _, _, _, _, _⟩) rfl 44 (.tmp 2) (.tmp 33) rfl (w.heap.size + 1) L.toArray ?_ ?_ 44 _ HZF.out HI2.out HOS.out HO.out ?_); rfl; rfl))
    refine bodyPost_ret (results_cell_row rfl _ _ (w.heap.size + 1) 44 L.toArray (0, 0) _ rfl (setRow_heap _ _ _ _ _ _ HZF.out) Tryd.underlying44 rfl HI2.out) rfl ?_
    rw [← HLE.out]
    have hbz := below_setRow HBF.out (Nat.le_succ _) L.toArray
    rw [← HLE.out] at hbz
    exact ⟨giveFew_mk rfl (HKP2.out.below hbz), hbz⟩
end Go.Proofs.YtjakkmioofbcaaaDoor
