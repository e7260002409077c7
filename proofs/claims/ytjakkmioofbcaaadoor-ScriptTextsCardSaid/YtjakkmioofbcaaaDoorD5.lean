/- The walk over Parse. -/
import Derived.Test.YtjakkmioofbcaaaDoorD4
namespace Go.Proofs.YtjakkmioofbcaaaDoor
open Go.RowKit
theorem stL_nobool (k op : Int) (nm dt : List UInt8) (n : Int) (A : Option Addr) (l c : Nat) (cc : Fin 13 → Int) (x : Bool) : ∀ j : Nat, (stL k op nm dt n (.slice A l c) cc)[j]? ≠ some (.bool x)
  | 0 => by simp [stL]
  | 1 => by simp [stL]
  | 2 => by simp [stL]
  | 3 => by simp [stL]
  | 4 => by simp [stL]
  | 5 => by simp [stL]
  | 6 => by simp [stL]
  | 7 => by simp [stL]
  | 8 => by simp [stL]
  | 9 => by simp [stL]
  | 10 => by simp [stL]
  | 11 => by simp [stL]
  | 12 => by simp [stL]
  | 13 => by simp [stL]
  | 14 => by simp [stL]
  | 15 => by simp [stL]
  | 16 => by simp [stL]
  | 17 => by simp [stL]
  | 18 => by simp [stL]
  | j + 19 => by simp [stL]
theorem Kp.setRow {w : World} {v : Value} {l : List Bool} {g : Nat} {cs : Array Value} (h : Kp w v l) (hn : ∀ j x, w.cell? ⟨g, j, none⟩ ≠ some (.bool x)) : Kp (w.setRow g cs) v l := by
  refine ⟨h.1, fun hl => ?_⟩
  obtain ⟨b, o, c, e, hlt, hc⟩ := h.2 hl
  have hbg : b ≠ g := by
    rintro rfl
    exact hn _ _ (hc 0 (List.length_pos_iff.2 hl))
  exact ⟨b, o, c, e, by simpa [World.setRow] using hlt, fun i hi => by rw [setRow_cell_other hbg]; exact hc i hi⟩
theorem zero_nobool {w : World} {g : Nat} {fr : Nat × Nat} (h : w.heap[g]? = some (.cells (stL 0 0 [] [] 0 (.slice none 0 0) c0).toArray 44 fr)) : ∀ j x, w.cell? ⟨g, j, none⟩ ≠ some (.bool x) := by
  intro j x
  rw [cell_of_row w g j _ 44 _ h]
  simpa using stL_nobool 0 0 [] [] 0 none 0 0 c0 x j
set_option maxRecDepth 100000 in
set_option maxHeartbeats 2000000 in
theorem parse5 (l : List UInt8) (hl : l.length ≤ 100000) (w : World) (hlg : Lg w) : Calls Tryd.prog 19 #[.string (str l)] w fun e w' => GiveSt w.heap.size (parseS l) e w' (.int .i64 (parseE l)) ∧ Below w.heap.size w w' := by
  have hlz : (str l).size = l.length := str_size l
  have HIZ : Hid ((Tryd.prog.info? 44).map (·.size) = some (stL 0 0 [] [] 0 (.slice none 0 0) c0).toArray.size) := Lib.hid info30
  have HOZ : Hid ((stL 0 0 [] [] 0 (.slice none 0 0) c0).toArray.all (·.oneCell') = true) := Lib.hid (stL_one _ _ _ _ _ _ _ _ _)
  have HG1 : Hid ((w.alloc (.cells #[.int .i64 0, .int .i64 0, .string ⟨#[]⟩, .string ⟨#[]⟩, .int .i64 0, .slice none 0 0, .int .i64 0, .int .i64 0, .int .i64 0, .int .i64 0, .int .i64 0, .int .i64 0, .int .i64 0, .int .i64 0, .int .i64 0, .int .i64 0, .int .i64 0, .int .i64 0, .int .i64 0] 44)).heap[w.heap.size]? = some (.cells #[.int .i64 0, .int .i64 0, .string ⟨#[]⟩, .string ⟨#[]⟩, .int .i64 0, .slice none 0 0, .int .i64 0, .int .i64 0, .int .i64 0, .int .i64 0, .int .i64 0, .int .i64 0, .int .i64 0, .int .i64 0, .int .i64 0, .int .i64 0, .int .i64 0, .int .i64 0, .int .i64 0] 44 (0, 0))) := Lib.hid (heap_alloc_new w _)
  have HB1 : Hid (Below w.heap.size w (w.alloc (.cells #[.int .i64 0, .int .i64 0, .string ⟨#[]⟩, .string ⟨#[]⟩, .int .i64 0, .slice none 0 0, .int .i64 0, .int .i64 0, .int .i64 0, .int .i64 0, .int .i64 0, .int .i64 0, .int .i64 0, .int .i64 0, .int .i64 0, .int .i64 0, .int .i64 0, .int .i64 0, .int .i64 0] 44))) := Lib.hid ((Below.refl _ _).alloc (Nat.le_refl _) _)
  have HSZ1 : Hid ((w.alloc (.cells #[.int .i64 0, .int .i64 0, .string ⟨#[]⟩, .string ⟨#[]⟩, .int .i64 0, .slice none 0 0, .int .i64 0, .int .i64 0, .int .i64 0, .int .i64 0, .int .i64 0, .int .i64 0, .int .i64 0, .int .i64 0, .int .i64 0, .int .i64 0, .int .i64 0, .int .i64 0, .int .i64 0] 44)).heap.size = w.heap.size + 1) := Lib.hid (World.size_alloc _ _)
  by_cases hbig : 65536 < l.length
  case pos =>
    have hd : decide ((65536 : Int) < (l.length : Int)) = true := by simp; omega
    have HE : Hid (parseE l = 2) := Lib.hid (if_pos hbig)
    have HS : Hid (parseS l = zSt) := Lib.hid (if_pos hbig)
    rw [HE.out, HS.out]
    clear hbig HE HS
    go_enter Tryd.func19, Tryd.ntmps19
    go_wp2_with (first
      | ((with_reducible refine wpList_store_row (o := ⟨none, _, _, _, _, _⟩) rfl 44 (.tmp 2) (.tmp 9) rfl w.heap.size (stL 0 0 [] [] 0 (.slice none 0 0) c0).toArray ?_ ?_ 44 _ HG1.out HIZ.out rfl HOZ.out ?_); rfl; rfl))
    exact bodyPost_ret (results_row2 rfl _ _ w.heap.size 44 (stL 0 0 [] [] 0 (.slice none 0 0) c0).toArray (0, 0) _ rfl (setRow_heap _ _ _ _ _ _ HG1.out) Tryd.underlying44 rfl HIZ.out) rfl ⟨⟨none, 0, Kp.nil _, noA, ⟨by simp [zSt], by simp [zSt], by simp [zSt]⟩, rfl⟩, below_setRow HB1.out (Nat.le_refl _) _⟩
  have hd : decide ((65536 : Int) < (l.length : Int)) = false := by simp; omega
  have HE : Hid (parseE l = match parseP l with | none => 300 | some _ => 0) := Lib.hid (if_neg hbig)
  have HS : Hid (parseS l = (parseP l).getD zSt) := Lib.hid (if_neg hbig)
  have HPP : Hid (parseP l = stepP (splitL 32 l)) := Lib.hid rfl
  have HW := Lib.hid (words18 l (by omega) _ (hlg.below (Nat.lt_of_lt_of_le hlg.1 (Nat.le_refl _)) HB1.out))
  have HWX := Lib.hid (splitL_sum 32 l)
  have HWN := Lib.hid (splitL_ne 32 l)
  have HLL := Lib.hid hl
  clear hbig
  go_enter Tryd.func19, Tryd.ntmps19
  go_wp2_with fail
  refine Calls.mono HW.out ?_
  rintro e w2 ⟨v, rfl, hown, hb2⟩
  have HWS := Lib.hid (Ws.of_own hown)
  have HB2 := Lib.hid hb2
  clear hown hb2
  go_wp2_with fail
  refine Calls.mono (step17 v (splitL 32 l) w2 HWS.out HWN.out (fun x hx => Nat.le_trans (HWX.out x hx) HLL.out)) ?_
  rintro e w3 ⟨⟨s, A, cap, hkp, hfr, hfits, hcase⟩, hb3⟩
  have HKP := Lib.hid hkp
  have HFR : Hid (∀ a : Addr, A = some a → w.heap.size ≤ a.block) := Lib.hid (fun a ha => by have := hfr a ha; have := HB2.out.size; rw [HSZ1.out] at this; omega)
  clear hfr
  have HF := Lib.hid hfits
  have HB3 : Hid (Below (w.heap.size + 1) (w.alloc (.cells #[.int .i64 0, .int .i64 0, .string ⟨#[]⟩, .string ⟨#[]⟩, .int .i64 0, .slice none 0 0, .int .i64 0, .int .i64 0, .int .i64 0, .int .i64 0, .int .i64 0, .int .i64 0, .int .i64 0, .int .i64 0, .int .i64 0, .int .i64 0, .int .i64 0, .int .i64 0, .int .i64 0] 44)) w3) := Lib.hid ((HB2.out.mono (by simp)).trans (hb3.mono (by have := HB2.out.size; rw [HSZ1.out] at this; exact this)))
  have HSL : Hid (∃ L, s.L (.slice A s.kp.length cap) = L) := Lib.hid ⟨_, rfl⟩
  obtain ⟨L, hL⟩ := HSL.out
  have HLE := Lib.hid hL
  have HIL : Hid ((Tryd.prog.info? 44).map (·.size) = some L.length) := Lib.hid (by rw [← hL]; exact info30)
  have HIL2 : Hid ((Tryd.prog.info? 44).map (·.size) = some L.toArray.size) := Lib.hid (by rw [← hL]; exact info30)
  have HOS : Hid ((#[.int .i64 0, .int .i64 0, .string ⟨#[]⟩, .string ⟨#[]⟩, .int .i64 0, .slice none 0 0, .int .i64 0, .int .i64 0, .int .i64 0, .int .i64 0, .int .i64 0, .int .i64 0, .int .i64 0, .int .i64 0, .int .i64 0, .int .i64 0, .int .i64 0, .int .i64 0, .int .i64 0] : Array Value).size = L.toArray.size) := Lib.hid (by rw [← hL]; rfl)
  have HOL : Hid (L.toArray.all (·.oneCell') = true) := Lib.hid (by rw [← hL]; exact stL_one _ _ _ _ _ _ _ _ _)
  have HRL : Hid ((w3.alloc (.cells L.toArray 44)).rangeAt w3.heap.size 0 L) := Lib.hid (range_of_row (heap_alloc_new w3 _))
  have HLT3 : Hid (w.heap.size < w3.heap.size) := Lib.hid (by have := HB3.out.size; rw [HSZ1.out] at this; omega)
  have HG4 : Hid ((w3.alloc (.cells L.toArray 44)).heap[w.heap.size]? = some (.cells #[.int .i64 0, .int .i64 0, .string ⟨#[]⟩, .string ⟨#[]⟩, .int .i64 0, .slice none 0 0, .int .i64 0, .int .i64 0, .int .i64 0, .int .i64 0, .int .i64 0, .int .i64 0, .int .i64 0, .int .i64 0, .int .i64 0, .int .i64 0, .int .i64 0, .int .i64 0, .int .i64 0] 44 (0, 0))) := Lib.hid ((Below.heap_alloc w3 _ _ HLT3.out).trans ((HB3.out.block w.heap.size (by omega)).trans HG1.out))
  have HBW : Hid (Below w.heap.size w (w3.alloc (.cells L.toArray 44))) := Lib.hid ((HB1.out.trans (HB3.out.mono (by omega))).alloc (Nat.le_of_lt HLT3.out) _)
  have HKP4 : Hid (∀ X, Kp ((w3.alloc (.cells L.toArray 44)).setRow w.heap.size X) (.slice A s.kp.length cap) s.kp) := Lib.hid (fun X => Kp.setRow (HKP.out.below ((Below.refl _ _).alloc (Nat.le_refl _) _)) (zero_nobool HG4.out))
  rw [hL] at hcase
  clear hkp hfits hb3 hL HSL
  rcases hcase with ⟨rfl, hP⟩ | ⟨rfl, hP⟩
  · have HPQ := Lib.hid (HPP.out.trans hP)
    have HEQ : Hid (parseE l = 0) := Lib.hid (by rw [HE.out, HPQ.out])
    have HSQ : Hid (parseS l = s) := Lib.hid (by rw [HS.out, HPQ.out]; rfl)
    clear hP
    go_wp2_with (first
      | ((with_reducible refine wpList_store_new (op := ⟨none, _, _, _, _, _⟩) rfl 44 (.tmp 4) (.tmp 14) rfl w3.heap.size _ L.toArray rfl ?_ ?_ HIL2.out HOS.out HOL.out ?_); rfl; rfl)
      | ((with_reducible refine wpList_load_midg (op := ⟨some 19, _, _, _, _, _⟩) ?_ 44 (.tmp 4) rfl w3.heap.size 0 ?_ L _ HRL.out Tryd.underlying44 rfl HIL.out ?_); kernel_rfl; rfl)
      | ((with_reducible refine wpList_store_row (o := ⟨none, _, _, _, _, _⟩) rfl 44 (.tmp 2) (.tmp 19) rfl w.heap.size L.toArray ?_ ?_ 44 _ HG4.out HIL2.out HOS.out HOL.out ?_); rfl; rfl))
    rw [HEQ.out, HSQ.out]
    exact bodyPost_ret (results_row2 rfl _ _ w.heap.size 44 L.toArray (0, 0) _ rfl (setRow_heap _ _ _ _ _ _ HG4.out) Tryd.underlying44 rfl HIL2.out) rfl ⟨⟨A, cap, HKP4.out _, HFR.out, HF.out, by rw [← HLE.out]; rfl⟩, below_setRow HBW.out (Nat.le_refl _) _⟩
  · have HPQ := Lib.hid (HPP.out.trans hP)
    have HEQ : Hid (parseE l = 300) := Lib.hid (by rw [HE.out, HPQ.out])
    have HSQ : Hid (parseS l = zSt) := Lib.hid (by rw [HS.out, HPQ.out]; rfl)
    clear hP
    go_wp2_with (first
      | ((with_reducible refine wpList_store_new (op := ⟨none, _, _, _, _, _⟩) rfl 44 (.tmp 4) (.tmp 14) rfl w3.heap.size _ L.toArray rfl ?_ ?_ HIL2.out HOS.out HOL.out ?_); rfl; rfl)
      | ((with_reducible refine wpList_store_row (o := ⟨none, _, _, _, _, _⟩) rfl 44 (.tmp 2) (.tmp 18) rfl w.heap.size (stL 0 0 [] [] 0 (.slice none 0 0) c0).toArray ?_ ?_ 44 _ HG4.out HIZ.out rfl HOZ.out ?_); rfl; rfl))
    rw [HEQ.out, HSQ.out]
    exact bodyPost_ret (results_row2 rfl _ _ w.heap.size 44 (stL 0 0 [] [] 0 (.slice none 0 0) c0).toArray (0, 0) _ rfl (setRow_heap _ _ _ _ _ _ HG4.out) Tryd.underlying44 rfl HIZ.out) rfl ⟨⟨none, 0, Kp.nil _, noA, ⟨by simp [zSt], by simp [zSt], by simp [zSt]⟩, rfl⟩, below_setRow HBW.out (Nat.le_refl _) _⟩
end Go.Proofs.YtjakkmioofbcaaaDoor
