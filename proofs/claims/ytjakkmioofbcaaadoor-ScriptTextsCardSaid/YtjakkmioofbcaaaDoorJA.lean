/- Words for scripts; the walks over headed, the heads' texts, Good, theirs, ours, SameScript, Split, TrimSuffix, Read. -/
import Derived.Test.YtjakkmioofbcaaaDoorH3
import Derived.Maps.AppendAt
namespace Go.Proofs.YtjakkmioofbcaaaDoor
open Go.RowKit
def scL (a b : Int) (c : Fin 13 → Int) (V : Value) : List Value := [.int .i64 a, .int .i64 b, .int .i64 (c 0), .int .i64 (c 1), .int .i64 (c 2), .int .i64 (c 3), .int .i64 (c 4), .int .i64 (c 5), .int .i64 (c 6), .int .i64 (c 7), .int .i64 (c 8), .int .i64 (c 9), .int .i64 (c 10), .int .i64 (c 11), .int .i64 (c 12), V]
theorem info26 : (Tryd.prog.info? 26).map (·.size) = some 16 := by kernel_rfl
theorem infoR : (Tryd.prog.info? 30).map (·.size) = some 16 := by kernel_rfl
theorem scL_one (a b : Int) (c : Fin 13 → Int) (A : Option Addr) (n k : Nat) : (scL a b c (.slice A n k)).toArray.all (·.oneCell') = true := by simp [scL, Value.oneCell']
theorem scL_len (a b : Int) (c : Fin 13 → Int) (V : Value) : (scL a b c V).length = 16 := rfl
theorem wpList_of_run {P : Program} {ops : Array Oper} {rest : List Oper} {op : Oper} {a : Act} {w w' : World} {Q : Exit → Act → World → Prop} (hgd : op.guard = none) {v : Value} (hr : (execOp a.eval op).run P w = .ok (.value v) w') (h : wpList P ops Q rest (a.put op.dst v) w') : wpList P ops Q (op :: rest) a w :=
  wpList_plain hgd fun _ hK => by
    unfold Oper.wp
    rw [hr]
    exact hK _ _ h
theorem exec_sc (ev : Operand → Value) (n1 n2 : Int) (c : Fin 13 → Int) (x y z : Operand) (W : World) (d : Option Tmp) (ty : TypeId) (ps : String) (af : Array Edge) (h1 : ev x = .int .i64 n1) (h2 : ev y = .int .i64 n2) (h3 : ev z = .agg (cfL c).toArray) :
    (execOp ev ⟨d, .build 26 #[(0, x), (1, y), (2, z)], ty, ps, af, none⟩).run Tryd.prog W = .ok (.value (.agg (scL n1 n2 c (.slice none 0 0)).toArray)) W := by
  have hbd : (Instr.build 26 #[(0, .int .i64 n1), (1, .int .i64 n2), (2, .agg (cfL c).toArray)]).run Tryd.prog W = .ok (.agg (scL n1 n2 c (.slice none 0 0)).toArray) W := by kernel_rfl
  simp only [execOp, List.map_toArray, List.map_cons, List.map_nil, h1, h2, h3, Sem.run_bind, hbd, Sem.run_pure, Result.andThen_ok]
def storeW : List UInt8 := [115, 116, 111, 114, 101]
def headP (ws : List (List UInt8)) : Option (Int × Int × (Fin 13 → Int)) :=
  if ws.getD 0 [] = storeW ∧ 3 ≤ ws.length then
    if (cnt (ws.getD 1 [])).2 = true ∧ (cnt (ws.getD 2 [])).2 = true then (confP (ws.drop 3)).map fun c => (((cnt (ws.getD 1 [])).1 : Int), ((cnt (ws.getD 2 [])).1 : Int), c) else none
  else none
def headV (x : Option (Int × Int × (Fin 13 → Int))) : Value := match x with
  | some (a, b, c) => .tuple #[.agg (scL a b c (.slice none 0 0)).toArray, .int .i64 0]
  | none => .tuple #[.agg (scL 0 0 c0 (.slice none 0 0)).toArray, .int .i64 300]
def headE (l : List UInt8) : Value := if 65536 < l.length then .tuple #[.agg (scL 0 0 c0 (.slice none 0 0)).toArray, .int .i64 2] else headV (headP (splitL 32 l))
theorem Ws.drop {w : World} {b o cp : Nat} {ws : List (List UInt8)} (k : Nat) (h : Ws w (.slice (some ⟨b, o, none⟩) ws.length cp) ws) (hk : k ≤ ws.length) : Ws w (.slice (some ⟨b, o + k, none⟩) (ws.length - k) (cp - k)) (ws.drop k) := by
  have ht : (ws.drop k).length = ws.length - k := by simp
  refine ⟨⟨_, _, by rw [ht]⟩, fun hne => ?_⟩
  have h0 : ws ≠ [] := by intro e; subst e; simp at hne
  obtain ⟨b', o', c', e, hlt, hcap, hc⟩ := h.2 h0
  injection e with e1 e2 e3
  injection e1 with e1
  injection e1 with e4 e5
  subst e4
  subst e5
  subst e3
  have hl : 0 < ws.length - k := by rw [← ht]; exact List.length_pos_iff.2 hne
  refine ⟨_, _, _, by rw [ht], hlt, by rw [ht]; omega, fun i hi => ?_⟩
  rw [ht] at hi
  have := hc (k + i) (by omega)
  rw [show o + k + i = o + (k + i) by omega, this]
  simp [List.getD]
theorem Ws.drop0 {w : World} {A : Option Addr} {cp : Nat} {ws : List (List UInt8)} (k : Nat) (hk : k = ws.length) : Ws w (.slice A (ws.length - k) cp) (ws.drop k) := by
  have ht : (ws.drop k) = [] := by simp [hk]
  exact ⟨⟨A, cp, by simp [hk]⟩, fun hne => absurd ht hne⟩

set_option maxRecDepth 100000 in
set_option maxHeartbeats 4000000 in
theorem headed18_long (l : List UInt8) (w : World) (h : 65536 < l.length) (hm : l.length ≤ 2000000) : Calls Tryd.prog 18 #[.string (str l)] w fun e w' => e = .returned (headE l) ∧ Below w.heap.size w w' := by
  have HV : Hid (headE l = .tuple #[.agg (scL 0 0 c0 (.slice none 0 0)).toArray, .int .i64 2]) := Lib.hid (by rw [headE, if_pos h])
  have HIZ : Hid ((Tryd.prog.info? 26).map (·.size) = some (scL 0 0 c0 (.slice none 0 0)).toArray.size) := Lib.hid info26
  have HOZ : Hid ((scL 0 0 c0 (.slice none 0 0)).toArray.all (·.oneCell') = true) := Lib.hid (scL_one _ _ _ _ _ _)
  have HG1 : Hid ((w.alloc (.cells #[.int .i64 0, .int .i64 0, .int .i64 0, .int .i64 0, .int .i64 0, .int .i64 0, .int .i64 0, .int .i64 0, .int .i64 0, .int .i64 0, .int .i64 0, .int .i64 0, .int .i64 0, .int .i64 0, .int .i64 0, .slice none 0 0] 26)).heap[w.heap.size]? = some (.cells #[.int .i64 0, .int .i64 0, .int .i64 0, .int .i64 0, .int .i64 0, .int .i64 0, .int .i64 0, .int .i64 0, .int .i64 0, .int .i64 0, .int .i64 0, .int .i64 0, .int .i64 0, .int .i64 0, .int .i64 0, .slice none 0 0] 26 (0, 0))) := Lib.hid (heap_alloc_new w _)
  have HB1 : Hid (Below w.heap.size w (w.alloc (.cells #[.int .i64 0, .int .i64 0, .int .i64 0, .int .i64 0, .int .i64 0, .int .i64 0, .int .i64 0, .int .i64 0, .int .i64 0, .int .i64 0, .int .i64 0, .int .i64 0, .int .i64 0, .int .i64 0, .int .i64 0, .slice none 0 0] 26))) := Lib.hid ((Below.refl _ _).alloc (Nat.le_refl _) _)
  have HS1 : Hid ((w.alloc (.cells #[.int .i64 0, .int .i64 0, .int .i64 0, .int .i64 0, .int .i64 0, .int .i64 0, .int .i64 0, .int .i64 0, .int .i64 0, .int .i64 0, .int .i64 0, .int .i64 0, .int .i64 0, .int .i64 0, .int .i64 0, .slice none 0 0] 26)).heap.size = w.heap.size + 1) := Lib.hid (World.size_alloc _ _)
  have hsz : (str l).size = l.length := str_size l
  go_enter Tryd.func18, Tryd.ntmps18
  go_wp2_with ((with_reducible refine wpList_store_row (o := ⟨none, _, _, _, _, _⟩) rfl 26 (.tmp 2) (.tmp 14) rfl w.heap.size (scL 0 0 c0 (.slice none 0 0)).toArray ?_ ?_ 26 _ HG1.out HIZ.out rfl HOZ.out ?_); rfl; rfl)
  refine bodyPost_ret (results_row2 rfl _ _ w.heap.size 26 (scL 0 0 c0 (.slice none 0 0)).toArray (0, 0) _ rfl (setRow_heap _ _ _ _ _ _ HG1.out) Tryd.underlying26 rfl HIZ.out) rfl ⟨?_, below_setRow HB1.out (Nat.le_refl _) _⟩
  rw [HV.out]
  rfl

set_option maxRecDepth 100000 in
set_option maxHeartbeats 4000000 in
theorem headed18_short (l : List UInt8) (w : World) (hlg : Lg w) (h : l.length ≤ 65536) : Calls Tryd.prog 18 #[.string (str l)] w fun e w' => e = .returned (headE l) ∧ Below w.heap.size w w' := by
  have HV : Hid (headE l = headV (headP (splitL 32 l))) := Lib.hid (by rw [headE, if_neg (by omega)])
  have HIZ : Hid ((Tryd.prog.info? 26).map (·.size) = some (scL 0 0 c0 (.slice none 0 0)).toArray.size) := Lib.hid info26
  have HOZ : Hid ((scL 0 0 c0 (.slice none 0 0)).toArray.all (·.oneCell') = true) := Lib.hid (scL_one _ _ _ _ _ _)
  have HG1 : Hid ((w.alloc (.cells #[.int .i64 0, .int .i64 0, .int .i64 0, .int .i64 0, .int .i64 0, .int .i64 0, .int .i64 0, .int .i64 0, .int .i64 0, .int .i64 0, .int .i64 0, .int .i64 0, .int .i64 0, .int .i64 0, .int .i64 0, .slice none 0 0] 26)).heap[w.heap.size]? = some (.cells #[.int .i64 0, .int .i64 0, .int .i64 0, .int .i64 0, .int .i64 0, .int .i64 0, .int .i64 0, .int .i64 0, .int .i64 0, .int .i64 0, .int .i64 0, .int .i64 0, .int .i64 0, .int .i64 0, .int .i64 0, .slice none 0 0] 26 (0, 0))) := Lib.hid (heap_alloc_new w _)
  have HB1 : Hid (Below w.heap.size w (w.alloc (.cells #[.int .i64 0, .int .i64 0, .int .i64 0, .int .i64 0, .int .i64 0, .int .i64 0, .int .i64 0, .int .i64 0, .int .i64 0, .int .i64 0, .int .i64 0, .int .i64 0, .int .i64 0, .int .i64 0, .int .i64 0, .slice none 0 0] 26))) := Lib.hid ((Below.refl _ _).alloc (Nat.le_refl _) _)
  have HS1 : Hid ((w.alloc (.cells #[.int .i64 0, .int .i64 0, .int .i64 0, .int .i64 0, .int .i64 0, .int .i64 0, .int .i64 0, .int .i64 0, .int .i64 0, .int .i64 0, .int .i64 0, .int .i64 0, .int .i64 0, .int .i64 0, .int .i64 0, .slice none 0 0] 26)).heap.size = w.heap.size + 1) := Lib.hid (World.size_alloc _ _)
  have hsz : (str l).size = l.length := str_size l
  have HW := Lib.hid (words18 l (by omega) (w.alloc (.cells #[.int .i64 0, .int .i64 0, .int .i64 0, .int .i64 0, .int .i64 0, .int .i64 0, .int .i64 0, .int .i64 0, .int .i64 0, .int .i64 0, .int .i64 0, .int .i64 0, .int .i64 0, .int .i64 0, .int .i64 0, .slice none 0 0] 26)) (hlg.below hlg.1 HB1.out))
  have HSL := Lib.hid (splitL_sum 32 l)
  have HLL := Lib.hid h
  have hwn := splitL_ne 32 l
  generalize splitL 32 l = ws at *
  rw [HV.out]
  clear HV
  go_enter Tryd.func18, Tryd.ntmps18
  go_wp2_with fail
  refine Calls.mono HW.out ?_
  rintro e w2 ⟨v, rfl, hown, hb2⟩
  have hws := Ws.of_own hown
  obtain ⟨b, o, cp, rfl, hlt, hcap, hc⟩ := hws.2 hwn
  have HWS := Lib.hid hws
  have HC := Lib.hid hc
  have HCAP := Lib.hid hcap
  have HLT := Lib.hid hlt
  have HB2 : Hid (Below (w.heap.size + 1) (w.alloc (.cells #[.int .i64 0, .int .i64 0, .int .i64 0, .int .i64 0, .int .i64 0, .int .i64 0, .int .i64 0, .int .i64 0, .int .i64 0, .int .i64 0, .int .i64 0, .int .i64 0, .int .i64 0, .int .i64 0, .int .i64 0, .slice none 0 0] 26)) w2) := Lib.hid (hb2.mono (by simp))
  have HBW : Hid (Below w.heap.size w w2) := Lib.hid (HB1.out.trans (HB2.out.mono (by omega)))
  have HG2 : Hid (w2.heap[w.heap.size]? = some (.cells #[.int .i64 0, .int .i64 0, .int .i64 0, .int .i64 0, .int .i64 0, .int .i64 0, .int .i64 0, .int .i64 0, .int .i64 0, .int .i64 0, .int .i64 0, .int .i64 0, .int .i64 0, .int .i64 0, .int .i64 0, .slice none 0 0] 26 (0, 0))) := Lib.hid ((HB2.out.block _ (by omega)).trans HG1.out)
  have HSZ2 : Hid (w.heap.size + 1 ≤ w2.heap.size) := Lib.hid (by have := HB2.out.size; rwa [HS1.out] at this)
  have hlen : 0 < ws.length := List.length_pos_iff.2 hwn
  have hc0 : w2.cell? ⟨b, o, none⟩ = some (.string (str (ws.getD 0 []))) := by have := hc 0 hlen; rwa [Nat.add_zero] at this
  have HX : Hid (∀ j, (ws.getD j []).length ≤ 65536) := Lib.hid (fun j => by
    by_cases hj : j < ws.length
    · exact Nat.le_trans (HSL.out _ (by simp [List.getD, hj])) HLL.out
    · simp [List.getD, List.getElem?_eq_none (by omega : ws.length ≤ j)])
  have hlenI : (0 : Int) < (ws.length : Int) := by omega
  clear hown hb2 hws hc hlt hcap hwn HW hsz
  by_cases hst : ws.getD 0 [] = storeW
  case neg =>
    have HP : Hid (headP ws = none) := Lib.hid (by rw [headP, if_neg (fun q => hst q.1)])
    have t1 : ((str (ws.getD 0 [])).toList == [115, 116, 111, 114, 101]) = false := by rw [str_toList]; simpa [storeW] using hst
    have t2 : ((str (ws.getD 0 [])).toList != [115, 116, 111, 114, 101]) = true := by rw [bne, t1]; rfl
    generalize ws.getD 0 [] = x0 at *
    clear hst
    go_wp2_with ((with_reducible refine wpList_store_row (o := ⟨none, _, _, _, _, _⟩) rfl 26 (.tmp 2) (.tmp 26) rfl w.heap.size (scL 0 0 c0 (.slice none 0 0)).toArray ?_ ?_ 26 _ HG2.out HIZ.out rfl HOZ.out ?_); rfl; rfl)
    refine bodyPost_ret (results_row2 rfl _ _ w.heap.size 26 (scL 0 0 c0 (.slice none 0 0)).toArray (0, 0) _ rfl (setRow_heap _ _ _ _ _ _ HG2.out) Tryd.underlying26 rfl HIZ.out) rfl ⟨?_, below_setRow HBW.out (Nat.le_refl _) _⟩
    rw [HP.out]
    rfl
  have t1 : ((str (ws.getD 0 [])).toList == [115, 116, 111, 114, 101]) = true := by rw [str_toList, hst]; rfl
  have t2 : ((str (ws.getD 0 [])).toList != [115, 116, 111, 114, 101]) = false := by rw [bne, t1]; rfl
  by_cases h3 : ws.length < 3
  case pos =>
    have HP : Hid (headP ws = none) := Lib.hid (by rw [headP, if_neg (fun q => by omega)])
    have t3 : decide (ws.length < 3) = true := by simpa using h3
    generalize ws.getD 0 [] = x0 at *
    clear hst
    go_wp2_with ((with_reducible refine wpList_store_row (o := ⟨none, _, _, _, _, _⟩) rfl 26 (.tmp 2) (.tmp 26) rfl w.heap.size (scL 0 0 c0 (.slice none 0 0)).toArray ?_ ?_ 26 _ HG2.out HIZ.out rfl HOZ.out ?_); rfl; rfl)
    refine bodyPost_ret (results_row2 rfl _ _ w.heap.size 26 (scL 0 0 c0 (.slice none 0 0)).toArray (0, 0) _ rfl (setRow_heap _ _ _ _ _ _ HG2.out) Tryd.underlying26 rfl HIZ.out) rfl ⟨?_, below_setRow HBW.out (Nat.le_refl _) _⟩
    rw [HP.out]
    rfl
  have t3 : decide (ws.length < 3) = false := by simpa using h3
  have t4 : decide ((ws.length : Int) < 3) = false := by simp; omega
  have t5 : decide ((65536 : Int) < (l.length : Int)) = false := by simp; omega
  have HPE : Hid (headP ws = if (cnt (ws.getD 1 [])).2 = true ∧ (cnt (ws.getD 2 [])).2 = true then (confP (ws.drop 3)).map fun c => (((cnt (ws.getD 1 [])).1 : Int), ((cnt (ws.getD 2 [])).1 : Int), c) else none) := Lib.hid (by rw [headP, if_pos ⟨hst, by omega⟩])
  have hc1 : w2.cell? ⟨b, o + 1, none⟩ = some (.string (str (ws.getD 1 []))) := HC.out 1 (by omega)
  have hc2 : w2.cell? ⟨b, o + 2, none⟩ = some (.string (str (ws.getD 2 []))) := HC.out 2 (by omega)
  have HC1 := Lib.hid (count30 (ws.getD 1 []) (by have := HX.out 1; omega))
  have HC2 := Lib.hid (count30 (ws.getD 2 []) (by have := HX.out 2; omega))
  have hl1 : (1 : Int) < (ws.length : Int) := by omega
  have hl2 : (2 : Int) < (ws.length : Int) := by omega
  have hl3 : (3 : Int) ≤ (ws.length : Int) := by omega
  have hcpI : (ws.length : Int) ≤ (cp : Int) := by have := HCAP.out; omega
  have HWD : Hid (∀ A, (A = some ⟨b, o + 3, none⟩ ∨ ws.length = 3) → Ws w2 (.slice A (ws.length - 3) (cp - 3)) (ws.drop 3)) := Lib.hid (fun A h => by
    rcases h with rfl | h
    · exact HWS.out.drop 3 (by omega)
    · exact Ws.drop0 3 h.symm)
  have HXD : Hid (∀ x ∈ ws.drop 3, x.length ≤ 1000000) := Lib.hid (fun x hx => by have := HSL.out x (List.mem_of_mem_drop hx); have := HLL.out; omega)
  have HCF : Hid (∀ A, (A = some ⟨b, o + 3, none⟩ ∨ ws.length = 3) → Calls Tryd.prog 42 #[.slice A (ws.length - 3) (cp - 3)] w2 fun e w' => e = .returned (confV (confP (ws.drop 3))) ∧ Below w2.heap.size w2 w') := Lib.hid (fun A h => conf32 _ _ w2 (HWD.out A h) HXD.out)
  clear hst h3 HSL HLL HX
  have HCV1 : Hid (cntV (ws.getD 1 []) = .tuple #[.int .i64 ((cnt (ws.getD 1 [])).1 : Int), .bool (cnt (ws.getD 1 [])).2]) := Lib.hid rfl
  have HCV2 : Hid (cntV (ws.getD 2 []) = .tuple #[.int .i64 ((cnt (ws.getD 2 [])).1 : Int), .bool (cnt (ws.getD 2 [])).2]) := Lib.hid rfl
  rw [HCV1.out] at HC1
  rw [HCV2.out] at HC2
  generalize ((cnt (ws.getD 1 [])).1 : Int) = n1 at *
  generalize ((cnt (ws.getD 2 [])).1 : Int) = n2 at *
  generalize (cnt (ws.getD 1 [])).2 = b1 at *
  generalize (cnt (ws.getD 2 [])).2 = b2 at *
  generalize ws.getD 0 [] = x0 at *
  generalize ws.getD 1 [] = x1 at *
  generalize ws.getD 2 [] = x2 at *
  clear HCV1 HCV2
  have HCO : Hid (∀ c : Fin 13 → Int, (cfL c).toArray.all (·.oneCell') = true) := Lib.hid (fun c => by simp [cfL, Value.oneCell'])
  have HCI : Hid (∀ c : Fin 13 → Int, (Tryd.prog.info? 23).map (·.size) = some (cfL c).length) := Lib.hid (fun c => info28)
  obtain ⟨c', bb, hcv, hs1, hs2⟩ : ∃ c' bb, confV (confP (ws.drop 3)) = .tuple #[.agg (cfL c').toArray, .bool bb] ∧ (bb = true → confP (ws.drop 3) = some c') ∧ (bb = false → confP (ws.drop 3) = none) := by
    cases confP (ws.drop 3) with
    | none => exact ⟨c0, false, rfl, ⟨(fun h => Bool.noConfusion h), (fun _ => rfl)⟩⟩
    | some c => exact ⟨c, true, rfl, ⟨(fun _ => rfl), (fun h => Bool.noConfusion h)⟩⟩
  rw [hcv] at HCF
  have HS1 := Lib.hid hs1
  have HS2 := Lib.hid hs2
  clear hcv hs1 hs2
  have HOC : Hid ((cfL c').toArray.all (·.oneCell') = true) := HCO.out c' |> Lib.hid
  have HIC := Lib.hid (HCI.out c')
  have HIC2 : Hid ((Tryd.prog.info? 23).map (·.size) = some (cfL c').toArray.size) := Lib.hid info28
  have HBX : Hid (∀ (ev : Operand → Value) (W : World) (d : Option Tmp) (ty : TypeId) (ps : String) (af : Array Edge), ev (.tmp 58) = .int .i64 n1 → ev (.tmp 59) = .int .i64 n2 → ev (.tmp 60) = .agg (cfL c').toArray → (execOp ev ⟨d, .build 26 #[(0, .tmp 58), (1, .tmp 59), (2, .tmp 60)], ty, ps, af, none⟩).run Tryd.prog W = .ok (.value (.agg (scL n1 n2 c' (.slice none 0 0)).toArray)) W) := Lib.hid (fun ev W d ty ps af h1 h2 h3 => exec_sc ev n1 n2 c' _ _ _ W d ty ps af h1 h2 h3)
  have HSC : Hid ((scL n1 n2 c' (.slice none 0 0)).toArray.all (·.oneCell') = true) := Lib.hid (scL_one _ _ _ _ _ _)
  have HSI : Hid ((Tryd.prog.info? 26).map (·.size) = some (scL n1 n2 c' (.slice none 0 0)).toArray.size) := Lib.hid info26
  have HPN : Hid (b1 = false ∨ b2 = false ∨ bb = false → headP ws = none) := Lib.hid (fun h => by
    rw [HPE.out]
    rcases h with h | h | h
    · rw [if_neg (fun q => by rw [h] at q; cases q.1)]
    · rw [if_neg (fun q => by rw [h] at q; cases q.2)]
    · rw [HS2.out h]; split <;> rfl)
  have HPS : Hid (b1 = true → b2 = true → bb = true → headP ws = some (n1, n2, c')) := Lib.hid (fun h1 h2 h => by rw [HPE.out, if_pos ⟨h1, h2⟩, HS1.out h]; rfl)
  clear HPE HWD HXD HS1 HS2 HCO HCI
  by_cases hcp : cp = 3
  case' pos =>
    have hlw : ws.length = 3 := by have := HCAP.out; omega
    have HCX : Hid (Calls Tryd.prog 42 #[.slice (some ⟨b, o, none⟩) 0 0] w2 fun e w' => e = .returned (.tuple #[.agg (cfL c').toArray, .bool bb]) ∧ Below w2.heap.size w2 w') := Lib.hid (by have := HCF.out (some ⟨b, o, none⟩) (.inr (by have := HCAP.out; omega)); rw [hlw, hcp] at this; exact this)
  case' neg =>
    have HCX := Lib.hid (HCF.out (some ⟨b, o + 3, none⟩) (.inl rfl))
  all_goals
    clear HCF
    go_wp2_with fail
    refine Calls.mono (HC1.out _) ?_
    rintro e w3 ⟨rfl, rfl⟩
    go_wp2_with fail
    refine Calls.mono (HC2.out _) ?_
    rintro e w4 ⟨rfl, rfl⟩
    go_wp2_with fail
    refine Calls.mono HCX.out ?_
    rintro e w5 ⟨rfl, hb5⟩
    have HBW5 : Hid (Below w.heap.size w w5) := Lib.hid (HBW.out.trans (hb5.mono HBW.out.size))
    have HG5 : Hid (w5.heap[w.heap.size]? = some (.cells #[.int .i64 0, .int .i64 0, .int .i64 0, .int .i64 0, .int .i64 0, .int .i64 0, .int .i64 0, .int .i64 0, .int .i64 0, .int .i64 0, .int .i64 0, .int .i64 0, .int .i64 0, .int .i64 0, .int .i64 0, .slice none 0 0] 26 (0, 0))) := Lib.hid ((hb5.block _ (by have := HSZ2.out; omega)).trans HG2.out)
    have HSZ5 : Hid (w.heap.size < w5.heap.size) := Lib.hid (by have := HSZ2.out; have := hb5.size; omega)
    have HG6 : Hid ((w5.alloc (.cells (cfL c').toArray 23)).heap[w.heap.size]? = some (.cells #[.int .i64 0, .int .i64 0, .int .i64 0, .int .i64 0, .int .i64 0, .int .i64 0, .int .i64 0, .int .i64 0, .int .i64 0, .int .i64 0, .int .i64 0, .int .i64 0, .int .i64 0, .int .i64 0, .int .i64 0, .slice none 0 0] 26 (0, 0))) := Lib.hid ((Below.heap_alloc _ _ _ HSZ5.out).trans HG5.out)
    have HBW6 : Hid (Below w.heap.size w (w5.alloc (.cells (cfL c').toArray 23))) := Lib.hid (HBW5.out.alloc (by have := HSZ5.out; omega) _)
    have HRC : Hid ((w5.alloc (.cells (cfL c').toArray 23)).rangeAt w5.heap.size 0 (cfL c')) := Lib.hid (range_of_row (heap_alloc_new w5 _))
    have HOSC : Hid ((#[.int .i64 0, .int .i64 0, .int .i64 0, .int .i64 0, .int .i64 0, .int .i64 0, .int .i64 0, .int .i64 0, .int .i64 0, .int .i64 0, .int .i64 0, .int .i64 0, .int .i64 0] : Array Value).size = (cfL c').toArray.size) := Lib.hid rfl
    clear hb5
    generalize cfL c' = CL at *
    cases b1 <;> cases b2 <;> cases bb
    all_goals
      go_wp2_with (first
        | ((with_reducible refine wpList_store_new (op := ⟨none, _, _, _, _, _⟩) rfl 23 (.tmp 9) (.tmp 45) rfl w5.heap.size _ CL.toArray rfl ?_ ?_ HIC2.out HOSC.out HOC.out ?_); rfl; rfl)
        | ((with_reducible refine wpList_load_midg (op := ⟨some 60, _, _, _, _, _⟩) ?_ 23 (.tmp 9) rfl w5.heap.size 0 ?_ CL _ HRC.out Tryd.underlying23 rfl HIC.out ?_); kernel_rfl; rfl)
        | ((with_reducible refine wpList_of_run (op := ⟨some 61, _, _, _, _, _⟩) rfl (HBX.out _ _ _ _ _ _ ?_ ?_ ?_) ?_); rfl; rfl; rfl)
        | ((with_reducible refine wpList_store_row (o := ⟨none, _, _, _, _, _⟩) rfl 26 (.tmp 2) (.tmp 57) rfl w.heap.size (scL 0 0 c0 (.slice none 0 0)).toArray ?_ ?_ 26 _ HG6.out HIZ.out rfl HOZ.out ?_); rfl; rfl)
        | ((with_reducible refine wpList_store_row (o := ⟨none, _, _, _, _, _⟩) rfl 26 (.tmp 2) (.tmp 61) rfl w.heap.size (scL n1 n2 c' (.slice none 0 0)).toArray ?_ ?_ 26 _ HG6.out HSI.out rfl HSC.out ?_); rfl; rfl))
      first
      | (rw [HPN.out (by simp)]
         exact bodyPost_ret (results_row2 rfl _ _ w.heap.size 26 (scL 0 0 c0 (.slice none 0 0)).toArray (0, 0) _ rfl (setRow_heap _ _ _ _ _ _ HG6.out) Tryd.underlying26 rfl HIZ.out) rfl ⟨rfl, below_setRow HBW6.out (Nat.le_refl _) _⟩)
      | (rw [HPS.out (by simp) (by simp) (by simp)]
         exact bodyPost_ret (results_row2 rfl _ _ w.heap.size 26 (scL n1 n2 c' (.slice none 0 0)).toArray (0, 0) _ rfl (setRow_heap _ _ _ _ _ _ HG6.out) Tryd.underlying26 rfl HSI.out) rfl ⟨rfl, below_setRow HBW6.out (Nat.le_refl _) _⟩)
theorem headed18 (l : List UInt8) (w : World) (hlg : Lg w) (hm : l.length ≤ 2000000) : Calls Tryd.prog 18 #[.string (str l)] w fun e w' => e = .returned (headE l) ∧ Below w.heap.size w w' := by
  by_cases h : 65536 < l.length
  · exact headed18_long l w h hm
  · exact headed18_short l w hlg (by omega)
end Go.Proofs.YtjakkmioofbcaaaDoor
namespace Go.Proofs.YtjakkmioofbcaaaDoor
open Go.RowKit
def headL (a b : Int) (c : Fin 13 → Int) : List UInt8 := storeW ++ 32 :: (digs a.toNat ++ 32 :: (digs b.toNat ++ 32 :: joinL (setL c)))
theorem head_all (a b : Int) (c : Fin 13 → Int) : (storeW ++ allL [a, b]) ++ allL (cfI c) = headL a b c := by
  rw [all_set]
  simp [allL, headL]
def HeadOk (a b : Int) (c : Fin 13 → Int) : Prop := (0 ≤ a ∧ a ≤ 2147483647) ∧ (0 ≤ b ∧ b ≤ 2147483647) ∧ ∀ i, 0 ≤ c i ∧ c i ≤ 2147483647
/-- a script's box, and all that is made behind it -/
structure BoxS (w : World) (ty : TypeId) (L : List Value) (W : World) : Prop where
  bw : Below (w.heap.size + 1) (w.alloc (.cells L.toArray ty)) W
theorem BoxS.heap {w W : World} {ty : TypeId} {L : List Value} (h : BoxS w ty L W) : W.heap[w.heap.size]? = some (.cells L.toArray ty (0, 0)) := (h.bw.block _ (by omega)).trans (heap_alloc_new w _)
theorem BoxS.range {w W : World} {ty : TypeId} {L : List Value} (h : BoxS w ty L W) : W.rangeAt w.heap.size 0 L := range_of_row h.heap
theorem BoxS.below {w W W' : World} {ty : TypeId} {L : List Value} (h : BoxS w ty L W) (hb : Below W.heap.size W W') : BoxS w ty L W' := ⟨h.bw.trans (hb.mono (by have := h.bw.size; simpa using this))⟩
theorem BoxS.size {w W : World} {ty : TypeId} {L : List Value} (h : BoxS w ty L W) : w.heap.size < W.heap.size := by have := h.bw.size; simp at this; omega
theorem BoxS.base {w W : World} {ty : TypeId} {L : List Value} (h : BoxS w ty L W) : Below w.heap.size w W := ((Below.refl _ _).alloc (Nat.le_refl _) _).trans (h.bw.mono (by omega))
theorem BoxS.first {w : World} {ty : TypeId} {L : List Value} : BoxS w ty L (w.alloc (.cells L.toArray ty)) := ⟨Below.refl _ _⟩
theorem BoxS.drew {w W : World} {ty : TypeId} {L : List Value} (h : BoxS w ty L W) : BoxS w ty L W.drew := ⟨below_drew h.bw⟩
theorem scL_conf {W : World} {g : Nat} {a b : Int} {c : Fin 13 → Int} {V : Value} (h : W.rangeAt g 0 (scL a b c V)) : W.rangeAt g 2 (cfL c) := by
  intro j v hj
  have := h (2 + j) v (by rw [show scL a b c V = [.int .i64 a, .int .i64 b] ++ cfL c ++ [V] from rfl, List.append_assoc, List.getElem?_append_right (by simp), show 2 + j - [Value.int .i64 a, .int .i64 b].length = j by simp, List.getElem?_append_left (List.getElem?_eq_some_iff.1 hj).1]; exact hj)
  rwa [Nat.zero_add] at this
theorem BoxS.facts {w W : World} {ty : TypeId} {a b : Int} {c : Fin 13 → Int} {V : Value} (h : BoxS w ty (scL a b c V) W) :
    W.cell? ⟨w.heap.size, 0, none⟩ = some (.int .i64 a) ∧ W.cell? ⟨w.heap.size, 1, none⟩ = some (.int .i64 b) ∧ W.cell? ⟨w.heap.size, 15, none⟩ = some V ∧ W.rangeAt w.heap.size 2 (cfL c) ∧ W.rangeAt w.heap.size 0 (scL a b c V) := by
  have hr := h.range
  exact ⟨hr 0 _ rfl, hr 1 _ rfl, hr 15 _ rfl, scL_conf hr, hr⟩
theorem is_two {w : World} (a b : Int) : Is (w.alloc (.cells #[.int .i64 a, .int .i64 b] 3)) (.slice (some ⟨w.heap.size, 0, none⟩) 2 2) [a, b] :=
  ⟨⟨_, _, rfl⟩, fun _ => ⟨w.heap.size, 0, 2, rfl, by simp, Nat.le_refl _, fun i hi => by
    rw [cell_of_row _ _ _ _ _ _ (heap_alloc_new w _)]
    match i, hi with
    | 0, _ => rfl
    | 1, _ => rfl⟩⟩

set_option maxRecDepth 100000 in
set_option maxHeartbeats 4000000 in
theorem rhead23 (a b : Int) (c : Fin 13 → Int) (V : Value) (w : World) (h : HeadOk a b c) : Calls Tryd.prog 23 #[.agg (scL a b c V).toArray] w fun e w' => e = .returned (.string (str (headL a b c))) ∧ Below w.heap.size w w' := by
  obtain ⟨ha, hb, hc⟩ := h
  have HA1 : Hid (∀ v W, Is W v [a, b] → Calls Tryd.prog 45 #[v] W fun e w' => e = .returned (.string (str (allL [a, b]))) ∧ Below W.heap.size W w') := Lib.hid (fun v W h => rall43 v _ (by simp) (fun x hx => by simp at hx; omega) W h)
  have HA2 : Hid (∀ v W, Is W v (cfI c) → Calls Tryd.prog 45 #[v] W fun e w' => e = .returned (.string (str (allL (cfI c)))) ∧ Below W.heap.size W w') := Lib.hid (fun v W h => rall43 v _ (by simp [cfI]) (fun x hx => by rw [cfI_eq] at hx; obtain ⟨i, _, rfl⟩ := List.mem_map.1 hx; exact hc i) W h)
  have HNM : Hid (∀ W, Calls Tryd.prog 35 #[.agg (cfL c).toArray] W fun e w' => ∃ v, e = .returned v ∧ Is w' v (cfI c) ∧ Below W.heap.size W w') := Lib.hid (fun W => rnumbers29 c W)
  have HL1 : (allL [a, b]).length ≤ 22 := allL_len [a, b] (fun x hx => by simp at hx; omega)
  have HL2 : (allL (cfI c)).length ≤ 143 := by have := allL_len (cfI c) (fun x hx => by rw [cfI_eq] at hx; obtain ⟨i, _, rfl⟩ := List.mem_map.1 hx; exact (hc i).2); simpa [cfI] using this
  have HE := Lib.hid (head_all a b c)
  rw [← HE.out]
  generalize allL [a, b] = X1 at *
  generalize allL (cfI c) = X2 at *
  generalize cfI c = ci at *
  obtain ⟨SS, hSS⟩ : ∃ SS, BoxS w 30 (scL a b c V) = SS := ⟨_, rfl⟩
  have HF : Hid (∀ W, SS W → W.cell? ⟨w.heap.size, 0, none⟩ = some (.int .i64 a) ∧ W.cell? ⟨w.heap.size, 1, none⟩ = some (.int .i64 b) ∧ W.rangeAt w.heap.size 2 (cfL c)) := Lib.hid (fun W hW => by rw [← hSS] at hW; have := hW.facts; exact ⟨this.1, this.2.1, this.2.2.2.1⟩)
  have HSA : Hid (∀ W W', SS W → Below W.heap.size W W' → SS W') := Lib.hid (fun W W' hW hb => by rw [← hSS] at hW ⊢; exact hW.below hb)
  have HSB : Hid (∀ W, SS W → Below w.heap.size w W) := Lib.hid (fun W hW => by rw [← hSS] at hW; exact hW.base)
  have HS0 : Hid (SS (w.alloc (.cells (scL a b c V).toArray 30)).drew) := Lib.hid (by rw [← hSS]; exact BoxS.first.drew)
  have HS1 : Hid (SS ((w.alloc (.cells (scL a b c V).toArray 30)).alloc (.cells #[.int .i64 a, .int .i64 b] 3)).drew) := Lib.hid (by rw [← hSS]; exact (BoxS.first.below ((Below.refl _ _).alloc (Nat.le_refl _) _)).drew)
  have HTW : Hid (Is ((w.alloc (.cells (scL a b c V).toArray 30)).alloc (.cells #[.int .i64 a, .int .i64 b] 3)).drew (.slice (some ⟨w.heap.size + 1, 0, none⟩) 2 2) [a, b]) := Lib.hid (by
    have := is_two (w := w.alloc (.cells (scL a b c V).toArray 30)) a b
    rw [World.size_alloc] at this
    exact this.below (Nat.le_refl _) ⟨rfl, rfl, rfl, Nat.le_refl _, fun _ _ => rfl⟩)
  have HIC : Hid ((Tryd.prog.info? 23).map (·.size) = some (cfL c).length) := Lib.hid info28
  have q1 : (⟨#[115, 116, 111, 114, 101]⟩ : ByteArray) ++ str X1 = str (storeW ++ X1) := str_append storeW X1
  have q2 : str (storeW ++ X1) ++ str X2 = str (storeW ++ X1 ++ X2) := str_append _ _
  have hs1 : 5 + (str X1).size ≤ 9223372036854775807 := by rw [str_size]; omega
  have hs2 : (str (storeW ++ X1)).size + (str X2).size ≤ 9223372036854775807 := by rw [str_size, str_size]; simp [storeW]; omega
  clear hSS ha hb hc
  generalize cfL c = CL at *
  generalize scL a b c V = SL at *
  go_enter Tryd.func23, Tryd.ntmps23
  go_wp2_with fail
  refine wp_region_held_drew (S := SS) (by kernel_rfl) (HS0.out) (fun hSx => ?_)
  refine wpAnyH_take (i := 0) (oi := ⟨some 3, _, _, _, _, none⟩) (v := .pointer (some ⟨w.heap.size, 0, none⟩)) rfl (by kernel_rfl) (by kernel_rfl) (by kernel_rfl) (fun _ _ _ h => h) (Or.inl ⟨by kernel_rfl, ?_⟩) hSx ?_
  · intro wx hSx2; clear hSx; go_simp
  try simp only [Act.put, List.setIfInBounds_toArray]
  refine wpAnyH_take (i := 1) (oi := ⟨some 4, _, _, _, _, none⟩) (v := .int .i64 a) rfl (by kernel_rfl) (by kernel_rfl) (by kernel_rfl) (fun _ _ _ h => h) (Or.inl ⟨by kernel_rfl, ?_⟩) hSx ?_
  · intro wx hSx2; clear hSx; have hf0 := (HF.out wx hSx2).1; go_simp
  try simp only [Act.put, List.setIfInBounds_toArray]
  refine wpAnyH_take (i := 2) (oi := ⟨some 5, _, _, _, _, none⟩) (v := .pointer (some ⟨w.heap.size, 1, none⟩)) rfl (by kernel_rfl) (by kernel_rfl) (by kernel_rfl) (fun _ _ _ h => h) (Or.inl ⟨by kernel_rfl, ?_⟩) hSx ?_
  · intro wx hSx2; clear hSx; go_simp
  try simp only [Act.put, List.setIfInBounds_toArray]
  refine wpAnyH_take (i := 3) (oi := ⟨some 6, _, _, _, _, none⟩) (v := .int .i64 b) rfl (by kernel_rfl) (by kernel_rfl) (by kernel_rfl) (fun _ _ _ h => h) (Or.inl ⟨by kernel_rfl, ?_⟩) hSx ?_
  · intro wx hSx2; clear hSx; have hf0 := (HF.out wx hSx2).2.1; go_simp
  try simp only [Act.put, List.setIfInBounds_toArray]
  refine wpAnyH_take (i := 7) (oi := ⟨some 10, _, _, _, _, none⟩) (v := .pointer (some ⟨w.heap.size, 2, none⟩)) rfl (by kernel_rfl) (by kernel_rfl) (by kernel_rfl) (fun _ _ _ h => h) (Or.inl ⟨by kernel_rfl, ?_⟩) hSx ?_
  · intro wx hSx2; clear hSx; go_simp
  try simp only [Act.put, List.setIfInBounds_toArray]
  refine wpAnyH_take (i := 8) (oi := ⟨some 11, _, _, _, _, none⟩) (v := .agg CL.toArray) rfl (by kernel_rfl) (by kernel_rfl) (by kernel_rfl) (fun _ _ _ h => h) (yieldsIf_load_mid (by kernel_rfl) 23 (.tmp 10) rfl w.heap.size 2 rfl CL _ (fun W hW => (HF.out W hW).2.2) Tryd.underlying23 rfl HIC.out) hSx ?_
  try simp only [Act.put, List.setIfInBounds_toArray]
  refine wpAnyH_ready (rs := [4]) (by kernel_rfl) (by simp) ?_
  refine AllReadyH.cons (o := ⟨some 7, _, _, _, _, none⟩) rfl (fun KK hKK => ?_) AllReadyH.nil
  go_simp
  refine hKK.out _ _ (HS1.out) (fun hSy => ?_)
  clear hKK hSx
  have hSx := hSy
  clear hSy KK
  try simp only [Act.put, List.setIfInBounds_toArray, List.set_cons_zero, List.set_cons_succ]
  refine wpAnyH_ready (rs := [5]) (by kernel_rfl) (by simp) ?_
  refine AllReadyH.cons (o := ⟨some 8, _, _, _, _, none⟩) rfl (fun KK hKK => ?_) AllReadyH.nil
  go_simp
  refine (HA1.out _ _ HTW.out).mono ?_
  rintro e wz ⟨rfl, hbz⟩
  refine hKK.out _ _ (HSA.out _ _ hSx hbz) (fun hSy => ?_)
  clear hKK hSx
  have hSx := hSy
  clear hSy KK
  try simp only [Act.put, List.setIfInBounds_toArray, List.set_cons_zero, List.set_cons_succ]
  refine wpAnyH_take (i := 6) (oi := ⟨some 9, _, _, _, _, none⟩) (v := .string (str (storeW ++ X1))) rfl (by kernel_rfl) (by kernel_rfl) (by kernel_rfl) (fun _ _ _ h => h) (Or.inl ⟨by kernel_rfl, ?_⟩) hSx ?_
  · intro wx hSx2; clear hSx; go_simp
  try simp only [Act.put, List.setIfInBounds_toArray]
  refine wpAnyH_ready (rs := [9]) (by kernel_rfl) (by simp) ?_
  refine AllReadyH.cons (o := ⟨some 12, _, _, _, _, none⟩) rfl (fun KK hKK => ?_) AllReadyH.nil
  go_simp
  refine (HNM.out _).mono ?_
  rintro e wz ⟨u, rfl, hiu, hbz⟩
  have HIU := Lib.hid hiu
  refine hKK.out _ _ (HSA.out _ _ hSx hbz) (fun hSy => ?_)
  clear hKK hSx
  have hSx := hSy
  clear hSy KK
  try simp only [Act.put, List.setIfInBounds_toArray, List.set_cons_zero, List.set_cons_succ]
  refine wpAnyH_ready (rs := [10]) (by kernel_rfl) (by simp) ?_
  refine AllReadyH.cons (o := ⟨some 13, _, _, _, _, none⟩) rfl (fun KK hKK => ?_) AllReadyH.nil
  go_simp
  refine (HA2.out _ _ HIU.out).mono ?_
  rintro e wz ⟨rfl, hbz⟩
  refine hKK.out _ _ (HSA.out _ _ hSx hbz) (fun hSy => ?_)
  clear hKK hSx
  have hSx := hSy
  clear hSy KK
  try simp only [Act.put, List.setIfInBounds_toArray, List.set_cons_zero, List.set_cons_succ]
  refine wpAnyH_take (i := 11) (oi := ⟨some 14, _, _, _, _, none⟩) (v := .string (str (storeW ++ X1 ++ X2))) rfl (by kernel_rfl) (by kernel_rfl) (by kernel_rfl) (fun _ _ _ h => h) (Or.inl ⟨by kernel_rfl, ?_⟩) hSx ?_
  · intro wx hSx2; clear hSx; go_simp
  try simp only [Act.put, List.setIfInBounds_toArray]
  refine wpAnyH_take (i := 12) (oi := ⟨some 2, _, _, _, _, none⟩) (v := .string (str (storeW ++ X1 ++ X2))) rfl (by kernel_rfl) (by kernel_rfl) (by kernel_rfl) (fun _ _ _ h => h) (Or.inl ⟨by kernel_rfl, ?_⟩) hSx ?_
  · intro wx hSx2; clear hSx; go_simp
  try simp only [Act.put, List.setIfInBounds_toArray]
  refine wpAnyH_done (by kernel_rfl) ?_ _
  go_wp2_with fail
  go_ret
  exact ⟨rfl, HSB.out _ hSx⟩
set_option maxRecDepth 100000 in
set_option maxHeartbeats 4000000 in
theorem head30 (a b : Int) (c : Fin 13 → Int) (V : Value) (w : World) (h : HeadOk a b c) : Calls Tryd.prog 30 #[.agg (scL a b c V).toArray] w fun e w' => e = .returned (.string (str (headL a b c))) ∧ Below w.heap.size w w' := by
  obtain ⟨ha, hb, hc⟩ := h
  have HA1 : Hid (∀ W, Calls Tryd.prog 54 #[.int .i64 a] W fun e w' => e = .returned (.string (str (digs a.toNat))) ∧ w' = W) := Lib.hid (fun W => number44i a ha.1 ha.2 W)
  have HA2 : Hid (∀ W, Calls Tryd.prog 54 #[.int .i64 b] W fun e w' => e = .returned (.string (str (digs b.toNat))) ∧ w' = W) := Lib.hid (fun W => number44i b hb.1 hb.2 W)
  have HA3 : Hid (∀ W, Calls Tryd.prog 55 #[.agg (cfL c).toArray] W fun e w' => e = .returned (.string (str (joinL (setL c)))) ∧ Below W.heap.size W w') := Lib.hid (fun W => settings45 c hc W)
  have HL1 : (digs a.toNat).length ≤ 10 := digs_len10 _ (by omega)
  have HL2 : (digs b.toNat).length ≤ 10 := digs_len10 _ (by omega)
  have HL3 : (joinL (setL c)).length ≤ 143 := setL_small c hc
  have HE : Hid (headL a b c = storeW ++ 32 :: digs a.toNat ++ [32] ++ digs b.toNat ++ [32] ++ joinL (setL c)) := Lib.hid (by simp [headL])
  rw [HE.out]
  clear HE
  generalize digs a.toNat = X1 at *
  generalize digs b.toNat = X2 at *
  generalize joinL (setL c) = X3 at *
  obtain ⟨SS, hSS⟩ : ∃ SS, BoxS w 26 (scL a b c V) = SS := ⟨_, rfl⟩
  have HF : Hid (∀ W, SS W → W.cell? ⟨w.heap.size, 0, none⟩ = some (.int .i64 a) ∧ W.cell? ⟨w.heap.size, 1, none⟩ = some (.int .i64 b) ∧ W.rangeAt w.heap.size 2 (cfL c)) := Lib.hid (fun W hW => by rw [← hSS] at hW; have := hW.facts; exact ⟨this.1, this.2.1, this.2.2.2.1⟩)
  have HSA : Hid (∀ W W', SS W → Below W.heap.size W W' → SS W') := Lib.hid (fun W W' hW hb => by rw [← hSS] at hW ⊢; exact hW.below hb)
  have HSB : Hid (∀ W, SS W → Below w.heap.size w W) := Lib.hid (fun W hW => by rw [← hSS] at hW; exact hW.base)
  have HS0 : Hid (SS (w.alloc (.cells (scL a b c V).toArray 26)).drew) := Lib.hid (by rw [← hSS]; exact BoxS.first.drew)
  have HIC : Hid ((Tryd.prog.info? 23).map (·.size) = some (cfL c).length) := Lib.hid info28
  have hl0 : (storeW ++ 32 :: X1).length ≤ 17 := by simp [storeW]; omega
  obtain ⟨Y1, hY1⟩ : ∃ Y, storeW ++ 32 :: X1 = Y := ⟨_, rfl⟩
  have lY1 : Y1.length ≤ 17 := by rw [← hY1]; exact hl0
  obtain ⟨Y2, hY2⟩ : ∃ Y, Y1 ++ [32] = Y := ⟨_, rfl⟩
  have lY2 : Y2.length ≤ 18 := by rw [← hY2]; simp; omega
  obtain ⟨Y3, hY3⟩ : ∃ Y, Y2 ++ X2 = Y := ⟨_, rfl⟩
  have lY3 : Y3.length ≤ 29 := by rw [← hY3]; simp; omega
  obtain ⟨Y4, hY4⟩ : ∃ Y, Y3 ++ [32] = Y := ⟨_, rfl⟩
  have lY4 : Y4.length ≤ 30 := by rw [← hY4]; simp; omega
  obtain ⟨Y5, hY5⟩ : ∃ Y, Y4 ++ X3 = Y := ⟨_, rfl⟩
  have lY5 : Y5.length ≤ 200 := by rw [← hY5]; simp; omega
  have q1 : (⟨#[115, 116, 111, 114, 101, 32]⟩ : ByteArray) ++ str X1 = str Y1 := (str_append [115, 116, 111, 114, 101, 32] X1).trans (congrArg str hY1)
  have q2 : str Y1 ++ (⟨#[32]⟩ : ByteArray) = str Y2 := (str_append Y1 [32]).trans (congrArg str hY2)
  have q3 : str Y2 ++ str X2 = str Y3 := (str_append Y2 X2).trans (congrArg str hY3)
  have q4 : str Y3 ++ (⟨#[32]⟩ : ByteArray) = str Y4 := (str_append Y3 [32]).trans (congrArg str hY4)
  have q5 : str Y4 ++ str X3 = str Y5 := (str_append Y4 X3).trans (congrArg str hY5)
  have hs1 : 6 + (str X1).size ≤ 9223372036854775807 := by rw [str_size]; omega
  have hs2 : (str Y1).size + 1 ≤ 9223372036854775807 := by rw [str_size]; omega
  have hs3 : (str Y2).size + (str X2).size ≤ 9223372036854775807 := by rw [str_size, str_size]; omega
  have hs4 : (str Y3).size + 1 ≤ 9223372036854775807 := by rw [str_size]; omega
  have hs5 : (str Y4).size + (str X3).size ≤ 9223372036854775807 := by rw [str_size, str_size]; omega
  have HE : Hid (storeW ++ 32 :: X1 ++ [32] ++ X2 ++ [32] ++ X3 = Y5) := Lib.hid (by rw [hY1, hY2, hY3, hY4, hY5])
  rw [HE.out]
  clear hY1 hY2 hY3 hY4 hY5 lY1 lY2 lY3 lY4 lY5 hl0
  clear hSS ha hb hc HL1 HL2 HL3
  generalize cfL c = CL at *
  generalize scL a b c V = SL at *
  go_enter Tryd.func30, Tryd.ntmps30
  go_wp2_with fail
  refine wp_region_held_drew (S := SS) (by kernel_rfl) (HS0.out) (fun hSx => ?_)
  refine wpAnyH_take (i := 0) (oi := ⟨some 3, _, _, _, _, none⟩) (v := .pointer (some ⟨w.heap.size, 0, none⟩)) rfl (by kernel_rfl) (by kernel_rfl) (by kernel_rfl) (fun _ _ _ h => h) (Or.inl ⟨by kernel_rfl, ?_⟩) hSx ?_
  · intro wx hSx2; clear hSx; go_simp
  try simp only [Act.put, List.setIfInBounds_toArray]
  refine wpAnyH_take (i := 1) (oi := ⟨some 4, _, _, _, _, none⟩) (v := .int .i64 a) rfl (by kernel_rfl) (by kernel_rfl) (by kernel_rfl) (fun _ _ _ h => h) (Or.inl ⟨by kernel_rfl, ?_⟩) hSx ?_
  · intro wx hSx2; clear hSx; have hf0 := (HF.out wx hSx2).1; go_simp
  try simp only [Act.put, List.setIfInBounds_toArray]
  refine wpAnyH_take (i := 5) (oi := ⟨some 8, _, _, _, _, none⟩) (v := .pointer (some ⟨w.heap.size, 1, none⟩)) rfl (by kernel_rfl) (by kernel_rfl) (by kernel_rfl) (fun _ _ _ h => h) (Or.inl ⟨by kernel_rfl, ?_⟩) hSx ?_
  · intro wx hSx2; clear hSx; go_simp
  try simp only [Act.put, List.setIfInBounds_toArray]
  refine wpAnyH_take (i := 6) (oi := ⟨some 9, _, _, _, _, none⟩) (v := .int .i64 b) rfl (by kernel_rfl) (by kernel_rfl) (by kernel_rfl) (fun _ _ _ h => h) (Or.inl ⟨by kernel_rfl, ?_⟩) hSx ?_
  · intro wx hSx2; clear hSx; have hf0 := (HF.out wx hSx2).2.1; go_simp
  try simp only [Act.put, List.setIfInBounds_toArray]
  refine wpAnyH_take (i := 10) (oi := ⟨some 13, _, _, _, _, none⟩) (v := .pointer (some ⟨w.heap.size, 2, none⟩)) rfl (by kernel_rfl) (by kernel_rfl) (by kernel_rfl) (fun _ _ _ h => h) (Or.inl ⟨by kernel_rfl, ?_⟩) hSx ?_
  · intro wx hSx2; clear hSx; go_simp
  try simp only [Act.put, List.setIfInBounds_toArray]
  refine wpAnyH_take (i := 11) (oi := ⟨some 14, _, _, _, _, none⟩) (v := .agg CL.toArray) rfl (by kernel_rfl) (by kernel_rfl) (by kernel_rfl) (fun _ _ _ h => h) (yieldsIf_load_mid (by kernel_rfl) 23 (.tmp 13) rfl w.heap.size 2 rfl CL _ (fun W hW => (HF.out W hW).2.2) Tryd.underlying23 rfl HIC.out) hSx ?_
  try simp only [Act.put, List.setIfInBounds_toArray]
  refine wpAnyH_ready (rs := [2]) (by kernel_rfl) (by simp) ?_
  refine AllReadyH.cons (o := ⟨some 5, _, _, _, _, none⟩) rfl (fun KK hKK => ?_) AllReadyH.nil
  go_simp
  refine (HA1.out _).mono ?_
  rintro e wz ⟨rfl, rfl⟩
  refine hKK.out _ _ (hSx) (fun hSy => ?_)
  clear hKK hSx
  have hSx := hSy
  clear hSy KK
  try simp only [Act.put, List.setIfInBounds_toArray, List.set_cons_zero, List.set_cons_succ]
  refine wpAnyH_take (i := 3) (oi := ⟨some 6, _, _, _, _, none⟩) (v := .string (str Y1)) rfl (by kernel_rfl) (by kernel_rfl) (by kernel_rfl) (fun _ _ _ h => h) (Or.inl ⟨by kernel_rfl, ?_⟩) hSx ?_
  · intro wx hSx2; clear hSx; go_simp
  try simp only [Act.put, List.setIfInBounds_toArray]
  refine wpAnyH_take (i := 4) (oi := ⟨some 7, _, _, _, _, none⟩) (v := .string (str Y2)) rfl (by kernel_rfl) (by kernel_rfl) (by kernel_rfl) (fun _ _ _ h => h) (Or.inl ⟨by kernel_rfl, ?_⟩) hSx ?_
  · intro wx hSx2; clear hSx; go_simp
  try simp only [Act.put, List.setIfInBounds_toArray]
  refine wpAnyH_ready (rs := [7]) (by kernel_rfl) (by simp) ?_
  refine AllReadyH.cons (o := ⟨some 10, _, _, _, _, none⟩) rfl (fun KK hKK => ?_) AllReadyH.nil
  go_simp
  refine (HA2.out _).mono ?_
  rintro e wz ⟨rfl, rfl⟩
  refine hKK.out _ _ (hSx) (fun hSy => ?_)
  clear hKK hSx
  have hSx := hSy
  clear hSy KK
  try simp only [Act.put, List.setIfInBounds_toArray, List.set_cons_zero, List.set_cons_succ]
  refine wpAnyH_take (i := 8) (oi := ⟨some 11, _, _, _, _, none⟩) (v := .string (str Y3)) rfl (by kernel_rfl) (by kernel_rfl) (by kernel_rfl) (fun _ _ _ h => h) (Or.inl ⟨by kernel_rfl, ?_⟩) hSx ?_
  · intro wx hSx2; clear hSx; go_simp
  try simp only [Act.put, List.setIfInBounds_toArray]
  refine wpAnyH_take (i := 9) (oi := ⟨some 12, _, _, _, _, none⟩) (v := .string (str Y4)) rfl (by kernel_rfl) (by kernel_rfl) (by kernel_rfl) (fun _ _ _ h => h) (Or.inl ⟨by kernel_rfl, ?_⟩) hSx ?_
  · intro wx hSx2; clear hSx; go_simp
  try simp only [Act.put, List.setIfInBounds_toArray]
  refine wpAnyH_ready (rs := [12]) (by kernel_rfl) (by simp) ?_
  refine AllReadyH.cons (o := ⟨some 15, _, _, _, _, none⟩) rfl (fun KK hKK => ?_) AllReadyH.nil
  go_simp
  refine (HA3.out _).mono ?_
  rintro e wz ⟨rfl, hbz⟩
  refine hKK.out _ _ (HSA.out _ _ hSx hbz) (fun hSy => ?_)
  clear hKK hSx
  have hSx := hSy
  clear hSy KK
  try simp only [Act.put, List.setIfInBounds_toArray, List.set_cons_zero, List.set_cons_succ]
  refine wpAnyH_take (i := 13) (oi := ⟨some 16, _, _, _, _, none⟩) (v := .string (str Y5)) rfl (by kernel_rfl) (by kernel_rfl) (by kernel_rfl) (fun _ _ _ h => h) (Or.inl ⟨by kernel_rfl, ?_⟩) hSx ?_
  · intro wx hSx2; clear hSx; go_simp
  try simp only [Act.put, List.setIfInBounds_toArray]
  refine wpAnyH_take (i := 14) (oi := ⟨some 2, _, _, _, _, none⟩) (v := .string (str Y5)) rfl (by kernel_rfl) (by kernel_rfl) (by kernel_rfl) (fun _ _ _ h => h) (Or.inl ⟨by kernel_rfl, ?_⟩) hSx ?_
  · intro wx hSx2; clear hSx; go_simp
  try simp only [Act.put, List.setIfInBounds_toArray]
  refine wpAnyH_done (by kernel_rfl) ?_ _
  go_wp2_with fail
  go_ret
  exact ⟨rfl, HSB.out _ hSx⟩
end Go.Proofs.YtjakkmioofbcaaaDoor
namespace Go.Proofs.YtjakkmioofbcaaaDoor
open Go.RowKit
/-- a row of steps -/
def Sts (w : World) (V : Value) (l : List St) : Prop :=
  (∃ A c, V = .slice A l.length c) ∧ (l ≠ [] → ∃ b o c, V = .slice (some ⟨b, o, none⟩) l.length c ∧ b < w.heap.size ∧
    ∀ i s, l[i]? = some s → ∃ (A : Option Addr) (cap : Nat), w.rangeAt b (o + i * 19) (s.L (.slice A s.kp.length cap)) ∧ Kp w (.slice A s.kp.length cap) s.kp)
theorem Sts.below {w w' : World} {V : Value} {l : List St} (h : Sts w V l) (hb : Below w.heap.size w w') : Sts w' V l := by
  refine ⟨h.1, fun hl => ?_⟩
  obtain ⟨b, o, c, e, hlt, hc⟩ := h.2 hl
  refine ⟨b, o, c, e, Nat.lt_of_lt_of_le hlt hb.size, fun i s hi => ?_⟩
  obtain ⟨A, cap, hr, hk⟩ := hc i s hi
  exact ⟨A, cap, fun j v hj => (hb.cell (p := ⟨b, o + i * 19 + j, none⟩) hlt).trans (hr j v hj), hk.below hb⟩
theorem Sts.nil (w : World) : Sts w (.slice none 0 0) [] := ⟨⟨none, 0, rfl⟩, fun h => absurd rfl h⟩
/-- the k-th step of a row, at its address -/
theorem Sts.at {w : World} {A : Option Addr} {cp k : Nat} {l : List St} (h : Sts w (.slice A l.length cp) l) (hk : k < l.length) :
    ∃ b o s B cap, A = some ⟨b, o, none⟩ ∧ l[k]? = some s ∧ s ∈ l ∧ w.rangeAt b (o + k * 19) (s.L (.slice B s.kp.length cap)) ∧ Kp w (.slice B s.kp.length cap) s.kp := by
  obtain ⟨b, o, c, e, hlt, hc⟩ := h.2 (by intro e; rw [e] at hk; simp at hk)
  injection e with e1
  obtain ⟨B, cap, hr, hkp⟩ := hc k l[k] (List.getElem?_eq_getElem hk)
  exact ⟨b, o, l[k], B, cap, e1, List.getElem?_eq_getElem hk, List.getElem_mem hk, hr, hkp⟩
def goodB (a b : Int) (c : Fin 13 → Int) (l : List St) : Bool := fitB [a, b] && smallB c && l.all mayB
theorem take_all {l : List St} {k : Nat} {s : St} {f : St → Bool} (h : l[k]? = some s) : (l.take (k + 1)).all f = ((l.take k).all f && f s) := by
  rw [List.take_add_one, h]
  simp
set_option maxRecDepth 100000 in
set_option maxHeartbeats 4000000 in
theorem rgood14 (a b : Int) (c : Fin 13 → Int) (V : Value) (l : List St) (w : World) (hs : Sts w V l) (hf : ∀ s ∈ l, Fits s) (hl : l.length ≤ 1000000) :
    Calls Tryd.prog 14 #[.agg (scL a b c V).toArray] w fun e w' => e = .returned (.bool (goodB a b c l)) ∧ Below w.heap.size w w' := by
  obtain ⟨A, cp, rfl⟩ := hs.1
  have HST := Lib.hid hs
  have HFT := Lib.hid hf
  have HGD : Hid (goodB a b c l = (fitB [a, b] && smallB c && l.all mayB)) := Lib.hid rfl
  have HA1 : Hid (∀ v W, Is W v [a, b] → Calls Tryd.prog 34 #[v] W fun e w' => e = .returned (.bool (fitB [a, b])) ∧ w' = W) := Lib.hid (fun v W h => rfit28 v _ (by simp) W h)
  have HA2 : Hid (∀ v W, Is W v (cfI c) → Calls Tryd.prog 34 #[v] W fun e w' => e = .returned (.bool (smallB c)) ∧ w' = W) := Lib.hid (fun v W h => by rw [← fit_small]; exact rfit28 v _ (by simp [cfI]) W h)
  have HNM : Hid (∀ W, Calls Tryd.prog 35 #[.agg (cfL c).toArray] W fun e w' => ∃ v, e = .returned v ∧ Is w' v (cfI c) ∧ Below W.heap.size W w') := Lib.hid (fun W => rnumbers29 c W)
  obtain ⟨SS, hSS⟩ : ∃ SS, BoxS w 30 (scL a b c (.slice A l.length cp)) = SS := ⟨_, rfl⟩
  have HF : Hid (∀ W, SS W → W.cell? ⟨w.heap.size, 0, none⟩ = some (.int .i64 a) ∧ W.cell? ⟨w.heap.size, 1, none⟩ = some (.int .i64 b) ∧ W.cell? ⟨w.heap.size, 15, none⟩ = some (.slice A l.length cp) ∧ W.rangeAt w.heap.size 2 (cfL c)) := Lib.hid (fun W hW => by rw [← hSS] at hW; have := hW.facts; exact ⟨this.1, this.2.1, this.2.2.1, this.2.2.2.1⟩)
  have HSA : Hid (∀ W W', SS W → Below W.heap.size W W' → SS W') := Lib.hid (fun W W' hW hb => by rw [← hSS] at hW ⊢; exact hW.below hb)
  have HSB : Hid (∀ W, SS W → Below w.heap.size w W) := Lib.hid (fun W hW => by rw [← hSS] at hW; exact hW.base)
  have HS0 : Hid (SS (w.alloc (.cells (scL a b c (.slice A l.length cp)).toArray 30))) := Lib.hid (by rw [← hSS]; exact BoxS.first)
  have HS1 : Hid (SS ((w.alloc (.cells (scL a b c (.slice A l.length cp)).toArray 30)).alloc (.cells #[.int .i64 a, .int .i64 b] 3))) := Lib.hid (HSA.out _ _ HS0.out ((Below.refl _ _).alloc (Nat.le_refl _) _))
  have HTW : Hid (Is ((w.alloc (.cells (scL a b c (.slice A l.length cp)).toArray 30)).alloc (.cells #[.int .i64 a, .int .i64 b] 3)) (.slice (some ⟨w.heap.size + 1, 0, none⟩) 2 2) [a, b]) := Lib.hid (by
    have := is_two (w := w.alloc (.cells (scL a b c (.slice A l.length cp)).toArray 30)) a b
    rw [World.size_alloc] at this
    exact this)
  have HIC : Hid ((Tryd.prog.info? 23).map (·.size) = some (cfL c).length) := Lib.hid info28
  obtain ⟨f0, f1, f2, _⟩ := HF.out _ HS0.out
  obtain ⟨_, _, _, g3⟩ := HF.out _ HS1.out
  have HG3 := Lib.hid g3
  clear hSS hs hf g3
  generalize scL a b c (.slice A l.length cp) = SL at *
  generalize cfL c = CL at *
  cases h1 : fitB [a, b]
  case false =>
    have HE : Hid (goodB a b c l = false) := Lib.hid (by rw [HGD.out, h1]; rfl)
    rw [h1] at HA1
    rw [HE.out]
    clear h1 HE HGD
    go_enter Tryd.func14, Tryd.ntmps14
    go_wp2_with (go_at_call 34; (with_reducible refine (HA1.out _ _ HTW.out).mono ?_); rintro e w3 ⟨rfl, rfl⟩)
    go_ret
    exact ⟨rfl, HSB.out _ HS1.out⟩
  rw [h1] at HA1
  cases h2 : smallB c
  case false =>
    have HE : Hid (goodB a b c l = false) := Lib.hid (by rw [HGD.out, h2, Bool.and_false]; rfl)
    rw [h2] at HA2
    rw [HE.out]
    clear h1 h2 HE HGD
    go_enter Tryd.func14, Tryd.ntmps14
    go_wp2_with (first
      | (go_at_call 34; (with_reducible refine (HA1.out _ _ HTW.out).mono ?_); rintro e w3 ⟨rfl, rfl⟩)
      | ((with_reducible refine wpList_load_midg (op := ⟨some 13, _, _, _, _, _⟩) ?_ 23 (.tmp 12) rfl w.heap.size 2 ?_ CL _ HG3.out Tryd.underlying23 rfl HIC.out ?_); kernel_rfl; rfl)
      | (go_at_call 35; (with_reducible refine (HNM.out _).mono ?_); rintro e w4 ⟨u, rfl, hiu, hb4⟩; have HIU := Lib.hid hiu; have HS4 := Lib.hid (HSA.out _ _ HS1.out hb4); clear hiu hb4)
      | (go_at_call 34; (with_reducible refine (HA2.out _ _ HIU.out).mono ?_); rintro e w5 ⟨rfl, rfl⟩))
    go_ret
    exact ⟨rfl, HSB.out _ HS4.out⟩
  rw [h2] at HA2
  have HE : Hid (goodB a b c l = l.all mayB) := Lib.hid (by rw [HGD.out, h1, h2]; rfl)
  rw [HE.out]
  clear h1 h2 HE HGD
  go_enter Tryd.func14, Tryd.ntmps14
  go_wp2_with (first
    | (go_at_call 34; (with_reducible refine (HA1.out _ _ HTW.out).mono ?_); rintro e w3 ⟨rfl, rfl⟩)
    | ((with_reducible refine wpList_load_midg (op := ⟨some 13, _, _, _, _, _⟩) ?_ 23 (.tmp 12) rfl w.heap.size 2 ?_ CL _ HG3.out Tryd.underlying23 rfl HIC.out ?_); kernel_rfl; rfl)
    | (go_at_call 35; (with_reducible refine (HNM.out _).mono ?_); rintro e w4 ⟨u, rfl, hiu, hb4⟩; have HIU := Lib.hid hiu; have HS4 := Lib.hid (HSA.out _ _ HS1.out hb4); clear hiu hb4)
    | (go_at_call 34; (with_reducible refine (HA2.out _ _ HIU.out).mono ?_); rintro e w5 ⟨rfl, rfl⟩))
  clear f0 f1 f2 HTW HIU HA1 HA2 HNM HG3
  go_loopg [3] l.length (fun gk i wr => ∃ k : Nat, k ≤ l.length ∧ gk = l.length - k ∧ i = .int .i64 k ∧ SS wr ∧ (l.take k).all mayB = true)
  case atStart => exact ⟨0, Nat.zero_le _, rfl, rfl, HS4.out, rfl⟩
  case round =>
    obtain ⟨k, hk, hgk, rfl, hss, hall⟩ := hrel
    have HK := Lib.hid hgk
    have HSR := Lib.hid hss
    have HAL := Lib.hid hall
    obtain ⟨_, _, p15, _⟩ := HF.out _ hss
    have hkI : (k : Int) ≤ 1000000 := by omega
    clear hgk hss hall
    by_cases hlt : k < l.length
    · obtain ⟨b1, o1, s, B, cap, rfl, hks, hmem, hr, hkp⟩ := (HST.out.below (HSB.out _ HSR.out)).at hlt
      have hmay := rmay15 s B cap wr hkp (HFT.out s hmem)
      rw [may_eq, show s.A (.slice B s.kp.length cap) = (s.L (.slice B s.kp.length cap)).toArray from rfl] at hmay
      have HI : Hid ((Tryd.prog.info? 44).map (·.size) = some (s.L (.slice B s.kp.length cap)).length) := Lib.hid info30
      have HR := Lib.hid hr
      have HM := Lib.hid hmay
      have HKS := Lib.hid hks
      generalize s.L (.slice B s.kp.length cap) = M at *
      clear hr hmay hkp hks
      have hk0 : (0 : Int) ≤ (k : Int) := by omega
      have hk1 : (k : Int) < (l.length : Int) := by omega
      have HTA : Hid ((l.take (k + 1)).all mayB = mayB s) := Lib.hid (by rw [take_all HKS.out, HAL.out]; rfl)
      cases hms : mayB s
      · have HEF : Hid (l.all mayB = false) := Lib.hid (by
          apply Bool.eq_false_iff.2
          intro h
          rw [List.all_eq_true] at h
          have := h s hmem
          rw [hms] at this
          cases this)
        rw [hms] at HM
        clear hms
        go_wp2_with (first
          | ((with_reducible refine wpList_load_midg (op := ⟨some 29, _, _, _, _, _⟩) ?_ 44 (.tmp 28) rfl b1 (o1 + k * 19) ?_ M _ HR.out Tryd.underlying44 rfl HI.out ?_); kernel_rfl; rfl)
          | (go_at_call 36; (with_reducible refine HM.out.mono ?_); rintro e w6 ⟨rfl, hb6⟩; have HS6 := Lib.hid (HSA.out _ _ HSR.out hb6); clear hb6))
        go_ret
        exact ⟨by rw [HEF.out]; rfl, HSB.out _ HS6.out⟩
      · rw [hms] at HM HTA
        clear hms
        go_wp2_with (first
          | ((with_reducible refine wpList_load_midg (op := ⟨some 29, _, _, _, _, _⟩) ?_ 44 (.tmp 28) rfl b1 (o1 + k * 19) ?_ M _ HR.out Tryd.underlying44 rfl HI.out ?_); kernel_rfl; rfl)
          | (go_at_call 36; (with_reducible refine HM.out.mono ?_); rintro e w6 ⟨rfl, hb6⟩; have HS6 := Lib.hid (HSA.out _ _ HSR.out hb6); clear hb6))
        go_roundg (l.length - (k + 1))
        case measure => rw [HK.out]; omega
        case rel => exact ⟨k + 1, by omega, rfl, by go_num, HS6.out, HTA.out⟩
    · obtain rfl : k = l.length := by omega
      have HEF : Hid (l.all mayB = true) := Lib.hid (by have := HAL.out; rwa [List.take_length] at this)
      go_wp2
      go_ret
      exact ⟨by rw [HEF.out]; rfl, HSB.out _ HSR.out⟩
end Go.Proofs.YtjakkmioofbcaaaDoor
namespace Go.Proofs.YtjakkmioofbcaaaDoor
open Go.RowKit
theorem exec_ref (ev : Operand → Value) (n1 n2 : Int) (c : Fin 13 → Int) (A : Option Addr) (n k : Nat) (x y z u : Operand) (W : World) (d : Option Tmp) (ty : TypeId) (ps : String) (af : Array Edge) (h1 : ev x = .int .i64 n1) (h2 : ev y = .int .i64 n2) (h3 : ev z = .agg (cfL c).toArray) (h4 : ev u = .slice A n k) :
    (execOp ev ⟨d, .build 30 #[(0, x), (1, y), (2, z), (3, u)], ty, ps, af, none⟩).run Tryd.prog W = .ok (.value (.agg (scL n1 n2 c (.slice A n k)).toArray)) W := by
  have hbd : (Instr.build 30 #[(0, .int .i64 n1), (1, .int .i64 n2), (2, .agg (cfL c).toArray), (3, .slice A n k)]).run Tryd.prog W = .ok (.agg (scL n1 n2 c (.slice A n k)).toArray) W := by kernel_rfl
  simp only [execOp, List.map_toArray, List.map_cons, List.map_nil, h1, h2, h3, h4, Sem.run_bind, hbd, Sem.run_pure, Result.andThen_ok]
theorem exec_own (ev : Operand → Value) (n1 n2 : Int) (c : Fin 13 → Int) (A : Option Addr) (n k : Nat) (x y z u : Operand) (W : World) (d : Option Tmp) (ty : TypeId) (ps : String) (af : Array Edge) (h1 : ev x = .int .i64 n1) (h2 : ev y = .int .i64 n2) (h3 : ev z = .agg (cfL c).toArray) (h4 : ev u = .slice A n k) :
    (execOp ev ⟨d, .build 26 #[(0, x), (1, y), (2, z), (3, u)], ty, ps, af, none⟩).run Tryd.prog W = .ok (.value (.agg (scL n1 n2 c (.slice A n k)).toArray)) W := by
  have hbd : (Instr.build 26 #[(0, .int .i64 n1), (1, .int .i64 n2), (2, .agg (cfL c).toArray), (3, .slice A n k)]).run Tryd.prog W = .ok (.agg (scL n1 n2 c (.slice A n k)).toArray) W := by kernel_rfl
  simp only [execOp, List.map_toArray, List.map_cons, List.map_nil, h1, h2, h3, h4, Sem.run_bind, hbd, Sem.run_pure, Result.andThen_ok]
set_option maxRecDepth 100000 in
set_option maxHeartbeats 2000000 in
theorem theirs8 (a b : Int) (c : Fin 13 → Int) (A : Option Addr) (n k : Nat) (w : World) : Calls Tryd.prog 8 #[.agg (scL a b c (.slice A n k)).toArray] w fun e w' => e = .returned (.agg (scL a b c (.slice A n k)).toArray) ∧ Below w.heap.size w w' := by
  have HBX : Hid (∀ (ev : Operand → Value) (W : World) (d : Option Tmp) (ty : TypeId) (ps : String) (af : Array Edge), ev (.tmp 4) = .int .i64 a → ev (.tmp 6) = .int .i64 b → ev (.tmp 8) = .agg (cfL c).toArray → ev (.tmp 10) = .slice A n k → (execOp ev ⟨d, .build 30 #[(0, .tmp 4), (1, .tmp 6), (2, .tmp 8), (3, .tmp 10)], ty, ps, af, none⟩).run Tryd.prog W = .ok (.value (.agg (scL a b c (.slice A n k)).toArray)) W) := Lib.hid (fun ev W d ty ps af h1 h2 h3 h4 => exec_ref ev a b c A n k _ _ _ _ W d ty ps af h1 h2 h3 h4)
  have HF : Hid (∀ W, BoxS w 26 (scL a b c (.slice A n k)) W → W.cell? ⟨w.heap.size, 0, none⟩ = some (.int .i64 a) ∧ W.cell? ⟨w.heap.size, 1, none⟩ = some (.int .i64 b) ∧ W.cell? ⟨w.heap.size, 15, none⟩ = some (.slice A n k) ∧ W.rangeAt w.heap.size 2 (cfL c)) := Lib.hid (fun W hW => by have := hW.facts; exact ⟨this.1, this.2.1, this.2.2.1, this.2.2.2.1⟩)
  have HIC : Hid ((Tryd.prog.info? 23).map (·.size) = some (cfL c).length) := Lib.hid info28
  have HI : Hid ((Tryd.prog.info? 30).map (·.size) = some (scL a b c (.slice A n k)).toArray.size) := Lib.hid infoR
  have HO : Hid ((scL a b c (.slice A n k)).toArray.all (·.oneCell') = true) := Lib.hid (scL_one _ _ _ _ _ _)
  have HSZ : Hid ((#[.int .i64 0, .int .i64 0, .int .i64 0, .int .i64 0, .int .i64 0, .int .i64 0, .int .i64 0, .int .i64 0, .int .i64 0, .int .i64 0, .int .i64 0, .int .i64 0, .int .i64 0, .int .i64 0, .int .i64 0, .slice none 0 0] : Array Value).size = (scL a b c (.slice A n k)).toArray.size) := Lib.hid rfl
  have HB2 : Hid (BoxS w 26 (scL a b c (.slice A n k)) ((w.alloc (.cells (scL a b c (.slice A n k)).toArray 26)).alloc (.cells #[.int .i64 0, .int .i64 0, .int .i64 0, .int .i64 0, .int .i64 0, .int .i64 0, .int .i64 0, .int .i64 0, .int .i64 0, .int .i64 0, .int .i64 0, .int .i64 0, .int .i64 0, .int .i64 0, .int .i64 0, .slice none 0 0] 30))) := Lib.hid (BoxS.first.below ((Below.refl _ _).alloc (Nat.le_refl _) _))
  have HH2 : Hid (((w.alloc (.cells (scL a b c (.slice A n k)).toArray 26)).alloc (.cells #[.int .i64 0, .int .i64 0, .int .i64 0, .int .i64 0, .int .i64 0, .int .i64 0, .int .i64 0, .int .i64 0, .int .i64 0, .int .i64 0, .int .i64 0, .int .i64 0, .int .i64 0, .int .i64 0, .int .i64 0, .slice none 0 0] 30)).heap[w.heap.size + 1]? = some (.cells #[.int .i64 0, .int .i64 0, .int .i64 0, .int .i64 0, .int .i64 0, .int .i64 0, .int .i64 0, .int .i64 0, .int .i64 0, .int .i64 0, .int .i64 0, .int .i64 0, .int .i64 0, .int .i64 0, .int .i64 0, .slice none 0 0] 30 (0, 0))) := Lib.hid (by
    have := heap_alloc_new (w.alloc (.cells (scL a b c (.slice A n k)).toArray 26)) (.cells #[.int .i64 0, .int .i64 0, .int .i64 0, .int .i64 0, .int .i64 0, .int .i64 0, .int .i64 0, .int .i64 0, .int .i64 0, .int .i64 0, .int .i64 0, .int .i64 0, .int .i64 0, .int .i64 0, .int .i64 0, .slice none 0 0] 30)
    rwa [World.size_alloc] at this)
  obtain ⟨f0, f1, f2, f3⟩ := HF.out _ HB2.out
  have HF3 := Lib.hid f3
  have HBW : Hid (Below w.heap.size w ((w.alloc (.cells (scL a b c (.slice A n k)).toArray 26)).alloc (.cells #[.int .i64 0, .int .i64 0, .int .i64 0, .int .i64 0, .int .i64 0, .int .i64 0, .int .i64 0, .int .i64 0, .int .i64 0, .int .i64 0, .int .i64 0, .int .i64 0, .int .i64 0, .int .i64 0, .int .i64 0, .slice none 0 0] 30))) := Lib.hid HB2.out.base
  clear f3 HF HB2
  generalize scL a b c (.slice A n k) = SL at *
  generalize cfL c = CL at *
  go_enter Tryd.func8, Tryd.ntmps8
  go_wp2_with (first
    | ((with_reducible refine wpList_load_midg (op := ⟨some 8, _, _, _, _, _⟩) ?_ 23 (.tmp 7) rfl w.heap.size 2 ?_ CL _ HF3.out Tryd.underlying23 rfl HIC.out ?_); kernel_rfl; rfl)
    | ((with_reducible refine wpList_of_run (op := ⟨some 11, _, _, _, _, _⟩) rfl (HBX.out _ _ _ _ _ _ ?_ ?_ ?_ ?_) ?_); rfl; rfl; rfl; rfl)
    | ((with_reducible refine wpList_store_row (o := ⟨none, _, _, _, _, _⟩) rfl 30 (.tmp 2) (.tmp 11) rfl (w.heap.size + 1) SL.toArray ?_ ?_ 30 _ HH2.out HI.out HSZ.out HO.out ?_); rfl; rfl))
  exact bodyPost_ret (results_cell_row rfl _ _ (w.heap.size + 1) 30 SL.toArray (0, 0) _ rfl (setRow_heap _ _ _ _ _ _ HH2.out) Tryd.underlying30 rfl HI.out) rfl ⟨rfl, below_setRow HBW.out (Nat.le_succ _) _⟩
set_option maxRecDepth 100000 in
set_option maxHeartbeats 2000000 in
theorem ours13 (a b : Int) (c : Fin 13 → Int) (A : Option Addr) (n k : Nat) (w : World) : Calls Tryd.prog 13 #[.agg (scL a b c (.slice A n k)).toArray] w fun e w' => e = .returned (.agg (scL a b c (.slice A n k)).toArray) ∧ Below w.heap.size w w' := by
  have HBX : Hid (∀ (ev : Operand → Value) (W : World) (d : Option Tmp) (ty : TypeId) (ps : String) (af : Array Edge), ev (.tmp 4) = .int .i64 a → ev (.tmp 6) = .int .i64 b → ev (.tmp 8) = .agg (cfL c).toArray → ev (.tmp 10) = .slice A n k → (execOp ev ⟨d, .build 26 #[(0, .tmp 4), (1, .tmp 6), (2, .tmp 8), (3, .tmp 10)], ty, ps, af, none⟩).run Tryd.prog W = .ok (.value (.agg (scL a b c (.slice A n k)).toArray)) W) := Lib.hid (fun ev W d ty ps af h1 h2 h3 h4 => exec_own ev a b c A n k _ _ _ _ W d ty ps af h1 h2 h3 h4)
  have HF : Hid (∀ W, BoxS w 30 (scL a b c (.slice A n k)) W → W.cell? ⟨w.heap.size, 0, none⟩ = some (.int .i64 a) ∧ W.cell? ⟨w.heap.size, 1, none⟩ = some (.int .i64 b) ∧ W.cell? ⟨w.heap.size, 15, none⟩ = some (.slice A n k) ∧ W.rangeAt w.heap.size 2 (cfL c)) := Lib.hid (fun W hW => by have := hW.facts; exact ⟨this.1, this.2.1, this.2.2.1, this.2.2.2.1⟩)
  have HIC : Hid ((Tryd.prog.info? 23).map (·.size) = some (cfL c).length) := Lib.hid info28
  have HI : Hid ((Tryd.prog.info? 26).map (·.size) = some (scL a b c (.slice A n k)).toArray.size) := Lib.hid info26
  have HO : Hid ((scL a b c (.slice A n k)).toArray.all (·.oneCell') = true) := Lib.hid (scL_one _ _ _ _ _ _)
  have HSZ : Hid ((#[.int .i64 0, .int .i64 0, .int .i64 0, .int .i64 0, .int .i64 0, .int .i64 0, .int .i64 0, .int .i64 0, .int .i64 0, .int .i64 0, .int .i64 0, .int .i64 0, .int .i64 0, .int .i64 0, .int .i64 0, .slice none 0 0] : Array Value).size = (scL a b c (.slice A n k)).toArray.size) := Lib.hid rfl
  have HB2 : Hid (BoxS w 30 (scL a b c (.slice A n k)) ((w.alloc (.cells (scL a b c (.slice A n k)).toArray 30)).alloc (.cells #[.int .i64 0, .int .i64 0, .int .i64 0, .int .i64 0, .int .i64 0, .int .i64 0, .int .i64 0, .int .i64 0, .int .i64 0, .int .i64 0, .int .i64 0, .int .i64 0, .int .i64 0, .int .i64 0, .int .i64 0, .slice none 0 0] 26))) := Lib.hid (BoxS.first.below ((Below.refl _ _).alloc (Nat.le_refl _) _))
  have HH2 : Hid (((w.alloc (.cells (scL a b c (.slice A n k)).toArray 30)).alloc (.cells #[.int .i64 0, .int .i64 0, .int .i64 0, .int .i64 0, .int .i64 0, .int .i64 0, .int .i64 0, .int .i64 0, .int .i64 0, .int .i64 0, .int .i64 0, .int .i64 0, .int .i64 0, .int .i64 0, .int .i64 0, .slice none 0 0] 26)).heap[w.heap.size + 1]? = some (.cells #[.int .i64 0, .int .i64 0, .int .i64 0, .int .i64 0, .int .i64 0, .int .i64 0, .int .i64 0, .int .i64 0, .int .i64 0, .int .i64 0, .int .i64 0, .int .i64 0, .int .i64 0, .int .i64 0, .int .i64 0, .slice none 0 0] 26 (0, 0))) := Lib.hid (by
    have := heap_alloc_new (w.alloc (.cells (scL a b c (.slice A n k)).toArray 30)) (.cells #[.int .i64 0, .int .i64 0, .int .i64 0, .int .i64 0, .int .i64 0, .int .i64 0, .int .i64 0, .int .i64 0, .int .i64 0, .int .i64 0, .int .i64 0, .int .i64 0, .int .i64 0, .int .i64 0, .int .i64 0, .slice none 0 0] 26)
    rwa [World.size_alloc] at this)
  obtain ⟨f0, f1, f2, f3⟩ := HF.out _ HB2.out
  have HF3 := Lib.hid f3
  have HBW : Hid (Below w.heap.size w ((w.alloc (.cells (scL a b c (.slice A n k)).toArray 30)).alloc (.cells #[.int .i64 0, .int .i64 0, .int .i64 0, .int .i64 0, .int .i64 0, .int .i64 0, .int .i64 0, .int .i64 0, .int .i64 0, .int .i64 0, .int .i64 0, .int .i64 0, .int .i64 0, .int .i64 0, .int .i64 0, .slice none 0 0] 26))) := Lib.hid HB2.out.base
  clear f3 HF HB2
  generalize scL a b c (.slice A n k) = SL at *
  generalize cfL c = CL at *
  go_enter Tryd.func13, Tryd.ntmps13
  go_wp2_with (first
    | ((with_reducible refine wpList_load_midg (op := ⟨some 8, _, _, _, _, _⟩) ?_ 23 (.tmp 7) rfl w.heap.size 2 ?_ CL _ HF3.out Tryd.underlying23 rfl HIC.out ?_); kernel_rfl; rfl)
    | ((with_reducible refine wpList_of_run (op := ⟨some 11, _, _, _, _, _⟩) rfl (HBX.out _ _ _ _ _ _ ?_ ?_ ?_ ?_) ?_); rfl; rfl; rfl; rfl)
    | ((with_reducible refine wpList_store_row (o := ⟨none, _, _, _, _, _⟩) rfl 26 (.tmp 2) (.tmp 11) rfl (w.heap.size + 1) SL.toArray ?_ ?_ 26 _ HH2.out HI.out HSZ.out HO.out ?_); rfl; rfl))
  exact bodyPost_ret (results_cell_row rfl _ _ (w.heap.size + 1) 26 SL.toArray (0, 0) _ rfl (setRow_heap _ _ _ _ _ _ HH2.out) Tryd.underlying26 rfl HI.out) rfl ⟨rfl, below_setRow HBW.out (Nat.le_succ _) _⟩
end Go.Proofs.YtjakkmioofbcaaaDoor
namespace Go.Proofs.YtjakkmioofbcaaaDoor
open Go.RowKit
set_option maxRecDepth 100000 in
set_option maxHeartbeats 4000000 in
theorem rsamescript7 (a b : Int) (c : Fin 13 → Int) (V U : Value) (l : List St) (w : World) (hs : Sts w V l) (ht : Sts w U l) (hf : ∀ s ∈ l, Fits s) (hl : l.length ≤ 1000000) :
    Calls Tryd.prog 7 #[.agg (scL a b c V).toArray, .agg (scL a b c U).toArray] w fun e w' => e = .returned (.bool true) ∧ Below w.heap.size w w' := by
  obtain ⟨A, cp, rfl⟩ := hs.1
  obtain ⟨B, cq, rfl⟩ := ht.1
  have HST := Lib.hid hs
  have HTT := Lib.hid ht
  have HFT := Lib.hid hf
  have hne : ∀ W : World, (binOp .neq 23 (.agg (cfL c).toArray) (.agg (cfL c).toArray)).run Tryd.prog W = .ok (.bool false) W := fun W => neq28b c c true (by simp) W
  have HNE := Lib.hid hne
  obtain ⟨W0, hW0⟩ : ∃ W, (w.alloc (.cells (scL a b c (.slice A l.length cp)).toArray 30)).alloc (.cells (scL a b c (.slice B l.length cq)).toArray 30) = W := ⟨_, rfl⟩
  have HSB : Hid (∀ W, Below (w.heap.size + 2) W0 W → Below w.heap.size w W) := Lib.hid (fun W hb => by rw [← hW0] at hb; exact (((Below.refl _ _).alloc (Nat.le_refl _) _).alloc (by simp) _).trans (hb.mono (by omega)))
  have HSZ : Hid (W0.heap.size = w.heap.size + 2) := Lib.hid (by rw [← hW0]; simp)
  have HFA : Hid (∀ W, Below (w.heap.size + 2) W0 W → W.cell? ⟨w.heap.size, 0, none⟩ = some (.int .i64 a) ∧ W.cell? ⟨w.heap.size, 1, none⟩ = some (.int .i64 b) ∧ W.cell? ⟨w.heap.size, 15, none⟩ = some (.slice A l.length cp) ∧ W.rangeAt w.heap.size 2 (cfL c)) := Lib.hid (fun W hb => by
    have hh : W.heap[w.heap.size]? = some (.cells (scL a b c (.slice A l.length cp)).toArray 30 (0, 0)) := (hb.block _ (by omega)).trans (by rw [← hW0]; exact (Below.heap_alloc _ _ _ (by simp)).trans (heap_alloc_new w _))
    have hr := range_of_row hh
    exact ⟨hr 0 _ rfl, hr 1 _ rfl, hr 15 _ rfl, scL_conf hr⟩)
  have HFB : Hid (∀ W, Below (w.heap.size + 2) W0 W → W.cell? ⟨w.heap.size + 1, 0, none⟩ = some (.int .i64 a) ∧ W.cell? ⟨w.heap.size + 1, 1, none⟩ = some (.int .i64 b) ∧ W.cell? ⟨w.heap.size + 1, 15, none⟩ = some (.slice B l.length cq) ∧ W.rangeAt (w.heap.size + 1) 2 (cfL c)) := Lib.hid (fun W hb => by
    have hh : W.heap[w.heap.size + 1]? = some (.cells (scL a b c (.slice B l.length cq)).toArray 30 (0, 0)) := (hb.block _ (by omega)).trans (by
      rw [← hW0]
      have := heap_alloc_new (w.alloc (.cells (scL a b c (.slice A l.length cp)).toArray 30)) (.cells (scL a b c (.slice B l.length cq)).toArray 30)
      rwa [World.size_alloc] at this)
    have hr := range_of_row hh
    exact ⟨hr 0 _ rfl, hr 1 _ rfl, hr 15 _ rfl, scL_conf hr⟩)
  have HIC : Hid ((Tryd.prog.info? 23).map (·.size) = some (cfL c).length) := Lib.hid info28
  have HW0 := Lib.hid hW0
  clear hW0 hs ht hf hne
  generalize scL a b c (.slice A l.length cp) = SL1 at *
  generalize scL a b c (.slice B l.length cq) = SL2 at *
  obtain ⟨SS, hSS⟩ : ∃ SS, Below (w.heap.size + 2) W0 = SS := ⟨_, rfl⟩
  have HS0 : Hid (SS W0) := Lib.hid (by rw [← hSS]; exact Below.refl _ _)
  have HSA : Hid (∀ W W', SS W → Below W.heap.size W W' → SS W') := Lib.hid (fun W W' hW hb => by rw [← hSS] at hW ⊢; exact hW.trans (hb.mono (by have := hW.size; rw [HSZ.out] at this; exact this)))
  rw [hSS] at HFA HFB HSB
  clear hSS
  obtain ⟨f0, f1, f2, f3⟩ := HFA.out _ HS0.out
  obtain ⟨g0, g1, g2, g3⟩ := HFB.out _ HS0.out
  have HR1 := Lib.hid f3
  have HR2 := Lib.hid g3
  have hne := HNE.out
  clear f3 g3 HNE
  generalize cfL c = CL at *
  go_enter Tryd.func7, Tryd.ntmps7
  go_upto_region 1 with fail
  rw [HW0.out]
  go_wp2_with (first
    | ((with_reducible refine wpList_load_midg (op := ⟨some 20, _, _, _, _, _⟩) ?_ 23 (.tmp 19) rfl w.heap.size 2 ?_ CL _ HR1.out Tryd.underlying23 rfl HIC.out ?_); kernel_rfl; rfl)
    | ((with_reducible refine wpList_load_midg (op := ⟨some 22, _, _, _, _, _⟩) ?_ 23 (.tmp 21) rfl (w.heap.size + 1) 2 ?_ CL _ HR2.out Tryd.underlying23 rfl HIC.out ?_); kernel_rfl; rfl))
  clear f0 f1 f2 g0 g1 g2 HR1 HR2 hne HIC
  go_loopg [5] l.length (fun gk i wr => ∃ k : Nat, k ≤ l.length ∧ gk = l.length - k ∧ i = .int .i64 k ∧ SS wr)
  case atStart => exact ⟨0, Nat.zero_le _, rfl, rfl, HS0.out⟩
  case round =>
    obtain ⟨k, hk, hgk, rfl, hss⟩ := hrel
    have HK := Lib.hid hgk
    have HSR := Lib.hid hss
    obtain ⟨_, _, p15, _⟩ := HFA.out _ hss
    have hkI : (k : Int) ≤ 1000000 := by omega
    clear hgk hss
    by_cases hlt : k < l.length
    · have HSM : Hid (∃ b1 o1 b2 o2 M1 M2, A = some ⟨b1, o1, none⟩ ∧ B = some ⟨b2, o2, none⟩ ∧ (∀ W, SS W → W.rangeAt b1 (o1 + k * 19) M1 ∧ W.rangeAt b2 (o2 + k * 19) M2) ∧ (∀ W, SS W → Calls Tryd.prog 25 #[.agg M1.toArray, .agg M2.toArray] W fun e w' => e = .returned (.bool true) ∧ Below W.heap.size W w') ∧ ((Tryd.prog.info? 44).map (·.size) = some M1.length) ∧ ((Tryd.prog.info? 44).map (·.size) = some M2.length)) := Lib.hid (by
        obtain ⟨b1, o1, s, C, cap, e1, hks, hmem, hr, hkp⟩ := HST.out.at hlt
        obtain ⟨b2, o2, t, D, cap2, e2, hkt, _, hr2, hkp2⟩ := HTT.out.at hlt
        rw [hks] at hkt
        injection hkt with hkt
        subst hkt
        have hb1 : b1 < w.heap.size := by
          obtain ⟨b', o', c', e, hlt2, _⟩ := HST.out.2 (by intro e; rw [e] at hlt; simp at hlt)
          injection e with e3
          rw [e1] at e3
          injection e3 with e3
          injection e3 with e3
          omega
        have hb2 : b2 < w.heap.size := by
          obtain ⟨b', o', c', e, hlt2, _⟩ := HTT.out.2 (by intro e; rw [e] at hlt; simp at hlt)
          injection e with e3
          rw [e2] at e3
          injection e3 with e3
          injection e3 with e3
          omega
        refine ⟨b1, o1, b2, o2, _, _, e1, e2, fun W hW => ⟨fun j v hj => ((HSB.out W hW).cell (p := ⟨b1, o1 + k * 19 + j, none⟩) hb1).trans (hr j v hj), fun j v hj => ((HSB.out W hW).cell (p := ⟨b2, o2 + k * 19 + j, none⟩) hb2).trans (hr2 j v hj)⟩, fun W hW => ?_, info30, info30⟩
        have hfs := HFT.out s hmem
        have := rsame6 s s C D cap cap2 W (hkp.below (HSB.out W hW)) (hkp2.below (HSB.out W hW)) (by have := hfs.2.2; omega) (by have := hfs.2.2; omega)
        rw [show sameB s s = true from (sameB_iff s s).2 rfl] at this
        exact this)
      obtain ⟨b1, o1, b2, o2, M1, M2, rfl, rfl, hrr, hcall, hi1, hi2⟩ := HSM.out
      have HRR := Lib.hid hrr
      have HCL := Lib.hid hcall
      have HI1 := Lib.hid hi1
      have HI2 := Lib.hid hi2
      have hk0 : (0 : Int) ≤ (k : Int) := by omega
      have hk1 : (k : Int) < (l.length : Int) := by omega
      clear hrr hcall hi1 hi2 HSM
      go_wp2_with fail
      refine wp_region_held_drew (S := SS) (by kernel_rfl) (HSA.out _ _ HSR.out ⟨rfl, rfl, rfl, Nat.le_refl _, fun _ _ => rfl⟩) (fun hSx => ?_)
      refine wpAnyH_take (i := 0) (oi := ⟨some 41, _, _, _, _, none⟩) (v := .pointer (some ⟨w.heap.size, 15, none⟩)) rfl (by kernel_rfl) (by kernel_rfl) (by kernel_rfl) (fun _ _ _ h => h) (Or.inl ⟨by kernel_rfl, ?_⟩) hSx ?_
      · intro wx hSx2; clear hSx; go_simp
      try simp only [Act.put, List.setIfInBounds_toArray]
      refine wpAnyH_take (i := 1) (oi := ⟨some 42, _, _, _, _, none⟩) (v := .slice (some ⟨b1, o1, none⟩) l.length cp) rfl (by kernel_rfl) (by kernel_rfl) (by kernel_rfl) (fun _ _ _ h => h) (Or.inl ⟨by kernel_rfl, ?_⟩) hSx ?_
      · intro wx hSx2; clear hSx; have hf0 := (HFA.out wx hSx2).2.2.1; go_simp
      try simp only [Act.put, List.setIfInBounds_toArray]
      refine wpAnyH_take (i := 2) (oi := ⟨some 43, _, _, _, _, none⟩) (v := .int .i64 k) rfl (by kernel_rfl) (by kernel_rfl) (by kernel_rfl) (fun _ _ _ h => h) (Or.inl ⟨by kernel_rfl, ?_⟩) hSx ?_
      · intro wx hSx2; clear hSx; go_simp
      try simp only [Act.put, List.setIfInBounds_toArray]
      refine wpAnyH_take (i := 3) (oi := ⟨some 44, _, _, _, _, none⟩) (v := .pointer (some ⟨b1, o1 + k * 19, none⟩)) rfl (by kernel_rfl) (by kernel_rfl) (by kernel_rfl) (fun _ _ _ h => h) (Or.inl ⟨by kernel_rfl, ?_⟩) hSx ?_
      · intro wx hSx2; clear hSx; go_simp
      try simp only [Act.put, List.setIfInBounds_toArray]
      refine wpAnyH_take (i := 4) (oi := ⟨some 45, _, _, _, _, none⟩) (v := .agg M1.toArray) rfl (by kernel_rfl) (by kernel_rfl) (by kernel_rfl) (fun _ _ _ h => h) (yieldsIf_load_mid (by kernel_rfl) 44 (.tmp 44) rfl b1 (o1 + k * 19) rfl M1 _ (fun W hW => (HRR.out W hW).1) Tryd.underlying44 rfl HI1.out) hSx ?_
      try simp only [Act.put, List.setIfInBounds_toArray]
      refine wpAnyH_take (i := 5) (oi := ⟨some 46, _, _, _, _, none⟩) (v := .pointer (some ⟨w.heap.size + 1, 15, none⟩)) rfl (by kernel_rfl) (by kernel_rfl) (by kernel_rfl) (fun _ _ _ h => h) (Or.inl ⟨by kernel_rfl, ?_⟩) hSx ?_
      · intro wx hSx2; clear hSx; go_simp
      try simp only [Act.put, List.setIfInBounds_toArray]
      refine wpAnyH_take (i := 6) (oi := ⟨some 47, _, _, _, _, none⟩) (v := .slice (some ⟨b2, o2, none⟩) l.length cq) rfl (by kernel_rfl) (by kernel_rfl) (by kernel_rfl) (fun _ _ _ h => h) (Or.inl ⟨by kernel_rfl, ?_⟩) hSx ?_
      · intro wx hSx2; clear hSx; have hf0 := (HFB.out wx hSx2).2.2.1; go_simp
      try simp only [Act.put, List.setIfInBounds_toArray]
      refine wpAnyH_take (i := 7) (oi := ⟨some 48, _, _, _, _, none⟩) (v := .int .i64 k) rfl (by kernel_rfl) (by kernel_rfl) (by kernel_rfl) (fun _ _ _ h => h) (Or.inl ⟨by kernel_rfl, ?_⟩) hSx ?_
      · intro wx hSx2; clear hSx; go_simp
      try simp only [Act.put, List.setIfInBounds_toArray]
      refine wpAnyH_take (i := 8) (oi := ⟨some 49, _, _, _, _, none⟩) (v := .pointer (some ⟨b2, o2 + k * 19, none⟩)) rfl (by kernel_rfl) (by kernel_rfl) (by kernel_rfl) (fun _ _ _ h => h) (Or.inl ⟨by kernel_rfl, ?_⟩) hSx ?_
      · intro wx hSx2; clear hSx; go_simp
      try simp only [Act.put, List.setIfInBounds_toArray]
      refine wpAnyH_take (i := 9) (oi := ⟨some 50, _, _, _, _, none⟩) (v := .agg M2.toArray) rfl (by kernel_rfl) (by kernel_rfl) (by kernel_rfl) (fun _ _ _ h => h) (yieldsIf_load_mid (by kernel_rfl) 44 (.tmp 49) rfl b2 (o2 + k * 19) rfl M2 _ (fun W hW => (HRR.out W hW).2) Tryd.underlying44 rfl HI2.out) hSx ?_
      try simp only [Act.put, List.setIfInBounds_toArray]
      refine wpAnyH_ready (rs := [10]) (by kernel_rfl) (by simp) ?_
      refine AllReadyH.cons (o := ⟨some 51, _, _, _, _, none⟩) rfl (fun KK hKK => ?_) AllReadyH.nil
      go_simp
      refine (HCL.out _ hSx).mono ?_
      rintro e wz ⟨rfl, hbz⟩
      refine hKK.out _ _ (HSA.out _ _ hSx hbz) (fun hSy => ?_)
      clear hKK hSx
      have hSx := hSy
      clear hSy KK
      try simp only [Act.put, List.setIfInBounds_toArray, List.set_cons_zero, List.set_cons_succ]
      refine wpAnyH_take (i := 11) (oi := ⟨some 52, _, _, _, _, none⟩) (v := .bool false) rfl (by kernel_rfl) (by kernel_rfl) (by kernel_rfl) (fun _ _ _ h => h) (Or.inl ⟨by kernel_rfl, ?_⟩) hSx ?_
      · intro wx hSx2; clear hSx; go_simp
      try simp only [Act.put, List.setIfInBounds_toArray]
      refine wpAnyH_done (by kernel_rfl) ?_ _
      have HS9 := Lib.hid hSx
      clear hSx
      go_wp2_with fail
      go_roundg (l.length - (k + 1))
      case measure => rw [HK.out]; omega
      case rel => exact ⟨k + 1, by omega, rfl, by go_num, HS9.out⟩
    · obtain rfl : k = l.length := by omega
      go_wp2
      go_ret
      exact ⟨rfl, HSB.out _ HSR.out⟩
end Go.Proofs.YtjakkmioofbcaaaDoor
namespace Go.Proofs.YtjakkmioofbcaaaDoor
open Go.RowKit
theorem splitK_eq (x : UInt8) : ∀ (n : Nat) (l : List UInt8), l.length ≤ n → Lib.splitK [x] 0 (Lib.count l [x]) l = splitL x l := by
  intro n
  induction n with
  | zero =>
    intro l hl
    obtain rfl : l = [] := List.length_eq_zero_iff.1 (by omega)
    rcases index_one x [] with ⟨h1, h2⟩ | ⟨h, t, e, _⟩
    · rw [Lib.count_miss h1, splitL_noSep h2]; rfl
    · simp at e
  | succ n ih =>
    intro l hl
    rcases index_one x l with ⟨h1, h2⟩ | ⟨h, t, e, hn, hi⟩
    · rw [Lib.count_miss h1, splitL_noSep h2]; rfl
    · rw [Lib.count_hit (by simp) hi, Nat.add_comm, Lib.splitK, hi, if_neg (by simp)]
      have e1 : l.take ((h.length : Int).toNat + 0) = h := by subst e; simp
      have e2 : l.drop ((h.length : Int).toNat + [x].length) = t := by subst e; simp
      rw [e1, e2, show h.length + [x].length = (h.length : Int).toNat + [x].length by simp, e2, ih t (by subst e; simp at hl; omega), e, splitL_app hn]
theorem splitB_eq (x : UInt8) (l : List UInt8) : Lib.splitB (str [x]) 0 (Lib.countB (str l) (str [x])) (str l) = (splitL x l).map str := by
  have h := Lib.splitB_data (str [x]) 0 (Lib.countB (str l) (str [x])) (str l)
  have h2 : Lib.splitK [x] 0 (Lib.countB (str l) (str [x])) l = splitL x l := splitK_eq x _ l (Nat.le_refl _)
  have h3 : (Lib.splitB (str [x]) 0 (Lib.countB (str l) (str [x])) (str l)).map (·.data.toList) = splitL x l := h.trans h2
  rw [← h3, List.map_map]
  conv => lhs; rw [← List.map_id (Lib.splitB _ _ _ _)]
  apply List.map_congr_left
  intro s _
  simp [str]
theorem count_len (x : UInt8) : ∀ (n : Nat) (l : List UInt8), l.length ≤ n → Lib.count l [x] + 1 = (splitL x l).length := by
  intro n
  induction n with
  | zero =>
    intro l hl
    obtain rfl : l = [] := List.length_eq_zero_iff.1 (by omega)
    rcases index_one x [] with ⟨h1, h2⟩ | ⟨h, t, e, _⟩
    · rw [Lib.count_miss h1, splitL_noSep h2]; rfl
    · simp at e
  | succ n ih =>
    intro l hl
    rcases index_one x l with ⟨h1, h2⟩ | ⟨h, t, e, hn, hi⟩
    · rw [Lib.count_miss h1, splitL_noSep h2]; rfl
    · rw [Lib.count_hit (by simp) hi, show l.drop (h.length + [x].length) = t by subst e; simp]
      have := ih t (by subst e; simp at hl; omega)
      rw [e, splitL_app hn, List.length_cons]
      omega
theorem split16 (l : List UInt8) (hl : l.length ≤ 4000000) (w : World) (hlg : Lg w) : Calls Tryd.prog 16 #[.string (str l), .string ⟨#[10]⟩] w fun e w' => ∃ v, e = .returned v ∧ Ws w' v (splitL 10 l) ∧ Below w.heap.size w w' := by
  obtain ⟨_, m, hm⟩ := hlg
  have h := Tryd.strings_Split (str l) (str [10]) m w (by rw [str_size]; omega) hm (by decide)
  refine h.mono ?_
  rintro e w' ⟨rfl, rfl⟩
  have hc : Lib.countB (str l) (str [10]) + 1 = (splitL 10 l).length := count_len 10 _ l (Nat.le_refl _)
  refine ⟨_, rfl, ?_, (Below.refl _ _).alloc (Nat.le_refl _) _⟩
  rw [hc, splitB_eq]
  refine ⟨⟨_, _, rfl⟩, fun _ => ⟨w.heap.size, 0, _, rfl, by simp, Nat.le_refl _, fun i hi => ?_⟩⟩
  rw [cell_of_row _ _ _ _ _ _ (heap_alloc_new w _)]
  simp [List.getD, hi]
/-- without a last line's end -/
def trimL (l : List UInt8) : List UInt8 := Lib.trimSuffix l [10]
theorem trim17 (l : List UInt8) (hl : l.length ≤ 4000000) (w : World) : Calls Tryd.prog 17 #[.string (str l), .string ⟨#[10]⟩] w fun e w' => e = .returned (.string (str (trimL l))) ∧ w' = w :=
  Tryd.strings_TrimSuffix (str l) (str [10]) w (by rw [str_size]; omega)
theorem trim_len (l : List UInt8) : (trimL l).length ≤ l.length := by
  unfold trimL Lib.trimSuffix
  split
  · simp
  · exact Nat.le_refl _
set_option maxRecDepth 100000 in
set_option maxHeartbeats 1000000 in
theorem parse5_long (l : List UInt8) (hl : l.length ≤ 4000000) (h : 65536 < l.length) (w : World) : Calls Tryd.prog 19 #[.string (str l)] w fun e w' => GiveSt w.heap.size zSt e w' (.int .i64 2) ∧ Below w.heap.size w w' := by
  have hlz : (str l).size = l.length := str_size l
  have HIZ : Hid ((Tryd.prog.info? 44).map (·.size) = some (stL 0 0 [] [] 0 (.slice none 0 0) c0).toArray.size) := Lib.hid info30
  have HOZ : Hid ((stL 0 0 [] [] 0 (.slice none 0 0) c0).toArray.all (·.oneCell') = true) := Lib.hid (stL_one _ _ _ _ _ _ _ _ _)
  have HG1 : Hid ((w.alloc (.cells #[.int .i64 0, .int .i64 0, .string ⟨#[]⟩, .string ⟨#[]⟩, .int .i64 0, .slice none 0 0, .int .i64 0, .int .i64 0, .int .i64 0, .int .i64 0, .int .i64 0, .int .i64 0, .int .i64 0, .int .i64 0, .int .i64 0, .int .i64 0, .int .i64 0, .int .i64 0, .int .i64 0] 44)).heap[w.heap.size]? = some (.cells #[.int .i64 0, .int .i64 0, .string ⟨#[]⟩, .string ⟨#[]⟩, .int .i64 0, .slice none 0 0, .int .i64 0, .int .i64 0, .int .i64 0, .int .i64 0, .int .i64 0, .int .i64 0, .int .i64 0, .int .i64 0, .int .i64 0, .int .i64 0, .int .i64 0, .int .i64 0, .int .i64 0] 44 (0, 0))) := Lib.hid (heap_alloc_new w _)
  have HB1 : Hid (Below w.heap.size w (w.alloc (.cells #[.int .i64 0, .int .i64 0, .string ⟨#[]⟩, .string ⟨#[]⟩, .int .i64 0, .slice none 0 0, .int .i64 0, .int .i64 0, .int .i64 0, .int .i64 0, .int .i64 0, .int .i64 0, .int .i64 0, .int .i64 0, .int .i64 0, .int .i64 0, .int .i64 0, .int .i64 0, .int .i64 0] 44))) := Lib.hid ((Below.refl _ _).alloc (Nat.le_refl _) _)
  have hd : decide ((65536 : Int) < (l.length : Int)) = true := by simp; omega
  clear h
  go_enter Tryd.func19, Tryd.ntmps19
  go_wp2_with (first
    | ((with_reducible refine wpList_store_row (o := ⟨none, _, _, _, _, _⟩) rfl 44 (.tmp 2) (.tmp 9) rfl w.heap.size (stL 0 0 [] [] 0 (.slice none 0 0) c0).toArray ?_ ?_ 44 _ HG1.out HIZ.out rfl HOZ.out ?_); rfl; rfl))
  exact bodyPost_ret (results_row2 rfl _ _ w.heap.size 44 (stL 0 0 [] [] 0 (.slice none 0 0) c0).toArray (0, 0) _ rfl (setRow_heap _ _ _ _ _ _ HG1.out) Tryd.underlying44 rfl HIZ.out) rfl ⟨⟨none, 0, Kp.nil _, noA, ⟨by simp [zSt], by simp [zSt], by simp [zSt]⟩, rfl⟩, below_setRow HB1.out (Nat.le_refl _) _⟩
theorem parse5x (l : List UInt8) (hl : l.length ≤ 4000000) (w : World) (hlg : Lg w) : Calls Tryd.prog 19 #[.string (str l)] w fun e w' => GiveSt w.heap.size (parseS l) e w' (.int .i64 (parseE l)) ∧ Below w.heap.size w w' := by
  by_cases h : 65536 < l.length
  · have h1 : parseS l = zSt := if_pos h
    have h2 : parseE l = 2 := if_pos h
    rw [h1, h2]
    exact parse5_long l hl h w
  · exact parse5 l (by omega) w hlg
end Go.Proofs.YtjakkmioofbcaaaDoor
namespace Go.Proofs.YtjakkmioofbcaaaDoor
open Go.RowKit
theorem foldl_set : ∀ (l : List Value) (k : Nat) (cs : Array Value), k + l.length ≤ cs.size → ∀ i : Nat,
    ((l.zipIdx k).foldl (fun (cs : Array Value) (x : Value × Nat) => cs.setIfInBounds (0 + x.2) x.1) cs)[i]? = if k ≤ i ∧ i < k + l.length then l[i - k]? else cs[i]?
  | [], k, cs, _, i => by simp; intro h1 h2; omega
  | v :: r, k, cs, h, i => by
    rw [List.zipIdx_cons, List.foldl_cons, foldl_set r (k + 1) _ (by simp at h ⊢; omega) i]
    simp only [List.length_cons, Nat.zero_add] at h ⊢
    by_cases h1 : k + 1 ≤ i ∧ i < k + 1 + r.length
    · rw [if_pos h1, if_pos (by omega), show i - k = (i - (k + 1)) + 1 by omega, List.getElem?_cons_succ]
    · rw [if_neg h1, Array.getElem?_setIfInBounds]
      by_cases h2 : k = i
      · subst h2
        rw [if_pos rfl, if_pos (by omega), if_pos (by omega)]
        simp
      · rw [if_neg h2, if_neg (by omega)]
theorem foldl_fill (l : List Value) (cs : Array Value) (h : l.length = cs.size) : (l.zipIdx.foldl (fun (cs : Array Value) (x : Value × Nat) => cs.setIfInBounds (0 + x.2) x.1) cs) = l.toArray := by
  apply Array.ext_getElem?
  intro i
  rw [foldl_set l 0 cs (by omega) i]
  by_cases hi : i < l.length
  · rw [if_pos (by omega)]; simp
  · rw [if_neg (by omega)]
    rw [Array.getElem?_eq_none (by omega)]
    simp; omega
section
variable {P : Program}
theorem run_buildSlice_one (w : World) (t e : TypeId) (n : Nat) (z : Value) (l : List Value) (ht : P.underlying t = some (.slice e)) (hs : ∀ w, (sizeOf e).run P w = .ok n w) (hz : ∀ w, (zeroValue e).run P w = .ok z w) (hn : 0 < n) (hn2 : n ≤ 4096) (hl : l.length = n) :
    (Instr.buildSlice t 1 #[(0, .agg l.toArray)]).run P w = .ok (.slice (some ⟨w.heap.size, 0, none⟩) 1 1) (w.alloc (.cells l.toArray e)) := by
  have h1 : ¬ (1 * n > 2 ^ 24) := by omega
  have h2 : ¬ (1 * n = 0) := by omega
  have hf : Instr.fill (fun i => some (i * n, n)) ((Array.range (1 * n)).map (z.cells[· % z.cells.size]!)) [(0, .agg l.toArray)] = some l.toArray := by
    generalize hcs : (Array.range (1 * n)).map (z.cells[· % z.cells.size]!) = cs
    have hsz : cs.size = n := by rw [← hcs]; simp
    have h3 := foldl_fill l cs (by omega)
    simp only [Instr.fill, Value.cells, List.size_toArray, hl, Nat.zero_mul]
    rw [if_neg (by simp [hsz])]
    simp only [Nat.zero_add] at h3
    simp [h3]
  simp only [Instr.buildSlice, Sem.run_bind, run_underlying ht, Result.andThen_ok, hs, if_neg h1, if_neg h2, Sem.run_pure, hz, hf]
  simp [newRow]
theorem wpList_build_one {ops : Array Oper} {rest : List Oper} {op : Oper} {a : Act} {w : World} {Q : Exit → Act → World → Prop} (hgd : op.guard = none) (t : TypeId) (x : Operand) (ho : op.op = .buildSlice t 1 #[(0, x)])
    (e : TypeId) (n : Nat) (z : Value) (l : List Value) (hx : a.eval x = .agg l.toArray) (ht : P.underlying t = some (.slice e)) (hs : ∀ w, (sizeOf e).run P w = .ok n w) (hz : ∀ w, (zeroValue e).run P w = .ok z w) (hn : 0 < n) (hn2 : n ≤ 4096) (hl : l.length = n)
    (h : wpList P ops Q rest (a.put op.dst (.slice (some ⟨w.heap.size, 0, none⟩) 1 1)) (w.alloc (.cells l.toArray e))) : wpList P ops Q (op :: rest) a w :=
  wpList_plain hgd fun _ hK => by
    have hr := run_buildSlice_one w t e n z l ht hs hz hn hn2 hl
    unfold Oper.wp execOp
    simp only [ho, List.map_toArray, List.map_cons, List.map_nil, hx, Sem.run_bind, hr, Sem.run_pure, Result.andThen_ok]
    exact hK _ _ h
end

theorem results_row3 {P : Program} {fn : Func} {p q r : Tmp} {ty : TypeId} (h : fn.results = #[.cell p ty, .tmp q, .tmp r]) (tmps : Array Value) (w : World) (g : Nat) (t : TypeId) (cs : Array Value) (fr : Nat × Nat) (d : TypeDesc)
    (hp : tmps.getD p undef = .pointer (some ⟨g, 0, none⟩)) (hg : w.heap[g]? = some (.cells cs t fr))
    (hu : P.underlying ty = some d) (hd : (match d with | .struct _ | .array _ _ => true | _ => false) = true) (hi : (P.info? ty).map (·.size) = some cs.size) :
    (results fn tmps).run P w = .ok (.tuple #[.agg cs, tmps.getD q undef, tmps.getD r undef]) w := by
  have hp' : tmps[p]?.getD undef = .pointer (some ⟨g, 0, none⟩) := by simpa using hp
  simp [results, h, hp', asAddr, run_loadVar_row w g t ty cs fr d hg hu hd hi]
def flatP (ps : List (St × Value)) : List Value := ps.flatMap fun p => p.1.L p.2
theorem stL_len (s : St) (V : Value) : (s.L V).length = 19 := rfl
theorem flat_len (ps : List (St × Value)) : (flatP ps).length = ps.length * 19 := by
  induction ps with
  | nil => rfl
  | cons p r ih => rw [flatP, List.flatMap_cons, List.length_append, stL_len]; rw [flatP] at ih; rw [ih]; simp; omega
theorem flat_get : ∀ (ps : List (St × Value)) (i j : Nat) (p : St × Value) (v : Value), ps[i]? = some p → (p.1.L p.2)[j]? = some v → (flatP ps)[i * 19 + j]? = some v
  | [], i, j, p, v, h, _ => by simp at h
  | q :: r, 0, j, p, v, h, hj => by
    simp at h
    subst h
    rw [flatP, List.flatMap_cons, List.getElem?_append_left (by rw [stL_len]; have := (List.getElem?_eq_some_iff.1 hj).1; rw [stL_len] at this; omega)]
    simpa using hj
  | q :: r, i + 1, j, p, v, h, hj => by
    rw [flatP, List.flatMap_cons, List.getElem?_append_right (by rw [stL_len]; omega), stL_len, show (i + 1) * 19 + j - 19 = i * 19 + j by omega]
    exact flat_get r i j p v (by simpa using h) hj
theorem flat_snoc (ps : List (St × Value)) (s : St) (K : Value) : flatP (ps ++ [(s, K)]) = flatP ps ++ s.L K := by simp [flatP]
structure Sows (w : World) (base : Nat) (V : Value) (ps : List (St × Value)) : Prop where
  own : w.ownsRow base 44 19 V ps.length (flatP ps)
  el : ∀ p ∈ ps, ∃ A cap, p.2 = .slice A p.1.kp.length cap ∧ Kp w p.2 p.1.kp ∧ Fits p.1 ∧ (p.1.kp ≠ [] → ∀ a, A = some a → V.ownBlock ≠ some a.block)
theorem Sows.nil (w : World) (base : Nat) : Sows w base (.slice none 0 0) [] := ⟨World.ownsRow_nil _ _ _ _, fun p hp => by cases hp⟩
theorem Sows.sts {w : World} {base : Nat} {V : Value} {ps : List (St × Value)} (h : Sows w base V ps) : Sts w V (ps.map (·.1)) := by
  have hl : (ps.map (·.1)).length = ps.length := by simp
  rcases h.own.2 with ⟨h2, hn⟩ | ⟨g, cap, cur, h2, hg, hh, hn, hm, hs, ht⟩
  · obtain rfl : ps = [] := List.length_eq_zero_iff.1 hn
    subst h2
    exact Sts.nil w
  · refine ⟨⟨_, _, by rw [hl]; exact h2⟩, fun _ => ⟨g, 0, cap, by rw [hl]; exact h2, (Array.getElem?_eq_some_iff.1 hh).1, fun i s hi => ?_⟩⟩
    rw [List.getElem?_map] at hi
    obtain ⟨p, hp, rfl⟩ := Option.map_eq_some_iff.1 hi
    obtain ⟨A, c, e, hk, _, _⟩ := h.el p (List.mem_of_getElem? hp)
    refine ⟨A, c, fun j v hj => ?_, by rw [← e]; exact hk⟩
    rw [← e] at hj
    have hf := flat_get ps i j p v hp hj
    rw [← ht] at hf
    rw [cell_of_row w g _ cur 44 _ hh, Nat.zero_add]
    have hlt := (List.getElem?_eq_some_iff.1 hf).1
    rw [List.length_take] at hlt
    rw [List.getElem?_take_of_lt (by omega)] at hf
    simpa using hf
theorem Kp.grown {w w' : World} {A : Option Addr} {n cap : Nat} {l : List Bool} {row : Option Nat} (h : Kp w (.slice A n cap) l) (hg : w.grownBy w' row) (hne : l ≠ [] → ∀ a, A = some a → row ≠ some a.block) : Kp w' (.slice A n cap) l := by
  refine ⟨h.1, fun hl => ?_⟩
  obtain ⟨b, o, c, e, hb, hc⟩ := h.2 hl
  refine ⟨b, o, c, e, Nat.lt_of_lt_of_le hb hg.size, fun i hi => hg.cell (hc i hi) ?_⟩
  injection e with e1
  exact fun q => hne hl _ e1 q.symm
theorem Sows.below {w w' : World} {base : Nat} {V : Value} {ps : List (St × Value)} (h : Sows w base V ps) (hb : Below w.heap.size w w') : Sows w' base V ps :=
  ⟨own_below h.own hb, fun p hp => by obtain ⟨A, c, e, hk, hf, hn⟩ := h.el p hp; exact ⟨A, c, e, hk.below hb, hf, hn⟩⟩
theorem Sows.push {w w2 : World} {base : Nat} {V V2 : Value} {ps : List (St × Value)} {s : St} {A : Option Addr} {cap : Nat} (h : Sows w base V ps) (hk : Kp w (.slice A s.kp.length cap) s.kp) (hf : Fits s) (hA : s.kp ≠ [] → ∀ a, A = some a → V.ownBlock ≠ some a.block)
    (own : w2.ownsRow base 44 19 V2 (ps.length + 1) (flatP ps ++ s.L (.slice A s.kp.length cap))) (hg : w.grownBy w2 V.ownBlock) (hat : V2.ownBlock = V.ownBlock ∨ V2.ownBlock = some w.heap.size) : Sows w2 base V2 (ps ++ [(s, .slice A s.kp.length cap)]) := by
  have key : ∀ (t : St) (B : Option Addr) (c : Nat), Kp w (.slice B t.kp.length c) t.kp → (t.kp ≠ [] → ∀ a, B = some a → V.ownBlock ≠ some a.block) → (t.kp ≠ [] → ∀ a, B = some a → V2.ownBlock ≠ some a.block) := by
    intro t B c hk2 hn hne a ha
    rcases hat with e | e
    · rw [e]; exact hn hne a ha
    · rw [e]
      obtain ⟨b, o, c', e2, hb, _⟩ := hk2.2 hne
      injection e2 with e2
      rw [e2] at ha
      injection ha with ha
      subst ha
      intro q
      injection q with q
      have q2 : w.heap.size = b := q
      omega
  refine ⟨by rw [flat_snoc, List.length_append]; exact own, fun p hp => ?_⟩
  rcases List.mem_append.1 hp with hp | hp
  · obtain ⟨B, c, e, hk2, hf2, hn⟩ := h.el p hp
    rw [e] at hk2 ⊢
    exact ⟨B, c, rfl, hk2.grown hg hn, hf2, key p.1 B c hk2 hn⟩
  · rw [List.mem_singleton] at hp
    subst hp
    exact ⟨A, cap, rfl, hk.grown hg hA, hf, key s A cap hk hA⟩
theorem scL_nb {w : World} {g : Nat} {a b : Int} {c : Fin 13 → Int} {A : Option Addr} {n k : Nat} {t : TypeId} {fr : Nat × Nat} (h : w.heap[g]? = some (.cells (scL a b c (.slice A n k)).toArray t fr)) : ∀ j x, w.cell? ⟨g, j, none⟩ ≠ some (.bool x) := by
  intro j x hx
  rw [cell_of_row w g j _ _ _ h] at hx
  have : Value.bool x ∈ scL a b c (.slice A n k) := List.mem_of_getElem? (by simpa using hx)
  simp [scL] at this
theorem own_setRow2 {w : World} {base g n e size : Nat} {v : Value} {xs : List Value} {cs : Array Value} (h : w.ownsRow base e size v n xs) (hg : g < base) : (w.setRow g cs).ownsRow base e size v n xs := by
  refine ⟨h.1, ?_⟩
  rcases h.2 with h2 | ⟨b, cap, cur, hv, hb, hr, hrest⟩
  · exact .inl h2
  · exact .inr ⟨b, cap, cur, hv, hb, by rw [setRow_other _ _ _ _ (by omega)]; exact hr, hrest⟩
theorem Sows.setRow {w : World} {base g : Nat} {V : Value} {ps : List (St × Value)} {cs : Array Value} (h : Sows w base V ps) (hg : g < base) (hn : ∀ j x, w.cell? ⟨g, j, none⟩ ≠ some (.bool x)) : Sows (w.setRow g cs) base V ps :=
  ⟨own_setRow2 h.own hg, fun p hp => by obtain ⟨A, c, e, hk, hf, hne⟩ := h.el p hp; exact ⟨A, c, e, Kp.setRow hk hn, hf, hne⟩⟩
/-- the steps of lines, or the number of the first line that is none's, and why -/
def readGo : List (List UInt8) → List St → Nat → Option (List St) × Nat × Int
  | [], acc, i => (some acc, i, 0)
  | x :: r, acc, i => if parseE x = 0 then readGo r (acc ++ [parseS x]) (i + 1) else (none, i + 1, parseE x)
def ScT := Int × Int × (Fin 13 → Int) × List St
def readLs (ls : List (List UInt8)) : Option ScT × Nat × Int :=
  if 65536 < (ls.getD 0 []).length then (none, 0, 2) else match headP (splitL 32 (ls.getD 0 [])) with
    | none => (none, 0, 300)
    | some (a, b, c) => match readGo ls.tail [] 0 with
      | (some st, _, _) => (some (a, b, c, st), ls.length, 0)
      | (none, n, e) => (none, n, e)
def readP (l : List UInt8) : Option ScT × Nat × Int := readLs (splitL 10 (trimL l))
def GiveSc (x : Option ScT × Nat × Int) (e : Ending) (w' : World) : Prop := match x with
  | (none, n, er) => e = .returned (.tuple #[.agg (scL 0 0 c0 (.slice none 0 0)).toArray, .int .i64 n, .int .i64 er])
  | (some (a, b, c, l), n, er) => ∃ V, Sts w' V l ∧ (∀ s ∈ l, Fits s) ∧ e = .returned (.tuple #[.agg (scL a b c V).toArray, .int .i64 n, .int .i64 er])
theorem giveSc_none {n : Nat} {er m : Int} {w : World} (h : m = n) : GiveSc (none, n, er) (.returned (.tuple #[.agg (scL 0 0 c0 (.slice none 0 0)).toArray, .int .i64 m, .int .i64 er])) w := by subst h; rfl
theorem giveSc_some {a b : Int} {c : Fin 13 → Int} {l : List St} {V : Value} {n : Nat} {er m : Int} {w : World} (h : m = n) (hs : Sts w V l) (hf : ∀ s ∈ l, Fits s) : GiveSc (some (a, b, c, l), n, er) (.returned (.tuple #[.agg (scL a b c V).toArray, .int .i64 m, .int .i64 er])) w := by subst h; exact ⟨V, hs, hf, rfl⟩
theorem scL_set (a b : Int) (c : Fin 13 → Int) (V U : Value) : (scL a b c V).toArray.setIfInBounds 15 U = (scL a b c U).toArray := rfl
theorem info44 : (Tryd.prog.info? 44).map (fun i => (i.zero, i.size, i.bytes)) = some (some (.agg (stL 0 0 [] [] 0 (.slice none 0 0) c0).toArray), 19, 184) := by kernel_rfl
end Go.Proofs.YtjakkmioofbcaaaDoor
namespace Go.Proofs.YtjakkmioofbcaaaDoor
open Go.RowKit
set_option maxRecDepth 100000 in
set_option maxHeartbeats 8000000 in
theorem read5 (l : List UInt8) (hl : l.length ≤ 1000000) (w : World) (hlg : Lg w) : Calls Tryd.prog 5 #[.string (str l)] w fun e w' => GiveSc (readP l) e w' ∧ Below w.heap.size w w' := by
  have HIZ : Hid ((Tryd.prog.info? 26).map (·.size) = some (scL 0 0 c0 (.slice none 0 0)).toArray.size) := Lib.hid info26
  have HOZ : Hid ((scL 0 0 c0 (.slice none 0 0)).toArray.all (·.oneCell') = true) := Lib.hid (scL_one _ _ _ _ _ _)
  have HG1 : Hid ((w.alloc (.cells #[.int .i64 0, .int .i64 0, .int .i64 0, .int .i64 0, .int .i64 0, .int .i64 0, .int .i64 0, .int .i64 0, .int .i64 0, .int .i64 0, .int .i64 0, .int .i64 0, .int .i64 0, .int .i64 0, .int .i64 0, .slice none 0 0] 26)).heap[w.heap.size]? = some (.cells #[.int .i64 0, .int .i64 0, .int .i64 0, .int .i64 0, .int .i64 0, .int .i64 0, .int .i64 0, .int .i64 0, .int .i64 0, .int .i64 0, .int .i64 0, .int .i64 0, .int .i64 0, .int .i64 0, .int .i64 0, .slice none 0 0] 26 (0, 0))) := Lib.hid (heap_alloc_new w _)
  have HB1 : Hid (Below w.heap.size w (w.alloc (.cells #[.int .i64 0, .int .i64 0, .int .i64 0, .int .i64 0, .int .i64 0, .int .i64 0, .int .i64 0, .int .i64 0, .int .i64 0, .int .i64 0, .int .i64 0, .int .i64 0, .int .i64 0, .int .i64 0, .int .i64 0, .slice none 0 0] 26))) := Lib.hid ((Below.refl _ _).alloc (Nat.le_refl _) _)
  have HS1 : Hid ((w.alloc (.cells #[.int .i64 0, .int .i64 0, .int .i64 0, .int .i64 0, .int .i64 0, .int .i64 0, .int .i64 0, .int .i64 0, .int .i64 0, .int .i64 0, .int .i64 0, .int .i64 0, .int .i64 0, .int .i64 0, .int .i64 0, .slice none 0 0] 26)).heap.size = w.heap.size + 1) := Lib.hid (World.size_alloc _ _)
  have HLG1 : Hid (Lg (w.alloc (.cells #[.int .i64 0, .int .i64 0, .int .i64 0, .int .i64 0, .int .i64 0, .int .i64 0, .int .i64 0, .int .i64 0, .int .i64 0, .int .i64 0, .int .i64 0, .int .i64 0, .int .i64 0, .int .i64 0, .int .i64 0, .slice none 0 0] 26))) := Lib.hid (hlg.below hlg.1 HB1.out)
  have HLGW : Hid (∀ W, Below w.heap.size w W → Lg W) := Lib.hid (fun W hb => hlg.below hlg.1 hb)
  have hsz : (str l).size = l.length := str_size l
  have hd : decide ((1048576 : Int) < (l.length : Int)) = false := by simp; omega
  have HT := Lib.hid (trim17 l (by omega))
  have HTL : Hid ((trimL l).length ≤ 1000000) := Lib.hid (Nat.le_trans (trim_len l) hl)
  have HSP := Lib.hid (split16 (trimL l) (Nat.le_trans (trim_len l) (by omega)) _ HLG1.out)
  have HRP : Hid (readP l = readLs (splitL 10 (trimL l))) := Lib.hid rfl
  have HSL := Lib.hid (splitL_sum 10 (trimL l))
  have hwn := splitL_ne 10 (trimL l)
  have HCNT : Hid ((splitL 10 (trimL l)).length ≤ 1000001) := Lib.hid (by
    have h1 := count_len 10 _ (trimL l) (Nat.le_refl _)
    have h2 : Lib.count (trimL l) [10] ≤ (trimL l).length := by
      have := Lib.countB_le (str [10]) (by decide) _ (str (trimL l)) (Nat.le_refl _)
      rw [str_size] at this
      exact this
    have := HTL.out
    omega)
  rw [HRP.out]
  clear HRP
  generalize splitL 10 (trimL l) = ls at *
  generalize trimL l = tl at *
  go_enter Tryd.func5, Tryd.ntmps5
  go_wp2_with fail
  refine Calls.mono (HT.out _) ?_
  rintro e w1 ⟨rfl, rfl⟩
  go_wp2_with fail
  refine Calls.mono HSP.out ?_
  rintro e w2 ⟨v, rfl, hws, hb2⟩
  obtain ⟨b, o, cp, rfl, hlt, hcap, hc⟩ := hws.2 hwn
  have HWS := Lib.hid hws
  have HCAP := Lib.hid hcap
  have HLT := Lib.hid hlt
  have HB2 : Hid (Below (w.heap.size + 1) (w.alloc (.cells #[.int .i64 0, .int .i64 0, .int .i64 0, .int .i64 0, .int .i64 0, .int .i64 0, .int .i64 0, .int .i64 0, .int .i64 0, .int .i64 0, .int .i64 0, .int .i64 0, .int .i64 0, .int .i64 0, .int .i64 0, .slice none 0 0] 26)) w2) := Lib.hid (hb2.mono (by simp))
  have HBW : Hid (Below w.heap.size w w2) := Lib.hid (HB1.out.trans (HB2.out.mono (by omega)))
  have HG2 : Hid (w2.heap[w.heap.size]? = some (.cells #[.int .i64 0, .int .i64 0, .int .i64 0, .int .i64 0, .int .i64 0, .int .i64 0, .int .i64 0, .int .i64 0, .int .i64 0, .int .i64 0, .int .i64 0, .int .i64 0, .int .i64 0, .int .i64 0, .int .i64 0, .slice none 0 0] 26 (0, 0))) := Lib.hid ((HB2.out.block _ (by omega)).trans HG1.out)
  have HSZ2 : Hid (w.heap.size + 1 ≤ w2.heap.size) := Lib.hid (by have := HB2.out.size; rwa [HS1.out] at this)
  have hlen : 0 < ls.length := List.length_pos_iff.2 hwn
  have hc0 : w2.cell? ⟨b, o, none⟩ = some (.string (str (ls.getD 0 []))) := by have := hc 0 hlen; rwa [Nat.add_zero] at this
  have HX : Hid (∀ j, (ls.getD j []).length ≤ 1000000) := Lib.hid (fun j => by
    by_cases hj : j < ls.length
    · exact Nat.le_trans (HSL.out _ (by simp [List.getD, hj])) HTL.out
    · simp [List.getD, List.getElem?_eq_none (by omega : ls.length ≤ j)])
  have hlenI : (0 : Int) < (ls.length : Int) := by omega
  have HHD := Lib.hid (headed18 (ls.getD 0 []) w2 (HLGW.out _ HBW.out) (by have := HX.out 0; omega))
  clear hws hb2 hc hlt hcap hwn HT HSP HSL hsz hl hlg
  -- the head
  obtain ⟨HA, hb, hc', er, hhv, hok, hbad⟩ : ∃ (a b' : Int) (c : Fin 13 → Int) (er : Int), headE (ls.getD 0 []) = .tuple #[.agg (scL a b' c (.slice none 0 0)).toArray, .int .i64 er] ∧
      (er = 0 → readLs ls = match readGo ls.tail [] 0 with | (some st, _, _) => (some (a, b', c, st), ls.length, 0) | (none, n, e) => (none, n, e)) ∧ (er ≠ 0 → readLs ls = (none, 0, er)) := by
    unfold headE readLs
    split
    · exact ⟨0, 0, c0, 2, rfl, fun h => absurd h (by decide), fun _ => rfl⟩
    · cases headP (splitL 32 (ls.getD 0 [])) with
      | none => exact ⟨0, 0, c0, 300, rfl, fun h => absurd h (by decide), fun _ => rfl⟩
      | some x => obtain ⟨a, b', c⟩ := x; exact ⟨a, b', c, 0, rfl, fun _ => rfl, fun h => absurd rfl h⟩
  rw [hhv] at HHD
  clear hhv
  have HIS : Hid ((Tryd.prog.info? 26).map (·.size) = some (scL HA hb hc' (.slice none 0 0)).toArray.size) := Lib.hid info26
  have HOS : Hid ((scL HA hb hc' (.slice none 0 0)).toArray.all (·.oneCell') = true) := Lib.hid (scL_one _ _ _ _ _ _)
  have HZS : Hid ((#[.int .i64 0, .int .i64 0, .int .i64 0, .int .i64 0, .int .i64 0, .int .i64 0, .int .i64 0, .int .i64 0, .int .i64 0, .int .i64 0, .int .i64 0, .int .i64 0, .int .i64 0, .int .i64 0, .int .i64 0, .slice none 0 0] : Array Value).size = (scL HA hb hc' (.slice none 0 0)).toArray.size) := Lib.hid rfl
  generalize ls.getD 0 [] = x0 at *
  by_cases her : er = 0
  case neg =>
    have HE : Hid (readLs ls = (none, 0, er)) := Lib.hid (hbad her)
    have e1 : (er == 0) = false := by simpa using her
    have e2 : (er != 0) = true := by simpa using her
    clear hok hbad her
    generalize scL HA hb hc' (.slice none 0 0) = SL at *
    go_wp2_with fail
    refine Calls.mono HHD.out ?_
    rintro e w3 ⟨rfl, hb3⟩
    have HG3 : Hid ((w3.alloc (.cells SL.toArray 26)).heap[w.heap.size]? = some (.cells #[.int .i64 0, .int .i64 0, .int .i64 0, .int .i64 0, .int .i64 0, .int .i64 0, .int .i64 0, .int .i64 0, .int .i64 0, .int .i64 0, .int .i64 0, .int .i64 0, .int .i64 0, .int .i64 0, .int .i64 0, .slice none 0 0] 26 (0, 0))) := Lib.hid ((Below.heap_alloc _ _ _ (by have := hb3.size; have := HSZ2.out; omega)).trans ((hb3.block _ (by have := HSZ2.out; omega)).trans HG2.out))
    have HBW3 : Hid (Below w.heap.size w (w3.alloc (.cells SL.toArray 26))) := Lib.hid ((HBW.out.trans (hb3.mono HBW.out.size)).alloc (by have := hb3.size; have := HSZ2.out; omega) _)
    clear hb3
    go_wp2_with (first
      | ((with_reducible refine wpList_store_new (op := ⟨none, _, _, _, _, _⟩) rfl 26 (.tmp 6) (.tmp 24) rfl w3.heap.size _ SL.toArray rfl ?_ ?_ HIS.out HZS.out HOS.out ?_); rfl; rfl)
      | ((with_reducible refine wpList_store_row (o := ⟨none, _, _, _, _, _⟩) rfl 26 (.tmp 2) (.tmp 28) rfl w.heap.size (scL 0 0 c0 (.slice none 0 0)).toArray ?_ ?_ 26 _ HG3.out HIZ.out rfl HOZ.out ?_); rfl; rfl))
    rw [HE.out]
    exact bodyPost_ret (results_row3 rfl _ _ w.heap.size 26 (scL 0 0 c0 (.slice none 0 0)).toArray (0, 0) _ rfl (setRow_heap _ _ _ _ _ _ HG3.out) Tryd.underlying26 rfl HIZ.out) rfl ⟨giveSc_none rfl, below_setRow HBW3.out (Nat.le_refl _) _⟩
  subst her
  have HOK := Lib.hid (hok rfl)
  clear hok hbad
  go_wp2_with fail
  refine Calls.mono HHD.out ?_
  rintro e w3 ⟨rfl, hb3⟩
  have HG3 : Hid (w3.heap[w.heap.size]? = some (.cells #[.int .i64 0, .int .i64 0, .int .i64 0, .int .i64 0, .int .i64 0, .int .i64 0, .int .i64 0, .int .i64 0, .int .i64 0, .int .i64 0, .int .i64 0, .int .i64 0, .int .i64 0, .int .i64 0, .int .i64 0, .slice none 0 0] 26 (0, 0))) := Lib.hid ((hb3.block _ (by have := HSZ2.out; omega)).trans HG2.out)
  have HBW3 : Hid (Below w.heap.size w w3) := Lib.hid (HBW.out.trans (hb3.mono HBW.out.size))
  have HWS3 : Hid (Ws w3 (.slice (some ⟨b, o, none⟩) ls.length cp) ls) := Lib.hid (HWS.out.below (Nat.le_refl _) hb3)
  have HSZ3 : Hid (w.heap.size + 1 ≤ w3.heap.size ∧ b < w3.heap.size) := Lib.hid (by have := hb3.size; have := HSZ2.out; have := HLT.out; omega)
  clear hb3 HHD HWS HLT HSZ2 HG2 HBW
  have hlI : (1 : Int) ≤ (ls.length : Int) := by omega
  have hcI : (ls.length : Int) ≤ (cp : Int) := by have := HCAP.out; omega
  have HTAIL : Hid (Ws w3 (.slice (some ⟨b, o + 1, none⟩) (ls.length - 1) (cp - 1)) ls.tail) := Lib.hid (by have := HWS3.out.drop 1 (by omega); rwa [List.drop_one] at this)
  have HTL1 : Hid (ls.tail.length = ls.length - 1) := Lib.hid (by simp)
  have HXT : Hid (∀ x ∈ ls.tail, x.length ≤ 1000000) := Lib.hid (fun x hx => by
    obtain ⟨j, hj, rfl⟩ := List.getElem_of_mem (List.mem_of_mem_tail hx)
    have := HX.out j
    simpa [List.getD, hj] using this)
  clear HX HWS3
  generalize ls.tail = T at *
  obtain ⟨i44, hi44, hz44, hs44, hy44⟩ := info_parts info44
  have I44 := Lib.hid hi44
  have Z44 := Lib.hid hz44
  have S44 := Lib.hid hs44
  have Y44 := Lib.hid hy44
  clear hi44 hz44 hs44 hy44
  obtain ⟨SL0, hSL0⟩ : ∃ L, scL HA hb hc' (.slice none 0 0) = L := ⟨_, rfl⟩
  have HSL0 := Lib.hid hSL0
  have HINV0 : Hid (∃ V ps, (w3.alloc (.cells SL0.toArray 26)).heap[w3.heap.size]? = some (.cells (scL HA hb hc' V).toArray 26 (0, 0)) ∧ Sows (w3.alloc (.cells SL0.toArray 26)) (w3.heap.size + 1) V ps ∧ Below w3.heap.size w3 (w3.alloc (.cells SL0.toArray 26)) ∧ ps.length = 0 ∧ readGo (T.drop 0) (ps.map (·.1)) 0 = readGo T [] 0) := Lib.hid
    ⟨.slice none 0 0, [], by rw [← hSL0]; exact heap_alloc_new w3 _, Sows.nil _ _, (Below.refl _ _).alloc (Nat.le_refl _) _, rfl, rfl⟩
  rw [hSL0] at HIS HOS HZS ⊢
  clear hSL0
  have HBG : Hid (∀ W, Below w3.heap.size w3 W → Below w.heap.size w W) := Lib.hid (fun W hb => HBW3.out.trans (hb.mono HBW3.out.size))
  by_cases hcp : cp = 1
  case pos =>
    have hl1 : ls.length = 1 := by have := HCAP.out; omega
    have HTN : Hid (readGo T [] 0 = (some [], 0, 0)) := Lib.hid (by rw [List.length_eq_zero_iff.1 (show T.length = 0 by rw [HTL1.out]; omega)]; rfl)
    have HLN := Lib.hid hl1
    have HR4 : Hid ((w3.alloc (.cells SL0.toArray 26)).rangeAt w3.heap.size 0 SL0) := Lib.hid (range_of_row (heap_alloc_new w3 _))
    have HISL : Hid ((Tryd.prog.info? 26).map (·.size) = some SL0.length) := Lib.hid HIS.out
    have HG4 : Hid ((w3.alloc (.cells SL0.toArray 26)).heap[w.heap.size]? = some (.cells #[.int .i64 0, .int .i64 0, .int .i64 0, .int .i64 0, .int .i64 0, .int .i64 0, .int .i64 0, .int .i64 0, .int .i64 0, .int .i64 0, .int .i64 0, .int .i64 0, .int .i64 0, .int .i64 0, .int .i64 0, .slice none 0 0] 26 (0, 0))) := Lib.hid ((Below.heap_alloc _ _ _ (by have := HSZ3.out; omega)).trans HG3.out)
    have HB4 : Hid (Below w.heap.size w (w3.alloc (.cells SL0.toArray 26))) := Lib.hid (HBG.out _ ((Below.refl _ _).alloc (Nat.le_refl _) _))
    go_wp2_with (first
      | ((with_reducible refine wpList_store_new (op := ⟨none, _, _, _, _, _⟩) rfl 26 (.tmp 6) (.tmp 24) rfl w3.heap.size _ SL0.toArray rfl ?_ ?_ HIS.out HZS.out HOS.out ?_); rfl; rfl))
    go_loopg [33] 0 (fun gk i wr => gk = 0 ∧ i = .int .i64 0 ∧ wr = w3.alloc (.cells SL0.toArray 26))
    case atStart => exact ⟨rfl, rfl, rfl⟩
    case round =>
      obtain ⟨hg0, rfl, rfl⟩ := hrel
      go_wp2_with (first
        | ((with_reducible refine wpList_load_midg (op := ⟨some 56, _, _, _, _, _⟩) ?_ 26 (.tmp 6) rfl w3.heap.size 0 ?_ SL0 _ HR4.out Tryd.underlying26 rfl HISL.out ?_); kernel_rfl; rfl)
        | ((with_reducible refine wpList_store_row (o := ⟨none, _, _, _, _, _⟩) rfl 26 (.tmp 2) (.tmp 56) rfl w.heap.size SL0.toArray ?_ ?_ 26 _ HG4.out HIS.out HZS.out HOS.out ?_); rfl; rfl))
      rw [HOK.out, HTN.out, HLN.out]
      refine bodyPost_ret (results_row3 rfl _ _ w.heap.size 26 SL0.toArray (0, 0) _ rfl (setRow_heap _ _ _ _ _ _ HG4.out) Tryd.underlying26 rfl HIS.out) rfl ⟨?_, below_setRow HB4.out (Nat.le_refl _) _⟩
      rw [← HSL0.out]
      exact giveSc_some rfl (Sts.nil _) (fun s hs => absurd hs (by simp))
  obtain ⟨nT, hnT⟩ : ∃ n, ls.length - 1 = n := ⟨_, rfl⟩
  have HNT : Hid (T.length = nT) := Lib.hid (by rw [HTL1.out, hnT])
  have HNB : Hid (nT ≤ 1000001) := Lib.hid (by have := HCNT.out; omega)
  have HNL : Hid (ls.length = nT + 1) := Lib.hid (by omega)
  rw [hnT] at HTAIL
  go_wp2_with (first
    | ((with_reducible refine wpList_store_new (op := ⟨none, _, _, _, _, _⟩) rfl 26 (.tmp 6) (.tmp 24) rfl w3.heap.size _ SL0.toArray rfl ?_ ?_ HIS.out HZS.out HOS.out ?_); rfl; rfl))
  clear hnT
  go_loopg [33] nT (fun gk i wr => ∃ (k : Nat) (V : Value) (ps : List (St × Value)), k ≤ nT ∧ gk = nT - k ∧ i = .int .i64 k ∧ wr.heap[w3.heap.size]? = some (.cells (scL HA hb hc' V).toArray 26 (0, 0)) ∧ Sows wr (w3.heap.size + 1) V ps ∧ Below w3.heap.size w3 wr ∧ ps.length = k ∧ readGo (T.drop k) (ps.map (·.1)) k = readGo T [] 0)
  case atStart =>
    obtain ⟨V, ps, h1, h2, h3, h4, h5⟩ := HINV0.out
    exact ⟨0, V, ps, Nat.zero_le _, rfl, rfl, h1, h2, h3, h4, h5⟩
  case round =>
    obtain ⟨k, V, ps, hk, hgk, rfl, h6, hso, hbw, hpl, hrg⟩ := hrel
    have HK := Lib.hid hgk
    have H6 := Lib.hid h6
    have HSO := Lib.hid hso
    have HBR := Lib.hid hbw
    have HPL := Lib.hid hpl
    have HRG := Lib.hid hrg
    obtain ⟨AV, cV, hV⟩ := own_slice hso.own
    rw [hpl] at hV
    have hkB : (k : Int) ≤ 1000001 := by have := HNB.out; omega
    have hsz6 : w3.heap.size < wr.heap.size := (Array.getElem?_eq_some_iff.1 h6).1
    have HSZ6 := Lib.hid hsz6
    have HGR : Hid (wr.heap[w.heap.size]? = some (.cells #[.int .i64 0, .int .i64 0, .int .i64 0, .int .i64 0, .int .i64 0, .int .i64 0, .int .i64 0, .int .i64 0, .int .i64 0, .int .i64 0, .int .i64 0, .int .i64 0, .int .i64 0, .int .i64 0, .int .i64 0, .slice none 0 0] 26 (0, 0))) := Lib.hid ((hbw.block _ (by have := HSZ3.out; omega)).trans HG3.out)
    clear hgk h6 hso hpl hrg HINV0 hsz6
    by_cases hlt : k < nT
    · have HCX : Hid (wr.cell? ⟨b, o + 1 + k, none⟩ = some (.string (str (T.getD k [])))) := Lib.hid (by
        obtain ⟨b1, o1, c1, e, hb1, _, hc1⟩ := HTAIL.out.2 (by intro e; have := HNT.out; rw [e] at this; simp at this; omega)
        injection e with e1
        injection e1 with e1
        injection e1 with e2 e3
        subst e2 e3
        rw [HBR.out.cell (p := ⟨b, o + 1 + k, none⟩) hb1]
        exact hc1 k (by rw [HNT.out]; exact hlt))
      have HDX : Hid (T.drop k = T.getD k [] :: T.drop (k + 1)) := Lib.hid (by
        rw [List.drop_eq_getElem_cons (by rw [HNT.out]; exact hlt)]
        simp [List.getD, show k < T.length by rw [HNT.out]; exact hlt])
      have HXL : Hid ((T.getD k []).length ≤ 1000000) := Lib.hid (HXT.out _ (by simp [List.getD, show k < T.length by rw [HNT.out]; exact hlt]))
      have hcx := HCX.out
      generalize T.getD k [] = x at *
      have HPX := Lib.hid (parse5x x (by have := HXL.out; omega) wr (HLGW.out _ (HBG.out _ HBR.out)))
      have hk0 : (0 : Int) ≤ (k : Int) := by omega
      have hk1 : (k : Int) < (nT : Int) := by omega
      clear HCX hbw
      have HRGX : Hid (readGo T [] 0 = if parseE x = 0 then readGo (T.drop (k + 1)) (ps.map (·.1) ++ [parseS x]) (k + 1) else (none, k + 1, parseE x)) := Lib.hid (by rw [← HRG.out, HDX.out, readGo])
      generalize parseE x = E at *
      generalize parseS x = s at *
      go_wp2_with fail
      refine Calls.mono HPX.out ?_
      rintro e w5 ⟨⟨A5, c5, hk5, hfr5, hf5, rfl⟩, hb5⟩
      have HK5 := Lib.hid hk5
      have HF5 := Lib.hid hf5
      have HFR := Lib.hid hfr5
      have HB5 := Lib.hid hb5
      obtain ⟨L, hL⟩ : ∃ L, s.L (.slice A5 s.kp.length c5) = L := ⟨_, rfl⟩
      have HLE := Lib.hid hL
      have HIL : Hid ((Tryd.prog.info? 44).map (·.size) = some L.length) := Lib.hid (by rw [← hL]; exact info30)
      have HIL2 : Hid ((Tryd.prog.info? 44).map (·.size) = some L.toArray.size) := Lib.hid (by rw [← hL]; exact info30)
      have HZL : Hid ((#[.int .i64 0, .int .i64 0, .string ⟨#[]⟩, .string ⟨#[]⟩, .int .i64 0, .slice none 0 0, .int .i64 0, .int .i64 0, .int .i64 0, .int .i64 0, .int .i64 0, .int .i64 0, .int .i64 0, .int .i64 0, .int .i64 0, .int .i64 0, .int .i64 0, .int .i64 0, .int .i64 0] : Array Value).size = L.toArray.size) := Lib.hid (by rw [← hL]; rfl)
      have HOL : Hid (L.toArray.all (·.oneCell') = true) := Lib.hid (by rw [← hL]; exact stL_one _ _ _ _ _ _ _ _ _)
      have HL19 : Hid (L.length = 19) := Lib.hid (by rw [← hL]; rfl)
      rw [hL]
      have HB6 : Hid (Below wr.heap.size wr (w5.alloc (.cells L.toArray 44))) := Lib.hid (hb5.alloc hb5.size _)
      have HG6 : Hid ((w5.alloc (.cells L.toArray 44)).heap[w.heap.size]? = some (.cells #[.int .i64 0, .int .i64 0, .int .i64 0, .int .i64 0, .int .i64 0, .int .i64 0, .int .i64 0, .int .i64 0, .int .i64 0, .int .i64 0, .int .i64 0, .int .i64 0, .int .i64 0, .int .i64 0, .int .i64 0, .slice none 0 0] 26 (0, 0))) := Lib.hid ((HB6.out.block _ (by have := HSZ6.out; have := HSZ3.out; omega)).trans HGR.out)
      have HBW6 : Hid (Below w.heap.size w (w5.alloc (.cells L.toArray 44))) := Lib.hid (HBG.out _ (HBR.out.trans (HB6.out.mono (by have := HSZ6.out; omega))))
      clear hk5 hf5 hfr5 hb5 hL
      by_cases hE : E = 0
      case neg =>
        have HRN : Hid (readLs ls = (none, k + 1, E)) := Lib.hid (by rw [HOK.out, HRGX.out, if_neg hE])
        have e1 : (E == 0) = false := by simpa using hE
        have e2 : (E != 0) = true := by simpa using hE
        clear hE
        go_wp2_with (first
          | ((with_reducible refine wpList_store_new (op := ⟨none, _, _, _, _, _⟩) rfl 44 (.tmp 10) (.tmp 41) rfl w5.heap.size _ L.toArray rfl ?_ ?_ HIL2.out HZL.out HOL.out ?_); rfl; rfl)
          | ((with_reducible refine wpList_store_row (o := ⟨none, _, _, _, _, _⟩) rfl 26 (.tmp 2) (.tmp 45) rfl w.heap.size (scL 0 0 c0 (.slice none 0 0)).toArray ?_ ?_ 26 _ HG6.out HIZ.out rfl HOZ.out ?_); rfl; rfl))
        rw [HRN.out]
        exact bodyPost_ret (results_row3 rfl _ _ w.heap.size 26 (scL 0 0 c0 (.slice none 0 0)).toArray (0, 0) _ rfl (setRow_heap _ _ _ _ _ _ HG6.out) Tryd.underlying26 rfl HIZ.out) rfl ⟨giveSc_none (by omega), below_setRow HBW6.out (Nat.le_refl _) _⟩
      subst hE
      have HRS : Hid (readGo T [] 0 = readGo (T.drop (k + 1)) (ps.map (·.1) ++ [s]) (k + 1)) := Lib.hid (by rw [HRGX.out, if_pos rfl])
      have HRL6 : Hid ((w5.alloc (.cells L.toArray 44)).rangeAt w5.heap.size 0 L) := Lib.hid (range_of_row (heap_alloc_new w5 _))
      subst hV
      have HH6 : Hid ((w5.alloc (.cells L.toArray 44)).heap[w3.heap.size]? = some (.cells (scL HA hb hc' (.slice AV k cV)).toArray 26 (0, 0))) := Lib.hid ((HB6.out.block _ HSZ6.out).trans H6.out)
      have hc15 : (w5.alloc (.cells L.toArray 44)).cell? ⟨w3.heap.size, 15, none⟩ = some (.slice AV k cV) := cell_of_row _ _ 15 _ 26 _ HH6.out
      have HSO7 : Hid (Sows ((w5.alloc (.cells L.toArray 44)).alloc (.cells L.toArray 44)) (w3.heap.size + 1) (.slice AV k cV) ps) := Lib.hid (HSO.out.below (HB6.out.alloc HB6.out.size _))
      have HO7 : Hid (((w5.alloc (.cells L.toArray 44)).alloc (.cells L.toArray 44)).ownsRow (w3.heap.size + 1) 44 19 (.slice AV k cV) k (flatP ps)) := Lib.hid (by have := HSO7.out.own; rwa [HPL.out] at this)
      have HN7 : Hid (∀ j u, L[j]? = some u → ((w5.alloc (.cells L.toArray 44)).alloc (.cells L.toArray 44)).cell? ((⟨(w5.alloc (.cells L.toArray 44)).heap.size, 0, none⟩ : Addr).add j) = some u) := Lib.hid (fun j u hj => by
        have hh := heap_alloc_new (w5.alloc (.cells L.toArray 44)) (.cells L.toArray 44)
        have := range_of_row hh j u hj
        rw [Nat.zero_add] at this
        rw [Addr.add_mid, Nat.zero_add]
        exact this)
      have HOE : Hid (∀ u ∈ L, u.oneCell' = true) := Lib.hid (fun u hu => by have := HOL.out; rw [List.all_toArray, List.all_eq_true] at this; exact this u hu)
      clear HRGX
      go_wp2_with (first
        | ((with_reducible refine wpList_store_new (op := ⟨none, _, _, _, _, _⟩) rfl 44 (.tmp 10) (.tmp 41) rfl w5.heap.size _ L.toArray rfl ?_ ?_ HIL2.out HZL.out HOL.out ?_); rfl; rfl)
        | ((with_reducible refine wpList_load_midg (op := ⟨some 51, _, _, _, _, _⟩) ?_ 44 (.tmp 10) rfl w5.heap.size 0 ?_ L _ HRL6.out Tryd.underlying44 rfl HIL.out ?_); kernel_rfl; rfl)
        | ((with_reducible refine wpList_build_one (op := ⟨some 52, _, _, _, _, _⟩) rfl 24 (.tmp 51) ?_ 44 19 _ L ?_ Tryd.underlying24 Tryd.sizeOf44 Tryd.zeroValue44 ?_ ?_ HL19.out ?_); rfl; rfl; decide; decide)
        | (at_builtin; go_loud (refine wpList_append_own_at _ rfl (.tmp 50) (.tmp 52) _ rfl (w3.heap.size + 1) 44 i44 _ 19 184 Tryd.underlying24 I44.out Z44.out S44.out Y44.out rfl (by decide) _ k (flatP ps) rfl HO7.out _ 1 1 L rfl HL19.out HN7.out HOE.out (by have := HNB.out; unfold maxLen; omega) (by have := HNB.out; omega) (by have := HSZ6.out; have := HB6.out.size; simp at this ⊢; omega) ?_)))
      intro V2 w8 hown8 hg8 _ hat8
      obtain ⟨A8, c8, rfl⟩ := own_slice hown8
      have HOB : Hid (∀ j, (Value.slice AV k cV).ownBlock = some j → w3.heap.size + 1 ≤ j) := Lib.hid (fun j e => (HO7.out.lt j e).1)
      have HH8 : Hid (w8.heap[w3.heap.size]? = some (.cells (scL HA hb hc' (.slice AV k cV)).toArray 26 (0, 0))) := Lib.hid ((hg8.block _ (by have := HSZ6.out; have := HB6.out.size; simp at this ⊢; omega) (fun e => by have := HOB.out _ e.symm; omega)).trans ((Below.heap_alloc _ _ _ (by have := HSZ6.out; have := HB6.out.size; simp at this ⊢; omega)).trans HH6.out))
      have hc8 : w8.cell? ⟨w3.heap.size, 15, none⟩ = some (.slice AV k cV) := cell_of_row _ _ 15 _ 26 _ HH8.out
      have hz8 : w8.frozen? ⟨w3.heap.size, 15, none⟩ = false := frozen_of_row w8 w3.heap.size 15 _ 26 HH8.out
      have HB8 : Hid (Below w3.heap.size w3 w8) := Lib.hid (((HBR.out.trans (HB6.out.mono (Nat.le_of_lt HSZ6.out))).alloc (by have := HSZ6.out; have := HB6.out.size; simp at this ⊢; omega) _).grown hg8 (by have := HSZ6.out; have := HB6.out.size; simp at this ⊢; omega) (fun j e => by have := HOB.out _ e; omega))
      have HK7 : Hid (Kp ((w5.alloc (.cells L.toArray 44)).alloc (.cells L.toArray 44)) (.slice A5 s.kp.length c5) s.kp) := Lib.hid (HK5.out.below (((Below.refl _ _).alloc (Nat.le_refl _) _).alloc (by simp) _))
      have HSO8 : Hid (Sows w8 (w3.heap.size + 1) (.slice A8 (k + 1) c8) (ps ++ [(s, .slice A5 s.kp.length c5)])) := Lib.hid (HSO7.out.push HK7.out HF5.out (fun _ a ha e => by
        have h1 := HFR.out a ha
        have h2 := (HSO.out.own.lt a.block e).2
        omega) (by rw [HPL.out, HLE.out]; exact hown8) hg8 (by simp only [World.size_alloc]; exact hat8))
      have HSO9 : Hid (Sows (w8.setCell ⟨w3.heap.size, 15, none⟩ (.slice A8 (k + 1) c8)) (w3.heap.size + 1) (.slice A8 (k + 1) c8) (ps ++ [(s, .slice A5 s.kp.length c5)])) := Lib.hid (by
        rw [setCell_eq_setRow w8 w3.heap.size 15 _ 26 (0, 0) _ HH8.out]
        exact HSO8.out.setRow (by omega) (scL_nb HH8.out))
      have HH9 : Hid ((w8.setCell ⟨w3.heap.size, 15, none⟩ (.slice A8 (k + 1) c8)).heap[w3.heap.size]? = some (.cells (scL HA hb hc' (.slice A8 (k + 1) c8)).toArray 26 (0, 0))) := Lib.hid (by rw [Go.heap_setCell_same _ _ _ _ _ _ HH8.out, scL_set])
      clear hown8 hg8 hat8 hc15
      go_wp2_with fail
      go_roundg (nT - (k + 1))
      case measure => rw [HK.out]; omega
      case rel => exact ⟨k + 1, .slice A8 (k + 1) c8, ps ++ [(s, .slice A5 s.kp.length c5)], by omega, rfl, by go_num, HH9.out, HSO9.out, HB8.out.setCell (by simp) _, by rw [List.length_append, HPL.out]; rfl, by rw [HRS.out]; simp⟩
    · obtain rfl : k = nT := by omega
      have HRF : Hid (readLs ls = (some (HA, hb, hc', ps.map (·.1)), ls.length, 0)) := Lib.hid (by
        rw [HOK.out, ← HRG.out, List.drop_of_length_le (by rw [HNT.out]; omega)]
        rfl)
      have HIV : Hid ((Tryd.prog.info? 26).map (·.size) = some (scL HA hb hc' V).length) := Lib.hid info26
      have HIV2 : Hid ((Tryd.prog.info? 26).map (·.size) = some (scL HA hb hc' V).toArray.size) := Lib.hid info26
      have HSTS : Hid (∀ X, Sts (wr.setRow w.heap.size X) V (ps.map (·.1))) := Lib.hid (fun X => (HSO.out.setRow (by have := HSZ3.out; omega) (scL_nb (a := 0) (b := 0) (c := c0) (A := none) (n := 0) (k := 0) HGR.out)).sts)
      have HFS : Hid (∀ s ∈ ps.map (·.1), Fits s) := Lib.hid (fun s hs => by
        obtain ⟨p, hp, rfl⟩ := List.mem_map.1 hs
        obtain ⟨_, _, _, _, hf, _⟩ := HSO.out.el p hp
        exact hf)
      subst hV
      have HOV : Hid ((scL HA hb hc' (.slice AV k cV)).toArray.all (·.oneCell') = true) := Lib.hid (scL_one _ _ _ _ _ _)
      have HZV : Hid ((#[.int .i64 0, .int .i64 0, .int .i64 0, .int .i64 0, .int .i64 0, .int .i64 0, .int .i64 0, .int .i64 0, .int .i64 0, .int .i64 0, .int .i64 0, .int .i64 0, .int .i64 0, .int .i64 0, .int .i64 0, .slice none 0 0] : Array Value).size = (scL HA hb hc' (.slice AV k cV)).toArray.size) := Lib.hid rfl
      have HRV := Lib.hid (range_of_row H6.out)
      have HBF : Hid (Below w.heap.size w wr) := Lib.hid (HBG.out _ HBR.out)
      obtain ⟨SV, hSV⟩ : ∃ SV, scL HA hb hc' (.slice AV k cV) = SV := ⟨_, rfl⟩
      have HSV := Lib.hid hSV
      rw [hSV] at HIV HIV2 HOV HZV HRV
      have hlsI : ((ls.length : Nat) : Int) = (ls.length : Int) := rfl
      clear hSV hbw hlsI
      go_wp2_with (first
        | ((with_reducible refine wpList_load_midg (op := ⟨some 56, _, _, _, _, _⟩) ?_ 26 (.tmp 6) rfl w3.heap.size 0 ?_ SV _ HRV.out Tryd.underlying26 rfl HIV.out ?_); kernel_rfl; rfl)
        | ((with_reducible refine wpList_store_row (o := ⟨none, _, _, _, _, _⟩) rfl 26 (.tmp 2) (.tmp 56) rfl w.heap.size SV.toArray ?_ ?_ 26 _ HGR.out HIV2.out HZV.out HOV.out ?_); rfl; rfl))
      refine bodyPost_ret (results_row3 rfl _ _ w.heap.size 26 SV.toArray (0, 0) _ rfl (setRow_heap _ _ _ _ _ _ HGR.out) Tryd.underlying26 rfl HIV2.out) rfl ⟨?_, below_setRow HBF.out (Nat.le_refl _) _⟩
      rw [HRF.out, ← HSV.out]
      exact giveSc_some rfl (HSTS.out _) HFS.out
end Go.Proofs.YtjakkmioofbcaaaDoor
