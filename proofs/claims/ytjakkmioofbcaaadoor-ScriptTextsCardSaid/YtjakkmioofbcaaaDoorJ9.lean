/- The walk over the reference's Read. -/
import Derived.Test.YtjakkmioofbcaaaDoorJA
namespace Go.Proofs.YtjakkmioofbcaaaDoor
open Go.RowKit
theorem exec_rsc (ev : Operand → Value) (n1 n2 : Int) (c : Fin 13 → Int) (x y z : Operand) (W : World) (d : Option Tmp) (ty : TypeId) (ps : String) (af : Array Edge) (h1 : ev x = .int .i64 n1) (h2 : ev y = .int .i64 n2) (h3 : ev z = .agg (cfL c).toArray) :
    (execOp ev ⟨d, .build 30 #[(0, x), (1, y), (2, z)], ty, ps, af, none⟩).run Tryd.prog W = .ok (.value (.agg (scL n1 n2 c (.slice none 0 0)).toArray)) W := by
  have hbd : (Instr.build 30 #[(0, .int .i64 n1), (1, .int .i64 n2), (2, .agg (cfL c).toArray)]).run Tryd.prog W = .ok (.agg (scL n1 n2 c (.slice none 0 0)).toArray) W := by kernel_rfl
  simp only [execOp, List.map_toArray, List.map_cons, List.map_nil, h1, h2, h3, Sem.run_bind, hbd, Sem.run_pure, Result.andThen_ok]
/-- what the reference takes a head's words for -/
def rheadP (ws : List (List UInt8)) (l0 : List UInt8) : Option (Int × Int × (Fin 13 → Int)) :=
  if ws.length = 16 then
    (if (fitB [(szs ws.tail).getD 0 0, (szs ws.tail).getD 1 0] && smallB (cfOf ((szs ws.tail).drop 2))) = true ∧ headL ((szs ws.tail).getD 0 0) ((szs ws.tail).getD 1 0) (cfOf ((szs ws.tail).drop 2)) = l0 then some ((szs ws.tail).getD 0 0, (szs ws.tail).getD 1 0, cfOf ((szs ws.tail).drop 2)) else none)
  else none
def rreadLs (ls : List (List UInt8)) : Option ScT × Nat × Int :=
  if ls.length = 0 then (none, 0, 300) else if 65536 < (ls.getD 0 []).length then (none, 0, 2) else match rheadP (splitL 32 (ls.getD 0 [])) (ls.getD 0 []) with
    | none => (none, 0, 300)
    | some (a, b, c) => match readGo ls.tail [] 0 with
      | (some st, _, _) => (some (a, b, c, st), ls.length, 0)
      | (none, n, e) => (none, n, e)
def rdropL (ls : List (List UInt8)) : List (List UInt8) := if ls.getD (ls.length - 1) [] = [] then ls.dropLast else ls
def rreadP (l : List UInt8) : Option ScT × Nat × Int := rreadLs (rdropL (splitL 10 l))
theorem Ws.init {w : World} {b o cp n : Nat} {ws : List (List UInt8)} (h : Ws w (.slice (some ⟨b, o, none⟩) ws.length cp) ws) (hn : ws.length = n + 1) : Ws w (.slice (some ⟨b, o, none⟩) n cp) ws.dropLast := by
  have hd : ws.dropLast.length = n := by simp [hn]
  refine ⟨⟨_, _, by rw [hd]⟩, fun _ => ?_⟩
  obtain ⟨b', o', c', e, hlt, hcap, hc⟩ := h.2 (by intro e; rw [e] at hn; simp at hn)
  injection e with e1 e2 e3
  injection e1 with e1
  injection e1 with e4 e5
  subst e4
  subst e5
  subst e3
  refine ⟨_, _, _, by rw [hd], hlt, by rw [hd]; omega, fun i hi => ?_⟩
  rw [hd] at hi
  rw [hc i (by omega)]
  simp only [List.getD]
  rw [List.getElem?_dropLast, if_pos (by omega)]
theorem getD0_mem {ls : List (List UInt8)} (h : 0 < ls.length) : ls.getD 0 [] ∈ ls := by
  match ls, h with
  | a :: r, _ => simp

theorem headOk_of {a b : Int} {c : Fin 13 → Int} (h : (fitB [a, b] && smallB c) = true) : HeadOk a b c := by
  rw [Bool.and_eq_true] at h
  have h1 := h.1
  simp [fitB] at h1
  exact ⟨⟨h1.1.1, h1.1.2⟩, ⟨h1.2.1, h1.2.2⟩, small_spec h.2⟩
theorem Is.drop {w : World} {b o cp : Nat} {ls : List Int} (h : Is w (.slice (some ⟨b, o, none⟩) ls.length cp) ls) (k : Nat) (hk : k ≤ ls.length) : Is w (.slice (some ⟨b, o + k, none⟩) (ls.length - k) (cp - k)) (ls.drop k) := by
  have ht : (ls.drop k).length = ls.length - k := by simp
  refine ⟨⟨_, _, by rw [ht]⟩, fun hne => ?_⟩
  have h0 : ls ≠ [] := by intro e; subst e; simp at hne
  obtain ⟨b', o', c', e, hlt, hcap, hc⟩ := h.2 h0
  injection e with e1 e2 e3
  injection e1 with e1
  injection e1 with e4 e5
  subst e4
  subst e5
  subst e3
  refine ⟨_, _, _, by rw [ht], hlt, by rw [ht]; omega, fun i hi => ?_⟩
  rw [ht] at hi
  have := hc (k + i) (by omega)
  rw [show o + k + i = o + (k + i) by omega, this]
  simp [List.getD]

set_option maxRecDepth 100000 in
set_option maxHeartbeats 16000000 in
theorem rread6_e (l : List UInt8) (hl : l.length ≤ 1000000) (w : World) (hlast : (splitL 10 l).getD ((splitL 10 l).length - 1) [] = []) : Calls Tryd.prog 6 #[.string (str l)] w fun e w' => GiveSc (rreadP l) e w' ∧ Below w.heap.size w w' := by
  have HIZ : Hid ((Tryd.prog.info? 30).map (·.size) = some (scL 0 0 c0 (.slice none 0 0)).toArray.size) := Lib.hid infoR
  have HOZ : Hid ((scL 0 0 c0 (.slice none 0 0)).toArray.all (·.oneCell') = true) := Lib.hid (scL_one _ _ _ _ _ _)
  have HG1 : Hid ((w.alloc (.cells #[.int .i64 0, .int .i64 0, .int .i64 0, .int .i64 0, .int .i64 0, .int .i64 0, .int .i64 0, .int .i64 0, .int .i64 0, .int .i64 0, .int .i64 0, .int .i64 0, .int .i64 0, .int .i64 0, .int .i64 0, .slice none 0 0] 30)).heap[w.heap.size]? = some (.cells #[.int .i64 0, .int .i64 0, .int .i64 0, .int .i64 0, .int .i64 0, .int .i64 0, .int .i64 0, .int .i64 0, .int .i64 0, .int .i64 0, .int .i64 0, .int .i64 0, .int .i64 0, .int .i64 0, .int .i64 0, .slice none 0 0] 30 (0, 0))) := Lib.hid (heap_alloc_new w _)
  have HB1 : Hid (Below w.heap.size w (w.alloc (.cells #[.int .i64 0, .int .i64 0, .int .i64 0, .int .i64 0, .int .i64 0, .int .i64 0, .int .i64 0, .int .i64 0, .int .i64 0, .int .i64 0, .int .i64 0, .int .i64 0, .int .i64 0, .int .i64 0, .int .i64 0, .slice none 0 0] 30))) := Lib.hid ((Below.refl _ _).alloc (Nat.le_refl _) _)
  have HS1 : Hid ((w.alloc (.cells #[.int .i64 0, .int .i64 0, .int .i64 0, .int .i64 0, .int .i64 0, .int .i64 0, .int .i64 0, .int .i64 0, .int .i64 0, .int .i64 0, .int .i64 0, .int .i64 0, .int .i64 0, .int .i64 0, .int .i64 0, .slice none 0 0] 30)).heap.size = w.heap.size + 1) := Lib.hid (World.size_alloc _ _)
  have hsz : (str l).size = l.length := str_size l
  have hd : decide ((1048576 : Int) < (l.length : Int)) = false := by simp; omega
  have HSP : Hid (Calls Tryd.prog 20 #[.string (str l), .int .u8 10] (w.alloc (.cells #[.int .i64 0, .int .i64 0, .int .i64 0, .int .i64 0, .int .i64 0, .int .i64 0, .int .i64 0, .int .i64 0, .int .i64 0, .int .i64 0, .int .i64 0, .int .i64 0, .int .i64 0, .int .i64 0, .int .i64 0, .slice none 0 0] 30)) fun e w' => ∃ v, e = .returned v ∧ w'.ownsRow (w.alloc (.cells #[.int .i64 0, .int .i64 0, .int .i64 0, .int .i64 0, .int .i64 0, .int .i64 0, .int .i64 0, .int .i64 0, .int .i64 0, .int .i64 0, .int .i64 0, .int .i64 0, .int .i64 0, .int .i64 0, .int .i64 0, .slice none 0 0] 30)).heap.size 9 1 v (splitL 10 l).length (strsV (splitL 10 l)) ∧ Below (w.alloc (.cells #[.int .i64 0, .int .i64 0, .int .i64 0, .int .i64 0, .int .i64 0, .int .i64 0, .int .i64 0, .int .i64 0, .int .i64 0, .int .i64 0, .int .i64 0, .int .i64 0, .int .i64 0, .int .i64 0, .int .i64 0, .slice none 0 0] 30)).heap.size (w.alloc (.cells #[.int .i64 0, .int .i64 0, .int .i64 0, .int .i64 0, .int .i64 0, .int .i64 0, .int .i64 0, .int .i64 0, .int .i64 0, .int .i64 0, .int .i64 0, .int .i64 0, .int .i64 0, .int .i64 0, .int .i64 0, .slice none 0 0] 30)) w') := Lib.hid (rsplit20 l 10 hl _)
  have HSL := Lib.hid (splitL_sum 10 l)
  have hwn := splitL_ne 10 l
  have HLL := Lib.hid hl
  have HCNT : Hid ((splitL 10 l).length ≤ 1000001) := Lib.hid (by
    have h1 := count_len 10 _ l (Nat.le_refl _)
    have h2 : Lib.count l [10] ≤ l.length := by
      have := Lib.countB_le (str [10]) (by decide) _ (str l) (Nat.le_refl _)
      rw [str_size] at this
      exact this
    omega)
  have HRD : Hid (rdropL (splitL 10 l) = (splitL 10 l).dropLast) := Lib.hid (if_pos hlast)
  have HRP : Hid (rreadP l = rreadLs (splitL 10 l).dropLast) := Lib.hid (by rw [rreadP, HRD.out])
  have HLA := Lib.hid hlast
  generalize splitL 10 l = ls0 at *
  clear hl hlast HRD
  go_enter Tryd.func6, Tryd.ntmps6
  go_wp2_with fail
  refine Calls.mono HSP.out ?_
  rintro e w2 ⟨v, rfl, hown, hb2⟩
  have hws0 := Ws.of_own hown
  obtain ⟨b, o, cp, rfl, hlt, hcap, hc⟩ := hws0.2 hwn
  obtain ⟨n, hn⟩ : ∃ n, ls0.length = n + 1 := ⟨ls0.length - 1, by have := List.length_pos_iff.2 hwn; omega⟩
  have HB2 : Hid (Below (w.heap.size + 1) (w.alloc (.cells #[.int .i64 0, .int .i64 0, .int .i64 0, .int .i64 0, .int .i64 0, .int .i64 0, .int .i64 0, .int .i64 0, .int .i64 0, .int .i64 0, .int .i64 0, .int .i64 0, .int .i64 0, .int .i64 0, .int .i64 0, .slice none 0 0] 30)) w2) := Lib.hid (hb2.mono (by simp))
  have HBW : Hid (Below w.heap.size w w2) := Lib.hid (HB1.out.trans (HB2.out.mono (by omega)))
  have HG2 : Hid (w2.heap[w.heap.size]? = some (.cells #[.int .i64 0, .int .i64 0, .int .i64 0, .int .i64 0, .int .i64 0, .int .i64 0, .int .i64 0, .int .i64 0, .int .i64 0, .int .i64 0, .int .i64 0, .int .i64 0, .int .i64 0, .int .i64 0, .int .i64 0, .slice none 0 0] 30 (0, 0))) := Lib.hid ((HB2.out.block _ (by omega)).trans HG1.out)
  have HSZ2 : Hid (w.heap.size + 1 ≤ w2.heap.size ∧ b < w2.heap.size) := Lib.hid (by have := HB2.out.size; rw [HS1.out] at this; exact ⟨this, hlt⟩)
  have hlastc : w2.cell? ⟨b, o + n, none⟩ = some (.string (str (ls0.getD n []))) := hc n (by omega)
  have HLA2 : Hid (ls0.getD n [] = []) := Lib.hid (by have := HLA.out; rwa [hn, Nat.add_sub_cancel] at this)
  have hnI : (n : Int) + 1 ≤ 1000001 := by have := HCNT.out; omega
  have hcpI : (n : Int) + 1 ≤ (cp : Int) := by omega
  have hn0 : (0 : Int) ≤ (n : Int) := by omega
  have HWS : Hid (Ws w2 (.slice (some ⟨b, o, none⟩) n cp) ls0.dropLast) := Lib.hid (hws0.init hn)
  have HML : Hid (ls0.dropLast.length = n) := Lib.hid (by simp [hn])
  have HXS : Hid (∀ x ∈ ls0.dropLast, x.length ≤ 1000000) := Lib.hid (fun x hx => Nat.le_trans (HSL.out x (List.dropLast_subset _ hx)) HLL.out)
  have htest : (str (ls0.getD n [])).toList = [] := by rw [HLA2.out, str_toList]
  have htest2 : (str (ls0.getD n [])).toList.isEmpty = true := by rw [htest]; rfl
  rw [hn]
  have HCM : Hid (n ≤ cp ∧ n ≤ 1000001) := Lib.hid (by have := HCNT.out; omega)
  generalize ls0.dropLast = ls at *
  generalize ls0.getD n [] = lx at *
  clear hown hws0 hb2 hlt hcap hc hwn HLA HLA2 HSL HSP HCNT HLL hsz

  have HBH : Hid (∀ W, Below w2.heap.size w2 W → Below w.heap.size w W) := Lib.hid (fun W hb => HBW.out.trans (hb.mono HBW.out.size))
  clear htest
  by_cases hm0 : n = 0
  case pos =>
    have HE : Hid (rreadLs ls = (none, 0, 300)) := Lib.hid (by rw [rreadLs, if_pos (by rw [HML.out]; exact hm0)])
    have hmI : ((n : Int) == 0) = true := by rw [beq_iff_eq]; omega
    clear hm0
    go_wp2_with (first
      | ((with_reducible refine wpList_store_row (o := ⟨none, _, _, _, _, _⟩) rfl 30 (.tmp 2) (.tmp 33) rfl w.heap.size (scL 0 0 c0 (.slice none 0 0)).toArray ?_ ?_ 30 _ HG2.out HIZ.out rfl HOZ.out ?_); rfl; rfl))
    rw [HRP.out, HE.out]
    exact bodyPost_ret (results_row3 rfl _ _ w.heap.size 30 (scL 0 0 c0 (.slice none 0 0)).toArray (0, 0) _ rfl (setRow_heap _ _ _ _ _ _ HG2.out) Tryd.underlying30 rfl HIZ.out) rfl ⟨giveSc_none rfl, below_setRow HBW.out (Nat.le_refl _) _⟩
  have hmI : ((n : Int) == 0) = false := by rw [beq_eq_false_iff_ne]; omega
  have hmpos : 0 < n := by omega
  have hmP : (0 : Int) < (n : Int) := by omega
  have hc0 : w2.cell? ⟨b, o, none⟩ = some (.string (str (ls.getD 0 []))) := by
    obtain ⟨b1, o1, c1, e, _, _, hc1⟩ := HWS.out.2 (by intro e; have := HML.out; rw [e] at this; simp only [List.length_nil] at this; omega)
    injection e with e1
    injection e1 with e1
    injection e1 with e2 e3
    subst e2 e3
    have := hc1 0 (by rw [HML.out]; omega)
    rwa [Nat.add_zero] at this
  have HX0 : Hid ((ls.getD 0 []).length ≤ 1000000) := Lib.hid (HXS.out _ (getD0_mem (by rw [HML.out]; omega)))
  have HRL : Hid (rreadLs ls = if 65536 < (ls.getD 0 []).length then (none, 0, 300 - 298) else match rheadP (splitL 32 (ls.getD 0 [])) (ls.getD 0 []) with
    | none => (none, 0, 300)
    | some (a, b, c) => match readGo ls.tail [] 0 with
      | (some st, _, _) => (some (a, b, c, st), ls.length, 0)
      | (none, n, e) => (none, n, e)) := Lib.hid (by rw [rreadLs, if_neg (by rw [HML.out]; omega)]; rfl)
  generalize ls.getD 0 [] = x0 at *
  have hx0 : (str x0).size = x0.length := str_size x0
  by_cases hbig : 65536 < x0.length
  case pos =>
    have HE : Hid (rreadLs ls = (none, 0, 2)) := Lib.hid (by rw [HRL.out, if_pos hbig]; rfl)
    have hd2 : decide ((65536 : Int) < (x0.length : Int)) = true := by simp; omega
    clear hbig
    go_wp2_with (first
      | ((with_reducible refine wpList_store_row (o := ⟨none, _, _, _, _, _⟩) rfl 30 (.tmp 2) (.tmp 39) rfl w.heap.size (scL 0 0 c0 (.slice none 0 0)).toArray ?_ ?_ 30 _ HG2.out HIZ.out rfl HOZ.out ?_); rfl; rfl))
    rw [HRP.out, HE.out]
    exact bodyPost_ret (results_row3 rfl _ _ w.heap.size 30 (scL 0 0 c0 (.slice none 0 0)).toArray (0, 0) _ rfl (setRow_heap _ _ _ _ _ _ HG2.out) Tryd.underlying30 rfl HIZ.out) rfl ⟨giveSc_none rfl, below_setRow HBW.out (Nat.le_refl _) _⟩
  have hd2 : decide ((65536 : Int) < (x0.length : Int)) = false := by simp; omega
  have HRL2 : Hid (rreadLs ls = match rheadP (splitL 32 x0) x0 with
    | none => (none, 0, 300)
    | some (a, b, c) => match readGo ls.tail [] 0 with
      | (some st, _, _) => (some (a, b, c, st), ls.length, 0)
      | (none, n, e) => (none, n, e)) := Lib.hid (by rw [HRL.out, if_neg hbig]; rfl)
  have HSP2 : Hid (Calls Tryd.prog 20 #[.string (str x0), .int .u8 32] w2 fun e w' => ∃ v, e = .returned v ∧ w'.ownsRow w2.heap.size 9 1 v (splitL 32 x0).length (strsV (splitL 32 x0)) ∧ Below w2.heap.size w2 w') := Lib.hid (rsplit20 x0 32 HX0.out w2)
  have HSL2 := Lib.hid (splitL_sum 32 x0)
  have hwn2 := splitL_ne 32 x0
  have HJS : Hid (joinL (splitL 32 x0) = x0) := Lib.hid (join_split x0)
  generalize splitL 32 x0 = ws at *
  clear hbig HRL
  go_wp2_with fail
  refine Calls.mono HSP2.out ?_
  rintro e w3 ⟨v3, rfl, hown3, hb3⟩
  have hws3 := Ws.of_own hown3
  obtain ⟨b3, o3, cp3, rfl, hlt3, hcap3, hc3⟩ := hws3.2 hwn2
  have HWS3 := Lib.hid hws3
  have HBW3 : Hid (Below w.heap.size w w3) := Lib.hid (HBH.out _ hb3)
  have HB23 := Lib.hid hb3
  have HG3 : Hid (w3.heap[w.heap.size]? = some (.cells #[.int .i64 0, .int .i64 0, .int .i64 0, .int .i64 0, .int .i64 0, .int .i64 0, .int .i64 0, .int .i64 0, .int .i64 0, .int .i64 0, .int .i64 0, .int .i64 0, .int .i64 0, .int .i64 0, .int .i64 0, .slice none 0 0] 30 (0, 0))) := Lib.hid ((hb3.block _ (by have := HSZ2.out.1; omega)).trans HG2.out)
  have hcap3I : (ws.length : Int) ≤ (cp3 : Int) := by omega
  clear hown3 hws3 hb3 hlt3 hc3 hwn2 HSP2
  by_cases h16 : ws.length = 16
  case neg =>
    have HE : Hid (rreadLs ls = (none, 0, 300)) := Lib.hid (by rw [HRL2.out, rheadP, if_neg h16])
    have h16b : ((ws.length : Int) == 16) = false := by rw [beq_eq_false_iff_ne]; omega
    have h16c : ((ws.length : Int) != 16) = true := by rw [bne, h16b]; rfl
    go_wp2_with (first
      | ((with_reducible refine wpList_store_row (o := ⟨none, _, _, _, _, _⟩) rfl 30 (.tmp 2) (.tmp 47) rfl w.heap.size (scL 0 0 c0 (.slice none 0 0)).toArray ?_ ?_ 30 _ HG3.out HIZ.out rfl HOZ.out ?_); rfl; rfl))
    rw [HRP.out, HE.out]
    exact bodyPost_ret (results_row3 rfl _ _ w.heap.size 30 (scL 0 0 c0 (.slice none 0 0)).toArray (0, 0) _ rfl (setRow_heap _ _ _ _ _ _ HG3.out) Tryd.underlying30 rfl HIZ.out) rfl ⟨giveSc_none rfl, below_setRow HBW3.out (Nat.le_refl _) _⟩
  have HTS : Hid (Ws w3 (.slice (some ⟨b3, o3 + 1, none⟩) 15 (cp3 - 1)) ws.tail) := Lib.hid (by have := HWS3.out.drop 1 (by omega); rw [List.drop_one, h16] at this; exact this)
  have HSZ : Hid (Calls Tryd.prog 21 #[.slice (some ⟨b3, o3 + 1, none⟩) 15 (cp3 - 1)] w3 fun e w' => ∃ u, e = .returned u ∧ Is w' u (szs ws.tail) ∧ Below w3.heap.size w3 w') := Lib.hid (rsizes38 _ ws.tail w3 HTS.out (by simp; omega) (fun x hx => by have := HSL2.out x (List.mem_of_mem_tail hx); have := HX0.out; omega))
  have HNL : Hid ((szs ws.tail).length = 15) := Lib.hid (by simp [szs, h16])
  have HRH : Hid (rheadP ws x0 = if (fitB [(szs ws.tail).getD 0 0, (szs ws.tail).getD 1 0] && smallB (cfOf ((szs ws.tail).drop 2))) = true ∧ headL ((szs ws.tail).getD 0 0) ((szs ws.tail).getD 1 0) (cfOf ((szs ws.tail).drop 2)) = x0 then some ((szs ws.tail).getD 0 0, (szs ws.tail).getD 1 0, cfOf ((szs ws.tail).drop 2)) else none) := Lib.hid (by rw [rheadP, if_pos h16])
  generalize szs ws.tail = ns at *
  have hcp3 : ¬ cp3 = 1 := by omega
  rw [h16] at hcap3I hcap3 ⊢
  clear h16
  go_wp2_with fail
  refine Calls.mono HSZ.out ?_
  rintro e w4 ⟨u, rfl, hiu, hb4⟩
  obtain ⟨b4, o4, cp4, rfl, hlt4, hcap4, hc4⟩ := hiu.2 (by intro e; have := HNL.out; rw [e] at this; simp at this)
  have HIU := Lib.hid hiu
  have HB24 : Hid (Below w2.heap.size w2 w4) := Lib.hid (HB23.out.trans (hb4.mono HB23.out.size))
  have HBW4 : Hid (Below w.heap.size w w4) := Lib.hid (HBH.out _ HB24.out)
  have HG4 : Hid (w4.heap[w.heap.size]? = some (.cells #[.int .i64 0, .int .i64 0, .int .i64 0, .int .i64 0, .int .i64 0, .int .i64 0, .int .i64 0, .int .i64 0, .int .i64 0, .int .i64 0, .int .i64 0, .int .i64 0, .int .i64 0, .int .i64 0, .int .i64 0, .slice none 0 0] 30 (0, 0))) := Lib.hid ((HB24.out.block _ (by have := HSZ2.out.1; omega)).trans HG2.out)
  have hn4 : 15 ≤ cp4 := by have := HNL.out; omega
  have hn4I : (15 : Int) ≤ (cp4 : Int) := by omega
  have hcp4 : ¬ cp4 = 2 := by omega
  have HC0 : Hid (w4.cell? ⟨b4, o4, none⟩ = some (.int .i64 (ns.getD 0 0))) := Lib.hid (by have := hc4 0 (by rw [HNL.out]; omega); rwa [Nat.add_zero] at this)
  have HC1 : Hid (w4.cell? ⟨b4, o4 + 1, none⟩ = some (.int .i64 (ns.getD 1 0))) := Lib.hid (hc4 1 (by rw [HNL.out]; omega))
  have HIT : Hid (Is w4 (.slice (some ⟨b4, o4 + 2, none⟩) 13 (cp4 - 2)) (ns.drop 2)) := Lib.hid (by have := hiu.drop 2 (by rw [HNL.out]; omega); rw [HNL.out] at this; exact this)
  have HCF : Hid (∀ W, Below w4.heap.size w4 W → Calls Tryd.prog 22 #[.slice (some ⟨b4, o4 + 2, none⟩) 13 (cp4 - 2)] W fun e w' => e = .returned (.agg (cfL (cfOf (ns.drop 2))).toArray) ∧ Below W.heap.size W w') := Lib.hid (fun W hb => rconf37 _ _ W (HIT.out.below (Nat.le_refl _) hb) (by simp [HNL.out]))
  have HLT4 := Lib.hid hlt4
  have hc0w := HWS.out
  have HC00 : Hid (∀ W, Below w2.heap.size w2 W → W.cell? ⟨b, o, none⟩ = some (.string (str x0))) := Lib.hid (fun W hbb => (hbb.cell (p := ⟨b, o, none⟩) HSZ2.out.2).trans hc0)
  rw [HNL.out] at HIU ⊢
  generalize ns.getD 0 0 = n0 at *
  generalize ns.getD 1 0 = n1 at *
  generalize cfOf (ns.drop 2) = cc at *
  clear hiu hb4 hc4 hlt4 hcap4 hc0w
  have HSCI : Hid ((Tryd.prog.info? 30).map (·.size) = some (scL n0 n1 cc (.slice none 0 0)).length) := Lib.hid infoR
  have HSCI2 : Hid ((Tryd.prog.info? 30).map (·.size) = some (scL n0 n1 cc (.slice none 0 0)).toArray.size) := Lib.hid infoR
  have HSCO : Hid ((scL n0 n1 cc (.slice none 0 0)).toArray.all (·.oneCell') = true) := Lib.hid (scL_one _ _ _ _ _ _)
  have HSCZ : Hid ((#[.int .i64 0, .int .i64 0, .int .i64 0, .int .i64 0, .int .i64 0, .int .i64 0, .int .i64 0, .int .i64 0, .int .i64 0, .int .i64 0, .int .i64 0, .int .i64 0, .int .i64 0, .int .i64 0, .int .i64 0, .slice none 0 0] : Array Value).size = (scL n0 n1 cc (.slice none 0 0)).toArray.size) := Lib.hid rfl
  have HGD : Hid (∀ W, Calls Tryd.prog 14 #[.agg (scL n0 n1 cc (.slice none 0 0)).toArray] W fun e w' => e = .returned (.bool (fitB [n0, n1] && smallB cc)) ∧ Below W.heap.size W w') := Lib.hid (fun W => by
    have := rgood14 n0 n1 cc (.slice none 0 0) [] W (Sts.nil W) (fun s hs => absurd hs (by simp)) (by simp)
    rwa [show goodB n0 n1 cc [] = (fitB [n0, n1] && smallB cc) by simp [goodB]] at this)
  have HHD : Hid ((fitB [n0, n1] && smallB cc) = true → ∀ W, Calls Tryd.prog 23 #[.agg (scL n0 n1 cc (.slice none 0 0)).toArray] W fun e w' => e = .returned (.string (str (headL n0 n1 cc))) ∧ Below W.heap.size W w') := Lib.hid (fun h W => rhead23 n0 n1 cc _ W (headOk_of h))
  have HEX : Hid (∀ (ev : Operand → Value) (W : World) (d : Option Tmp) (ty : TypeId) (ps : String) (af : Array Edge), ev (.tmp 53) = .int .i64 n0 → ev (.tmp 56) = .int .i64 n1 → ev (.tmp 59) = .agg (cfL cc).toArray → (execOp ev ⟨d, .build 30 #[(0, .tmp 53), (1, .tmp 56), (2, .tmp 59)], ty, ps, af, none⟩).run Tryd.prog W = .ok (.value (.agg (scL n0 n1 cc (.slice none 0 0)).toArray)) W) := Lib.hid (fun ev W d ty ps af h1 h2 h3 => exec_rsc ev n0 n1 cc _ _ _ W d ty ps af h1 h2 h3)
  have HSCH : Hid (∀ (W : World) (g : Nat), W.heap[g]? = some (.cells (scL n0 n1 cc (.slice none 0 0)).toArray 30 (0, 0)) → ∃ V, W.heap[g]? = some (.cells (scL n0 n1 cc V).toArray 30 (0, 0)) ∧ V = .slice none 0 0) := Lib.hid (fun W g h => ⟨_, h, rfl⟩)
  obtain ⟨SC, hSC⟩ : ∃ SC, scL n0 n1 cc (.slice none 0 0) = SC := ⟨_, rfl⟩
  rw [hSC] at HSCI HSCI2 HSCO HSCZ HGD HHD HEX HSCH
  generalize cfL cc = CC at *
  clear hSC
  go_wp2_with fail
  refine wp_region_held_drew (S := Below w4.heap.size w4) (by kernel_rfl) (below_drew (Below.refl _ _)) (fun hSx => ?_)
  refine wpAnyH_take (i := 0) (oi := ⟨some 51, _, _, _, _, none⟩) (v := .slice (some ⟨b4, o4, none⟩) 15 cp4) rfl (by kernel_rfl) (by kernel_rfl) (by kernel_rfl) (fun _ _ _ h => h) (Or.inl ⟨by kernel_rfl, ?_⟩) hSx ?_
  · intro wx hSx2; clear hSx; go_simp
  try simp only [Act.put, List.setIfInBounds_toArray]
  refine wpAnyH_take (i := 1) (oi := ⟨some 52, _, _, _, _, none⟩) (v := .pointer (some ⟨b4, o4, none⟩)) rfl (by kernel_rfl) (by kernel_rfl) (by kernel_rfl) (fun _ _ _ h => h) (Or.inl ⟨by kernel_rfl, ?_⟩) hSx ?_
  · intro wx hSx2; clear hSx; go_simp
  try simp only [Act.put, List.setIfInBounds_toArray]
  refine wpAnyH_take (i := 2) (oi := ⟨some 53, _, _, _, _, none⟩) (v := .int .i64 n0) rfl (by kernel_rfl) (by kernel_rfl) (by kernel_rfl) (fun _ _ _ h => h) (Or.inl ⟨by kernel_rfl, ?_⟩) hSx ?_
  · intro wx hSx2; clear hSx; have hf0 := (Below.cell hSx2 (p := ⟨b4, o4, none⟩) HLT4.out).trans HC0.out; go_simp
  try simp only [Act.put, List.setIfInBounds_toArray]
  refine wpAnyH_take (i := 3) (oi := ⟨some 54, _, _, _, _, none⟩) (v := .slice (some ⟨b4, o4, none⟩) 15 cp4) rfl (by kernel_rfl) (by kernel_rfl) (by kernel_rfl) (fun _ _ _ h => h) (Or.inl ⟨by kernel_rfl, ?_⟩) hSx ?_
  · intro wx hSx2; clear hSx; go_simp
  try simp only [Act.put, List.setIfInBounds_toArray]
  refine wpAnyH_take (i := 4) (oi := ⟨some 55, _, _, _, _, none⟩) (v := .pointer (some ⟨b4, o4 + 1, none⟩)) rfl (by kernel_rfl) (by kernel_rfl) (by kernel_rfl) (fun _ _ _ h => h) (Or.inl ⟨by kernel_rfl, ?_⟩) hSx ?_
  · intro wx hSx2; clear hSx; go_simp
  try simp only [Act.put, List.setIfInBounds_toArray]
  refine wpAnyH_take (i := 5) (oi := ⟨some 56, _, _, _, _, none⟩) (v := .int .i64 n1) rfl (by kernel_rfl) (by kernel_rfl) (by kernel_rfl) (fun _ _ _ h => h) (Or.inl ⟨by kernel_rfl, ?_⟩) hSx ?_
  · intro wx hSx2; clear hSx; have hf0 := (Below.cell hSx2 (p := ⟨b4, o4 + 1, none⟩) HLT4.out).trans HC1.out; go_simp
  try simp only [Act.put, List.setIfInBounds_toArray]
  refine wpAnyH_take (i := 6) (oi := ⟨some 57, _, _, _, _, none⟩) (v := .slice (some ⟨b4, o4, none⟩) 15 cp4) rfl (by kernel_rfl) (by kernel_rfl) (by kernel_rfl) (fun _ _ _ h => h) (Or.inl ⟨by kernel_rfl, ?_⟩) hSx ?_
  · intro wx hSx2; clear hSx; go_simp
  try simp only [Act.put, List.setIfInBounds_toArray]
  refine wpAnyH_take (i := 7) (oi := ⟨some 58, _, _, _, _, none⟩) (v := .slice (some ⟨b4, o4 + 2, none⟩) 13 (cp4 - 2)) rfl (by kernel_rfl) (by kernel_rfl) (by kernel_rfl) (fun _ _ _ h => h) (Or.inl ⟨by kernel_rfl, ?_⟩) hSx ?_
  · intro wx hSx2; clear hSx; go_simp
  try simp only [Act.put, List.setIfInBounds_toArray]
  refine wpAnyH_ready (rs := [8, 10]) (by kernel_rfl) (by simp) ?_
  refine AllReadyH.cons (o := ⟨some 59, _, _, _, _, none⟩) rfl (fun KK hKK => ?brA) (AllReadyH.cons (o := ⟨some 8, _, _, _, _, none⟩) rfl (fun KK hKK => ?brB) AllReadyH.nil)
  case' brA =>
    go_simp
    refine (HCF.out _ (below_drew (Below.refl _ _))).mono ?_
    rintro e w5 ⟨rfl, hb5⟩
    refine hKK.out _ _ (Below.trans hSx hb5) (fun hSy => ?_)
    clear hKK hSx
    have hSx := hSy
    clear hSy KK
    try simp only [Act.put, List.setIfInBounds_toArray, List.set_cons_zero, List.set_cons_succ]
    refine wpAnyH_take (i := 9) (oi := ⟨some 60, _, _, _, _, none⟩) (v := .agg SC.toArray) rfl (by kernel_rfl) (by kernel_rfl) (by kernel_rfl) (fun _ _ _ h => h) (Or.inl ⟨by kernel_rfl, ?_⟩) hSx ?_
    · intro wx hSx2; clear hSx; exact HEX.out _ _ _ _ _ _ rfl rfl rfl
    try simp only [Act.put, List.setIfInBounds_toArray]
    refine wpAnyH_ready (rs := [10]) (by kernel_rfl) (by simp) ?_
    refine AllReadyH.cons (o := ⟨some 8, _, _, _, _, none⟩) rfl (fun KK hKK => ?_) AllReadyH.nil
    go_simp
    have HG5 : Hid ((w5.alloc (.cells #[.int .i64 0, .int .i64 0, .int .i64 0, .int .i64 0, .int .i64 0, .int .i64 0, .int .i64 0, .int .i64 0, .int .i64 0, .int .i64 0, .int .i64 0, .int .i64 0, .int .i64 0, .int .i64 0, .int .i64 0, .slice none 0 0] 30)).heap[w5.heap.size]? = some (.cells #[.int .i64 0, .int .i64 0, .int .i64 0, .int .i64 0, .int .i64 0, .int .i64 0, .int .i64 0, .int .i64 0, .int .i64 0, .int .i64 0, .int .i64 0, .int .i64 0, .int .i64 0, .int .i64 0, .int .i64 0, .slice none 0 0] 30 (0, 0))) := Lib.hid (heap_alloc_new w5 _)
    have HS5 : Hid (w4.heap.size ≤ w5.heap.size) := Lib.hid hb5.size
    refine hKK.out _ _ (Below.alloc hSx hb5.size _) (fun hSy => ?_)
    clear hKK hSx
    have hSx := hSy
    clear hSy KK
    try simp only [Act.put, List.setIfInBounds_toArray, List.set_cons_zero, List.set_cons_succ]
    refine store_ready 11 (by kernel_rfl) (by kernel_rfl) (by kernel_rfl) 30 (.tmp 8) (.tmp 60) (by kernel_rfl) (by kernel_rfl) w5.heap.size SC.toArray (by kernel_rfl) (by kernel_rfl) 30 _ HG5.out HSCI2.out HSCZ.out HSCO.out (below_setRow hSx HS5.out _) (fun hSy => ?_)
    refine wpAnyH_done (by kernel_rfl) ?_ _
    try simp only [List.set_cons_zero, List.set_cons_succ]
    have HX7 : Hid (((w5.alloc (.cells #[.int .i64 0, .int .i64 0, .int .i64 0, .int .i64 0, .int .i64 0, .int .i64 0, .int .i64 0, .int .i64 0, .int .i64 0, .int .i64 0, .int .i64 0, .int .i64 0, .int .i64 0, .int .i64 0, .int .i64 0, .slice none 0 0] 30)).setRow w5.heap.size SC.toArray).heap[w5.heap.size]? = some (.cells SC.toArray 30 (0, 0))) := Lib.hid (setRow_heap _ _ _ _ _ _ HG5.out)
    have HB7 := Lib.hid hSy
    clear hSx hSy hb5 HG5
    generalize hW7 : World.setRow _ _ _ = W7 at *
    generalize hg7 : w5.heap.size = g at *
    clear hW7 hg7
  case' brB =>
    go_simp
    have HG5 : Hid ((w4.alloc (.cells #[.int .i64 0, .int .i64 0, .int .i64 0, .int .i64 0, .int .i64 0, .int .i64 0, .int .i64 0, .int .i64 0, .int .i64 0, .int .i64 0, .int .i64 0, .int .i64 0, .int .i64 0, .int .i64 0, .int .i64 0, .slice none 0 0] 30)).drew.heap[w4.heap.size]? = some (.cells #[.int .i64 0, .int .i64 0, .int .i64 0, .int .i64 0, .int .i64 0, .int .i64 0, .int .i64 0, .int .i64 0, .int .i64 0, .int .i64 0, .int .i64 0, .int .i64 0, .int .i64 0, .int .i64 0, .int .i64 0, .slice none 0 0] 30 (0, 0))) := Lib.hid (heap_alloc_new w4 _)
    have HB5 : Hid (Below w4.heap.size w4 (w4.alloc (.cells #[.int .i64 0, .int .i64 0, .int .i64 0, .int .i64 0, .int .i64 0, .int .i64 0, .int .i64 0, .int .i64 0, .int .i64 0, .int .i64 0, .int .i64 0, .int .i64 0, .int .i64 0, .int .i64 0, .int .i64 0, .slice none 0 0] 30)).drew) := Lib.hid (below_drew ((Below.refl _ _).alloc (Nat.le_refl _) _))
    refine hKK.out _ _ (HB5.out) (fun hSy => ?_)
    clear hKK hSx
    have hSx := hSy
    clear hSy KK
    try simp only [Act.put, List.setIfInBounds_toArray, List.set_cons_zero, List.set_cons_succ]
    refine wpAnyH_ready (rs := [8]) (by kernel_rfl) (by simp) ?_
    refine AllReadyH.cons (o := ⟨some 59, _, _, _, _, none⟩) rfl (fun KK hKK => ?_) AllReadyH.nil
    go_simp
    refine (HCF.out _ HB5.out).mono ?_
    rintro e w5 ⟨rfl, hb5⟩
    refine hKK.out _ _ (Below.trans hSx (hb5.mono HB5.out.size)) (fun hSy => ?_)
    clear hKK hSx
    have hSx := hSy
    clear hSy KK
    try simp only [Act.put, List.setIfInBounds_toArray, List.set_cons_zero, List.set_cons_succ]
    refine wpAnyH_take (i := 9) (oi := ⟨some 60, _, _, _, _, none⟩) (v := .agg SC.toArray) rfl (by kernel_rfl) (by kernel_rfl) (by kernel_rfl) (fun _ _ _ h => h) (Or.inl ⟨by kernel_rfl, ?_⟩) hSx ?_
    · intro wx hSx2; clear hSx; exact HEX.out _ _ _ _ _ _ rfl rfl rfl
    try simp only [Act.put, List.setIfInBounds_toArray]
    have HG6 : Hid (w5.heap[w4.heap.size]? = some (.cells #[.int .i64 0, .int .i64 0, .int .i64 0, .int .i64 0, .int .i64 0, .int .i64 0, .int .i64 0, .int .i64 0, .int .i64 0, .int .i64 0, .int .i64 0, .int .i64 0, .int .i64 0, .int .i64 0, .int .i64 0, .slice none 0 0] 30 (0, 0))) := Lib.hid ((hb5.block _ (by simp)).trans HG5.out)
    refine store_ready 11 (by kernel_rfl) (by kernel_rfl) (by kernel_rfl) 30 (.tmp 8) (.tmp 60) (by kernel_rfl) (by kernel_rfl) w4.heap.size SC.toArray (by kernel_rfl) (by kernel_rfl) 30 _ HG6.out HSCI2.out HSCZ.out HSCO.out (below_setRow hSx (Nat.le_refl _) _) (fun hSy => ?_)
    refine wpAnyH_done (by kernel_rfl) ?_ _
    try simp only [List.set_cons_zero, List.set_cons_succ]
    have HX7 : Hid ((w5.setRow w4.heap.size SC.toArray).heap[w4.heap.size]? = some (.cells SC.toArray 30 (0, 0))) := Lib.hid (setRow_heap _ _ _ _ _ _ HG6.out)
    have HB7 := Lib.hid hSy
    have HS5 : Hid (w4.heap.size ≤ w4.heap.size) := Lib.hid (Nat.le_refl _)
    clear hSx hSy hb5 HG5 HG6 HB5
    obtain ⟨g, hg7⟩ : ∃ g, w4.heap.size = g := ⟨_, rfl⟩
    have HS5 : Hid (w4.heap.size ≤ g) := Lib.hid (by omega)
    rw [hg7] at HX7
    have HB8 : Hid (Below w4.heap.size w4 (w5.setRow g SC.toArray)) := Lib.hid (by subst hg7; exact HB7.out)
    clear HB7
    have HB7 := HB8
    rw [hg7]
    clear hg7 HB8
    generalize hW7 : World.setRow _ _ _ = W7 at *
    clear hW7
  all_goals
    clear HC0 HC1 HIT HCF HLT4 HEX HIU
    have HSG : Hid (g < W7.heap.size) := Lib.hid (Array.getElem?_eq_some_iff.1 HX7.out).1
    have HLO : Hid (w.heap.size + 1 ≤ w4.heap.size ∧ b < w4.heap.size) := Lib.hid (by have := HB24.out.size; have := HSZ2.out; omega)
    have HG7 : Hid (W7.heap[w.heap.size]? = some (.cells #[.int .i64 0, .int .i64 0, .int .i64 0, .int .i64 0, .int .i64 0, .int .i64 0, .int .i64 0, .int .i64 0, .int .i64 0, .int .i64 0, .int .i64 0, .int .i64 0, .int .i64 0, .int .i64 0, .int .i64 0, .slice none 0 0] 30 (0, 0))) := Lib.hid ((HB7.out.block _ (by have := HLO.out; omega)).trans HG4.out)
    have HB27 : Hid (Below w2.heap.size w2 W7) := Lib.hid (HB24.out.trans (HB7.out.mono HB24.out.size))
    have HRX : Hid (∀ W, Below W7.heap.size W7 W → W.rangeAt g 0 SC) := Lib.hid (fun W hb => range_of_row ((hb.block _ HSG.out).trans HX7.out))
    have HCX0 : Hid (∀ W, Below W7.heap.size W7 W → W.cell? ⟨b, o, none⟩ = some (.string (str x0))) := Lib.hid (fun W hb => HC00.out W (HB27.out.trans (hb.mono HB27.out.size)))
    have HZW : Hid (∀ W, Below W7.heap.size W7 W → W.heap[w.heap.size]? = some (.cells #[.int .i64 0, .int .i64 0, .int .i64 0, .int .i64 0, .int .i64 0, .int .i64 0, .int .i64 0, .int .i64 0, .int .i64 0, .int .i64 0, .int .i64 0, .int .i64 0, .int .i64 0, .int .i64 0, .int .i64 0, .slice none 0 0] 30 (0, 0)) ∧ Below w.heap.size w W) := Lib.hid (fun W hb => ⟨(hb.block _ (by have := HSG.out; have := HS5.out; have := HLO.out; omega)).trans HG7.out, HBH.out _ (HB27.out.trans (hb.mono HB27.out.size))⟩)
    clear hc0 HG3 HWS3 HTS HSZ HNL
    go_wp2_with fail
    cases hgd : (fitB [n0, n1] && smallB cc)
    case' false =>
      have HE : Hid (rreadLs ls = (none, 0, 300)) := Lib.hid (by rw [HRL2.out, HRH.out, if_neg (fun q => by rw [hgd] at q; cases q.1)])
      rw [hgd] at HGD
      clear hgd HHD
      refine wp_region_held_drew (S := Below W7.heap.size W7) (by kernel_rfl) (below_drew (Below.refl _ _)) (fun hSx => ?_)
      refine wpAnyH_take (i := 0) (oi := ⟨some 61, _, _, _, _, none⟩) (v := .agg SC.toArray) rfl (by kernel_rfl) (by kernel_rfl) (by kernel_rfl) (fun _ _ _ h => h) (yieldsIf_load_mid (by kernel_rfl) 30 (.tmp 8) rfl g 0 rfl SC _ (fun W hW => HRX.out W hW) Tryd.underlying30 rfl HSCI.out) hSx ?_
      try simp only [Act.put, List.setIfInBounds_toArray]
      refine wpAnyH_ready (rs := [1]) (by kernel_rfl) (by simp) ?_
      refine AllReadyH.cons (o := ⟨some 62, _, _, _, _, none⟩) rfl (fun KK hKK => ?_) AllReadyH.nil
      go_simp
      refine (HGD.out _).mono ?_
      rintro e wz ⟨rfl, hbz⟩
      refine hKK.out _ _ (Below.trans hSx (hbz.mono (Below.size hSx))) (fun hSy => ?_)
      clear hKK hSx
      have hSx := hSy
      clear hSy KK
      try simp only [Act.put, List.setIfInBounds_toArray, List.set_cons_zero, List.set_cons_succ]
      refine wpAnyH_take (i := 2) (oi := ⟨some 63, _, _, _, _, none⟩) (v := .bool true) rfl (by kernel_rfl) (by kernel_rfl) (by kernel_rfl) (fun _ _ _ h => h) (Or.inl ⟨by kernel_rfl, ?_⟩) hSx ?_
      · intro wx hSx2; clear hSx; go_simp
      try simp only [Act.put, List.setIfInBounds_toArray]
      refine wpAnyH_take (i := 3) (oi := ⟨some 64, _, _, _, _, none⟩) (v := .bool true) rfl (by kernel_rfl) (by kernel_rfl) (by kernel_rfl) (fun _ _ _ h => h) (Or.inl ⟨by kernel_rfl, ?_⟩) hSx ?_
      · intro wx hSx2; clear hSx; go_simp
      try simp only [Act.put, List.setIfInBounds_toArray]
      refine wpAnyH_take (i := 4) (oi := ⟨some 65, _, _, _, _, some (3, false)⟩) (v := undef) rfl (by kernel_rfl) (by kernel_rfl) (by kernel_rfl) (fun _ _ _ h => h) (Or.inr ⟨by kernel_rfl, rfl⟩) hSx ?_
      try simp only [Act.put, List.setIfInBounds_toArray]
      refine wpAnyH_take (i := 5) (oi := ⟨some 66, _, _, _, _, some (3, false)⟩) (v := undef) rfl (by kernel_rfl) (by kernel_rfl) (by kernel_rfl) (fun _ _ _ h => h) (Or.inr ⟨by kernel_rfl, rfl⟩) hSx ?_
      try simp only [Act.put, List.setIfInBounds_toArray]
      refine wpAnyH_take (i := 6) (oi := ⟨some 67, _, _, _, _, some (3, false)⟩) (v := undef) rfl (by kernel_rfl) (by kernel_rfl) (by kernel_rfl) (fun _ _ _ h => h) (Or.inr ⟨by kernel_rfl, rfl⟩) hSx ?_
      try simp only [Act.put, List.setIfInBounds_toArray]
      refine wpAnyH_take (i := 7) (oi := ⟨some 68, _, _, _, _, some (3, false)⟩) (v := undef) rfl (by kernel_rfl) (by kernel_rfl) (by kernel_rfl) (fun _ _ _ h => h) (Or.inr ⟨by kernel_rfl, rfl⟩) hSx ?_
      try simp only [Act.put, List.setIfInBounds_toArray]
      refine wpAnyH_take (i := 8) (oi := ⟨some 69, _, _, _, _, some (3, false)⟩) (v := undef) rfl (by kernel_rfl) (by kernel_rfl) (by kernel_rfl) (fun _ _ _ h => h) (Or.inr ⟨by kernel_rfl, rfl⟩) hSx ?_
      try simp only [Act.put, List.setIfInBounds_toArray]
      refine wpAnyH_take (i := 9) (oi := ⟨some 70, _, _, _, _, some (3, false)⟩) (v := undef) rfl (by kernel_rfl) (by kernel_rfl) (by kernel_rfl) (fun _ _ _ h => h) (Or.inr ⟨by kernel_rfl, rfl⟩) hSx ?_
      try simp only [Act.put, List.setIfInBounds_toArray]
      refine wpAnyH_take (i := 10) (oi := ⟨some 71, _, _, _, _, none⟩) (v := .bool true) rfl (by kernel_rfl) (by kernel_rfl) (by kernel_rfl) (fun _ _ _ h => h) (Or.inl ⟨by kernel_rfl, ?_⟩) hSx ?_
      · intro wx hSx2; clear hSx; go_simp
      try simp only [Act.put, List.setIfInBounds_toArray]
      refine wpAnyH_done (by kernel_rfl) ?_ _
      try simp only [List.set_cons_zero, List.set_cons_succ]
      have HS9 := Lib.hid hSx
      clear hSx
      obtain ⟨hg9, hb9⟩ := HZW.out _ HS9.out
      have HG9 := Lib.hid hg9
      have HB9 := Lib.hid hb9
      clear hg9 hb9
      go_wp2_with (first
        | ((with_reducible refine wpList_store_row (o := ⟨none, _, _, _, _, _⟩) rfl 30 (.tmp 2) (.tmp 72) rfl w.heap.size (scL 0 0 c0 (.slice none 0 0)).toArray ?_ ?_ 30 _ HG9.out HIZ.out rfl HOZ.out ?_); rfl; rfl))
      rw [HRP.out, HE.out]
      exact bodyPost_ret (results_row3 rfl _ _ w.heap.size 30 (scL 0 0 c0 (.slice none 0 0)).toArray (0, 0) _ rfl (setRow_heap _ _ _ _ _ _ HG9.out) Tryd.underlying30 rfl HIZ.out) rfl ⟨giveSc_none rfl, below_setRow HB9.out (Nat.le_refl _) _⟩
    rw [hgd] at HGD
    have HHX := Lib.hid (HHD.out hgd)
    by_cases hhl : headL n0 n1 cc = x0
    case neg =>
      have HE : Hid (rreadLs ls = (none, 0, 300)) := Lib.hid (by rw [HRL2.out, HRH.out, if_neg (fun q => hhl q.2)])
      have hne : ((str (headL n0 n1 cc)).toList == (str x0).toList) = false := by rw [str_beq]; simpa using hhl
      have hne2 : ((str (headL n0 n1 cc)).toList != (str x0).toList) = true := by rw [bne, hne]; rfl
      clear hgd HHD hhl
      generalize headL n0 n1 cc = hx at *
      refine wp_region_held_drew (S := Below W7.heap.size W7) (by kernel_rfl) (below_drew (Below.refl _ _)) (fun hSx => ?_)
      refine wpAnyH_take (i := 0) (oi := ⟨some 61, _, _, _, _, none⟩) (v := .agg SC.toArray) rfl (by kernel_rfl) (by kernel_rfl) (by kernel_rfl) (fun _ _ _ h => h) (yieldsIf_load_mid (by kernel_rfl) 30 (.tmp 8) rfl g 0 rfl SC _ (fun W hW => HRX.out W hW) Tryd.underlying30 rfl HSCI.out) hSx ?_
      try simp only [Act.put, List.setIfInBounds_toArray]
      refine wpAnyH_ready (rs := [1]) (by kernel_rfl) (by simp) ?_
      refine AllReadyH.cons (o := ⟨some 62, _, _, _, _, none⟩) rfl (fun KK hKK => ?_) AllReadyH.nil
      go_simp
      refine (HGD.out _).mono ?_
      rintro e wz ⟨rfl, hbz⟩
      refine hKK.out _ _ (Below.trans hSx (hbz.mono (Below.size hSx))) (fun hSy => ?_)
      clear hKK hSx
      have hSx := hSy
      clear hSy KK
      try simp only [Act.put, List.setIfInBounds_toArray, List.set_cons_zero, List.set_cons_succ]
      refine wpAnyH_take (i := 2) (oi := ⟨some 63, _, _, _, _, none⟩) (v := .bool false) rfl (by kernel_rfl) (by kernel_rfl) (by kernel_rfl) (fun _ _ _ h => h) (Or.inl ⟨by kernel_rfl, ?_⟩) hSx ?_
      · intro wx hSx2; clear hSx; go_simp
      try simp only [Act.put, List.setIfInBounds_toArray]
      refine wpAnyH_take (i := 3) (oi := ⟨some 64, _, _, _, _, none⟩) (v := .bool false) rfl (by kernel_rfl) (by kernel_rfl) (by kernel_rfl) (fun _ _ _ h => h) (Or.inl ⟨by kernel_rfl, ?_⟩) hSx ?_
      · intro wx hSx2; clear hSx; go_simp
      try simp only [Act.put, List.setIfInBounds_toArray]
      refine wpAnyH_take (i := 4) (oi := ⟨some 65, _, _, _, _, some (3, false)⟩) (v := .agg SC.toArray) rfl (by kernel_rfl) (by kernel_rfl) (by kernel_rfl) (fun _ _ _ h => h) (yieldsIf_load_mid (by kernel_rfl) 30 (.tmp 8) rfl g 0 rfl SC _ (fun W hW => HRX.out W hW) Tryd.underlying30 rfl HSCI.out) hSx ?_
      try simp only [Act.put, List.setIfInBounds_toArray]
      refine wpAnyH_take (i := 6) (oi := ⟨some 67, _, _, _, _, some (3, false)⟩) (v := .slice (some ⟨b, o, none⟩) n cp) rfl (by kernel_rfl) (by kernel_rfl) (by kernel_rfl) (fun _ _ _ h => h) (Or.inl ⟨by kernel_rfl, ?_⟩) hSx ?_
      · intro wx hSx2; clear hSx; go_simp
      try simp only [Act.put, List.setIfInBounds_toArray]
      refine wpAnyH_take (i := 7) (oi := ⟨some 68, _, _, _, _, some (3, false)⟩) (v := .pointer (some ⟨b, o, none⟩)) rfl (by kernel_rfl) (by kernel_rfl) (by kernel_rfl) (fun _ _ _ h => h) (Or.inl ⟨by kernel_rfl, ?_⟩) hSx ?_
      · intro wx hSx2; clear hSx; go_simp
      try simp only [Act.put, List.setIfInBounds_toArray]
      refine wpAnyH_take (i := 8) (oi := ⟨some 69, _, _, _, _, some (3, false)⟩) (v := .string (str x0)) rfl (by kernel_rfl) (by kernel_rfl) (by kernel_rfl) (fun _ _ _ h => h) (Or.inl ⟨by kernel_rfl, ?_⟩) hSx ?_
      · intro wx hSx2; clear hSx; have hf0 := HCX0.out wx hSx2; go_simp
      try simp only [Act.put, List.setIfInBounds_toArray]
      refine wpAnyH_ready (rs := [5]) (by kernel_rfl) (by simp) ?_
      refine AllReadyH.cons (o := ⟨some 66, _, _, _, _, some (3, false)⟩) rfl (fun KK hKK => ?_) AllReadyH.nil
      go_simp
      refine (HHX.out _).mono ?_
      rintro e wz ⟨rfl, hbz⟩
      refine hKK.out _ _ (Below.trans hSx (hbz.mono (Below.size hSx))) (fun hSy => ?_)
      clear hKK hSx
      have hSx := hSy
      clear hSy KK
      try simp only [Act.put, List.setIfInBounds_toArray, List.set_cons_zero, List.set_cons_succ]
      refine wpAnyH_take (i := 9) (oi := ⟨some 70, _, _, _, _, some (3, false)⟩) (v := .bool true) rfl (by kernel_rfl) (by kernel_rfl) (by kernel_rfl) (fun _ _ _ h => h) (Or.inl ⟨by kernel_rfl, ?_⟩) hSx ?_
      · intro wx hSx2; clear hSx; go_simp
      try simp only [Act.put, List.setIfInBounds_toArray]
      refine wpAnyH_take (i := 10) (oi := ⟨some 71, _, _, _, _, none⟩) (v := .bool true) rfl (by kernel_rfl) (by kernel_rfl) (by kernel_rfl) (fun _ _ _ h => h) (Or.inl ⟨by kernel_rfl, ?_⟩) hSx ?_
      · intro wx hSx2; clear hSx; go_simp
      try simp only [Act.put, List.setIfInBounds_toArray]
      refine wpAnyH_done (by kernel_rfl) ?_ _
      try simp only [List.set_cons_zero, List.set_cons_succ]
      have HS9 := Lib.hid hSx
      clear hSx
      obtain ⟨hg9, hb9⟩ := HZW.out _ HS9.out
      have HG9 := Lib.hid hg9
      have HB9 := Lib.hid hb9
      clear hg9 hb9
      go_wp2_with (first
        | ((with_reducible refine wpList_store_row (o := ⟨none, _, _, _, _, _⟩) rfl 30 (.tmp 2) (.tmp 72) rfl w.heap.size (scL 0 0 c0 (.slice none 0 0)).toArray ?_ ?_ 30 _ HG9.out HIZ.out rfl HOZ.out ?_); rfl; rfl))
      rw [HRP.out, HE.out]
      exact bodyPost_ret (results_row3 rfl _ _ w.heap.size 30 (scL 0 0 c0 (.slice none 0 0)).toArray (0, 0) _ rfl (setRow_heap _ _ _ _ _ _ HG9.out) Tryd.underlying30 rfl HIZ.out) rfl ⟨giveSc_none rfl, below_setRow HB9.out (Nat.le_refl _) _⟩
    have HOK : Hid (rreadLs ls = match readGo ls.tail [] 0 with
      | (some st, _, _) => (some (n0, n1, cc, st), ls.length, 0)
      | (none, n, e) => (none, n, e)) := Lib.hid (by rw [HRL2.out, HRH.out, if_pos ⟨hgd, hhl⟩])
    have hne : ((str (headL n0 n1 cc)).toList == (str x0).toList) = true := by rw [str_beq]; simpa using hhl
    have hne2 : ((str (headL n0 n1 cc)).toList != (str x0).toList) = false := by rw [bne, hne]; rfl
    clear hgd HHD hhl
    generalize headL n0 n1 cc = hx at *
    refine wp_region_held_drew (S := Below W7.heap.size W7) (by kernel_rfl) (below_drew (Below.refl _ _)) (fun hSx => ?_)
    refine wpAnyH_take (i := 0) (oi := ⟨some 61, _, _, _, _, none⟩) (v := .agg SC.toArray) rfl (by kernel_rfl) (by kernel_rfl) (by kernel_rfl) (fun _ _ _ h => h) (yieldsIf_load_mid (by kernel_rfl) 30 (.tmp 8) rfl g 0 rfl SC _ (fun W hW => HRX.out W hW) Tryd.underlying30 rfl HSCI.out) hSx ?_
    try simp only [Act.put, List.setIfInBounds_toArray]
    refine wpAnyH_ready (rs := [1]) (by kernel_rfl) (by simp) ?_
    refine AllReadyH.cons (o := ⟨some 62, _, _, _, _, none⟩) rfl (fun KK hKK => ?_) AllReadyH.nil
    go_simp
    refine (HGD.out _).mono ?_
    rintro e wz ⟨rfl, hbz⟩
    refine hKK.out _ _ (Below.trans hSx (hbz.mono (Below.size hSx))) (fun hSy => ?_)
    clear hKK hSx
    have hSx := hSy
    clear hSy KK
    try simp only [Act.put, List.setIfInBounds_toArray, List.set_cons_zero, List.set_cons_succ]
    refine wpAnyH_take (i := 2) (oi := ⟨some 63, _, _, _, _, none⟩) (v := .bool false) rfl (by kernel_rfl) (by kernel_rfl) (by kernel_rfl) (fun _ _ _ h => h) (Or.inl ⟨by kernel_rfl, ?_⟩) hSx ?_
    · intro wx hSx2; clear hSx; go_simp
    try simp only [Act.put, List.setIfInBounds_toArray]
    refine wpAnyH_take (i := 3) (oi := ⟨some 64, _, _, _, _, none⟩) (v := .bool false) rfl (by kernel_rfl) (by kernel_rfl) (by kernel_rfl) (fun _ _ _ h => h) (Or.inl ⟨by kernel_rfl, ?_⟩) hSx ?_
    · intro wx hSx2; clear hSx; go_simp
    try simp only [Act.put, List.setIfInBounds_toArray]
    refine wpAnyH_take (i := 4) (oi := ⟨some 65, _, _, _, _, some (3, false)⟩) (v := .agg SC.toArray) rfl (by kernel_rfl) (by kernel_rfl) (by kernel_rfl) (fun _ _ _ h => h) (yieldsIf_load_mid (by kernel_rfl) 30 (.tmp 8) rfl g 0 rfl SC _ (fun W hW => HRX.out W hW) Tryd.underlying30 rfl HSCI.out) hSx ?_
    try simp only [Act.put, List.setIfInBounds_toArray]
    refine wpAnyH_take (i := 6) (oi := ⟨some 67, _, _, _, _, some (3, false)⟩) (v := .slice (some ⟨b, o, none⟩) n cp) rfl (by kernel_rfl) (by kernel_rfl) (by kernel_rfl) (fun _ _ _ h => h) (Or.inl ⟨by kernel_rfl, ?_⟩) hSx ?_
    · intro wx hSx2; clear hSx; go_simp
    try simp only [Act.put, List.setIfInBounds_toArray]
    refine wpAnyH_take (i := 7) (oi := ⟨some 68, _, _, _, _, some (3, false)⟩) (v := .pointer (some ⟨b, o, none⟩)) rfl (by kernel_rfl) (by kernel_rfl) (by kernel_rfl) (fun _ _ _ h => h) (Or.inl ⟨by kernel_rfl, ?_⟩) hSx ?_
    · intro wx hSx2; clear hSx; go_simp
    try simp only [Act.put, List.setIfInBounds_toArray]
    refine wpAnyH_take (i := 8) (oi := ⟨some 69, _, _, _, _, some (3, false)⟩) (v := .string (str x0)) rfl (by kernel_rfl) (by kernel_rfl) (by kernel_rfl) (fun _ _ _ h => h) (Or.inl ⟨by kernel_rfl, ?_⟩) hSx ?_
    · intro wx hSx2; clear hSx; have hf0 := HCX0.out wx hSx2; go_simp
    try simp only [Act.put, List.setIfInBounds_toArray]
    refine wpAnyH_ready (rs := [5]) (by kernel_rfl) (by simp) ?_
    refine AllReadyH.cons (o := ⟨some 66, _, _, _, _, some (3, false)⟩) rfl (fun KK hKK => ?_) AllReadyH.nil
    go_simp
    refine (HHX.out _).mono ?_
    rintro e wz ⟨rfl, hbz⟩
    refine hKK.out _ _ (Below.trans hSx (hbz.mono (Below.size hSx))) (fun hSy => ?_)
    clear hKK hSx
    have hSx := hSy
    clear hSy KK
    try simp only [Act.put, List.setIfInBounds_toArray, List.set_cons_zero, List.set_cons_succ]
    refine wpAnyH_take (i := 9) (oi := ⟨some 70, _, _, _, _, some (3, false)⟩) (v := .bool false) rfl (by kernel_rfl) (by kernel_rfl) (by kernel_rfl) (fun _ _ _ h => h) (Or.inl ⟨by kernel_rfl, ?_⟩) hSx ?_
    · intro wx hSx2; clear hSx; go_simp
    try simp only [Act.put, List.setIfInBounds_toArray]
    refine wpAnyH_take (i := 10) (oi := ⟨some 71, _, _, _, _, none⟩) (v := .bool false) rfl (by kernel_rfl) (by kernel_rfl) (by kernel_rfl) (fun _ _ _ h => h) (Or.inl ⟨by kernel_rfl, ?_⟩) hSx ?_
    · intro wx hSx2; clear hSx; go_simp
    try simp only [Act.put, List.setIfInBounds_toArray]
    refine wpAnyH_done (by kernel_rfl) ?_ _
    try simp only [List.set_cons_zero, List.set_cons_succ]
    have HS9 := Lib.hid hSx
    clear hSx hne hne2 HHX HGD
    obtain ⟨i44, hi44, hz44, hs44, hy44⟩ := info_parts info44
    have I44 := Lib.hid hi44
    have Z44 := Lib.hid hz44
    have S44 := Lib.hid hs44
    have Y44 := Lib.hid hy44
    clear hi44 hz44 hs44 hy44
    obtain ⟨VX, hVX, hVX2⟩ := HSCH.out _ _ HX7.out
    have HINV0 : Hid (∃ V ps, wz.heap[g]? = some (.cells (scL n0 n1 cc V).toArray 30 (0, 0)) ∧ Sows wz W7.heap.size V ps ∧ Below w4.heap.size w4 wz ∧ W7.heap.size ≤ wz.heap.size ∧ ps.length + 1 = 1 ∧ readGo (ls.drop 1) (ps.map (·.1)) (1 - 1) = readGo ls.tail [] 0) := Lib.hid
      ⟨VX, [], (HS9.out.block _ HSG.out).trans hVX, by rw [hVX2]; exact Sows.nil _ _, HB7.out.trans (HS9.out.mono HB7.out.size), HS9.out.size, rfl, by rw [List.drop_one]; rfl⟩
    have HG74 : Hid (w4.heap.size ≤ g ∧ g < W7.heap.size) := Lib.hid ⟨HS5.out, HSG.out⟩
    have HZ4 : Hid (∀ W, Below w4.heap.size w4 W → W.heap[w.heap.size]? = some (.cells #[.int .i64 0, .int .i64 0, .int .i64 0, .int .i64 0, .int .i64 0, .int .i64 0, .int .i64 0, .int .i64 0, .int .i64 0, .int .i64 0, .int .i64 0, .int .i64 0, .int .i64 0, .int .i64 0, .int .i64 0, .slice none 0 0] 30 (0, 0)) ∧ Below w.heap.size w W) := Lib.hid (fun W hb => ⟨(hb.block _ (by have := HLO.out; omega)).trans HG4.out, HBH.out _ (HB24.out.trans (hb.mono HB24.out.size))⟩)
    clear hVX hVX2 HS9 HRX HCX0 HZW HSCI HSCI2 HSCO HSCZ
    go_wp2_with fail
    go_loopg [9] n (fun gk i wr => ∃ (q : Nat) (V : Value) (ps : List (St × Value)), q + 1 ≤ n ∧ gk = n - q ∧ i = .int .i64 ((q + 1 : Nat) : Int) ∧ wr.heap[g]? = some (.cells (scL n0 n1 cc V).toArray 30 (0, 0)) ∧ Sows wr W7.heap.size V ps ∧ Below w4.heap.size w4 wr ∧ W7.heap.size ≤ wr.heap.size ∧ ps.length + 1 = q + 1 ∧ readGo (ls.drop (q + 1)) (ps.map (·.1)) q = readGo ls.tail [] 0)
    case atStart =>
      obtain ⟨V, ps, h1, h2, h3, h4, h5, h6⟩ := HINV0.out
      exact ⟨0, V, ps, by omega, rfl, rfl, h1, h2, h3, h4, h5, h6⟩
    case round =>
      obtain ⟨q, V, ps, hq, hgk, rfl, h6, hso, hbw, hsw, hpl, hrg⟩ := hrel
      have HK := Lib.hid hgk
      have H6 := Lib.hid h6
      have HSO := Lib.hid hso
      have HBWR := Lib.hid hbw
      have HSW := Lib.hid hsw
      have HPL : Hid (ps.length = q) := Lib.hid (by omega)
      have HRG := Lib.hid hrg
      have HQB : Hid (q ≤ 1000001) := Lib.hid (by have := HCM.out; omega)
      obtain ⟨AV, cV, hV⟩ := own_slice hso.own
      rw [HPL.out] at hV
      have hqB : (q : Int) ≤ 1000001 := by have := HQB.out; omega
      have hq0 : (0 : Int) ≤ (q : Int) := by omega
      have hsz6 : g < wr.heap.size := (Array.getElem?_eq_some_iff.1 h6).1
      have HSZ6 := Lib.hid hsz6
      obtain ⟨hgr, hbr⟩ := HZ4.out _ hbw
      have HGR := Lib.hid hgr
      have HBR := Lib.hid hbr
      clear hgk h6 hso hsw hpl hrg HINV0 hsz6 hbw hgr hbr
      by_cases hlt : q + 1 < n
      · have HCX : Hid (wr.cell? ⟨b, o + (q + 1), none⟩ = some (.string (str (ls.getD (q + 1) [])))) := Lib.hid (by
          obtain ⟨b1, o1, c1, e, _, _, hc1⟩ := HWS.out.2 (by intro e; have := HML.out; rw [e] at this; simp only [List.length_nil] at this; omega)
          injection e with e1
          injection e1 with e1
          injection e1 with e2 e3
          subst e2 e3
          rw [HBWR.out.cell (p := ⟨b, o + (q + 1), none⟩) HLO.out.2, HB24.out.cell (p := ⟨b, o + (q + 1), none⟩) HSZ2.out.2]
          exact hc1 (q + 1) (by rw [HML.out]; exact hlt))
        have HDX : Hid (ls.drop (q + 1) = ls.getD (q + 1) [] :: ls.drop (q + 1 + 1)) := Lib.hid (by
          rw [List.drop_eq_getElem_cons (by rw [HML.out]; exact hlt)]
          simp [List.getD, show q + 1 < ls.length by rw [HML.out]; exact hlt])
        have HXL : Hid ((ls.getD (q + 1) []).length ≤ 1000000) := Lib.hid (HXS.out _ (by simp [List.getD, show q + 1 < ls.length by rw [HML.out]; exact hlt]))
        have hcx := HCX.out
        generalize ls.getD (q + 1) [] = x at *
        have hxz : (str x).size = x.length := str_size x
        have hq1 : (q : Int) + 1 < (n : Int) := by omega
        have hqc : (q : Int) + 1 < (cp : Int) := by have := HCM.out; omega
        clear HCX
        have HRGX : Hid (readGo ls.tail [] 0 = if parseE x = 0 then readGo (ls.drop (q + 1 + 1)) (ps.map (·.1) ++ [parseS x]) (q + 1) else (none, q + 1, parseE x)) := Lib.hid (by rw [← HRG.out, HDX.out, readGo])
        by_cases hxb : 65536 < x.length
        case pos =>
          have hE : parseE x = 2 := if_pos hxb
          have HRN : Hid (rreadLs ls = (none, q + 1, 2)) := Lib.hid (by rw [HOK.out, HRGX.out, if_neg (by rw [hE]; decide), hE])
          have hd5 : decide ((65536 : Int) < (x.length : Int)) = true := by simp; omega
          clear hxb hE
          go_wp2_with (first
            | ((with_reducible refine wpList_store_row (o := ⟨none, _, _, _, _, _⟩) rfl 30 (.tmp 2) (.tmp 85) rfl w.heap.size (scL 0 0 c0 (.slice none 0 0)).toArray ?_ ?_ 30 _ HGR.out HIZ.out rfl HOZ.out ?_); rfl; rfl))
          rw [HRP.out, HRN.out]
          exact bodyPost_ret (results_row3 rfl _ _ w.heap.size 30 (scL 0 0 c0 (.slice none 0 0)).toArray (0, 0) _ rfl (setRow_heap _ _ _ _ _ _ HGR.out) Tryd.underlying30 rfl HIZ.out) rfl ⟨giveSc_none (by omega), below_setRow HBR.out (Nat.le_refl _) _⟩
        have hd5 : decide ((65536 : Int) < (x.length : Int)) = false := by simp; omega
        have HPX := Lib.hid (rparse8 x (by omega) wr)
        rw [parse_both] at HPX
        have hE : parseE x = match parseP x with | none => 300 | some _ => 0 := if_neg hxb
        have hS : parseS x = (parseP x).getD zSt := if_neg hxb
        rw [hE, hS] at HRGX
        clear hxb hE hS
        cases hp : parseP x with
        | none =>
          rw [hp] at HPX HRGX
          have HRN : Hid (rreadLs ls = (none, q + 1, 300)) := Lib.hid (by rw [HOK.out, HRGX.out]; rfl)
          clear hp HRGX
          have HPY : Hid (Calls Tryd.prog 24 #[.string (str x)] wr fun e w' => GiveSt wr.heap.size zSt e w' (.bool false) ∧ Below wr.heap.size wr w') := Lib.hid HPX.out
          clear HPX
          go_wp2_with fail
          refine Calls.mono HPY.out ?_
          rintro e w5 ⟨⟨A5, c5, hk5, hfr5, hf5, rfl⟩, hb5⟩
          obtain ⟨L, hL⟩ : ∃ L, zSt.L (.slice A5 zSt.kp.length c5) = L := ⟨_, rfl⟩
          have HIL2 : Hid ((Tryd.prog.info? 44).map (·.size) = some L.toArray.size) := Lib.hid (by rw [← hL]; exact info30)
          have HZL : Hid ((#[.int .i64 0, .int .i64 0, .string ⟨#[]⟩, .string ⟨#[]⟩, .int .i64 0, .slice none 0 0, .int .i64 0, .int .i64 0, .int .i64 0, .int .i64 0, .int .i64 0, .int .i64 0, .int .i64 0, .int .i64 0, .int .i64 0, .int .i64 0, .int .i64 0, .int .i64 0, .int .i64 0] : Array Value).size = L.toArray.size) := Lib.hid (by rw [← hL]; rfl)
          have HOL : Hid (L.toArray.all (·.oneCell') = true) := Lib.hid (by rw [← hL]; exact stL_one _ _ _ _ _ _ _ _ _)
          rw [hL]
          have HB6 : Hid (Below wr.heap.size wr (w5.alloc (.cells L.toArray 44))) := Lib.hid (hb5.alloc hb5.size _)
          obtain ⟨hg6, hbw6⟩ := HZ4.out _ (HBWR.out.trans (HB6.out.mono HBWR.out.size))
          have HG6 := Lib.hid hg6
          have HBW6 := Lib.hid hbw6
          clear hk5 hf5 hfr5 hb5 hL hg6 hbw6
          go_wp2_with (first
            | ((with_reducible refine wpList_store_new (op := ⟨none, _, _, _, _, _⟩) rfl 44 (.tmp 10) (.tmp 93) rfl w5.heap.size _ L.toArray rfl ?_ ?_ HIL2.out HZL.out HOL.out ?_); rfl; rfl)
            | ((with_reducible refine wpList_store_row (o := ⟨none, _, _, _, _, _⟩) rfl 30 (.tmp 2) (.tmp 97) rfl w.heap.size (scL 0 0 c0 (.slice none 0 0)).toArray ?_ ?_ 30 _ HG6.out HIZ.out rfl HOZ.out ?_); rfl; rfl))
          rw [HRP.out, HRN.out]
          exact bodyPost_ret (results_row3 rfl _ _ w.heap.size 30 (scL 0 0 c0 (.slice none 0 0)).toArray (0, 0) _ rfl (setRow_heap _ _ _ _ _ _ HG6.out) Tryd.underlying30 rfl HIZ.out) rfl ⟨giveSc_none (by omega), below_setRow HBW6.out (Nat.le_refl _) _⟩
        | some s =>
          rw [hp] at HPX HRGX
          have HRS : Hid (readGo ls.tail [] 0 = readGo (ls.drop (q + 1 + 1)) (ps.map (·.1) ++ [s]) (q + 1)) := Lib.hid (by rw [HRGX.out]; rfl)
          clear hp HRGX
          have HPY : Hid (Calls Tryd.prog 24 #[.string (str x)] wr fun e w' => GiveSt wr.heap.size s e w' (.bool true) ∧ Below wr.heap.size wr w') := Lib.hid HPX.out
          clear HPX
          go_wp2_with fail
          refine Calls.mono HPY.out ?_
          rintro e w5 ⟨⟨A5, c5, hk5, hfr5, hf5, rfl⟩, hb5⟩
          have HK5 := Lib.hid hk5
          have HF5 := Lib.hid hf5
          have HFR := Lib.hid hfr5
          obtain ⟨L, hL⟩ : ∃ L, s.L (.slice A5 s.kp.length c5) = L := ⟨_, rfl⟩
          have HLE := Lib.hid hL
          have HIL : Hid ((Tryd.prog.info? 44).map (·.size) = some L.length) := Lib.hid (by rw [← hL]; exact info30)
          have HIL2 : Hid ((Tryd.prog.info? 44).map (·.size) = some L.toArray.size) := Lib.hid (by rw [← hL]; exact info30)
          have HZL : Hid ((#[.int .i64 0, .int .i64 0, .string ⟨#[]⟩, .string ⟨#[]⟩, .int .i64 0, .slice none 0 0, .int .i64 0, .int .i64 0, .int .i64 0, .int .i64 0, .int .i64 0, .int .i64 0, .int .i64 0, .int .i64 0, .int .i64 0, .int .i64 0, .int .i64 0, .int .i64 0, .int .i64 0] : Array Value).size = L.toArray.size) := Lib.hid (by rw [← hL]; rfl)
          have HOL : Hid (L.toArray.all (·.oneCell') = true) := Lib.hid (by rw [← hL]; exact stL_one _ _ _ _ _ _ _ _ _)
          have HL19 : Hid (L.length = 19) := Lib.hid (by rw [← hL]; rfl)
          rw [hL]
          have HB6 : Hid (Below wr.heap.size wr (w5.alloc (.cells L.toArray 44))) := Lib.hid (hb5.alloc hb5.size _)
          clear hk5 hf5 hfr5 hb5 hL
          have HRL6 : Hid ((w5.alloc (.cells L.toArray 44)).rangeAt w5.heap.size 0 L) := Lib.hid (range_of_row (heap_alloc_new w5 _))
          subst hV
          have HH6 : Hid ((w5.alloc (.cells L.toArray 44)).heap[g]? = some (.cells (scL n0 n1 cc (.slice AV q cV)).toArray 30 (0, 0))) := Lib.hid ((HB6.out.block _ HSZ6.out).trans H6.out)
          have hc15 : (w5.alloc (.cells L.toArray 44)).cell? ⟨g, 15, none⟩ = some (.slice AV q cV) := cell_of_row _ _ 15 _ 30 _ HH6.out
          have HSO7 : Hid (Sows ((w5.alloc (.cells L.toArray 44)).alloc (.cells L.toArray 44)) W7.heap.size (.slice AV q cV) ps) := Lib.hid (HSO.out.below (HB6.out.alloc HB6.out.size _))
          have HO7 : Hid (((w5.alloc (.cells L.toArray 44)).alloc (.cells L.toArray 44)).ownsRow W7.heap.size 44 19 (.slice AV q cV) q (flatP ps)) := Lib.hid (by have := HSO7.out.own; rwa [HPL.out] at this)
          have HN7 : Hid (∀ j u, L[j]? = some u → ((w5.alloc (.cells L.toArray 44)).alloc (.cells L.toArray 44)).cell? ((⟨(w5.alloc (.cells L.toArray 44)).heap.size, 0, none⟩ : Addr).add j) = some u) := Lib.hid (fun j u hj => by
            have hh := heap_alloc_new (w5.alloc (.cells L.toArray 44)) (.cells L.toArray 44)
            have := range_of_row hh j u hj
            rw [Nat.zero_add] at this
            rw [Addr.add_mid, Nat.zero_add]
            exact this)
          have HOE : Hid (∀ u ∈ L, u.oneCell' = true) := Lib.hid (fun u hu => by have := HOL.out; rw [List.all_toArray, List.all_eq_true] at this; exact this u hu)
          have HSZ8 : Hid (W7.heap.size ≤ w5.heap.size + 1) := Lib.hid (by have := HSW.out; have := HB6.out.size; simp at this ⊢; omega)
          go_wp2_with (first
            | ((with_reducible refine wpList_store_new (op := ⟨none, _, _, _, _, _⟩) rfl 44 (.tmp 10) (.tmp 93) rfl w5.heap.size _ L.toArray rfl ?_ ?_ HIL2.out HZL.out HOL.out ?_); rfl; rfl)
            | ((with_reducible refine wpList_load_midg (op := ⟨some 101, _, _, _, _, _⟩) ?_ 44 (.tmp 10) rfl w5.heap.size 0 ?_ L _ HRL6.out Tryd.underlying44 rfl HIL.out ?_); kernel_rfl; rfl)
            | ((with_reducible refine wpList_build_one (op := ⟨some 102, _, _, _, _, _⟩) rfl 24 (.tmp 101) ?_ 44 19 _ L ?_ Tryd.underlying24 Tryd.sizeOf44 Tryd.zeroValue44 ?_ ?_ HL19.out ?_); rfl; rfl; decide; decide)
            | (at_builtin; refine wpList_append_own_at _ rfl (.tmp 100) (.tmp 102) _ rfl W7.heap.size 44 i44 _ 19 184 Tryd.underlying24 I44.out Z44.out S44.out Y44.out rfl (by decide) _ q (flatP ps) rfl HO7.out _ 1 1 L rfl HL19.out HN7.out HOE.out (by have := HQB.out; unfold maxLen; omega) (by have := HQB.out; omega) (by have := HSZ8.out; simp; omega) ?_))
          intro V2 w8 hown8 hg8 _ hat8
          obtain ⟨A8, c8, rfl⟩ := own_slice hown8
          have HOB : Hid (∀ j, (Value.slice AV q cV).ownBlock = some j → W7.heap.size ≤ j) := Lib.hid (fun j e => (HO7.out.lt j e).1)
          have HH8 : Hid (w8.heap[g]? = some (.cells (scL n0 n1 cc (.slice AV q cV)).toArray 30 (0, 0))) := Lib.hid ((hg8.block _ (by have := HG74.out; have := HSZ8.out; simp; omega) (fun e => by have := HOB.out _ e.symm; have := HG74.out; omega)).trans ((Below.heap_alloc _ _ _ (by have := HG74.out; have := HSZ8.out; simp; omega)).trans HH6.out))
          have hc8 : w8.cell? ⟨g, 15, none⟩ = some (.slice AV q cV) := cell_of_row _ _ 15 _ 30 _ HH8.out
          have hz8 : w8.frozen? ⟨g, 15, none⟩ = false := frozen_of_row w8 g 15 _ 30 HH8.out
          have HB8 : Hid (Below w4.heap.size w4 w8) := Lib.hid (((HBWR.out.trans (HB6.out.mono HBWR.out.size)).alloc (by have := HG74.out; have := HSZ8.out; simp; omega) _).grown hg8 (by have := HG74.out; have := HSZ8.out; simp; omega) (fun j e => by have := HOB.out _ e; have := HG74.out; omega))
          have HS8 : Hid (W7.heap.size ≤ w8.heap.size) := Lib.hid (by have := HSZ8.out; have := hg8.size; simp at this; omega)
          have HK7 : Hid (Kp ((w5.alloc (.cells L.toArray 44)).alloc (.cells L.toArray 44)) (.slice A5 s.kp.length c5) s.kp) := Lib.hid (HK5.out.below (((Below.refl _ _).alloc (Nat.le_refl _) _).alloc (by simp) _))
          have HSO8 : Hid (Sows w8 W7.heap.size (.slice A8 (q + 1) c8) (ps ++ [(s, .slice A5 s.kp.length c5)])) := Lib.hid (HSO7.out.push HK7.out HF5.out (fun _ a ha e => by
            have h1 := HFR.out a ha
            have h2 := (HSO.out.own.lt a.block e).2
            omega) (by rw [HPL.out, HLE.out]; exact hown8) hg8 (by simp only [World.size_alloc]; exact hat8))
          have HSO9 : Hid (Sows (w8.setCell ⟨g, 15, none⟩ (.slice A8 (q + 1) c8)) W7.heap.size (.slice A8 (q + 1) c8) (ps ++ [(s, .slice A5 s.kp.length c5)])) := Lib.hid (by
            rw [setCell_eq_setRow w8 g 15 _ 30 (0, 0) _ HH8.out]
            exact HSO8.out.setRow HG74.out.2 (scL_nb HH8.out))
          have HH9 : Hid ((w8.setCell ⟨g, 15, none⟩ (.slice A8 (q + 1) c8)).heap[g]? = some (.cells (scL n0 n1 cc (.slice A8 (q + 1) c8)).toArray 30 (0, 0))) := Lib.hid (by rw [Go.heap_setCell_same _ _ _ _ _ _ HH8.out, scL_set])
          clear hown8 hg8 hat8 hc15
          go_wp2_with fail
          go_roundg (n - (q + 1))
          case measure => rw [HK.out]; omega
          case rel => exact ⟨q + 1, .slice A8 (q + 1) c8, ps ++ [(s, .slice A5 s.kp.length c5)], by omega, rfl, by go_num, HH9.out, HSO9.out, HB8.out.setCell HG74.out.1 _, by rw [World.size_setCell]; exact HS8.out, by rw [List.length_append, HPL.out]; rfl, by rw [HRS.out]; simp⟩
      · obtain rfl : n = q + 1 := by omega
        have HRF : Hid (rreadLs ls = (some (n0, n1, cc, ps.map (·.1)), ls.length, 0)) := Lib.hid (by
          rw [HOK.out, ← HRG.out, List.drop_of_length_le (by rw [HML.out]; omega)]
          rfl)
        have HIV : Hid ((Tryd.prog.info? 30).map (·.size) = some (scL n0 n1 cc V).length) := Lib.hid infoR
        have HIV2 : Hid ((Tryd.prog.info? 30).map (·.size) = some (scL n0 n1 cc V).toArray.size) := Lib.hid infoR
        have HSTS : Hid (∀ X, Sts (wr.setRow w.heap.size X) V (ps.map (·.1))) := Lib.hid (fun X => (HSO.out.setRow (by have := HG74.out; have := HLO.out; omega) (scL_nb (a := 0) (b := 0) (c := c0) (A := none) (n := 0) (k := 0) HGR.out)).sts)
        have HFS : Hid (∀ s ∈ ps.map (·.1), Fits s) := Lib.hid (fun s hs => by
          obtain ⟨p, hp, rfl⟩ := List.mem_map.1 hs
          obtain ⟨_, _, _, _, hf, _⟩ := HSO.out.el p hp
          exact hf)
        subst hV
        have HOV : Hid ((scL n0 n1 cc (.slice AV q cV)).toArray.all (·.oneCell') = true) := Lib.hid (scL_one _ _ _ _ _ _)
        have HZV : Hid ((#[.int .i64 0, .int .i64 0, .int .i64 0, .int .i64 0, .int .i64 0, .int .i64 0, .int .i64 0, .int .i64 0, .int .i64 0, .int .i64 0, .int .i64 0, .int .i64 0, .int .i64 0, .int .i64 0, .int .i64 0, .slice none 0 0] : Array Value).size = (scL n0 n1 cc (.slice AV q cV)).toArray.size) := Lib.hid rfl
        have HRV := Lib.hid (range_of_row H6.out)
        have HLSL : Hid ((ls.length : Int) = (q : Int) + 1) := Lib.hid (by rw [HML.out]; rfl)
        obtain ⟨SV, hSV⟩ : ∃ SV, scL n0 n1 cc (.slice AV q cV) = SV := ⟨_, rfl⟩
        have HSV := Lib.hid hSV
        rw [hSV] at HIV HIV2 HOV HZV HRV
        clear hSV
        go_wp2_with (first
          | ((with_reducible refine wpList_load_midg (op := ⟨some 105, _, _, _, _, _⟩) ?_ 30 (.tmp 8) rfl g 0 ?_ SV _ HRV.out Tryd.underlying30 rfl HIV.out ?_); kernel_rfl; rfl)
          | ((with_reducible refine wpList_store_row (o := ⟨none, _, _, _, _, _⟩) rfl 30 (.tmp 2) (.tmp 105) rfl w.heap.size SV.toArray ?_ ?_ 30 _ HGR.out HIV2.out HZV.out HOV.out ?_); rfl; rfl))
        refine bodyPost_ret (results_row3 rfl _ _ w.heap.size 30 SV.toArray (0, 0) _ rfl (setRow_heap _ _ _ _ _ _ HGR.out) Tryd.underlying30 rfl HIV2.out) rfl ⟨?_, below_setRow HBR.out (Nat.le_refl _) _⟩
        rw [HRP.out, HRF.out, ← HSV.out]
        exact giveSc_some HLSL.out.symm (HSTS.out _) HFS.out
set_option maxRecDepth 100000 in
set_option maxHeartbeats 16000000 in
theorem rread6_n (l : List UInt8) (hl : l.length ≤ 1000000) (w : World) (hlast : (splitL 10 l).getD ((splitL 10 l).length - 1) [] ≠ []) : Calls Tryd.prog 6 #[.string (str l)] w fun e w' => GiveSc (rreadP l) e w' ∧ Below w.heap.size w w' := by
  have HIZ : Hid ((Tryd.prog.info? 30).map (·.size) = some (scL 0 0 c0 (.slice none 0 0)).toArray.size) := Lib.hid infoR
  have HOZ : Hid ((scL 0 0 c0 (.slice none 0 0)).toArray.all (·.oneCell') = true) := Lib.hid (scL_one _ _ _ _ _ _)
  have HG1 : Hid ((w.alloc (.cells #[.int .i64 0, .int .i64 0, .int .i64 0, .int .i64 0, .int .i64 0, .int .i64 0, .int .i64 0, .int .i64 0, .int .i64 0, .int .i64 0, .int .i64 0, .int .i64 0, .int .i64 0, .int .i64 0, .int .i64 0, .slice none 0 0] 30)).heap[w.heap.size]? = some (.cells #[.int .i64 0, .int .i64 0, .int .i64 0, .int .i64 0, .int .i64 0, .int .i64 0, .int .i64 0, .int .i64 0, .int .i64 0, .int .i64 0, .int .i64 0, .int .i64 0, .int .i64 0, .int .i64 0, .int .i64 0, .slice none 0 0] 30 (0, 0))) := Lib.hid (heap_alloc_new w _)
  have HB1 : Hid (Below w.heap.size w (w.alloc (.cells #[.int .i64 0, .int .i64 0, .int .i64 0, .int .i64 0, .int .i64 0, .int .i64 0, .int .i64 0, .int .i64 0, .int .i64 0, .int .i64 0, .int .i64 0, .int .i64 0, .int .i64 0, .int .i64 0, .int .i64 0, .slice none 0 0] 30))) := Lib.hid ((Below.refl _ _).alloc (Nat.le_refl _) _)
  have HS1 : Hid ((w.alloc (.cells #[.int .i64 0, .int .i64 0, .int .i64 0, .int .i64 0, .int .i64 0, .int .i64 0, .int .i64 0, .int .i64 0, .int .i64 0, .int .i64 0, .int .i64 0, .int .i64 0, .int .i64 0, .int .i64 0, .int .i64 0, .slice none 0 0] 30)).heap.size = w.heap.size + 1) := Lib.hid (World.size_alloc _ _)
  have hsz : (str l).size = l.length := str_size l
  have hd : decide ((1048576 : Int) < (l.length : Int)) = false := by simp; omega
  have HSP : Hid (Calls Tryd.prog 20 #[.string (str l), .int .u8 10] (w.alloc (.cells #[.int .i64 0, .int .i64 0, .int .i64 0, .int .i64 0, .int .i64 0, .int .i64 0, .int .i64 0, .int .i64 0, .int .i64 0, .int .i64 0, .int .i64 0, .int .i64 0, .int .i64 0, .int .i64 0, .int .i64 0, .slice none 0 0] 30)) fun e w' => ∃ v, e = .returned v ∧ w'.ownsRow (w.alloc (.cells #[.int .i64 0, .int .i64 0, .int .i64 0, .int .i64 0, .int .i64 0, .int .i64 0, .int .i64 0, .int .i64 0, .int .i64 0, .int .i64 0, .int .i64 0, .int .i64 0, .int .i64 0, .int .i64 0, .int .i64 0, .slice none 0 0] 30)).heap.size 9 1 v (splitL 10 l).length (strsV (splitL 10 l)) ∧ Below (w.alloc (.cells #[.int .i64 0, .int .i64 0, .int .i64 0, .int .i64 0, .int .i64 0, .int .i64 0, .int .i64 0, .int .i64 0, .int .i64 0, .int .i64 0, .int .i64 0, .int .i64 0, .int .i64 0, .int .i64 0, .int .i64 0, .slice none 0 0] 30)).heap.size (w.alloc (.cells #[.int .i64 0, .int .i64 0, .int .i64 0, .int .i64 0, .int .i64 0, .int .i64 0, .int .i64 0, .int .i64 0, .int .i64 0, .int .i64 0, .int .i64 0, .int .i64 0, .int .i64 0, .int .i64 0, .int .i64 0, .slice none 0 0] 30)) w') := Lib.hid (rsplit20 l 10 hl _)
  have HSL := Lib.hid (splitL_sum 10 l)
  have hwn := splitL_ne 10 l
  have HLL := Lib.hid hl
  have HCNT : Hid ((splitL 10 l).length ≤ 1000001) := Lib.hid (by
    have h1 := count_len 10 _ l (Nat.le_refl _)
    have h2 : Lib.count l [10] ≤ l.length := by
      have := Lib.countB_le (str [10]) (by decide) _ (str l) (Nat.le_refl _)
      rw [str_size] at this
      exact this
    omega)
  have HRD : Hid (rdropL (splitL 10 l) = splitL 10 l) := Lib.hid (if_neg hlast)
  have HRP : Hid (rreadP l = rreadLs (splitL 10 l)) := Lib.hid (by rw [rreadP, HRD.out])
  have HLA := Lib.hid hlast
  generalize splitL 10 l = ls0 at *
  clear hl hlast HRD
  go_enter Tryd.func6, Tryd.ntmps6
  go_wp2_with fail
  refine Calls.mono HSP.out ?_
  rintro e w2 ⟨v, rfl, hown, hb2⟩
  have hws0 := Ws.of_own hown
  obtain ⟨b, o, cp, rfl, hlt, hcap, hc⟩ := hws0.2 hwn
  obtain ⟨n, hn⟩ : ∃ n, ls0.length = n + 1 := ⟨ls0.length - 1, by have := List.length_pos_iff.2 hwn; omega⟩
  have HB2 : Hid (Below (w.heap.size + 1) (w.alloc (.cells #[.int .i64 0, .int .i64 0, .int .i64 0, .int .i64 0, .int .i64 0, .int .i64 0, .int .i64 0, .int .i64 0, .int .i64 0, .int .i64 0, .int .i64 0, .int .i64 0, .int .i64 0, .int .i64 0, .int .i64 0, .slice none 0 0] 30)) w2) := Lib.hid (hb2.mono (by simp))
  have HBW : Hid (Below w.heap.size w w2) := Lib.hid (HB1.out.trans (HB2.out.mono (by omega)))
  have HG2 : Hid (w2.heap[w.heap.size]? = some (.cells #[.int .i64 0, .int .i64 0, .int .i64 0, .int .i64 0, .int .i64 0, .int .i64 0, .int .i64 0, .int .i64 0, .int .i64 0, .int .i64 0, .int .i64 0, .int .i64 0, .int .i64 0, .int .i64 0, .int .i64 0, .slice none 0 0] 30 (0, 0))) := Lib.hid ((HB2.out.block _ (by omega)).trans HG1.out)
  have HSZ2 : Hid (w.heap.size + 1 ≤ w2.heap.size ∧ b < w2.heap.size) := Lib.hid (by have := HB2.out.size; rw [HS1.out] at this; exact ⟨this, hlt⟩)
  have hlastc : w2.cell? ⟨b, o + n, none⟩ = some (.string (str (ls0.getD n []))) := hc n (by omega)
  have HLA2 : Hid (ls0.getD n [] ≠ []) := Lib.hid (by have := HLA.out; rwa [hn, Nat.add_sub_cancel] at this)
  have hnI : (n : Int) + 1 ≤ 1000001 := by have := HCNT.out; omega
  have hcpI : (n : Int) + 1 ≤ (cp : Int) := by omega
  have hn0 : (0 : Int) ≤ (n : Int) := by omega
  have HWS : Hid (Ws w2 (.slice (some ⟨b, o, none⟩) (n + 1) cp) ls0) := Lib.hid (by rw [← hn]; exact hws0)
  have HML : Hid (ls0.length = n + 1) := Lib.hid hn
  have HXS : Hid (∀ x ∈ ls0, x.length ≤ 1000000) := Lib.hid (fun x hx => Nat.le_trans (HSL.out x hx) HLL.out)
  have htest2 : (str (ls0.getD n [])).toList.isEmpty = false := str_ne _ HLA2.out
  have htest : ¬ (str (ls0.getD n [])).toList = [] := by rw [str_toList]; exact HLA2.out
  rw [hn]
  have HCM : Hid (n + 1 ≤ cp ∧ n + 1 ≤ 1000001) := Lib.hid (by have := HCNT.out; omega)
  obtain ⟨ls, hls⟩ : ∃ ls, ls0 = ls := ⟨_, rfl⟩
  rw [hls] at HWS HML HXS HRP
  clear hls
  generalize ls0.getD n [] = lx at *
  clear hown hws0 hb2 hlt hcap hc hwn HLA HLA2 HSL HSP HCNT HLL hsz

  have HBH : Hid (∀ W, Below w2.heap.size w2 W → Below w.heap.size w W) := Lib.hid (fun W hb => HBW.out.trans (hb.mono HBW.out.size))
  clear htest
  have hmI : ((n : Int) + 1 == 0) = false := by rw [beq_eq_false_iff_ne]; omega
  have hmpos : 0 < (n + 1) := by omega
  have hmP : (0 : Int) < ((n : Int) + 1) := by omega
  have hc0 : w2.cell? ⟨b, o, none⟩ = some (.string (str (ls.getD 0 []))) := by
    obtain ⟨b1, o1, c1, e, _, _, hc1⟩ := HWS.out.2 (by intro e; have := HML.out; rw [e] at this; simp only [List.length_nil] at this; omega)
    injection e with e1
    injection e1 with e1
    injection e1 with e2 e3
    subst e2 e3
    have := hc1 0 (by rw [HML.out]; omega)
    rwa [Nat.add_zero] at this
  have HX0 : Hid ((ls.getD 0 []).length ≤ 1000000) := Lib.hid (HXS.out _ (getD0_mem (by rw [HML.out]; omega)))
  have HRL : Hid (rreadLs ls = if 65536 < (ls.getD 0 []).length then (none, 0, 300 - 298) else match rheadP (splitL 32 (ls.getD 0 [])) (ls.getD 0 []) with
    | none => (none, 0, 300)
    | some (a, b, c) => match readGo ls.tail [] 0 with
      | (some st, _, _) => (some (a, b, c, st), ls.length, 0)
      | (none, n, e) => (none, n, e)) := Lib.hid (by rw [rreadLs, if_neg (by rw [HML.out]; omega)]; rfl)
  generalize ls.getD 0 [] = x0 at *
  have hx0 : (str x0).size = x0.length := str_size x0
  by_cases hbig : 65536 < x0.length
  case pos =>
    have HE : Hid (rreadLs ls = (none, 0, 2)) := Lib.hid (by rw [HRL.out, if_pos hbig]; rfl)
    have hd2 : decide ((65536 : Int) < (x0.length : Int)) = true := by simp; omega
    clear hbig
    go_wp2_with (first
      | ((with_reducible refine wpList_store_row (o := ⟨none, _, _, _, _, _⟩) rfl 30 (.tmp 2) (.tmp 39) rfl w.heap.size (scL 0 0 c0 (.slice none 0 0)).toArray ?_ ?_ 30 _ HG2.out HIZ.out rfl HOZ.out ?_); rfl; rfl))
    rw [HRP.out, HE.out]
    exact bodyPost_ret (results_row3 rfl _ _ w.heap.size 30 (scL 0 0 c0 (.slice none 0 0)).toArray (0, 0) _ rfl (setRow_heap _ _ _ _ _ _ HG2.out) Tryd.underlying30 rfl HIZ.out) rfl ⟨giveSc_none rfl, below_setRow HBW.out (Nat.le_refl _) _⟩
  have hd2 : decide ((65536 : Int) < (x0.length : Int)) = false := by simp; omega
  have HRL2 : Hid (rreadLs ls = match rheadP (splitL 32 x0) x0 with
    | none => (none, 0, 300)
    | some (a, b, c) => match readGo ls.tail [] 0 with
      | (some st, _, _) => (some (a, b, c, st), ls.length, 0)
      | (none, n, e) => (none, n, e)) := Lib.hid (by rw [HRL.out, if_neg hbig]; rfl)
  have HSP2 : Hid (Calls Tryd.prog 20 #[.string (str x0), .int .u8 32] w2 fun e w' => ∃ v, e = .returned v ∧ w'.ownsRow w2.heap.size 9 1 v (splitL 32 x0).length (strsV (splitL 32 x0)) ∧ Below w2.heap.size w2 w') := Lib.hid (rsplit20 x0 32 HX0.out w2)
  have HSL2 := Lib.hid (splitL_sum 32 x0)
  have hwn2 := splitL_ne 32 x0
  have HJS : Hid (joinL (splitL 32 x0) = x0) := Lib.hid (join_split x0)
  generalize splitL 32 x0 = ws at *
  clear hbig HRL
  go_wp2_with fail
  refine Calls.mono HSP2.out ?_
  rintro e w3 ⟨v3, rfl, hown3, hb3⟩
  have hws3 := Ws.of_own hown3
  obtain ⟨b3, o3, cp3, rfl, hlt3, hcap3, hc3⟩ := hws3.2 hwn2
  have HWS3 := Lib.hid hws3
  have HBW3 : Hid (Below w.heap.size w w3) := Lib.hid (HBH.out _ hb3)
  have HB23 := Lib.hid hb3
  have HG3 : Hid (w3.heap[w.heap.size]? = some (.cells #[.int .i64 0, .int .i64 0, .int .i64 0, .int .i64 0, .int .i64 0, .int .i64 0, .int .i64 0, .int .i64 0, .int .i64 0, .int .i64 0, .int .i64 0, .int .i64 0, .int .i64 0, .int .i64 0, .int .i64 0, .slice none 0 0] 30 (0, 0))) := Lib.hid ((hb3.block _ (by have := HSZ2.out.1; omega)).trans HG2.out)
  have hcap3I : (ws.length : Int) ≤ (cp3 : Int) := by omega
  clear hown3 hws3 hb3 hlt3 hc3 hwn2 HSP2
  by_cases h16 : ws.length = 16
  case neg =>
    have HE : Hid (rreadLs ls = (none, 0, 300)) := Lib.hid (by rw [HRL2.out, rheadP, if_neg h16])
    have h16b : ((ws.length : Int) == 16) = false := by rw [beq_eq_false_iff_ne]; omega
    have h16c : ((ws.length : Int) != 16) = true := by rw [bne, h16b]; rfl
    go_wp2_with (first
      | ((with_reducible refine wpList_store_row (o := ⟨none, _, _, _, _, _⟩) rfl 30 (.tmp 2) (.tmp 47) rfl w.heap.size (scL 0 0 c0 (.slice none 0 0)).toArray ?_ ?_ 30 _ HG3.out HIZ.out rfl HOZ.out ?_); rfl; rfl))
    rw [HRP.out, HE.out]
    exact bodyPost_ret (results_row3 rfl _ _ w.heap.size 30 (scL 0 0 c0 (.slice none 0 0)).toArray (0, 0) _ rfl (setRow_heap _ _ _ _ _ _ HG3.out) Tryd.underlying30 rfl HIZ.out) rfl ⟨giveSc_none rfl, below_setRow HBW3.out (Nat.le_refl _) _⟩
  have HTS : Hid (Ws w3 (.slice (some ⟨b3, o3 + 1, none⟩) 15 (cp3 - 1)) ws.tail) := Lib.hid (by have := HWS3.out.drop 1 (by omega); rw [List.drop_one, h16] at this; exact this)
  have HSZ : Hid (Calls Tryd.prog 21 #[.slice (some ⟨b3, o3 + 1, none⟩) 15 (cp3 - 1)] w3 fun e w' => ∃ u, e = .returned u ∧ Is w' u (szs ws.tail) ∧ Below w3.heap.size w3 w') := Lib.hid (rsizes38 _ ws.tail w3 HTS.out (by simp; omega) (fun x hx => by have := HSL2.out x (List.mem_of_mem_tail hx); have := HX0.out; omega))
  have HNL : Hid ((szs ws.tail).length = 15) := Lib.hid (by simp [szs, h16])
  have HRH : Hid (rheadP ws x0 = if (fitB [(szs ws.tail).getD 0 0, (szs ws.tail).getD 1 0] && smallB (cfOf ((szs ws.tail).drop 2))) = true ∧ headL ((szs ws.tail).getD 0 0) ((szs ws.tail).getD 1 0) (cfOf ((szs ws.tail).drop 2)) = x0 then some ((szs ws.tail).getD 0 0, (szs ws.tail).getD 1 0, cfOf ((szs ws.tail).drop 2)) else none) := Lib.hid (by rw [rheadP, if_pos h16])
  generalize szs ws.tail = ns at *
  have hcp3 : ¬ cp3 = 1 := by omega
  rw [h16] at hcap3I hcap3 ⊢
  clear h16
  go_wp2_with fail
  refine Calls.mono HSZ.out ?_
  rintro e w4 ⟨u, rfl, hiu, hb4⟩
  obtain ⟨b4, o4, cp4, rfl, hlt4, hcap4, hc4⟩ := hiu.2 (by intro e; have := HNL.out; rw [e] at this; simp at this)
  have HIU := Lib.hid hiu
  have HB24 : Hid (Below w2.heap.size w2 w4) := Lib.hid (HB23.out.trans (hb4.mono HB23.out.size))
  have HBW4 : Hid (Below w.heap.size w w4) := Lib.hid (HBH.out _ HB24.out)
  have HG4 : Hid (w4.heap[w.heap.size]? = some (.cells #[.int .i64 0, .int .i64 0, .int .i64 0, .int .i64 0, .int .i64 0, .int .i64 0, .int .i64 0, .int .i64 0, .int .i64 0, .int .i64 0, .int .i64 0, .int .i64 0, .int .i64 0, .int .i64 0, .int .i64 0, .slice none 0 0] 30 (0, 0))) := Lib.hid ((HB24.out.block _ (by have := HSZ2.out.1; omega)).trans HG2.out)
  have hn4 : 15 ≤ cp4 := by have := HNL.out; omega
  have hn4I : (15 : Int) ≤ (cp4 : Int) := by omega
  have hcp4 : ¬ cp4 = 2 := by omega
  have HC0 : Hid (w4.cell? ⟨b4, o4, none⟩ = some (.int .i64 (ns.getD 0 0))) := Lib.hid (by have := hc4 0 (by rw [HNL.out]; omega); rwa [Nat.add_zero] at this)
  have HC1 : Hid (w4.cell? ⟨b4, o4 + 1, none⟩ = some (.int .i64 (ns.getD 1 0))) := Lib.hid (hc4 1 (by rw [HNL.out]; omega))
  have HIT : Hid (Is w4 (.slice (some ⟨b4, o4 + 2, none⟩) 13 (cp4 - 2)) (ns.drop 2)) := Lib.hid (by have := hiu.drop 2 (by rw [HNL.out]; omega); rw [HNL.out] at this; exact this)
  have HCF : Hid (∀ W, Below w4.heap.size w4 W → Calls Tryd.prog 22 #[.slice (some ⟨b4, o4 + 2, none⟩) 13 (cp4 - 2)] W fun e w' => e = .returned (.agg (cfL (cfOf (ns.drop 2))).toArray) ∧ Below W.heap.size W w') := Lib.hid (fun W hb => rconf37 _ _ W (HIT.out.below (Nat.le_refl _) hb) (by simp [HNL.out]))
  have HLT4 := Lib.hid hlt4
  have hc0w := HWS.out
  have HC00 : Hid (∀ W, Below w2.heap.size w2 W → W.cell? ⟨b, o, none⟩ = some (.string (str x0))) := Lib.hid (fun W hbb => (hbb.cell (p := ⟨b, o, none⟩) HSZ2.out.2).trans hc0)
  rw [HNL.out] at HIU ⊢
  generalize ns.getD 0 0 = n0 at *
  generalize ns.getD 1 0 = n1 at *
  generalize cfOf (ns.drop 2) = cc at *
  clear hiu hb4 hc4 hlt4 hcap4 hc0w
  have HSCI : Hid ((Tryd.prog.info? 30).map (·.size) = some (scL n0 n1 cc (.slice none 0 0)).length) := Lib.hid infoR
  have HSCI2 : Hid ((Tryd.prog.info? 30).map (·.size) = some (scL n0 n1 cc (.slice none 0 0)).toArray.size) := Lib.hid infoR
  have HSCO : Hid ((scL n0 n1 cc (.slice none 0 0)).toArray.all (·.oneCell') = true) := Lib.hid (scL_one _ _ _ _ _ _)
  have HSCZ : Hid ((#[.int .i64 0, .int .i64 0, .int .i64 0, .int .i64 0, .int .i64 0, .int .i64 0, .int .i64 0, .int .i64 0, .int .i64 0, .int .i64 0, .int .i64 0, .int .i64 0, .int .i64 0, .int .i64 0, .int .i64 0, .slice none 0 0] : Array Value).size = (scL n0 n1 cc (.slice none 0 0)).toArray.size) := Lib.hid rfl
  have HGD : Hid (∀ W, Calls Tryd.prog 14 #[.agg (scL n0 n1 cc (.slice none 0 0)).toArray] W fun e w' => e = .returned (.bool (fitB [n0, n1] && smallB cc)) ∧ Below W.heap.size W w') := Lib.hid (fun W => by
    have := rgood14 n0 n1 cc (.slice none 0 0) [] W (Sts.nil W) (fun s hs => absurd hs (by simp)) (by simp)
    rwa [show goodB n0 n1 cc [] = (fitB [n0, n1] && smallB cc) by simp [goodB]] at this)
  have HHD : Hid ((fitB [n0, n1] && smallB cc) = true → ∀ W, Calls Tryd.prog 23 #[.agg (scL n0 n1 cc (.slice none 0 0)).toArray] W fun e w' => e = .returned (.string (str (headL n0 n1 cc))) ∧ Below W.heap.size W w') := Lib.hid (fun h W => rhead23 n0 n1 cc _ W (headOk_of h))
  have HEX : Hid (∀ (ev : Operand → Value) (W : World) (d : Option Tmp) (ty : TypeId) (ps : String) (af : Array Edge), ev (.tmp 53) = .int .i64 n0 → ev (.tmp 56) = .int .i64 n1 → ev (.tmp 59) = .agg (cfL cc).toArray → (execOp ev ⟨d, .build 30 #[(0, .tmp 53), (1, .tmp 56), (2, .tmp 59)], ty, ps, af, none⟩).run Tryd.prog W = .ok (.value (.agg (scL n0 n1 cc (.slice none 0 0)).toArray)) W) := Lib.hid (fun ev W d ty ps af h1 h2 h3 => exec_rsc ev n0 n1 cc _ _ _ W d ty ps af h1 h2 h3)
  have HSCH : Hid (∀ (W : World) (g : Nat), W.heap[g]? = some (.cells (scL n0 n1 cc (.slice none 0 0)).toArray 30 (0, 0)) → ∃ V, W.heap[g]? = some (.cells (scL n0 n1 cc V).toArray 30 (0, 0)) ∧ V = .slice none 0 0) := Lib.hid (fun W g h => ⟨_, h, rfl⟩)
  obtain ⟨SC, hSC⟩ : ∃ SC, scL n0 n1 cc (.slice none 0 0) = SC := ⟨_, rfl⟩
  rw [hSC] at HSCI HSCI2 HSCO HSCZ HGD HHD HEX HSCH
  generalize cfL cc = CC at *
  clear hSC
  go_wp2_with fail
  refine wp_region_held_drew (S := Below w4.heap.size w4) (by kernel_rfl) (below_drew (Below.refl _ _)) (fun hSx => ?_)
  refine wpAnyH_take (i := 0) (oi := ⟨some 51, _, _, _, _, none⟩) (v := .slice (some ⟨b4, o4, none⟩) 15 cp4) rfl (by kernel_rfl) (by kernel_rfl) (by kernel_rfl) (fun _ _ _ h => h) (Or.inl ⟨by kernel_rfl, ?_⟩) hSx ?_
  · intro wx hSx2; clear hSx; go_simp
  try simp only [Act.put, List.setIfInBounds_toArray]
  refine wpAnyH_take (i := 1) (oi := ⟨some 52, _, _, _, _, none⟩) (v := .pointer (some ⟨b4, o4, none⟩)) rfl (by kernel_rfl) (by kernel_rfl) (by kernel_rfl) (fun _ _ _ h => h) (Or.inl ⟨by kernel_rfl, ?_⟩) hSx ?_
  · intro wx hSx2; clear hSx; go_simp
  try simp only [Act.put, List.setIfInBounds_toArray]
  refine wpAnyH_take (i := 2) (oi := ⟨some 53, _, _, _, _, none⟩) (v := .int .i64 n0) rfl (by kernel_rfl) (by kernel_rfl) (by kernel_rfl) (fun _ _ _ h => h) (Or.inl ⟨by kernel_rfl, ?_⟩) hSx ?_
  · intro wx hSx2; clear hSx; have hf0 := (Below.cell hSx2 (p := ⟨b4, o4, none⟩) HLT4.out).trans HC0.out; go_simp
  try simp only [Act.put, List.setIfInBounds_toArray]
  refine wpAnyH_take (i := 3) (oi := ⟨some 54, _, _, _, _, none⟩) (v := .slice (some ⟨b4, o4, none⟩) 15 cp4) rfl (by kernel_rfl) (by kernel_rfl) (by kernel_rfl) (fun _ _ _ h => h) (Or.inl ⟨by kernel_rfl, ?_⟩) hSx ?_
  · intro wx hSx2; clear hSx; go_simp
  try simp only [Act.put, List.setIfInBounds_toArray]
  refine wpAnyH_take (i := 4) (oi := ⟨some 55, _, _, _, _, none⟩) (v := .pointer (some ⟨b4, o4 + 1, none⟩)) rfl (by kernel_rfl) (by kernel_rfl) (by kernel_rfl) (fun _ _ _ h => h) (Or.inl ⟨by kernel_rfl, ?_⟩) hSx ?_
  · intro wx hSx2; clear hSx; go_simp
  try simp only [Act.put, List.setIfInBounds_toArray]
  refine wpAnyH_take (i := 5) (oi := ⟨some 56, _, _, _, _, none⟩) (v := .int .i64 n1) rfl (by kernel_rfl) (by kernel_rfl) (by kernel_rfl) (fun _ _ _ h => h) (Or.inl ⟨by kernel_rfl, ?_⟩) hSx ?_
  · intro wx hSx2; clear hSx; have hf0 := (Below.cell hSx2 (p := ⟨b4, o4 + 1, none⟩) HLT4.out).trans HC1.out; go_simp
  try simp only [Act.put, List.setIfInBounds_toArray]
  refine wpAnyH_take (i := 6) (oi := ⟨some 57, _, _, _, _, none⟩) (v := .slice (some ⟨b4, o4, none⟩) 15 cp4) rfl (by kernel_rfl) (by kernel_rfl) (by kernel_rfl) (fun _ _ _ h => h) (Or.inl ⟨by kernel_rfl, ?_⟩) hSx ?_
  · intro wx hSx2; clear hSx; go_simp
  try simp only [Act.put, List.setIfInBounds_toArray]
  refine wpAnyH_take (i := 7) (oi := ⟨some 58, _, _, _, _, none⟩) (v := .slice (some ⟨b4, o4 + 2, none⟩) 13 (cp4 - 2)) rfl (by kernel_rfl) (by kernel_rfl) (by kernel_rfl) (fun _ _ _ h => h) (Or.inl ⟨by kernel_rfl, ?_⟩) hSx ?_
  · intro wx hSx2; clear hSx; go_simp
  try simp only [Act.put, List.setIfInBounds_toArray]
  refine wpAnyH_ready (rs := [8, 10]) (by kernel_rfl) (by simp) ?_
  refine AllReadyH.cons (o := ⟨some 59, _, _, _, _, none⟩) rfl (fun KK hKK => ?brA) (AllReadyH.cons (o := ⟨some 8, _, _, _, _, none⟩) rfl (fun KK hKK => ?brB) AllReadyH.nil)
  case' brA =>
    go_simp
    refine (HCF.out _ (below_drew (Below.refl _ _))).mono ?_
    rintro e w5 ⟨rfl, hb5⟩
    refine hKK.out _ _ (Below.trans hSx hb5) (fun hSy => ?_)
    clear hKK hSx
    have hSx := hSy
    clear hSy KK
    try simp only [Act.put, List.setIfInBounds_toArray, List.set_cons_zero, List.set_cons_succ]
    refine wpAnyH_take (i := 9) (oi := ⟨some 60, _, _, _, _, none⟩) (v := .agg SC.toArray) rfl (by kernel_rfl) (by kernel_rfl) (by kernel_rfl) (fun _ _ _ h => h) (Or.inl ⟨by kernel_rfl, ?_⟩) hSx ?_
    · intro wx hSx2; clear hSx; exact HEX.out _ _ _ _ _ _ rfl rfl rfl
    try simp only [Act.put, List.setIfInBounds_toArray]
    refine wpAnyH_ready (rs := [10]) (by kernel_rfl) (by simp) ?_
    refine AllReadyH.cons (o := ⟨some 8, _, _, _, _, none⟩) rfl (fun KK hKK => ?_) AllReadyH.nil
    go_simp
    have HG5 : Hid ((w5.alloc (.cells #[.int .i64 0, .int .i64 0, .int .i64 0, .int .i64 0, .int .i64 0, .int .i64 0, .int .i64 0, .int .i64 0, .int .i64 0, .int .i64 0, .int .i64 0, .int .i64 0, .int .i64 0, .int .i64 0, .int .i64 0, .slice none 0 0] 30)).heap[w5.heap.size]? = some (.cells #[.int .i64 0, .int .i64 0, .int .i64 0, .int .i64 0, .int .i64 0, .int .i64 0, .int .i64 0, .int .i64 0, .int .i64 0, .int .i64 0, .int .i64 0, .int .i64 0, .int .i64 0, .int .i64 0, .int .i64 0, .slice none 0 0] 30 (0, 0))) := Lib.hid (heap_alloc_new w5 _)
    have HS5 : Hid (w4.heap.size ≤ w5.heap.size) := Lib.hid hb5.size
    refine hKK.out _ _ (Below.alloc hSx hb5.size _) (fun hSy => ?_)
    clear hKK hSx
    have hSx := hSy
    clear hSy KK
    try simp only [Act.put, List.setIfInBounds_toArray, List.set_cons_zero, List.set_cons_succ]
    refine store_ready 11 (by kernel_rfl) (by kernel_rfl) (by kernel_rfl) 30 (.tmp 8) (.tmp 60) (by kernel_rfl) (by kernel_rfl) w5.heap.size SC.toArray (by kernel_rfl) (by kernel_rfl) 30 _ HG5.out HSCI2.out HSCZ.out HSCO.out (below_setRow hSx HS5.out _) (fun hSy => ?_)
    refine wpAnyH_done (by kernel_rfl) ?_ _
    try simp only [List.set_cons_zero, List.set_cons_succ]
    have HX7 : Hid (((w5.alloc (.cells #[.int .i64 0, .int .i64 0, .int .i64 0, .int .i64 0, .int .i64 0, .int .i64 0, .int .i64 0, .int .i64 0, .int .i64 0, .int .i64 0, .int .i64 0, .int .i64 0, .int .i64 0, .int .i64 0, .int .i64 0, .slice none 0 0] 30)).setRow w5.heap.size SC.toArray).heap[w5.heap.size]? = some (.cells SC.toArray 30 (0, 0))) := Lib.hid (setRow_heap _ _ _ _ _ _ HG5.out)
    have HB7 := Lib.hid hSy
    clear hSx hSy hb5 HG5
    generalize hW7 : World.setRow _ _ _ = W7 at *
    generalize hg7 : w5.heap.size = g at *
    clear hW7 hg7
  case' brB =>
    go_simp
    have HG5 : Hid ((w4.alloc (.cells #[.int .i64 0, .int .i64 0, .int .i64 0, .int .i64 0, .int .i64 0, .int .i64 0, .int .i64 0, .int .i64 0, .int .i64 0, .int .i64 0, .int .i64 0, .int .i64 0, .int .i64 0, .int .i64 0, .int .i64 0, .slice none 0 0] 30)).drew.heap[w4.heap.size]? = some (.cells #[.int .i64 0, .int .i64 0, .int .i64 0, .int .i64 0, .int .i64 0, .int .i64 0, .int .i64 0, .int .i64 0, .int .i64 0, .int .i64 0, .int .i64 0, .int .i64 0, .int .i64 0, .int .i64 0, .int .i64 0, .slice none 0 0] 30 (0, 0))) := Lib.hid (heap_alloc_new w4 _)
    have HB5 : Hid (Below w4.heap.size w4 (w4.alloc (.cells #[.int .i64 0, .int .i64 0, .int .i64 0, .int .i64 0, .int .i64 0, .int .i64 0, .int .i64 0, .int .i64 0, .int .i64 0, .int .i64 0, .int .i64 0, .int .i64 0, .int .i64 0, .int .i64 0, .int .i64 0, .slice none 0 0] 30)).drew) := Lib.hid (below_drew ((Below.refl _ _).alloc (Nat.le_refl _) _))
    refine hKK.out _ _ (HB5.out) (fun hSy => ?_)
    clear hKK hSx
    have hSx := hSy
    clear hSy KK
    try simp only [Act.put, List.setIfInBounds_toArray, List.set_cons_zero, List.set_cons_succ]
    refine wpAnyH_ready (rs := [8]) (by kernel_rfl) (by simp) ?_
    refine AllReadyH.cons (o := ⟨some 59, _, _, _, _, none⟩) rfl (fun KK hKK => ?_) AllReadyH.nil
    go_simp
    refine (HCF.out _ HB5.out).mono ?_
    rintro e w5 ⟨rfl, hb5⟩
    refine hKK.out _ _ (Below.trans hSx (hb5.mono HB5.out.size)) (fun hSy => ?_)
    clear hKK hSx
    have hSx := hSy
    clear hSy KK
    try simp only [Act.put, List.setIfInBounds_toArray, List.set_cons_zero, List.set_cons_succ]
    refine wpAnyH_take (i := 9) (oi := ⟨some 60, _, _, _, _, none⟩) (v := .agg SC.toArray) rfl (by kernel_rfl) (by kernel_rfl) (by kernel_rfl) (fun _ _ _ h => h) (Or.inl ⟨by kernel_rfl, ?_⟩) hSx ?_
    · intro wx hSx2; clear hSx; exact HEX.out _ _ _ _ _ _ rfl rfl rfl
    try simp only [Act.put, List.setIfInBounds_toArray]
    have HG6 : Hid (w5.heap[w4.heap.size]? = some (.cells #[.int .i64 0, .int .i64 0, .int .i64 0, .int .i64 0, .int .i64 0, .int .i64 0, .int .i64 0, .int .i64 0, .int .i64 0, .int .i64 0, .int .i64 0, .int .i64 0, .int .i64 0, .int .i64 0, .int .i64 0, .slice none 0 0] 30 (0, 0))) := Lib.hid ((hb5.block _ (by simp)).trans HG5.out)
    refine store_ready 11 (by kernel_rfl) (by kernel_rfl) (by kernel_rfl) 30 (.tmp 8) (.tmp 60) (by kernel_rfl) (by kernel_rfl) w4.heap.size SC.toArray (by kernel_rfl) (by kernel_rfl) 30 _ HG6.out HSCI2.out HSCZ.out HSCO.out (below_setRow hSx (Nat.le_refl _) _) (fun hSy => ?_)
    refine wpAnyH_done (by kernel_rfl) ?_ _
    try simp only [List.set_cons_zero, List.set_cons_succ]
    have HX7 : Hid ((w5.setRow w4.heap.size SC.toArray).heap[w4.heap.size]? = some (.cells SC.toArray 30 (0, 0))) := Lib.hid (setRow_heap _ _ _ _ _ _ HG6.out)
    have HB7 := Lib.hid hSy
    have HS5 : Hid (w4.heap.size ≤ w4.heap.size) := Lib.hid (Nat.le_refl _)
    clear hSx hSy hb5 HG5 HG6 HB5
    obtain ⟨g, hg7⟩ : ∃ g, w4.heap.size = g := ⟨_, rfl⟩
    have HS5 : Hid (w4.heap.size ≤ g) := Lib.hid (by omega)
    rw [hg7] at HX7
    have HB8 : Hid (Below w4.heap.size w4 (w5.setRow g SC.toArray)) := Lib.hid (by subst hg7; exact HB7.out)
    clear HB7
    have HB7 := HB8
    rw [hg7]
    clear hg7 HB8
    generalize hW7 : World.setRow _ _ _ = W7 at *
    clear hW7
  all_goals
    clear HC0 HC1 HIT HCF HLT4 HEX HIU
    have HSG : Hid (g < W7.heap.size) := Lib.hid (Array.getElem?_eq_some_iff.1 HX7.out).1
    have HLO : Hid (w.heap.size + 1 ≤ w4.heap.size ∧ b < w4.heap.size) := Lib.hid (by have := HB24.out.size; have := HSZ2.out; omega)
    have HG7 : Hid (W7.heap[w.heap.size]? = some (.cells #[.int .i64 0, .int .i64 0, .int .i64 0, .int .i64 0, .int .i64 0, .int .i64 0, .int .i64 0, .int .i64 0, .int .i64 0, .int .i64 0, .int .i64 0, .int .i64 0, .int .i64 0, .int .i64 0, .int .i64 0, .slice none 0 0] 30 (0, 0))) := Lib.hid ((HB7.out.block _ (by have := HLO.out; omega)).trans HG4.out)
    have HB27 : Hid (Below w2.heap.size w2 W7) := Lib.hid (HB24.out.trans (HB7.out.mono HB24.out.size))
    have HRX : Hid (∀ W, Below W7.heap.size W7 W → W.rangeAt g 0 SC) := Lib.hid (fun W hb => range_of_row ((hb.block _ HSG.out).trans HX7.out))
    have HCX0 : Hid (∀ W, Below W7.heap.size W7 W → W.cell? ⟨b, o, none⟩ = some (.string (str x0))) := Lib.hid (fun W hb => HC00.out W (HB27.out.trans (hb.mono HB27.out.size)))
    have HZW : Hid (∀ W, Below W7.heap.size W7 W → W.heap[w.heap.size]? = some (.cells #[.int .i64 0, .int .i64 0, .int .i64 0, .int .i64 0, .int .i64 0, .int .i64 0, .int .i64 0, .int .i64 0, .int .i64 0, .int .i64 0, .int .i64 0, .int .i64 0, .int .i64 0, .int .i64 0, .int .i64 0, .slice none 0 0] 30 (0, 0)) ∧ Below w.heap.size w W) := Lib.hid (fun W hb => ⟨(hb.block _ (by have := HSG.out; have := HS5.out; have := HLO.out; omega)).trans HG7.out, HBH.out _ (HB27.out.trans (hb.mono HB27.out.size))⟩)
    clear hc0 HG3 HWS3 HTS HSZ HNL
    go_wp2_with fail
    cases hgd : (fitB [n0, n1] && smallB cc)
    case' false =>
      have HE : Hid (rreadLs ls = (none, 0, 300)) := Lib.hid (by rw [HRL2.out, HRH.out, if_neg (fun q => by rw [hgd] at q; cases q.1)])
      rw [hgd] at HGD
      clear hgd HHD
      refine wp_region_held_drew (S := Below W7.heap.size W7) (by kernel_rfl) (below_drew (Below.refl _ _)) (fun hSx => ?_)
      refine wpAnyH_take (i := 0) (oi := ⟨some 61, _, _, _, _, none⟩) (v := .agg SC.toArray) rfl (by kernel_rfl) (by kernel_rfl) (by kernel_rfl) (fun _ _ _ h => h) (yieldsIf_load_mid (by kernel_rfl) 30 (.tmp 8) rfl g 0 rfl SC _ (fun W hW => HRX.out W hW) Tryd.underlying30 rfl HSCI.out) hSx ?_
      try simp only [Act.put, List.setIfInBounds_toArray]
      refine wpAnyH_ready (rs := [1]) (by kernel_rfl) (by simp) ?_
      refine AllReadyH.cons (o := ⟨some 62, _, _, _, _, none⟩) rfl (fun KK hKK => ?_) AllReadyH.nil
      go_simp
      refine (HGD.out _).mono ?_
      rintro e wz ⟨rfl, hbz⟩
      refine hKK.out _ _ (Below.trans hSx (hbz.mono (Below.size hSx))) (fun hSy => ?_)
      clear hKK hSx
      have hSx := hSy
      clear hSy KK
      try simp only [Act.put, List.setIfInBounds_toArray, List.set_cons_zero, List.set_cons_succ]
      refine wpAnyH_take (i := 2) (oi := ⟨some 63, _, _, _, _, none⟩) (v := .bool true) rfl (by kernel_rfl) (by kernel_rfl) (by kernel_rfl) (fun _ _ _ h => h) (Or.inl ⟨by kernel_rfl, ?_⟩) hSx ?_
      · intro wx hSx2; clear hSx; go_simp
      try simp only [Act.put, List.setIfInBounds_toArray]
      refine wpAnyH_take (i := 3) (oi := ⟨some 64, _, _, _, _, none⟩) (v := .bool true) rfl (by kernel_rfl) (by kernel_rfl) (by kernel_rfl) (fun _ _ _ h => h) (Or.inl ⟨by kernel_rfl, ?_⟩) hSx ?_
      · intro wx hSx2; clear hSx; go_simp
      try simp only [Act.put, List.setIfInBounds_toArray]
      refine wpAnyH_take (i := 4) (oi := ⟨some 65, _, _, _, _, some (3, false)⟩) (v := undef) rfl (by kernel_rfl) (by kernel_rfl) (by kernel_rfl) (fun _ _ _ h => h) (Or.inr ⟨by kernel_rfl, rfl⟩) hSx ?_
      try simp only [Act.put, List.setIfInBounds_toArray]
      refine wpAnyH_take (i := 5) (oi := ⟨some 66, _, _, _, _, some (3, false)⟩) (v := undef) rfl (by kernel_rfl) (by kernel_rfl) (by kernel_rfl) (fun _ _ _ h => h) (Or.inr ⟨by kernel_rfl, rfl⟩) hSx ?_
      try simp only [Act.put, List.setIfInBounds_toArray]
      refine wpAnyH_take (i := 6) (oi := ⟨some 67, _, _, _, _, some (3, false)⟩) (v := undef) rfl (by kernel_rfl) (by kernel_rfl) (by kernel_rfl) (fun _ _ _ h => h) (Or.inr ⟨by kernel_rfl, rfl⟩) hSx ?_
      try simp only [Act.put, List.setIfInBounds_toArray]
      refine wpAnyH_take (i := 7) (oi := ⟨some 68, _, _, _, _, some (3, false)⟩) (v := undef) rfl (by kernel_rfl) (by kernel_rfl) (by kernel_rfl) (fun _ _ _ h => h) (Or.inr ⟨by kernel_rfl, rfl⟩) hSx ?_
      try simp only [Act.put, List.setIfInBounds_toArray]
      refine wpAnyH_take (i := 8) (oi := ⟨some 69, _, _, _, _, some (3, false)⟩) (v := undef) rfl (by kernel_rfl) (by kernel_rfl) (by kernel_rfl) (fun _ _ _ h => h) (Or.inr ⟨by kernel_rfl, rfl⟩) hSx ?_
      try simp only [Act.put, List.setIfInBounds_toArray]
      refine wpAnyH_take (i := 9) (oi := ⟨some 70, _, _, _, _, some (3, false)⟩) (v := undef) rfl (by kernel_rfl) (by kernel_rfl) (by kernel_rfl) (fun _ _ _ h => h) (Or.inr ⟨by kernel_rfl, rfl⟩) hSx ?_
      try simp only [Act.put, List.setIfInBounds_toArray]
      refine wpAnyH_take (i := 10) (oi := ⟨some 71, _, _, _, _, none⟩) (v := .bool true) rfl (by kernel_rfl) (by kernel_rfl) (by kernel_rfl) (fun _ _ _ h => h) (Or.inl ⟨by kernel_rfl, ?_⟩) hSx ?_
      · intro wx hSx2; clear hSx; go_simp
      try simp only [Act.put, List.setIfInBounds_toArray]
      refine wpAnyH_done (by kernel_rfl) ?_ _
      try simp only [List.set_cons_zero, List.set_cons_succ]
      have HS9 := Lib.hid hSx
      clear hSx
      obtain ⟨hg9, hb9⟩ := HZW.out _ HS9.out
      have HG9 := Lib.hid hg9
      have HB9 := Lib.hid hb9
      clear hg9 hb9
      go_wp2_with (first
        | ((with_reducible refine wpList_store_row (o := ⟨none, _, _, _, _, _⟩) rfl 30 (.tmp 2) (.tmp 72) rfl w.heap.size (scL 0 0 c0 (.slice none 0 0)).toArray ?_ ?_ 30 _ HG9.out HIZ.out rfl HOZ.out ?_); rfl; rfl))
      rw [HRP.out, HE.out]
      exact bodyPost_ret (results_row3 rfl _ _ w.heap.size 30 (scL 0 0 c0 (.slice none 0 0)).toArray (0, 0) _ rfl (setRow_heap _ _ _ _ _ _ HG9.out) Tryd.underlying30 rfl HIZ.out) rfl ⟨giveSc_none rfl, below_setRow HB9.out (Nat.le_refl _) _⟩
    rw [hgd] at HGD
    have HHX := Lib.hid (HHD.out hgd)
    by_cases hhl : headL n0 n1 cc = x0
    case neg =>
      have HE : Hid (rreadLs ls = (none, 0, 300)) := Lib.hid (by rw [HRL2.out, HRH.out, if_neg (fun q => hhl q.2)])
      have hne : ((str (headL n0 n1 cc)).toList == (str x0).toList) = false := by rw [str_beq]; simpa using hhl
      have hne2 : ((str (headL n0 n1 cc)).toList != (str x0).toList) = true := by rw [bne, hne]; rfl
      clear hgd HHD hhl
      generalize headL n0 n1 cc = hx at *
      refine wp_region_held_drew (S := Below W7.heap.size W7) (by kernel_rfl) (below_drew (Below.refl _ _)) (fun hSx => ?_)
      refine wpAnyH_take (i := 0) (oi := ⟨some 61, _, _, _, _, none⟩) (v := .agg SC.toArray) rfl (by kernel_rfl) (by kernel_rfl) (by kernel_rfl) (fun _ _ _ h => h) (yieldsIf_load_mid (by kernel_rfl) 30 (.tmp 8) rfl g 0 rfl SC _ (fun W hW => HRX.out W hW) Tryd.underlying30 rfl HSCI.out) hSx ?_
      try simp only [Act.put, List.setIfInBounds_toArray]
      refine wpAnyH_ready (rs := [1]) (by kernel_rfl) (by simp) ?_
      refine AllReadyH.cons (o := ⟨some 62, _, _, _, _, none⟩) rfl (fun KK hKK => ?_) AllReadyH.nil
      go_simp
      refine (HGD.out _).mono ?_
      rintro e wz ⟨rfl, hbz⟩
      refine hKK.out _ _ (Below.trans hSx (hbz.mono (Below.size hSx))) (fun hSy => ?_)
      clear hKK hSx
      have hSx := hSy
      clear hSy KK
      try simp only [Act.put, List.setIfInBounds_toArray, List.set_cons_zero, List.set_cons_succ]
      refine wpAnyH_take (i := 2) (oi := ⟨some 63, _, _, _, _, none⟩) (v := .bool false) rfl (by kernel_rfl) (by kernel_rfl) (by kernel_rfl) (fun _ _ _ h => h) (Or.inl ⟨by kernel_rfl, ?_⟩) hSx ?_
      · intro wx hSx2; clear hSx; go_simp
      try simp only [Act.put, List.setIfInBounds_toArray]
      refine wpAnyH_take (i := 3) (oi := ⟨some 64, _, _, _, _, none⟩) (v := .bool false) rfl (by kernel_rfl) (by kernel_rfl) (by kernel_rfl) (fun _ _ _ h => h) (Or.inl ⟨by kernel_rfl, ?_⟩) hSx ?_
      · intro wx hSx2; clear hSx; go_simp
      try simp only [Act.put, List.setIfInBounds_toArray]
      refine wpAnyH_take (i := 4) (oi := ⟨some 65, _, _, _, _, some (3, false)⟩) (v := .agg SC.toArray) rfl (by kernel_rfl) (by kernel_rfl) (by kernel_rfl) (fun _ _ _ h => h) (yieldsIf_load_mid (by kernel_rfl) 30 (.tmp 8) rfl g 0 rfl SC _ (fun W hW => HRX.out W hW) Tryd.underlying30 rfl HSCI.out) hSx ?_
      try simp only [Act.put, List.setIfInBounds_toArray]
      refine wpAnyH_take (i := 6) (oi := ⟨some 67, _, _, _, _, some (3, false)⟩) (v := .slice (some ⟨b, o, none⟩) (n + 1) cp) rfl (by kernel_rfl) (by kernel_rfl) (by kernel_rfl) (fun _ _ _ h => h) (Or.inl ⟨by kernel_rfl, ?_⟩) hSx ?_
      · intro wx hSx2; clear hSx; go_simp
      try simp only [Act.put, List.setIfInBounds_toArray]
      refine wpAnyH_take (i := 7) (oi := ⟨some 68, _, _, _, _, some (3, false)⟩) (v := .pointer (some ⟨b, o, none⟩)) rfl (by kernel_rfl) (by kernel_rfl) (by kernel_rfl) (fun _ _ _ h => h) (Or.inl ⟨by kernel_rfl, ?_⟩) hSx ?_
      · intro wx hSx2; clear hSx; go_simp
      try simp only [Act.put, List.setIfInBounds_toArray]
      refine wpAnyH_take (i := 8) (oi := ⟨some 69, _, _, _, _, some (3, false)⟩) (v := .string (str x0)) rfl (by kernel_rfl) (by kernel_rfl) (by kernel_rfl) (fun _ _ _ h => h) (Or.inl ⟨by kernel_rfl, ?_⟩) hSx ?_
      · intro wx hSx2; clear hSx; have hf0 := HCX0.out wx hSx2; go_simp
      try simp only [Act.put, List.setIfInBounds_toArray]
      refine wpAnyH_ready (rs := [5]) (by kernel_rfl) (by simp) ?_
      refine AllReadyH.cons (o := ⟨some 66, _, _, _, _, some (3, false)⟩) rfl (fun KK hKK => ?_) AllReadyH.nil
      go_simp
      refine (HHX.out _).mono ?_
      rintro e wz ⟨rfl, hbz⟩
      refine hKK.out _ _ (Below.trans hSx (hbz.mono (Below.size hSx))) (fun hSy => ?_)
      clear hKK hSx
      have hSx := hSy
      clear hSy KK
      try simp only [Act.put, List.setIfInBounds_toArray, List.set_cons_zero, List.set_cons_succ]
      refine wpAnyH_take (i := 9) (oi := ⟨some 70, _, _, _, _, some (3, false)⟩) (v := .bool true) rfl (by kernel_rfl) (by kernel_rfl) (by kernel_rfl) (fun _ _ _ h => h) (Or.inl ⟨by kernel_rfl, ?_⟩) hSx ?_
      · intro wx hSx2; clear hSx; go_simp
      try simp only [Act.put, List.setIfInBounds_toArray]
      refine wpAnyH_take (i := 10) (oi := ⟨some 71, _, _, _, _, none⟩) (v := .bool true) rfl (by kernel_rfl) (by kernel_rfl) (by kernel_rfl) (fun _ _ _ h => h) (Or.inl ⟨by kernel_rfl, ?_⟩) hSx ?_
      · intro wx hSx2; clear hSx; go_simp
      try simp only [Act.put, List.setIfInBounds_toArray]
      refine wpAnyH_done (by kernel_rfl) ?_ _
      try simp only [List.set_cons_zero, List.set_cons_succ]
      have HS9 := Lib.hid hSx
      clear hSx
      obtain ⟨hg9, hb9⟩ := HZW.out _ HS9.out
      have HG9 := Lib.hid hg9
      have HB9 := Lib.hid hb9
      clear hg9 hb9
      go_wp2_with (first
        | ((with_reducible refine wpList_store_row (o := ⟨none, _, _, _, _, _⟩) rfl 30 (.tmp 2) (.tmp 72) rfl w.heap.size (scL 0 0 c0 (.slice none 0 0)).toArray ?_ ?_ 30 _ HG9.out HIZ.out rfl HOZ.out ?_); rfl; rfl))
      rw [HRP.out, HE.out]
      exact bodyPost_ret (results_row3 rfl _ _ w.heap.size 30 (scL 0 0 c0 (.slice none 0 0)).toArray (0, 0) _ rfl (setRow_heap _ _ _ _ _ _ HG9.out) Tryd.underlying30 rfl HIZ.out) rfl ⟨giveSc_none rfl, below_setRow HB9.out (Nat.le_refl _) _⟩
    have HOK : Hid (rreadLs ls = match readGo ls.tail [] 0 with
      | (some st, _, _) => (some (n0, n1, cc, st), ls.length, 0)
      | (none, n, e) => (none, n, e)) := Lib.hid (by rw [HRL2.out, HRH.out, if_pos ⟨hgd, hhl⟩])
    have hne : ((str (headL n0 n1 cc)).toList == (str x0).toList) = true := by rw [str_beq]; simpa using hhl
    have hne2 : ((str (headL n0 n1 cc)).toList != (str x0).toList) = false := by rw [bne, hne]; rfl
    clear hgd HHD hhl
    generalize headL n0 n1 cc = hx at *
    refine wp_region_held_drew (S := Below W7.heap.size W7) (by kernel_rfl) (below_drew (Below.refl _ _)) (fun hSx => ?_)
    refine wpAnyH_take (i := 0) (oi := ⟨some 61, _, _, _, _, none⟩) (v := .agg SC.toArray) rfl (by kernel_rfl) (by kernel_rfl) (by kernel_rfl) (fun _ _ _ h => h) (yieldsIf_load_mid (by kernel_rfl) 30 (.tmp 8) rfl g 0 rfl SC _ (fun W hW => HRX.out W hW) Tryd.underlying30 rfl HSCI.out) hSx ?_
    try simp only [Act.put, List.setIfInBounds_toArray]
    refine wpAnyH_ready (rs := [1]) (by kernel_rfl) (by simp) ?_
    refine AllReadyH.cons (o := ⟨some 62, _, _, _, _, none⟩) rfl (fun KK hKK => ?_) AllReadyH.nil
    go_simp
    refine (HGD.out _).mono ?_
    rintro e wz ⟨rfl, hbz⟩
    refine hKK.out _ _ (Below.trans hSx (hbz.mono (Below.size hSx))) (fun hSy => ?_)
    clear hKK hSx
    have hSx := hSy
    clear hSy KK
    try simp only [Act.put, List.setIfInBounds_toArray, List.set_cons_zero, List.set_cons_succ]
    refine wpAnyH_take (i := 2) (oi := ⟨some 63, _, _, _, _, none⟩) (v := .bool false) rfl (by kernel_rfl) (by kernel_rfl) (by kernel_rfl) (fun _ _ _ h => h) (Or.inl ⟨by kernel_rfl, ?_⟩) hSx ?_
    · intro wx hSx2; clear hSx; go_simp
    try simp only [Act.put, List.setIfInBounds_toArray]
    refine wpAnyH_take (i := 3) (oi := ⟨some 64, _, _, _, _, none⟩) (v := .bool false) rfl (by kernel_rfl) (by kernel_rfl) (by kernel_rfl) (fun _ _ _ h => h) (Or.inl ⟨by kernel_rfl, ?_⟩) hSx ?_
    · intro wx hSx2; clear hSx; go_simp
    try simp only [Act.put, List.setIfInBounds_toArray]
    refine wpAnyH_take (i := 4) (oi := ⟨some 65, _, _, _, _, some (3, false)⟩) (v := .agg SC.toArray) rfl (by kernel_rfl) (by kernel_rfl) (by kernel_rfl) (fun _ _ _ h => h) (yieldsIf_load_mid (by kernel_rfl) 30 (.tmp 8) rfl g 0 rfl SC _ (fun W hW => HRX.out W hW) Tryd.underlying30 rfl HSCI.out) hSx ?_
    try simp only [Act.put, List.setIfInBounds_toArray]
    refine wpAnyH_take (i := 6) (oi := ⟨some 67, _, _, _, _, some (3, false)⟩) (v := .slice (some ⟨b, o, none⟩) (n + 1) cp) rfl (by kernel_rfl) (by kernel_rfl) (by kernel_rfl) (fun _ _ _ h => h) (Or.inl ⟨by kernel_rfl, ?_⟩) hSx ?_
    · intro wx hSx2; clear hSx; go_simp
    try simp only [Act.put, List.setIfInBounds_toArray]
    refine wpAnyH_take (i := 7) (oi := ⟨some 68, _, _, _, _, some (3, false)⟩) (v := .pointer (some ⟨b, o, none⟩)) rfl (by kernel_rfl) (by kernel_rfl) (by kernel_rfl) (fun _ _ _ h => h) (Or.inl ⟨by kernel_rfl, ?_⟩) hSx ?_
    · intro wx hSx2; clear hSx; go_simp
    try simp only [Act.put, List.setIfInBounds_toArray]
    refine wpAnyH_take (i := 8) (oi := ⟨some 69, _, _, _, _, some (3, false)⟩) (v := .string (str x0)) rfl (by kernel_rfl) (by kernel_rfl) (by kernel_rfl) (fun _ _ _ h => h) (Or.inl ⟨by kernel_rfl, ?_⟩) hSx ?_
    · intro wx hSx2; clear hSx; have hf0 := HCX0.out wx hSx2; go_simp
    try simp only [Act.put, List.setIfInBounds_toArray]
    refine wpAnyH_ready (rs := [5]) (by kernel_rfl) (by simp) ?_
    refine AllReadyH.cons (o := ⟨some 66, _, _, _, _, some (3, false)⟩) rfl (fun KK hKK => ?_) AllReadyH.nil
    go_simp
    refine (HHX.out _).mono ?_
    rintro e wz ⟨rfl, hbz⟩
    refine hKK.out _ _ (Below.trans hSx (hbz.mono (Below.size hSx))) (fun hSy => ?_)
    clear hKK hSx
    have hSx := hSy
    clear hSy KK
    try simp only [Act.put, List.setIfInBounds_toArray, List.set_cons_zero, List.set_cons_succ]
    refine wpAnyH_take (i := 9) (oi := ⟨some 70, _, _, _, _, some (3, false)⟩) (v := .bool false) rfl (by kernel_rfl) (by kernel_rfl) (by kernel_rfl) (fun _ _ _ h => h) (Or.inl ⟨by kernel_rfl, ?_⟩) hSx ?_
    · intro wx hSx2; clear hSx; go_simp
    try simp only [Act.put, List.setIfInBounds_toArray]
    refine wpAnyH_take (i := 10) (oi := ⟨some 71, _, _, _, _, none⟩) (v := .bool false) rfl (by kernel_rfl) (by kernel_rfl) (by kernel_rfl) (fun _ _ _ h => h) (Or.inl ⟨by kernel_rfl, ?_⟩) hSx ?_
    · intro wx hSx2; clear hSx; go_simp
    try simp only [Act.put, List.setIfInBounds_toArray]
    refine wpAnyH_done (by kernel_rfl) ?_ _
    try simp only [List.set_cons_zero, List.set_cons_succ]
    have HS9 := Lib.hid hSx
    clear hSx hne hne2 HHX HGD
    obtain ⟨i44, hi44, hz44, hs44, hy44⟩ := info_parts info44
    have I44 := Lib.hid hi44
    have Z44 := Lib.hid hz44
    have S44 := Lib.hid hs44
    have Y44 := Lib.hid hy44
    clear hi44 hz44 hs44 hy44
    obtain ⟨VX, hVX, hVX2⟩ := HSCH.out _ _ HX7.out
    have HINV0 : Hid (∃ V ps, wz.heap[g]? = some (.cells (scL n0 n1 cc V).toArray 30 (0, 0)) ∧ Sows wz W7.heap.size V ps ∧ Below w4.heap.size w4 wz ∧ W7.heap.size ≤ wz.heap.size ∧ ps.length + 1 = 1 ∧ readGo (ls.drop 1) (ps.map (·.1)) (1 - 1) = readGo ls.tail [] 0) := Lib.hid
      ⟨VX, [], (HS9.out.block _ HSG.out).trans hVX, by rw [hVX2]; exact Sows.nil _ _, HB7.out.trans (HS9.out.mono HB7.out.size), HS9.out.size, rfl, by rw [List.drop_one]; rfl⟩
    have HG74 : Hid (w4.heap.size ≤ g ∧ g < W7.heap.size) := Lib.hid ⟨HS5.out, HSG.out⟩
    have HZ4 : Hid (∀ W, Below w4.heap.size w4 W → W.heap[w.heap.size]? = some (.cells #[.int .i64 0, .int .i64 0, .int .i64 0, .int .i64 0, .int .i64 0, .int .i64 0, .int .i64 0, .int .i64 0, .int .i64 0, .int .i64 0, .int .i64 0, .int .i64 0, .int .i64 0, .int .i64 0, .int .i64 0, .slice none 0 0] 30 (0, 0)) ∧ Below w.heap.size w W) := Lib.hid (fun W hb => ⟨(hb.block _ (by have := HLO.out; omega)).trans HG4.out, HBH.out _ (HB24.out.trans (hb.mono HB24.out.size))⟩)
    clear hVX hVX2 HS9 HRX HCX0 HZW HSCI HSCI2 HSCO HSCZ
    go_wp2_with fail
    go_loopg [9] (n + 1) (fun gk i wr => ∃ (q : Nat) (V : Value) (ps : List (St × Value)), q + 1 ≤ (n + 1) ∧ gk = (n + 1) - q ∧ i = .int .i64 ((q + 1 : Nat) : Int) ∧ wr.heap[g]? = some (.cells (scL n0 n1 cc V).toArray 30 (0, 0)) ∧ Sows wr W7.heap.size V ps ∧ Below w4.heap.size w4 wr ∧ W7.heap.size ≤ wr.heap.size ∧ ps.length + 1 = q + 1 ∧ readGo (ls.drop (q + 1)) (ps.map (·.1)) q = readGo ls.tail [] 0)
    case atStart =>
      obtain ⟨V, ps, h1, h2, h3, h4, h5, h6⟩ := HINV0.out
      exact ⟨0, V, ps, by omega, rfl, rfl, h1, h2, h3, h4, h5, h6⟩
    case round =>
      obtain ⟨q, V, ps, hq, hgk, rfl, h6, hso, hbw, hsw, hpl, hrg⟩ := hrel
      have HK := Lib.hid hgk
      have H6 := Lib.hid h6
      have HSO := Lib.hid hso
      have HBWR := Lib.hid hbw
      have HSW := Lib.hid hsw
      have HPL : Hid (ps.length = q) := Lib.hid (by omega)
      have HRG := Lib.hid hrg
      have HQB : Hid (q ≤ 1000001) := Lib.hid (by have := HCM.out; omega)
      obtain ⟨AV, cV, hV⟩ := own_slice hso.own
      rw [HPL.out] at hV
      have hqB : (q : Int) ≤ 1000001 := by have := HQB.out; omega
      have hq0 : (0 : Int) ≤ (q : Int) := by omega
      have hsz6 : g < wr.heap.size := (Array.getElem?_eq_some_iff.1 h6).1
      have HSZ6 := Lib.hid hsz6
      obtain ⟨hgr, hbr⟩ := HZ4.out _ hbw
      have HGR := Lib.hid hgr
      have HBR := Lib.hid hbr
      clear hgk h6 hso hsw hpl hrg HINV0 hsz6 hbw hgr hbr
      by_cases hlt : q + 1 < (n + 1)
      · have HCX : Hid (wr.cell? ⟨b, o + (q + 1), none⟩ = some (.string (str (ls.getD (q + 1) [])))) := Lib.hid (by
          obtain ⟨b1, o1, c1, e, _, _, hc1⟩ := HWS.out.2 (by intro e; have := HML.out; rw [e] at this; simp only [List.length_nil] at this; omega)
          injection e with e1
          injection e1 with e1
          injection e1 with e2 e3
          subst e2 e3
          rw [HBWR.out.cell (p := ⟨b, o + (q + 1), none⟩) HLO.out.2, HB24.out.cell (p := ⟨b, o + (q + 1), none⟩) HSZ2.out.2]
          exact hc1 (q + 1) (by rw [HML.out]; exact hlt))
        have HDX : Hid (ls.drop (q + 1) = ls.getD (q + 1) [] :: ls.drop (q + 1 + 1)) := Lib.hid (by
          rw [List.drop_eq_getElem_cons (by rw [HML.out]; exact hlt)]
          simp [List.getD, show q + 1 < ls.length by rw [HML.out]; exact hlt])
        have HXL : Hid ((ls.getD (q + 1) []).length ≤ 1000000) := Lib.hid (HXS.out _ (by simp [List.getD, show q + 1 < ls.length by rw [HML.out]; exact hlt]))
        have hcx := HCX.out
        generalize ls.getD (q + 1) [] = x at *
        have hxz : (str x).size = x.length := str_size x
        have hq1 : (q : Int) + 1 < ((n : Int) + 1) := by omega
        have hqc : (q : Int) + 1 < (cp : Int) := by have := HCM.out; omega
        clear HCX
        have HRGX : Hid (readGo ls.tail [] 0 = if parseE x = 0 then readGo (ls.drop (q + 1 + 1)) (ps.map (·.1) ++ [parseS x]) (q + 1) else (none, q + 1, parseE x)) := Lib.hid (by rw [← HRG.out, HDX.out, readGo])
        by_cases hxb : 65536 < x.length
        case pos =>
          have hE : parseE x = 2 := if_pos hxb
          have HRN : Hid (rreadLs ls = (none, q + 1, 2)) := Lib.hid (by rw [HOK.out, HRGX.out, if_neg (by rw [hE]; decide), hE])
          have hd5 : decide ((65536 : Int) < (x.length : Int)) = true := by simp; omega
          clear hxb hE
          go_wp2_with (first
            | ((with_reducible refine wpList_store_row (o := ⟨none, _, _, _, _, _⟩) rfl 30 (.tmp 2) (.tmp 85) rfl w.heap.size (scL 0 0 c0 (.slice none 0 0)).toArray ?_ ?_ 30 _ HGR.out HIZ.out rfl HOZ.out ?_); rfl; rfl))
          rw [HRP.out, HRN.out]
          exact bodyPost_ret (results_row3 rfl _ _ w.heap.size 30 (scL 0 0 c0 (.slice none 0 0)).toArray (0, 0) _ rfl (setRow_heap _ _ _ _ _ _ HGR.out) Tryd.underlying30 rfl HIZ.out) rfl ⟨giveSc_none (by omega), below_setRow HBR.out (Nat.le_refl _) _⟩
        have hd5 : decide ((65536 : Int) < (x.length : Int)) = false := by simp; omega
        have HPX := Lib.hid (rparse8 x (by omega) wr)
        rw [parse_both] at HPX
        have hE : parseE x = match parseP x with | none => 300 | some _ => 0 := if_neg hxb
        have hS : parseS x = (parseP x).getD zSt := if_neg hxb
        rw [hE, hS] at HRGX
        clear hxb hE hS
        cases hp : parseP x with
        | none =>
          rw [hp] at HPX HRGX
          have HRN : Hid (rreadLs ls = (none, q + 1, 300)) := Lib.hid (by rw [HOK.out, HRGX.out]; rfl)
          clear hp HRGX
          have HPY : Hid (Calls Tryd.prog 24 #[.string (str x)] wr fun e w' => GiveSt wr.heap.size zSt e w' (.bool false) ∧ Below wr.heap.size wr w') := Lib.hid HPX.out
          clear HPX
          go_wp2_with fail
          refine Calls.mono HPY.out ?_
          rintro e w5 ⟨⟨A5, c5, hk5, hfr5, hf5, rfl⟩, hb5⟩
          obtain ⟨L, hL⟩ : ∃ L, zSt.L (.slice A5 zSt.kp.length c5) = L := ⟨_, rfl⟩
          have HIL2 : Hid ((Tryd.prog.info? 44).map (·.size) = some L.toArray.size) := Lib.hid (by rw [← hL]; exact info30)
          have HZL : Hid ((#[.int .i64 0, .int .i64 0, .string ⟨#[]⟩, .string ⟨#[]⟩, .int .i64 0, .slice none 0 0, .int .i64 0, .int .i64 0, .int .i64 0, .int .i64 0, .int .i64 0, .int .i64 0, .int .i64 0, .int .i64 0, .int .i64 0, .int .i64 0, .int .i64 0, .int .i64 0, .int .i64 0] : Array Value).size = L.toArray.size) := Lib.hid (by rw [← hL]; rfl)
          have HOL : Hid (L.toArray.all (·.oneCell') = true) := Lib.hid (by rw [← hL]; exact stL_one _ _ _ _ _ _ _ _ _)
          rw [hL]
          have HB6 : Hid (Below wr.heap.size wr (w5.alloc (.cells L.toArray 44))) := Lib.hid (hb5.alloc hb5.size _)
          obtain ⟨hg6, hbw6⟩ := HZ4.out _ (HBWR.out.trans (HB6.out.mono HBWR.out.size))
          have HG6 := Lib.hid hg6
          have HBW6 := Lib.hid hbw6
          clear hk5 hf5 hfr5 hb5 hL hg6 hbw6
          go_wp2_with (first
            | ((with_reducible refine wpList_store_new (op := ⟨none, _, _, _, _, _⟩) rfl 44 (.tmp 10) (.tmp 93) rfl w5.heap.size _ L.toArray rfl ?_ ?_ HIL2.out HZL.out HOL.out ?_); rfl; rfl)
            | ((with_reducible refine wpList_store_row (o := ⟨none, _, _, _, _, _⟩) rfl 30 (.tmp 2) (.tmp 97) rfl w.heap.size (scL 0 0 c0 (.slice none 0 0)).toArray ?_ ?_ 30 _ HG6.out HIZ.out rfl HOZ.out ?_); rfl; rfl))
          rw [HRP.out, HRN.out]
          exact bodyPost_ret (results_row3 rfl _ _ w.heap.size 30 (scL 0 0 c0 (.slice none 0 0)).toArray (0, 0) _ rfl (setRow_heap _ _ _ _ _ _ HG6.out) Tryd.underlying30 rfl HIZ.out) rfl ⟨giveSc_none (by omega), below_setRow HBW6.out (Nat.le_refl _) _⟩
        | some s =>
          rw [hp] at HPX HRGX
          have HRS : Hid (readGo ls.tail [] 0 = readGo (ls.drop (q + 1 + 1)) (ps.map (·.1) ++ [s]) (q + 1)) := Lib.hid (by rw [HRGX.out]; rfl)
          clear hp HRGX
          have HPY : Hid (Calls Tryd.prog 24 #[.string (str x)] wr fun e w' => GiveSt wr.heap.size s e w' (.bool true) ∧ Below wr.heap.size wr w') := Lib.hid HPX.out
          clear HPX
          go_wp2_with fail
          refine Calls.mono HPY.out ?_
          rintro e w5 ⟨⟨A5, c5, hk5, hfr5, hf5, rfl⟩, hb5⟩
          have HK5 := Lib.hid hk5
          have HF5 := Lib.hid hf5
          have HFR := Lib.hid hfr5
          obtain ⟨L, hL⟩ : ∃ L, s.L (.slice A5 s.kp.length c5) = L := ⟨_, rfl⟩
          have HLE := Lib.hid hL
          have HIL : Hid ((Tryd.prog.info? 44).map (·.size) = some L.length) := Lib.hid (by rw [← hL]; exact info30)
          have HIL2 : Hid ((Tryd.prog.info? 44).map (·.size) = some L.toArray.size) := Lib.hid (by rw [← hL]; exact info30)
          have HZL : Hid ((#[.int .i64 0, .int .i64 0, .string ⟨#[]⟩, .string ⟨#[]⟩, .int .i64 0, .slice none 0 0, .int .i64 0, .int .i64 0, .int .i64 0, .int .i64 0, .int .i64 0, .int .i64 0, .int .i64 0, .int .i64 0, .int .i64 0, .int .i64 0, .int .i64 0, .int .i64 0, .int .i64 0] : Array Value).size = L.toArray.size) := Lib.hid (by rw [← hL]; rfl)
          have HOL : Hid (L.toArray.all (·.oneCell') = true) := Lib.hid (by rw [← hL]; exact stL_one _ _ _ _ _ _ _ _ _)
          have HL19 : Hid (L.length = 19) := Lib.hid (by rw [← hL]; rfl)
          rw [hL]
          have HB6 : Hid (Below wr.heap.size wr (w5.alloc (.cells L.toArray 44))) := Lib.hid (hb5.alloc hb5.size _)
          clear hk5 hf5 hfr5 hb5 hL
          have HRL6 : Hid ((w5.alloc (.cells L.toArray 44)).rangeAt w5.heap.size 0 L) := Lib.hid (range_of_row (heap_alloc_new w5 _))
          subst hV
          have HH6 : Hid ((w5.alloc (.cells L.toArray 44)).heap[g]? = some (.cells (scL n0 n1 cc (.slice AV q cV)).toArray 30 (0, 0))) := Lib.hid ((HB6.out.block _ HSZ6.out).trans H6.out)
          have hc15 : (w5.alloc (.cells L.toArray 44)).cell? ⟨g, 15, none⟩ = some (.slice AV q cV) := cell_of_row _ _ 15 _ 30 _ HH6.out
          have HSO7 : Hid (Sows ((w5.alloc (.cells L.toArray 44)).alloc (.cells L.toArray 44)) W7.heap.size (.slice AV q cV) ps) := Lib.hid (HSO.out.below (HB6.out.alloc HB6.out.size _))
          have HO7 : Hid (((w5.alloc (.cells L.toArray 44)).alloc (.cells L.toArray 44)).ownsRow W7.heap.size 44 19 (.slice AV q cV) q (flatP ps)) := Lib.hid (by have := HSO7.out.own; rwa [HPL.out] at this)
          have HN7 : Hid (∀ j u, L[j]? = some u → ((w5.alloc (.cells L.toArray 44)).alloc (.cells L.toArray 44)).cell? ((⟨(w5.alloc (.cells L.toArray 44)).heap.size, 0, none⟩ : Addr).add j) = some u) := Lib.hid (fun j u hj => by
            have hh := heap_alloc_new (w5.alloc (.cells L.toArray 44)) (.cells L.toArray 44)
            have := range_of_row hh j u hj
            rw [Nat.zero_add] at this
            rw [Addr.add_mid, Nat.zero_add]
            exact this)
          have HOE : Hid (∀ u ∈ L, u.oneCell' = true) := Lib.hid (fun u hu => by have := HOL.out; rw [List.all_toArray, List.all_eq_true] at this; exact this u hu)
          have HSZ8 : Hid (W7.heap.size ≤ w5.heap.size + 1) := Lib.hid (by have := HSW.out; have := HB6.out.size; simp at this ⊢; omega)
          go_wp2_with (first
            | ((with_reducible refine wpList_store_new (op := ⟨none, _, _, _, _, _⟩) rfl 44 (.tmp 10) (.tmp 93) rfl w5.heap.size _ L.toArray rfl ?_ ?_ HIL2.out HZL.out HOL.out ?_); rfl; rfl)
            | ((with_reducible refine wpList_load_midg (op := ⟨some 101, _, _, _, _, _⟩) ?_ 44 (.tmp 10) rfl w5.heap.size 0 ?_ L _ HRL6.out Tryd.underlying44 rfl HIL.out ?_); kernel_rfl; rfl)
            | ((with_reducible refine wpList_build_one (op := ⟨some 102, _, _, _, _, _⟩) rfl 24 (.tmp 101) ?_ 44 19 _ L ?_ Tryd.underlying24 Tryd.sizeOf44 Tryd.zeroValue44 ?_ ?_ HL19.out ?_); rfl; rfl; decide; decide)
            | (at_builtin; refine wpList_append_own_at _ rfl (.tmp 100) (.tmp 102) _ rfl W7.heap.size 44 i44 _ 19 184 Tryd.underlying24 I44.out Z44.out S44.out Y44.out rfl (by decide) _ q (flatP ps) rfl HO7.out _ 1 1 L rfl HL19.out HN7.out HOE.out (by have := HQB.out; unfold maxLen; omega) (by have := HQB.out; omega) (by have := HSZ8.out; simp; omega) ?_))
          intro V2 w8 hown8 hg8 _ hat8
          obtain ⟨A8, c8, rfl⟩ := own_slice hown8
          have HOB : Hid (∀ j, (Value.slice AV q cV).ownBlock = some j → W7.heap.size ≤ j) := Lib.hid (fun j e => (HO7.out.lt j e).1)
          have HH8 : Hid (w8.heap[g]? = some (.cells (scL n0 n1 cc (.slice AV q cV)).toArray 30 (0, 0))) := Lib.hid ((hg8.block _ (by have := HG74.out; have := HSZ8.out; simp; omega) (fun e => by have := HOB.out _ e.symm; have := HG74.out; omega)).trans ((Below.heap_alloc _ _ _ (by have := HG74.out; have := HSZ8.out; simp; omega)).trans HH6.out))
          have hc8 : w8.cell? ⟨g, 15, none⟩ = some (.slice AV q cV) := cell_of_row _ _ 15 _ 30 _ HH8.out
          have hz8 : w8.frozen? ⟨g, 15, none⟩ = false := frozen_of_row w8 g 15 _ 30 HH8.out
          have HB8 : Hid (Below w4.heap.size w4 w8) := Lib.hid (((HBWR.out.trans (HB6.out.mono HBWR.out.size)).alloc (by have := HG74.out; have := HSZ8.out; simp; omega) _).grown hg8 (by have := HG74.out; have := HSZ8.out; simp; omega) (fun j e => by have := HOB.out _ e; have := HG74.out; omega))
          have HS8 : Hid (W7.heap.size ≤ w8.heap.size) := Lib.hid (by have := HSZ8.out; have := hg8.size; simp at this; omega)
          have HK7 : Hid (Kp ((w5.alloc (.cells L.toArray 44)).alloc (.cells L.toArray 44)) (.slice A5 s.kp.length c5) s.kp) := Lib.hid (HK5.out.below (((Below.refl _ _).alloc (Nat.le_refl _) _).alloc (by simp) _))
          have HSO8 : Hid (Sows w8 W7.heap.size (.slice A8 (q + 1) c8) (ps ++ [(s, .slice A5 s.kp.length c5)])) := Lib.hid (HSO7.out.push HK7.out HF5.out (fun _ a ha e => by
            have h1 := HFR.out a ha
            have h2 := (HSO.out.own.lt a.block e).2
            omega) (by rw [HPL.out, HLE.out]; exact hown8) hg8 (by simp only [World.size_alloc]; exact hat8))
          have HSO9 : Hid (Sows (w8.setCell ⟨g, 15, none⟩ (.slice A8 (q + 1) c8)) W7.heap.size (.slice A8 (q + 1) c8) (ps ++ [(s, .slice A5 s.kp.length c5)])) := Lib.hid (by
            rw [setCell_eq_setRow w8 g 15 _ 30 (0, 0) _ HH8.out]
            exact HSO8.out.setRow HG74.out.2 (scL_nb HH8.out))
          have HH9 : Hid ((w8.setCell ⟨g, 15, none⟩ (.slice A8 (q + 1) c8)).heap[g]? = some (.cells (scL n0 n1 cc (.slice A8 (q + 1) c8)).toArray 30 (0, 0))) := Lib.hid (by rw [Go.heap_setCell_same _ _ _ _ _ _ HH8.out, scL_set])
          clear hown8 hg8 hat8 hc15
          go_wp2_with fail
          go_roundg ((n + 1) - (q + 1))
          case measure => rw [HK.out]; omega
          case rel => exact ⟨q + 1, .slice A8 (q + 1) c8, ps ++ [(s, .slice A5 s.kp.length c5)], by omega, rfl, by go_num, HH9.out, HSO9.out, HB8.out.setCell HG74.out.1 _, by rw [World.size_setCell]; exact HS8.out, by rw [List.length_append, HPL.out]; rfl, by rw [HRS.out]; simp⟩
      · obtain rfl : n = q := by omega
        have HRF : Hid (rreadLs ls = (some (n0, n1, cc, ps.map (·.1)), ls.length, 0)) := Lib.hid (by
          rw [HOK.out, ← HRG.out, List.drop_of_length_le (by rw [HML.out]; omega)]
          rfl)
        have HIV : Hid ((Tryd.prog.info? 30).map (·.size) = some (scL n0 n1 cc V).length) := Lib.hid infoR
        have HIV2 : Hid ((Tryd.prog.info? 30).map (·.size) = some (scL n0 n1 cc V).toArray.size) := Lib.hid infoR
        have HSTS : Hid (∀ X, Sts (wr.setRow w.heap.size X) V (ps.map (·.1))) := Lib.hid (fun X => (HSO.out.setRow (by have := HG74.out; have := HLO.out; omega) (scL_nb (a := 0) (b := 0) (c := c0) (A := none) (n := 0) (k := 0) HGR.out)).sts)
        have HFS : Hid (∀ s ∈ ps.map (·.1), Fits s) := Lib.hid (fun s hs => by
          obtain ⟨p, hp, rfl⟩ := List.mem_map.1 hs
          obtain ⟨_, _, _, _, hf, _⟩ := HSO.out.el p hp
          exact hf)
        subst hV
        have HOV : Hid ((scL n0 n1 cc (.slice AV n cV)).toArray.all (·.oneCell') = true) := Lib.hid (scL_one _ _ _ _ _ _)
        have HZV : Hid ((#[.int .i64 0, .int .i64 0, .int .i64 0, .int .i64 0, .int .i64 0, .int .i64 0, .int .i64 0, .int .i64 0, .int .i64 0, .int .i64 0, .int .i64 0, .int .i64 0, .int .i64 0, .int .i64 0, .int .i64 0, .slice none 0 0] : Array Value).size = (scL n0 n1 cc (.slice AV n cV)).toArray.size) := Lib.hid rfl
        have HRV := Lib.hid (range_of_row H6.out)
        have HLSL : Hid ((ls.length : Int) = (n : Int) + 1) := Lib.hid (by rw [HML.out]; rfl)
        obtain ⟨SV, hSV⟩ : ∃ SV, scL n0 n1 cc (.slice AV n cV) = SV := ⟨_, rfl⟩
        have HSV := Lib.hid hSV
        rw [hSV] at HIV HIV2 HOV HZV HRV
        clear hSV
        go_wp2_with (first
          | ((with_reducible refine wpList_load_midg (op := ⟨some 105, _, _, _, _, _⟩) ?_ 30 (.tmp 8) rfl g 0 ?_ SV _ HRV.out Tryd.underlying30 rfl HIV.out ?_); kernel_rfl; rfl)
          | ((with_reducible refine wpList_store_row (o := ⟨none, _, _, _, _, _⟩) rfl 30 (.tmp 2) (.tmp 105) rfl w.heap.size SV.toArray ?_ ?_ 30 _ HGR.out HIV2.out HZV.out HOV.out ?_); rfl; rfl))
        refine bodyPost_ret (results_row3 rfl _ _ w.heap.size 30 SV.toArray (0, 0) _ rfl (setRow_heap _ _ _ _ _ _ HGR.out) Tryd.underlying30 rfl HIV2.out) rfl ⟨?_, below_setRow HBR.out (Nat.le_refl _) _⟩
        rw [HRP.out, HRF.out, ← HSV.out]
        exact giveSc_some HLSL.out.symm (HSTS.out _) HFS.out
theorem rread6 (l : List UInt8) (hl : l.length ≤ 1000000) (w : World) : Calls Tryd.prog 6 #[.string (str l)] w fun e w' => GiveSc (rreadP l) e w' ∧ Below w.heap.size w w' := by
  by_cases h : (splitL 10 l).getD ((splitL 10 l).length - 1) [] = []
  · exact rread6_e l hl w h
  · exact rread6_n l hl w h
end Go.Proofs.YtjakkmioofbcaaaDoor
